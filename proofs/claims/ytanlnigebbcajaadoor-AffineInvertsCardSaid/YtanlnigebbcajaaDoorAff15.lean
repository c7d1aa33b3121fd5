/- Contracts of the law's own within and small. -/
import Derived.Test.YtanlnigebbcajaaDoorAff14
import Derived.Deep.LoopGhost
namespace Go.Proofs.YtanlnigebbcajaaDoor
open Go.RowKit
/-- All numbers lie in -n .. n. -/
def allIn (n : Int) (xs : List Int) : Bool := xs.all fun x => decide (-n ≤ x ∧ x ≤ n)
theorem allIn_iff (n : Int) (xs : List Int) : allIn n xs = true ↔ ∀ i, i < xs.length → -n ≤ xs.getD i 0 ∧ xs.getD i 0 ≤ n := by
  unfold allIn
  rw [List.all_eq_true]
  constructor
  · intro h i hi
    have := h (xs.getD i 0) (by rw [List.getD_eq_getElem?_getD, List.getElem?_eq_getElem hi]; exact List.getElem_mem hi)
    simpa using this
  · intro h x hx
    obtain ⟨i, hi, rfl⟩ := List.getElem_of_mem hx
    have := h i hi
    rw [List.getD_eq_getElem?_getD, List.getElem?_eq_getElem hi] at this
    simpa using this
theorem allIn_no {n : Int} {xs : List Int} {i : Nat} (hi : i < xs.length) (h : ¬ (-n ≤ xs.getD i 0 ∧ xs.getD i 0 ≤ n)) : allIn n xs = false := by
  rw [Bool.eq_false_iff]
  intro e
  exact h ((allIn_iff n xs).1 e i hi)
def WiRel (n : Int) (xs : List Int) (w : World) (k : Nat) (u : Value) (wr : World) : Prop := ∃ j, j ≤ xs.length ∧ k = xs.length - j ∧ u = .int .i64 j ∧ w = wr ∧ ∀ i, i < j → -n ≤ xs.getD i 0 ∧ xs.getD i 0 ≤ n
set_option maxHeartbeats 4000000 in
theorem lwithin_any (n : Int) (v : Value) (xs : List Int) (w : World) (hn : 0 ≤ n) (hn' : n ≤ 4611686018427387904) (hx : xs.length ≤ 1000) (h : Ints w w.heap.size v xs) :
    Calls Tryd.prog 30 #[.int .i64 n, v] w fun e w' => e = .returned (.bool (allIn n xs)) ∧ w = w' := by
  obtain ⟨A, c, rfl, hl, hr⟩ := h
  have HR := Lib.hid hr; clear hr
  have E1 := Lib.hid (fun i hi h => allIn_no (n := n) (xs := xs) (i := i) hi h)
  have E2 := Lib.hid ((allIn_iff n xs).2)
  generalize allIn n xs = R at *
  go_enter Tryd.func30, Tryd.ntmps30
  go_wp2_with fail
  go_loopg [9] xs.length (WiRel n xs w)
  case atStart => exact ⟨0, Nat.zero_le _, rfl, rfl, rfl, fun i hi => absurd hi (by omega)⟩
  case round =>
    obtain ⟨j, hj, rfl, rfl, rfl, hall⟩ := hrel
    have HA := Lib.hid hall; clear hall
    by_cases hlt : j < xs.length
    · obtain ⟨b, o, rfl, hb, y⟩ := HR.out j hlt
      have F := Lib.hid (E1.out j hlt)
      have HN := Lib.hid (show ∀ (hx : -n ≤ xs.getD j 0 ∧ xs.getD j 0 ≤ n) i, i < j + 1 → -n ≤ xs.getD i 0 ∧ xs.getD i 0 ≤ n from fun hx i hi => by
        rcases Nat.lt_or_ge i j with q | q
        · exact HA.out i q
        · obtain rfl : i = j := by omega
          exact hx)
      generalize xs.getD j 0 = x at *
      have hk0 : (0 : Int) ≤ (j : Int) := by omega
      have hk1 : (j : Int) < (xs.length : Int) := by omega
      rcases (show x < -n ∨ (-n ≤ x ∧ n < x) ∨ (-n ≤ x ∧ x ≤ n) by omega) with q | ⟨q1, q⟩ | ⟨q1, q⟩
      · have e := F.out (by omega)
        subst e
        go_wp2_with fail
        go_ret
        exact ⟨rfl, rfl⟩
      · have e := F.out (by omega)
        subst e
        go_wp2_with fail
        go_ret
        exact ⟨rfl, rfl⟩
      · have HQ := Lib.hid (HN.out ⟨q1, q⟩)
        go_wp2_with fail
        go_roundg (xs.length - (j + 1))
        case measure => omega
        case rel => exact ⟨j + 1, by omega, rfl, by go_num, rfl, HQ.out⟩
    · have e := E2.out (fun i hi => HA.out i (by omega))
      subst e
      go_wp2_with fail
      go_ret
      exact ⟨rfl, rfl⟩
theorem ints2 (w : World) (a b : Int) : Ints (w.alloc (.cells #[.int .i64 a, .int .i64 b] 3)) (w.alloc (.cells #[.int .i64 a, .int .i64 b] 3)).heap.size (.slice (some ⟨w.heap.size, 0, none⟩) 2 2) [a, b] := by
  have K := Bx.new w 3 #[.int .i64 a, .int .i64 b]
  refine ⟨_, 2, rfl, by simp, fun i hi => ⟨w.heap.size, 0, rfl, K.lt, ?_⟩⟩
  match i, hi with
  | 0, _ => exact K.cell rfl
  | 1, _ => exact K.cell rfl
theorem ints4 (w : World) (a b c d : Int) : Ints (w.alloc (.cells #[.int .i64 a, .int .i64 b, .int .i64 c, .int .i64 d] 3)) (w.alloc (.cells #[.int .i64 a, .int .i64 b, .int .i64 c, .int .i64 d] 3)).heap.size (.slice (some ⟨w.heap.size, 0, none⟩) 4 4) [a, b, c, d] := by
  have K := Bx.new w 3 #[.int .i64 a, .int .i64 b, .int .i64 c, .int .i64 d]
  refine ⟨_, 4, rfl, by simp, fun i hi => ⟨w.heap.size, 0, rfl, K.lt, ?_⟩⟩
  match i, hi with
  | 0, _ => exact K.cell rfl
  | 1, _ => exact K.cell rfl
  | 2, _ => exact K.cell rfl
  | 3, _ => exact K.cell rfl
/-- within on a new slice of two or of four. -/
theorem in2 (n a b : Int) (w : World) (g : Nat) (hg : w.heap.size = g) (hn : 0 ≤ n) (hn' : n ≤ 4611686018427387904) : Calls Tryd.prog 30 #[.int .i64 n, .slice (some ⟨g, 0, none⟩) 2 2] (w.alloc (.cells #[.int .i64 a, .int .i64 b] 3)) fun e w' => e = .returned (.bool (allIn n [a, b])) ∧ w.alloc (.cells #[.int .i64 a, .int .i64 b] 3) = w' :=
  by subst hg; exact lwithin_any n _ _ _ hn hn' (by simp) (ints2 w a b)
theorem in4 (n a b c d : Int) (w : World) (g : Nat) (hg : w.heap.size = g) (hn : 0 ≤ n) (hn' : n ≤ 4611686018427387904) : Calls Tryd.prog 30 #[.int .i64 n, .slice (some ⟨g, 0, none⟩) 4 4] (w.alloc (.cells #[.int .i64 a, .int .i64 b, .int .i64 c, .int .i64 d] 3)) fun e w' => e = .returned (.bool (allIn n [a, b, c, d])) ∧ w.alloc (.cells #[.int .i64 a, .int .i64 b, .int .i64 c, .int .i64 d] 3) = w' :=
  by subst hg; exact lwithin_any n _ _ _ hn hn' (by simp) (ints4 w a b c d)
set_option maxHeartbeats 4000000 in
theorem small_any (a b c d e f n : Int) (w : World) (hn : 0 ≤ n) (hn' : n ≤ 4611686018427387904) :
    Calls Tryd.prog 31 #[.agg #[.int .i64 a, .int .i64 b, .int .i64 c, .int .i64 d, .int .i64 e, .int .i64 f], .int .i64 n] w fun z w' => z = .returned (.bool (allIn 262144 [a, b, c, d] && allIn n [e, f])) ∧ Below w.heap.size w w' := by
  have I4 := Lib.hid (fun w g hg => in4 262144 a b c d w g hg (by omega) (by omega))
  have I2 := Lib.hid (fun w g hg => in2 n e f w g hg hn hn')
  generalize allIn n [e, f] = B2 at *
  cases hB : allIn 262144 [a, b, c, d]
  all_goals
    rw [hB] at I4
    clear hB
    go_enter Tryd.func31, Tryd.ntmps31
    go_wp2_with ((go_at_call 30; (first | with_reducible refine (I4.out _ _ (by simp)).mono ?_ | with_reducible refine (I2.out _ _ (by simp)).mono ?_); rintro z w4 ⟨rfl, rfl⟩))
    go_ret
    refine ⟨rfl, ?_⟩
    repeat (first | exact Below.refl _ _ | refine Below.drew ?_ | refine Below.drewN' ?_ _ | refine bel_alloc ?_ _)
theorem small_iff (A : Af) (n : Int) : (allIn 262144 [A.a, A.b, A.c, A.d] && allIn n [A.e, A.f]) = true ↔ A.small n := by
  unfold Af.small allIn
  simp [and_assoc]
end Go.Proofs.YtanlnigebbcajaaDoor
