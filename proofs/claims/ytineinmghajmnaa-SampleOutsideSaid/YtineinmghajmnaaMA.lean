/- Plain arithmetic: quotients of integers, rounded down and rounded to the nearest. No program in sight. -/
import Derived.WalkKit
import Derived.Test.YtineinmghajmnaaRows
import Derived.WalkSpells
import Derived.WalkLawsBesides
import Derived.Lib.Hide
import Derived.Deep.QuietTactic
import Derived.BigQuiet
import Derived.Deep.Draws
import Derived.Laws.OwnMore
import Derived.Deep.RegionHeld3
import Derived.Deep.OwnRows
import Derived.Deep.Onto
import Derived.Maps.AppendAt
import Derived.WalkSmall
namespace Go.Proofs.Ytineinmghajmnaa

theorem ret_int {k : IntKind} {a b : Int} (h : a = b) : Ending.returned (.int k a) = .returned (.int k b) := by rw [h]
theorem ret_bool {a b : Bool} (h : a = b) : Ending.returned (.bool a) = .returned (.bool b) := by rw [h]

/-- The rounded quotient, for b > 0. -/
def rdiv (a b : Int) : Int := (2 * a + b) / (2 * b)

theorem ediv_unique (a b q : Int) (hb : 0 < b) (h1 : b * q ≤ a) (h2 : a < b * q + b) : a / b = q := by
  have := @Int.ediv_emod_unique a b (a - b*q) q hb
  exact (this.2 ⟨by omega, by omega, by omega⟩).1

theorem tdiv_eq_neg (a b : Int) (ha : a < 0) (hb : 0 < b) (hm : a.tmod b ≠ 0) : a.tdiv b - 1 = a / b := by
  have h1 := Int.mul_tdiv_add_tmod a b
  have h5 : a.tmod b ≤ 0 := by
    have := Int.tmod_nonneg (a := -a) b (by omega)
    rw [Int.neg_tmod] at this; omega
  have h6 : -b < a.tmod b := by
    have := Int.tmod_lt_of_pos (-a) hb
    rw [Int.neg_tmod] at this; omega
  have e : b * (a.tdiv b - 1) = b * a.tdiv b - b := by rw [Int.mul_sub]; omega
  exact (ediv_unique a b _ hb (by omega) (by omega)).symm

theorem tdiv_eq_zero (a b : Int) (hb : 0 < b) (hm : a.tmod b = 0) : a.tdiv b = a / b := by
  have h1 := Int.mul_tdiv_add_tmod a b
  exact (ediv_unique a b _ hb (by omega) (by omega)).symm

theorem tdiv_eq_pos (a b : Int) (ha : 0 ≤ a) : a.tdiv b = a / b := Int.tdiv_eq_ediv_of_nonneg ha

theorem div_bounds (a b : Int) (hb : 0 < b) (ha : -4611686018427387904 ≤ a) (ha' : a ≤ 4611686018427387904) : -4611686018427387904 ≤ a / b ∧ a / b ≤ 4611686018427387904 := by
  constructor
  · apply Int.le_ediv_of_mul_le hb
    have : 4611686018427387904 * 1 ≤ 4611686018427387904 * b := Int.mul_le_mul_of_nonneg_left (by omega) (by omega)
    omega
  · by_cases h : 0 ≤ a
    · have := Int.ediv_le_self b h; omega
    · have : a / b < 0 := Int.ediv_neg_of_neg_of_pos (by omega) hb
      omega

theorem div_mul (a b : Int) (hb : 0 < b) : 0 ≤ a - b * (a / b) ∧ a - b * (a / b) < b := by
  have h2 := Int.mul_ediv_add_emod a b
  have h3 := Int.emod_nonneg a (Int.ne_of_gt hb)
  have h4 := Int.emod_lt_of_pos a hb
  omega

theorem rdiv_up (a b : Int) (hb : 0 < b) (h : b - (a - b * (a / b)) ≤ a - b * (a / b)) : a / b + 1 = rdiv a b := by
  have h2 := div_mul a b hb
  have e : 2 * b * (a / b + 1) = 2 * (b * (a / b)) + 2 * b := by
    rw [Int.mul_assoc, Int.mul_add, Int.mul_add]; omega
  exact (ediv_unique _ _ _ (by omega) (by omega) (by omega)).symm
theorem rdiv_down (a b : Int) (hb : 0 < b) (h : a - b * (a / b) < b - (a - b * (a / b))) : a / b = rdiv a b := by
  have h2 := div_mul a b hb
  have e : 2 * b * (a / b) = 2 * (b * (a / b)) := by rw [Int.mul_assoc]
  exact (ediv_unique _ _ _ (by omega) (by omega) (by omega)).symm
/-- What the rounded quotient is good for: twice its error is at most b. -/
theorem rdiv_spec (a b : Int) (hb : 0 < b) : 2 * (b * rdiv a b) ≤ 2 * a + b ∧ 2 * a < 2 * (b * rdiv a b) + b := by
  have h2 := div_mul (2 * a + b) (2 * b) (by omega)
  unfold rdiv
  rw [Int.mul_assoc] at h2
  omega
theorem rdiv_bounds (a b : Int) (hb : 0 < b) (ha : -4611686018427387904 ≤ a) (ha' : a ≤ 4611686018427387904) : -4611686018427387904 ≤ rdiv a b ∧ rdiv a b ≤ 4611686018427387905 := by
  have h := div_bounds a b hb ha ha'
  have h2 := div_mul a b hb
  by_cases c : b - (a - b * (a / b)) ≤ a - b * (a / b)
  · rw [← rdiv_up a b hb c]; omega
  · rw [← rdiv_down a b hb (by omega)]; omega
end Go.Proofs.Ytineinmghajmnaa
namespace Go.Proofs.Ytineinmghajmnaa
open Go.RowKit

set_option maxHeartbeats 400000 in
theorem floor_any (a b : Int) (w : World) (ha : -4611686018427387904 ≤ a) (ha' : a ≤ 4611686018427387904) (hb : 0 < b) (hb' : b ≤ 4611686018427387904) :
    Calls Try.prog 57 #[.int .i64 a, .int .i64 b] w fun e w' => e = .returned (.int .i64 (a / b)) ∧ w = w' := by
  have hbn := div_bounds a b hb ha ha'
  have h0 : (b == 0) = false := by simp; omega
  by_cases hz : a.tmod b = 0
  · have e := tdiv_eq_zero a b hb hz
    have hz2 : (a.tmod b != 0) = false := by simp [hz]
    have E := Lib.hid e; clear e
    go_enter Try.func57, Try.ntmps57
    go_wp2
    all_goals (go_ret; first | exact ⟨ret_int E.out, rfl⟩ | exact ⟨rfl, rfl⟩)
  · have hz2 : (a.tmod b != 0) = true := by simp [hz]
    by_cases hn : a < 0
    · have e := tdiv_eq_neg a b hn hb hz
      have hb2 : -4611686018427387903 ≤ a.tdiv b ∧ a.tdiv b ≤ 4611686018427387905 := by omega
      have E := Lib.hid e; clear e hbn
      have hd1 : decide (a < 0) = true := by simp [hn]
      have hd2 : decide (b < 0) = false := by simp; omega
      go_enter Try.func57, Try.ntmps57
      go_wp2
      all_goals (go_ret; first | exact ⟨ret_int E.out, rfl⟩ | exact ⟨rfl, rfl⟩)
    · have e := tdiv_eq_pos a b (by omega)
      have E := Lib.hid e; clear e hbn
      go_enter Try.func57, Try.ntmps57
      go_wp2
      all_goals (go_ret; first | exact ⟨rfl, rfl⟩ | exact ⟨ret_int E.out, rfl⟩)

set_option maxHeartbeats 400000 in
theorem rfloor_any (a b : Int) (w : World) (ha : -4611686018427387904 ≤ a) (ha' : a ≤ 4611686018427387904) (hb : 0 < b) (hb' : b ≤ 4611686018427387904) :
    Calls Try.prog 64 #[.int .i64 a, .int .i64 b] w fun e w' => e = .returned (.int .i64 (a / b)) ∧ ∃ n, w' = w.drewN n := by
  have hbn := div_bounds a b hb ha ha'
  have h0 : (b == 0) = false := by simp; omega
  by_cases hz : a.tmod b = 0
  · have e := tdiv_eq_zero a b hb hz
    have hz2 : (a.tmod b != 0) = false := by simp [hz]
    have E := Lib.hid e; clear e
    go_enter Try.func64, Try.ntmps64
    go_wp2
    go_quiet (fail)
    go_wp2
    all_goals (go_ret; first | exact ⟨ret_int E.out, _, rfl⟩ | exact ⟨rfl, _, rfl⟩)
  · have hz2 : (a.tmod b != 0) = true := by simp [hz]
    by_cases hn : a < 0
    · have e := tdiv_eq_neg a b hn hb hz
      have hb2 : -4611686018427387903 ≤ a.tdiv b ∧ a.tdiv b ≤ 4611686018427387905 := by omega
      have E := Lib.hid e; clear e hbn
      have hd1 : decide (a.tmod b < 0) = true := by
        have := Int.tmod_nonneg (a := -a) b (by omega)
        rw [Int.neg_tmod] at this; simp; omega
      have hd2 : decide (b < 0) = false := by simp; omega
      go_enter Try.func64, Try.ntmps64
      go_wp2
      go_quiet (fail)
      go_wp2
      all_goals (go_ret; first | exact ⟨ret_int E.out, _, rfl⟩ | exact ⟨rfl, _, rfl⟩)
    · have e := tdiv_eq_pos a b (by omega)
      have E := Lib.hid e; clear e hbn
      have hm := Int.emod_nonneg a (b := b) (by omega)
      have hd1 : decide (a % b < 0) = false := by simp; omega
      have hd2 : decide (b < 0) = false := by simp; omega
      go_enter Try.func64, Try.ntmps64
      go_wp2
      go_quiet (fail)
      go_wp2
      all_goals (go_ret; first | exact ⟨rfl, _, rfl⟩ | exact ⟨ret_int E.out, _, rfl⟩)

set_option maxHeartbeats 400000 in
theorem div_any (a b : Int) (w : World) (ha : -4611686018427387904 ≤ a) (ha' : a ≤ 4611686018427387904) (hb : 0 < b) (hb' : b ≤ 4611686018427387904) :
    Calls Try.prog 50 #[.int .i64 a, .int .i64 b] w fun e w' => e = .returned (.int .i64 (rdiv a b)) ∧ w = w' := by
  have hbn := div_bounds a b hb ha ha'
  have h2 := div_mul a b hb
  have h0 : (b == 0) = false := by simp; omega
  by_cases c : b - (a - b * (a / b)) ≤ a - b * (a / b)
  · have E := Lib.hid (rdiv_up a b hb c)
    go_enter Try.func50, Try.ntmps50
    go_wp2_with (go_at_call 57; refine (floor_any _ _ _ (by omega) (by omega) (by omega) (by omega)).mono ?_; rintro e w' ⟨rfl, rfl⟩)
    all_goals (go_ret; first | exact ⟨ret_int E.out, rfl⟩ | exact ⟨rfl, rfl⟩)
  · have E := Lib.hid (rdiv_down a b hb (by omega))
    go_enter Try.func50, Try.ntmps50
    go_wp2_with (go_at_call 57; refine (floor_any _ _ _ (by omega) (by omega) (by omega) (by omega)).mono ?_; rintro e w' ⟨rfl, rfl⟩)
    all_goals (go_ret; first | exact ⟨ret_int E.out, rfl⟩ | exact ⟨rfl, rfl⟩)

set_option maxHeartbeats 400000 in
theorem rabs_any (a : Int) (w : World) (ha : 0 ≤ a) (ha' : a ≤ 4611686018427387904) :
    Calls Try.prog 84 #[.int .i64 a] w fun e w' => e = .returned (.int .u64 a) ∧ w = w' := by
  go_enter Try.func84, Try.ntmps84
  go_wp2
  go_ret
  exact ⟨rfl, rfl⟩

set_option maxHeartbeats 400000 in
theorem rdiv_any (a b : Int) (w : World) (ha : -4611686018427387904 ≤ a) (ha' : a ≤ 4611686018427387904) (hb : 0 < b) (hb' : b ≤ 4611686018427387904) :
    Calls Try.prog 51 #[.int .i64 a, .int .i64 b] w fun e w' => e = .returned (.int .i64 (rdiv a b)) ∧ ∃ n, w' = w.drewN n := by
  have hbn := div_bounds a b hb ha ha'
  have h2 := div_mul a b hb
  have h0 : (b == 0) = false := by simp; omega
  by_cases c : b - (a - b * (a / b)) ≤ a - b * (a / b)
  · have E := Lib.hid (rdiv_up a b hb c)
    go_enter Try.func51, Try.ntmps51
    go_wp2_with (first | (go_at_call 64; refine (rfloor_any _ _ _ (by omega) (by omega) (by omega) (by omega)).mono ?_; rintro e w' ⟨rfl, n, rfl⟩) | (go_at_call 84; refine (rabs_any _ _ (by omega) (by omega)).mono ?_; rintro e w' ⟨rfl, rfl⟩))
    all_goals (go_ret; first | exact ⟨ret_int E.out, _, rfl⟩ | exact ⟨rfl, _, rfl⟩)
  · have E := Lib.hid (rdiv_down a b hb (by omega))
    go_enter Try.func51, Try.ntmps51
    go_wp2_with (first | (go_at_call 64; refine (rfloor_any _ _ _ (by omega) (by omega) (by omega) (by omega)).mono ?_; rintro e w' ⟨rfl, n, rfl⟩) | (go_at_call 84; refine (rabs_any _ _ (by omega) (by omega)).mono ?_; rintro e w' ⟨rfl, rfl⟩))
    all_goals (go_ret; first | exact ⟨ret_int E.out, _, rfl⟩ | exact ⟨rfl, _, rfl⟩)

set_option maxHeartbeats 400000 in
theorem clamp_any (x lo hi : Int) (w : World) :
    Calls Try.prog 29 #[.int .i64 x, .int .i64 lo, .int .i64 hi] w fun e w' => e = .returned (.int .i64 (min hi (max x lo))) ∧ w = w' := by
  go_enter Try.func29, Try.ntmps29
  go_wp2
  all_goals (go_ret; exact ⟨ret_int (by omega), rfl⟩)
set_option maxHeartbeats 400000 in
theorem rclamp_any (x lo hi : Int) (w : World) :
    Calls Try.prog 79 #[.int .i64 x, .int .i64 lo, .int .i64 hi] w fun e w' => e = .returned (.int .i64 (min hi (max x lo))) ∧ w = w' := by
  go_enter Try.func79, Try.ntmps79
  go_wp2
  all_goals (go_ret; exact ⟨ret_int (by omega), rfl⟩)
end Go.Proofs.Ytineinmghajmnaa
namespace Go.Proofs.Ytineinmghajmnaa
open Go.RowKit

theorem Below.drewN' {B : Nat} {a w : World} (h : Below B a w) (n : Nat) : Below B a (w.drewN n) := ⟨h.os, h.tape, h.output, h.size, h.block⟩

/-- Behind a call that wrote nothing that was there: old cells and old marks, as rules. -/
theorem below_rules {W w1 : World} (hb : Below W.heap.size W w1) : (∀ b o, b < W.heap.size → w1.cell? ⟨b, o, none⟩ = W.cell? ⟨b, o, none⟩) ∧ (∀ b o, b < W.heap.size → w1.frozen? ⟨b, o, none⟩ = W.frozen? ⟨b, o, none⟩) :=
  ⟨fun b o h => hb.cell (p := ⟨b, o, none⟩) h, fun b o h => hb.frozen (p := ⟨b, o, none⟩) h⟩
/-- A callee that leaves the world alone, at a call inside a region that draws its order. -/
theorem quiet_tol {P : Program} {f : FuncId} {args : Array Value} {W : World} {v : Value} {F : Nat → World} (h : Calls P f args W fun e w' => e = .returned v ∧ W = w') (hF : ∃ m, W = F m) :
    Calls P f args W fun e w'' => e = .returned v ∧ ∃ m, w'' = F m := h.mono fun _ _ ⟨he, hw⟩ => ⟨he, by subst hw; exact hF⟩
theorem quiet_tolN {P : Program} {f : FuncId} {args : Array Value} {W : World} {v : Value} {F : Nat → World} (h : Calls P f args W fun e w' => e = .returned v ∧ ∃ n, w' = W.drewN n) (hF : ∀ n, ∃ m, W.drewN n = F m) :
    Calls P f args W fun e w'' => e = .returned v ∧ ∃ m, w'' = F m := h.mono fun _ _ ⟨he, n, hw⟩ => ⟨he, by subst hw; exact hF n⟩
theorem bel_alloc {w w1 : World} (h : Below w.heap.size w w1) (o : Obj) : Below w.heap.size w (w1.alloc o) := h.alloc h.size o
theorem bel_trans {w w1 w2 : World} (h : Below w.heap.size w w1) (h2 : Below w1.heap.size w1 w2) : Below w.heap.size w w2 := h.trans (h2.mono h.size)

/-- The slice value v reads in w as the integers xs; its cells lie in blocks below B. -/
def Ints (w : World) (B : Nat) (v : Value) (xs : List Int) : Prop :=
  ∃ A c, v = .slice A xs.length c ∧ xs.length ≤ 9223372036854775807 ∧ ∀ i, i < xs.length → ∃ b o, A = some ⟨b, o, none⟩ ∧ b < B ∧ w.cell? ⟨b, o + i, none⟩ = some (.int .i64 (xs.getD i 0))

theorem Ints.keep {w w' : World} {B : Nat} {v : Value} {xs : List Int} (h : Ints w B v xs) (hk : ∀ b o, b < B → w'.cell? ⟨b, o, none⟩ = w.cell? ⟨b, o, none⟩) : Ints w' B v xs := by
  obtain ⟨A, c, e, hl, hc⟩ := h
  refine ⟨A, c, e, hl, fun i hi => ?_⟩
  obtain ⟨b, o, ea, hb, hx⟩ := hc i hi
  exact ⟨b, o, ea, hb, (hk b _ hb).trans hx⟩
theorem Ints.below {w w' : World} {B : Nat} {v : Value} {xs : List Int} (h : Ints w B v xs) (hb : Below B w w') : Ints w' B v xs :=
  h.keep fun b o hlt => hb.cell (p := ⟨b, o, none⟩) hlt
theorem Ints.drewN {w : World} {B : Nat} {v : Value} {xs : List Int} (h : Ints w B v xs) (n : Nat) : Ints (w.drewN n) B v xs := h
theorem Ints.more {w : World} {B B' : Nat} {v : Value} {xs : List Int} (h : Ints w B v xs) (hB : B ≤ B') : Ints w B' v xs := by
  obtain ⟨A, c, e, hl, hc⟩ := h
  refine ⟨A, c, e, hl, fun i hi => ?_⟩
  obtain ⟨b, o, ea, hb, hx⟩ := hc i hi
  exact ⟨b, o, ea, by omega, hx⟩
theorem Ints.nil (w : World) (B : Nat) : Ints w B (.slice none 0 0) [] := ⟨none, 0, rfl, by simp, fun i hi => absurd hi (by simp)⟩

/-- The slice value v is the call's own (its block is at least B) and holds the integers xs. -/
def IRow (w : World) (B : Nat) (v : Value) (xs : List Int) : Prop := w.ownsRow B 3 1 v xs.length (xs.map (Value.int .i64))

theorem IRow.nil (w : World) (B : Nat) : IRow w B (.slice none 0 0) [] := World.ownsRow_nil _ _ _ _
theorem IRow.drewN {w : World} {B : Nat} {v : Value} {xs : List Int} (h : IRow w B v xs) (n : Nat) : IRow (w.drewN n) B v xs := h
theorem IRow.alloc {w : World} {B : Nat} {v : Value} {xs : List Int} (h : IRow w B v xs) (o : Obj) : IRow (w.alloc o) B v xs := World.ownsRow.alloc h o
theorem IRow.below {w w' : World} {B : Nat} {v : Value} {xs : List Int} (h : IRow w B v xs) (hb : Below w.heap.size w w') : IRow w' B v xs := by
  refine World.ownsRow.kept (row := none) h ⟨hb.os, hb.tape, hb.output, hb.size, fun k hk _ => hb.block k hk⟩ ?_
  cases h : v.ownBlock
  · exact .inl rfl
  · exact .inr (by simp)
theorem IRow.ints {w : World} {B : Nat} {v : Value} {xs : List Int} (h : IRow w B v xs) : Ints w w.heap.size v xs := by
  have h0 := h
  rcases h with ⟨hl, ⟨rfl, hn⟩ | ⟨g, cap, cur, rfl, hB, hg, hnc, hcm, hcs, ht⟩⟩
  · have : xs = [] := List.eq_nil_of_length_eq_zero hn
    subst this
    exact Ints.nil _ _
  · refine ⟨_, _, rfl, by unfold maxLen at hcm; omega, fun i hi => ⟨g, 0, rfl, ?_, ?_⟩⟩
    · exact (World.ownsRow.lt h0 g rfl).2
    · rw [Nat.zero_add, World.ownsRow.cellAt h0 i (by simpa using hi)]
      simp [hi]
/-- What a slice of the call's own looks like, if it holds something. -/
theorem IRow.form {w : World} {B : Nat} {v : Value} {xs : List Int} (h : IRow w B v xs) (hn : 0 < xs.length) : ∃ g cap, v = .slice (some ⟨g, 0, none⟩) xs.length cap ∧ B ≤ g ∧ g < w.heap.size := by
  have h0 := h
  rcases h with ⟨hl, ⟨rfl, hn'⟩ | ⟨g, cap, cur, rfl, hB, hg, hnc, hcm, hcs, ht⟩⟩
  · omega
  · exact ⟨g, cap, rfl, hB, (World.ownsRow.lt h0 g rfl).2⟩
theorem IRow.form' {w : World} {B n : Nat} {v : Value} {xs : List Int} (h : IRow w B v xs) (hn : xs.length = n) (h0 : 0 < n) : ∃ g cap, v = .slice (some ⟨g, 0, none⟩) n cap ∧ B ≤ g ∧ g < w.heap.size := by
  subst hn
  exact h.form h0
theorem IRow.len {w : World} {B n g cap : Nat} {xs : List Int} (h : IRow w B (.slice (some ⟨g, 0, none⟩) n cap) xs) : xs.length = n := by
  rcases h with ⟨hl, ⟨h, hn'⟩ | ⟨g, cap, cur, h, hB, hg, hnc, hcm, hcs, ht⟩⟩
  · cases h
  · injection h with _ h _
    exact h.symm
theorem IRow.cell {w : World} {B n g cap : Nat} {xs : List Int} (h : IRow w B (.slice (some ⟨g, 0, none⟩) n cap) xs) {i : Nat} {x : Int} (hx : xs[i]? = some x) : w.cell? ⟨g, i, none⟩ = some (.int .i64 x) := by
  obtain rfl := h.len
  have hi : i < xs.length := by
    rcases Nat.lt_or_ge i xs.length with c | c
    · exact c
    · rw [List.getElem?_eq_none c] at hx; cases hx
  rw [World.ownsRow.cellAt h i (by simpa using hi), List.getElem?_map, hx]; rfl
theorem IRow.frozen {w : World} {B n g cap : Nat} {xs : List Int} (h : IRow w B (.slice (some ⟨g, 0, none⟩) n cap) xs) (i : Nat) : w.frozen? ⟨g, i, none⟩ = false := by
  obtain rfl := h.len
  exact World.ownsRow.frozenAt h i
theorem IRow.stored {w : World} {B n g cap : Nat} {xs : List Int} (h : IRow w B (.slice (some ⟨g, 0, none⟩) n cap) xs) (j : Nat) (u : Int) :
    IRow (w.setCell ⟨g, j, none⟩ (.int .i64 u)) B (.slice (some ⟨g, 0, none⟩) n cap) (xs.set j u) ∧ w.grownBy (w.setCell ⟨g, j, none⟩ (.int .i64 u)) (some g) := by
  obtain rfl := h.len
  have := World.ownsRow.stored h j (.int .i64 u)
  unfold IRow
  rw [List.length_set, List.map_set]
  exact this
theorem IRow.lo {w : World} {B n g cap : Nat} {xs : List Int} (h : IRow w B (.slice (some ⟨g, 0, none⟩) n cap) xs) : B ≤ g ∧ g < w.heap.size := World.ownsRow.lt h g rfl
/-- A new slice of literals. -/
theorem IRow.made (w : World) (B : Nat) (xs : List Int) (hB : B ≤ w.heap.size) (hl : xs.length ≤ 1000000) : IRow (w.alloc (.cells (xs.map (Value.int .i64)).toArray 3)) B (.slice (some ⟨w.heap.size, 0, none⟩) xs.length xs.length) xs := by
  have := World.ownsRow_lit (e := 3) (size := 1) (base := B) w (xs.map (Value.int .i64)).toArray xs.length hB (by unfold maxLen; omega) (by simp)
  simpa [IRow] using this

theorem Try.infoInt : (Try.prog.info? 3).map (fun i => (i.zero, i.size, i.bytes)) = some (some (.int .i64 0), 1, 8) := by kernel_rfl

/-- append(s, y) on a slice of ints of the call's own. -/
theorem push_law (w : World) {ops : Array Oper} {rest : List Oper} {o : Oper} {a : Act} {Q : Exit → Act → World → Prop} (hgd : o.guard = none) (s x : Operand)
    (ho : o.op = .call { callee := .builtin .append, args := #[s, x], argTypes := #[77, 77] }) (B : Nat) (v : Value) (xs : List Int) (hs : a.eval s = v) (hown : IRow w B v xs)
    (g : Nat) (y : Int) (hx : a.eval x = .slice (some ⟨g, 0, none⟩) 1 1) (hc : w.cell? ⟨g, 0, none⟩ = some (.int .i64 y)) (hl : xs.length ≤ 1000000000000) (hB : B ≤ w.heap.size)
    (h : ∀ v' w', IRow w' B v' (xs ++ [y]) → Below B w w' → wpList Try.prog ops Q rest (a.put o.dst v') w') : wpList Try.prog ops Q (o :: rest) a w := by
  obtain ⟨i0, hi0, hz0, hz1, hz2⟩ := info_parts Try.infoInt
  refine wpList_append_own w hgd s x 77 ho B 3 i0 (.int .i64 0) 1 8 Try.underlying77 hi0 hz0 hz1 hz2 rfl (by decide) v _ _ hs hown ⟨g, 0, none⟩ 1 1 [.int .i64 y] hx rfl ?_ ?_ ?_ ?_ hB ?_
  · intro j u hj
    match j, hj with
    | 0, hj => simp at hj; subst hj; simpa [Addr.add] using hc
  · intro u hu; simp at hu; subst hu; rfl
  · unfold maxLen; omega
  · omega
  · intro v' w' hown' hg _
    refine h v' w' ?_ ((Below.refl _ _).grown hg hB fun k hk => (World.ownsRow.lt hown k hk).1)
    unfold IRow
    simpa using hown'
theorem cell_new1 (w : World) (v : Value) (e : TypeId) : (w.alloc (.cells #[v] e)).cell? ⟨w.heap.size, 0, none⟩ = some v := by simp
/-- The same, behind the new block that holds the one element. -/
theorem push_new (w : World) {ops : Array Oper} {rest : List Oper} {o : Oper} {a : Act} {Q : Exit → Act → World → Prop} (hgd : o.guard = none) (s x : Operand)
    (ho : o.op = .call { callee := .builtin .append, args := #[s, x], argTypes := #[77, 77] }) (B : Nat) (v : Value) (xs : List Int) (hs : a.eval s = v) (hown : IRow w B v xs)
    (y : Int) (hx : a.eval x = .slice (some ⟨w.heap.size, 0, none⟩) 1 1) (hl : xs.length ≤ 1000000000000) (hB : B ≤ w.heap.size)
    (h : ∀ v' w', IRow w' B v' (xs ++ [y]) → Below B w w' → wpList Try.prog ops Q rest (a.put o.dst v') w') : wpList Try.prog ops Q (o :: rest) a (w.alloc (.cells #[.int .i64 y] 3)) :=
  push_law _ hgd s x ho B v xs hs (hown.alloc _) w.heap.size y hx (cell_new1 _ _ _) hl (Nat.le_trans hB (by simp)) fun v' w' h1 h2 => h v' w' h1 (((Below.refl _ _).alloc hB _).trans h2)
theorem push_newN (w : World) (n : Nat) {ops : Array Oper} {rest : List Oper} {o : Oper} {a : Act} {Q : Exit → Act → World → Prop} (hgd : o.guard = none) (s x : Operand)
    (ho : o.op = .call { callee := .builtin .append, args := #[s, x], argTypes := #[77, 77] }) (B : Nat) (v : Value) (xs : List Int) (hs : a.eval s = v) (hown : IRow w B v xs)
    (y : Int) (hx : a.eval x = .slice (some ⟨w.heap.size, 0, none⟩) 1 1) (hl : xs.length ≤ 1000000000000) (hB : B ≤ w.heap.size)
    (h : ∀ v' w', IRow w' B v' (xs ++ [y]) → Below B w w' → wpList Try.prog ops Q rest (a.put o.dst v') w') : wpList Try.prog ops Q (o :: rest) a ((w.alloc (.cells #[.int .i64 y] 3)).drewN n) :=
  push_law _ hgd s x ho B v xs hs ((hown.alloc _).drewN n) w.heap.size y hx (cell_new1 _ _ _) hl (Nat.le_trans hB (by show w.heap.size ≤ (w.alloc _).heap.size; simp)) fun v' w' h1 h2 => h v' w' h1 ((Below.drewN' ((Below.refl _ _).alloc hB _) n).trans h2)
end Go.Proofs.Ytineinmghajmnaa
namespace Go.Proofs.Ytineinmghajmnaa

/-- A pixel. -/
structure Px where
  r : Int
  g : Int
  b : Int
  a : Int
def Px.zero : Px := ⟨0, 0, 0, 0⟩
/-- All values are unit values. -/
def Px.ok (p : Px) : Prop := (0 ≤ p.r ∧ p.r ≤ 65535) ∧ (0 ≤ p.g ∧ p.g ≤ 65535) ∧ (0 ≤ p.b ∧ p.b ≤ 65535) ∧ (0 ≤ p.a ∧ p.a ≤ 65535)
instance (p : Px) : Decidable p.ok := by unfold Px.ok; exact inferInstance
def pxOk (p : Px) : Bool := decide p.ok
theorem pxOk_iff (p : Px) : pxOk p = true ↔ p.ok := by unfold pxOk; simp
/-- The pixel at a place. -/
def pat (ps : List Px) (i : Nat) : Px := ps.getD i Px.zero

def sized (w h : Int) : Bool := decide (0 ≤ w ∧ w ≤ 256 ∧ 0 ≤ h ∧ h ≤ 256 ∧ (w = 0 ↔ h = 0))
/-- A valid image. -/
structure IOk (w h : Int) (ps : List Px) : Prop where
  w0 : 0 ≤ w
  w1 : w ≤ 256
  h0 : 0 ≤ h
  h1 : h ≤ 256
  z : w = 0 ↔ h = 0
  n : (ps.length : Int) = w * h
  ok : ∀ i, i < ps.length → (pat ps i).ok
def allOk (ps : List Px) : Bool := ps.all pxOk
/-- The error of an image. -/
def ichk (w h : Int) (ps : List Px) : Int := if sized w h = true ∧ (ps.length : Int) = w * h then (if allOk ps then 0 else 2) else 15
theorem allOk_iff (ps : List Px) : allOk ps = true ↔ ∀ i, i < ps.length → (pat ps i).ok := by
  unfold allOk
  rw [List.all_eq_true]
  constructor
  · intro h i hi
    have := h ps[i] (List.getElem_mem hi)
    rw [pxOk_iff] at this
    simpa [pat, hi] using this
  · intro h p hp
    obtain ⟨i, hi, rfl⟩ := List.getElem_of_mem hp
    have := h i hi
    rw [pxOk_iff]
    simpa [pat, hi] using this
theorem ichk_iff (w h : Int) (ps : List Px) : ichk w h ps = 0 ↔ IOk w h ps := by
  unfold ichk
  constructor
  · intro e
    split at e
    · rename_i hs
      split at e
      · rename_i ha
        have h1 := hs.1
        unfold sized at h1
        rw [decide_eq_true_eq] at h1
        exact ⟨h1.1, h1.2.1, h1.2.2.1, h1.2.2.2.1, h1.2.2.2.2, hs.2, (allOk_iff ps).1 ha⟩
      · cases e
    · cases e
  · intro i
    rw [if_pos ⟨by unfold sized; rw [decide_eq_true_eq]; exact ⟨i.w0, i.w1, i.h0, i.h1, i.z⟩, i.n⟩, if_pos ((allOk_iff ps).2 i.ok)]
theorem allOk_no (ps : List Px) (k : Nat) (h : k < ps.length) (hn : ¬ (pat ps k).ok) : allOk ps = false := by
  rw [Bool.eq_false_iff]
  intro e
  exact hn ((allOk_iff ps).1 e k h)
end Go.Proofs.Ytineinmghajmnaa
namespace Go.Proofs.Ytineinmghajmnaa
open Go.RowKit

/-- A number limited to a unit value. -/
def lim16 (x : Int) : Int := min 65535 (max x 0)
theorem lim16_id (x : Int) (h : 0 ≤ x ∧ x ≤ 65535) : lim16 x = x := by unfold lim16; omega
theorem lim16_bd (x : Int) : 0 ≤ lim16 x ∧ lim16 x ≤ 65535 := by unfold lim16; omega
theorem lim16_ne (x : Int) (h : ¬ (0 ≤ x ∧ x ≤ 65535)) : lim16 x ≠ x := by unfold lim16; omega

set_option maxHeartbeats 400000 in
theorem punit_any (x : Int) (w : World) :
    Calls Try.prog 85 #[.int .i64 x] w fun e w' => e = .returned (.int .i64 (lim16 x)) ∧ w = w' := by
  go_enter Try.func85, Try.ntmps85
  go_wp2_with (go_at_call 29; refine (clamp_any _ _ _ _).mono ?_; rintro e w' ⟨rfl, rfl⟩)
  go_ret
  exact ⟨rfl, rfl⟩

set_option maxHeartbeats 400000 in
theorem rpunit_any (x : Int) (w : World) :
    Calls Try.prog 100 #[.int .i64 x] w fun e w' => e = .returned (.int .i64 (lim16 x)) ∧ w = w' := by
  go_enter Try.func100, Try.ntmps100
  go_wp2_with (go_at_call 79; refine (rclamp_any _ _ _ _).mono ?_; rintro e w' ⟨rfl, rfl⟩)
  go_ret
  exact ⟨rfl, rfl⟩

set_option maxHeartbeats 2000000 in
theorem limit_any (r g b a : Int) (w : World) :
    Calls Try.prog 52 #[.agg #[.int .i64 r, .int .i64 g, .int .i64 b, .int .i64 a]] w fun e w' => e = .returned (.agg #[.int .i64 (lim16 r), .int .i64 (lim16 g), .int .i64 (lim16 b), .int .i64 (lim16 a)]) ∧ Below w.heap.size w w' := by
  go_enter Try.func52, Try.ntmps52
  go_wp2_with fail
  go_region_held3 (fun w' => w'.cell? ⟨w.heap.size, 0, none⟩ = some (.int .i64 r) ∧ w'.cell? ⟨w.heap.size, 1, none⟩ = some (.int .i64 g) ∧ w'.cell? ⟨w.heap.size, 2, none⟩ = some (.int .i64 b) ∧ w'.cell? ⟨w.heap.size, 3, none⟩ = some (.int .i64 a))
    (go_keep)
    ((go_at_call 85; refine (punit_any _ _).mono ?_; rintro e w4 ⟨rfl, rfl⟩))
  go_wp2_with fail
  refine bodyPost_ret (v := .agg #[.int .i64 (lim16 r), .int .i64 (lim16 g), .int .i64 (lim16 b), .int .i64 (lim16 a)]) (by simp [results, Try.results52, go_sem]) rfl ⟨rfl, ?_⟩
  repeat (first | exact Below.refl _ _ | refine Below.drew ?_ | refine Below.drewN' ?_ _ | refine bel_alloc ?_ _)

set_option maxHeartbeats 2000000 in
theorem rlimit_any (r g b a : Int) (w : World) :
    Calls Try.prog 89 #[.agg #[.int .i64 r, .int .i64 g, .int .i64 b, .int .i64 a]] w fun e w' => e = .returned (.agg #[.int .i64 (lim16 r), .int .i64 (lim16 g), .int .i64 (lim16 b), .int .i64 (lim16 a)]) ∧ Below w.heap.size w w' := by
  go_enter Try.func89, Try.ntmps89
  go_wp2_with fail
  go_region_held3 (fun w' => w'.cell? ⟨w.heap.size, 0, none⟩ = some (.int .i64 r) ∧ w'.cell? ⟨w.heap.size, 1, none⟩ = some (.int .i64 g) ∧ w'.cell? ⟨w.heap.size, 2, none⟩ = some (.int .i64 b) ∧ w'.cell? ⟨w.heap.size, 3, none⟩ = some (.int .i64 a))
    (go_keep)
    ((go_at_call 100; refine (rpunit_any _ _).mono ?_; rintro e w4 ⟨rfl, rfl⟩))
  go_wp2_with fail
  refine bodyPost_ret (v := .agg #[.int .i64 (lim16 r), .int .i64 (lim16 g), .int .i64 (lim16 b), .int .i64 (lim16 a)]) (by simp [results, Try.results89, go_sem]) rfl ⟨rfl, ?_⟩
  repeat (first | exact Below.refl _ _ | refine Below.drew ?_ | refine Below.drewN' ?_ _ | refine bel_alloc ?_ _)

set_option maxHeartbeats 2000000 in
theorem pvalid_any (r g b a : Int) (w : World) :
    Calls Try.prog 21 #[.agg #[.int .i64 r, .int .i64 g, .int .i64 b, .int .i64 a]] w fun e w' => e = .returned (.bool (pxOk ⟨r, g, b, a⟩)) ∧ Below w.heap.size w w' := by
  by_cases hr : 0 ≤ r ∧ r ≤ 65535
  case neg =>
    have tr : (r == lim16 r) = false := by rw [beq_eq_false_iff_ne]; exact (lim16_ne r hr).symm
    have E := Lib.hid (show pxOk ⟨r, g, b, a⟩ = false by rw [Bool.eq_false_iff]; intro e; rw [pxOk_iff] at e; obtain ⟨e1, e2, e3, e4⟩ := e; exact absurd e1 hr)
    go_enter Try.func21, Try.ntmps21
    go_wp2_with fail
    go_region_held3 (fun w' => w'.cell? ⟨w.heap.size, 0, none⟩ = some (.int .i64 r) ∧ w'.cell? ⟨w.heap.size, 1, none⟩ = some (.int .i64 g) ∧ w'.cell? ⟨w.heap.size, 2, none⟩ = some (.int .i64 b) ∧ w'.cell? ⟨w.heap.size, 3, none⟩ = some (.int .i64 a))
      (first | go_keep | (go_split_ands; refine ⟨?_, ?_, ?_, ?_⟩ <;> (rw [hbw4.cell (by simp)]; assumption)))
      ((go_at_call 52; refine (limit_any _ _ _ _ _).mono ?_; rintro e w4 ⟨rfl, hbw4⟩))
    go_wp2_with fail
    go_ret
    exact ⟨ret_bool E.out.symm, ((bel_alloc (Below.refl _ _) _).drew).trans (hbw4.mono (by simp))⟩
  by_cases hg : 0 ≤ g ∧ g ≤ 65535
  case neg =>
    have tr : (r == lim16 r) = true := by rw [beq_iff_eq]; exact (lim16_id r hr).symm
    have tg : (g == lim16 g) = false := by rw [beq_eq_false_iff_ne]; exact (lim16_ne g hg).symm
    have E := Lib.hid (show pxOk ⟨r, g, b, a⟩ = false by rw [Bool.eq_false_iff]; intro e; rw [pxOk_iff] at e; obtain ⟨e1, e2, e3, e4⟩ := e; exact absurd e2 hg)
    go_enter Try.func21, Try.ntmps21
    go_wp2_with fail
    go_region_held3 (fun w' => w'.cell? ⟨w.heap.size, 0, none⟩ = some (.int .i64 r) ∧ w'.cell? ⟨w.heap.size, 1, none⟩ = some (.int .i64 g) ∧ w'.cell? ⟨w.heap.size, 2, none⟩ = some (.int .i64 b) ∧ w'.cell? ⟨w.heap.size, 3, none⟩ = some (.int .i64 a))
      (first | go_keep | (go_split_ands; refine ⟨?_, ?_, ?_, ?_⟩ <;> (rw [hbw4.cell (by simp)]; assumption)))
      ((go_at_call 52; refine (limit_any _ _ _ _ _).mono ?_; rintro e w4 ⟨rfl, hbw4⟩))
    go_wp2_with fail
    go_ret
    exact ⟨ret_bool E.out.symm, ((bel_alloc (Below.refl _ _) _).drew).trans (hbw4.mono (by simp))⟩
  by_cases hb : 0 ≤ b ∧ b ≤ 65535
  case neg =>
    have tr : (r == lim16 r) = true := by rw [beq_iff_eq]; exact (lim16_id r hr).symm
    have tg : (g == lim16 g) = true := by rw [beq_iff_eq]; exact (lim16_id g hg).symm
    have tb : (b == lim16 b) = false := by rw [beq_eq_false_iff_ne]; exact (lim16_ne b hb).symm
    have E := Lib.hid (show pxOk ⟨r, g, b, a⟩ = false by rw [Bool.eq_false_iff]; intro e; rw [pxOk_iff] at e; obtain ⟨e1, e2, e3, e4⟩ := e; exact absurd e3 hb)
    go_enter Try.func21, Try.ntmps21
    go_wp2_with fail
    go_region_held3 (fun w' => w'.cell? ⟨w.heap.size, 0, none⟩ = some (.int .i64 r) ∧ w'.cell? ⟨w.heap.size, 1, none⟩ = some (.int .i64 g) ∧ w'.cell? ⟨w.heap.size, 2, none⟩ = some (.int .i64 b) ∧ w'.cell? ⟨w.heap.size, 3, none⟩ = some (.int .i64 a))
      (first | go_keep | (go_split_ands; refine ⟨?_, ?_, ?_, ?_⟩ <;> (rw [hbw4.cell (by simp)]; assumption)))
      ((go_at_call 52; refine (limit_any _ _ _ _ _).mono ?_; rintro e w4 ⟨rfl, hbw4⟩))
    go_wp2_with fail
    go_ret
    exact ⟨ret_bool E.out.symm, ((bel_alloc (Below.refl _ _) _).drew).trans (hbw4.mono (by simp))⟩
  by_cases ha : 0 ≤ a ∧ a ≤ 65535
  case neg =>
    have tr : (r == lim16 r) = true := by rw [beq_iff_eq]; exact (lim16_id r hr).symm
    have tg : (g == lim16 g) = true := by rw [beq_iff_eq]; exact (lim16_id g hg).symm
    have tb : (b == lim16 b) = true := by rw [beq_iff_eq]; exact (lim16_id b hb).symm
    have ta : (a == lim16 a) = false := by rw [beq_eq_false_iff_ne]; exact (lim16_ne a ha).symm
    have E := Lib.hid (show pxOk ⟨r, g, b, a⟩ = false by rw [Bool.eq_false_iff]; intro e; rw [pxOk_iff] at e; obtain ⟨e1, e2, e3, e4⟩ := e; exact absurd e4 ha)
    go_enter Try.func21, Try.ntmps21
    go_wp2_with fail
    go_region_held3 (fun w' => w'.cell? ⟨w.heap.size, 0, none⟩ = some (.int .i64 r) ∧ w'.cell? ⟨w.heap.size, 1, none⟩ = some (.int .i64 g) ∧ w'.cell? ⟨w.heap.size, 2, none⟩ = some (.int .i64 b) ∧ w'.cell? ⟨w.heap.size, 3, none⟩ = some (.int .i64 a))
      (first | go_keep | (go_split_ands; refine ⟨?_, ?_, ?_, ?_⟩ <;> (rw [hbw4.cell (by simp)]; assumption)))
      ((go_at_call 52; refine (limit_any _ _ _ _ _).mono ?_; rintro e w4 ⟨rfl, hbw4⟩))
    go_wp2_with fail
    go_ret
    exact ⟨ret_bool E.out.symm, ((bel_alloc (Below.refl _ _) _).drew).trans (hbw4.mono (by simp))⟩
  case pos =>
    have tr : (r == lim16 r) = true := by rw [beq_iff_eq]; exact (lim16_id r hr).symm
    have tg : (g == lim16 g) = true := by rw [beq_iff_eq]; exact (lim16_id g hg).symm
    have tb : (b == lim16 b) = true := by rw [beq_iff_eq]; exact (lim16_id b hb).symm
    have ta : (a == lim16 a) = true := by rw [beq_iff_eq]; exact (lim16_id a ha).symm
    have E := Lib.hid (show pxOk ⟨r, g, b, a⟩ = true by rw [pxOk_iff]; exact ⟨hr, hg, hb, ha⟩)
    go_enter Try.func21, Try.ntmps21
    go_wp2_with fail
    go_region_held3 (fun w' => w'.cell? ⟨w.heap.size, 0, none⟩ = some (.int .i64 r) ∧ w'.cell? ⟨w.heap.size, 1, none⟩ = some (.int .i64 g) ∧ w'.cell? ⟨w.heap.size, 2, none⟩ = some (.int .i64 b) ∧ w'.cell? ⟨w.heap.size, 3, none⟩ = some (.int .i64 a))
      (first | go_keep | (go_split_ands; refine ⟨?_, ?_, ?_, ?_⟩ <;> (rw [hbw4.cell (by simp)]; assumption)))
      ((go_at_call 52; refine (limit_any _ _ _ _ _).mono ?_; rintro e w4 ⟨rfl, hbw4⟩))
    go_wp2_with fail
    go_ret
    exact ⟨ret_bool E.out.symm, ((bel_alloc (Below.refl _ _) _).drew).trans (hbw4.mono (by simp))⟩

set_option maxHeartbeats 2000000 in
theorem rpvalid_any (r g b a : Int) (w : World) :
    Calls Try.prog 62 #[.agg #[.int .i64 r, .int .i64 g, .int .i64 b, .int .i64 a]] w fun e w' => e = .returned (.bool (pxOk ⟨r, g, b, a⟩)) ∧ Below w.heap.size w w' := by
  by_cases hr : 0 ≤ r ∧ r ≤ 65535
  case neg =>
    have tr : (lim16 r == r) = false := by rw [beq_eq_false_iff_ne]; exact lim16_ne r hr
    have E := Lib.hid (show pxOk ⟨r, g, b, a⟩ = false by rw [Bool.eq_false_iff]; intro e; rw [pxOk_iff] at e; obtain ⟨e1, e2, e3, e4⟩ := e; exact absurd e1 hr)
    go_enter Try.func62, Try.ntmps62
    go_wp2_with fail
    go_region_held3 (fun w' => w'.cell? ⟨w.heap.size, 0, none⟩ = some (.int .i64 r) ∧ w'.cell? ⟨w.heap.size, 1, none⟩ = some (.int .i64 g) ∧ w'.cell? ⟨w.heap.size, 2, none⟩ = some (.int .i64 b) ∧ w'.cell? ⟨w.heap.size, 3, none⟩ = some (.int .i64 a))
      (first | go_keep | (go_split_ands; refine ⟨?_, ?_, ?_, ?_⟩ <;> (rw [hbw4.cell (by simp)]; assumption)))
      ((go_at_call 89; refine (rlimit_any _ _ _ _ _).mono ?_; rintro e w4 ⟨rfl, hbw4⟩))
    go_wp2_with fail
    go_ret
    exact ⟨ret_bool E.out.symm, ((bel_alloc (Below.refl _ _) _).drew).trans (hbw4.mono (by simp))⟩
  by_cases hg : 0 ≤ g ∧ g ≤ 65535
  case neg =>
    have tr : (lim16 r == r) = true := by rw [beq_iff_eq]; exact lim16_id r hr
    have tg : (lim16 g == g) = false := by rw [beq_eq_false_iff_ne]; exact lim16_ne g hg
    have E := Lib.hid (show pxOk ⟨r, g, b, a⟩ = false by rw [Bool.eq_false_iff]; intro e; rw [pxOk_iff] at e; obtain ⟨e1, e2, e3, e4⟩ := e; exact absurd e2 hg)
    go_enter Try.func62, Try.ntmps62
    go_wp2_with fail
    go_region_held3 (fun w' => w'.cell? ⟨w.heap.size, 0, none⟩ = some (.int .i64 r) ∧ w'.cell? ⟨w.heap.size, 1, none⟩ = some (.int .i64 g) ∧ w'.cell? ⟨w.heap.size, 2, none⟩ = some (.int .i64 b) ∧ w'.cell? ⟨w.heap.size, 3, none⟩ = some (.int .i64 a))
      (first | go_keep | (go_split_ands; refine ⟨?_, ?_, ?_, ?_⟩ <;> (rw [hbw4.cell (by simp)]; assumption)))
      ((go_at_call 89; refine (rlimit_any _ _ _ _ _).mono ?_; rintro e w4 ⟨rfl, hbw4⟩))
    go_wp2_with fail
    go_ret
    exact ⟨ret_bool E.out.symm, ((bel_alloc (Below.refl _ _) _).drew).trans (hbw4.mono (by simp))⟩
  by_cases hb : 0 ≤ b ∧ b ≤ 65535
  case neg =>
    have tr : (lim16 r == r) = true := by rw [beq_iff_eq]; exact lim16_id r hr
    have tg : (lim16 g == g) = true := by rw [beq_iff_eq]; exact lim16_id g hg
    have tb : (lim16 b == b) = false := by rw [beq_eq_false_iff_ne]; exact lim16_ne b hb
    have E := Lib.hid (show pxOk ⟨r, g, b, a⟩ = false by rw [Bool.eq_false_iff]; intro e; rw [pxOk_iff] at e; obtain ⟨e1, e2, e3, e4⟩ := e; exact absurd e3 hb)
    go_enter Try.func62, Try.ntmps62
    go_wp2_with fail
    go_region_held3 (fun w' => w'.cell? ⟨w.heap.size, 0, none⟩ = some (.int .i64 r) ∧ w'.cell? ⟨w.heap.size, 1, none⟩ = some (.int .i64 g) ∧ w'.cell? ⟨w.heap.size, 2, none⟩ = some (.int .i64 b) ∧ w'.cell? ⟨w.heap.size, 3, none⟩ = some (.int .i64 a))
      (first | go_keep | (go_split_ands; refine ⟨?_, ?_, ?_, ?_⟩ <;> (rw [hbw4.cell (by simp)]; assumption)))
      ((go_at_call 89; refine (rlimit_any _ _ _ _ _).mono ?_; rintro e w4 ⟨rfl, hbw4⟩))
    go_wp2_with fail
    go_ret
    exact ⟨ret_bool E.out.symm, ((bel_alloc (Below.refl _ _) _).drew).trans (hbw4.mono (by simp))⟩
  by_cases ha : 0 ≤ a ∧ a ≤ 65535
  case neg =>
    have tr : (lim16 r == r) = true := by rw [beq_iff_eq]; exact lim16_id r hr
    have tg : (lim16 g == g) = true := by rw [beq_iff_eq]; exact lim16_id g hg
    have tb : (lim16 b == b) = true := by rw [beq_iff_eq]; exact lim16_id b hb
    have ta : (lim16 a == a) = false := by rw [beq_eq_false_iff_ne]; exact lim16_ne a ha
    have E := Lib.hid (show pxOk ⟨r, g, b, a⟩ = false by rw [Bool.eq_false_iff]; intro e; rw [pxOk_iff] at e; obtain ⟨e1, e2, e3, e4⟩ := e; exact absurd e4 ha)
    go_enter Try.func62, Try.ntmps62
    go_wp2_with fail
    go_region_held3 (fun w' => w'.cell? ⟨w.heap.size, 0, none⟩ = some (.int .i64 r) ∧ w'.cell? ⟨w.heap.size, 1, none⟩ = some (.int .i64 g) ∧ w'.cell? ⟨w.heap.size, 2, none⟩ = some (.int .i64 b) ∧ w'.cell? ⟨w.heap.size, 3, none⟩ = some (.int .i64 a))
      (first | go_keep | (go_split_ands; refine ⟨?_, ?_, ?_, ?_⟩ <;> (rw [hbw4.cell (by simp)]; assumption)))
      ((go_at_call 89; refine (rlimit_any _ _ _ _ _).mono ?_; rintro e w4 ⟨rfl, hbw4⟩))
    go_wp2_with fail
    go_ret
    exact ⟨ret_bool E.out.symm, ((bel_alloc (Below.refl _ _) _).drew).trans (hbw4.mono (by simp))⟩
  case pos =>
    have tr : (lim16 r == r) = true := by rw [beq_iff_eq]; exact lim16_id r hr
    have tg : (lim16 g == g) = true := by rw [beq_iff_eq]; exact lim16_id g hg
    have tb : (lim16 b == b) = true := by rw [beq_iff_eq]; exact lim16_id b hb
    have ta : (lim16 a == a) = true := by rw [beq_iff_eq]; exact lim16_id a ha
    have E := Lib.hid (show pxOk ⟨r, g, b, a⟩ = true by rw [pxOk_iff]; exact ⟨hr, hg, hb, ha⟩)
    go_enter Try.func62, Try.ntmps62
    go_wp2_with fail
    go_region_held3 (fun w' => w'.cell? ⟨w.heap.size, 0, none⟩ = some (.int .i64 r) ∧ w'.cell? ⟨w.heap.size, 1, none⟩ = some (.int .i64 g) ∧ w'.cell? ⟨w.heap.size, 2, none⟩ = some (.int .i64 b) ∧ w'.cell? ⟨w.heap.size, 3, none⟩ = some (.int .i64 a))
      (first | go_keep | (go_split_ands; refine ⟨?_, ?_, ?_, ?_⟩ <;> (rw [hbw4.cell (by simp)]; assumption)))
      ((go_at_call 89; refine (rlimit_any _ _ _ _ _).mono ?_; rintro e w4 ⟨rfl, hbw4⟩))
    go_wp2_with fail
    go_ret
    exact ⟨ret_bool E.out.symm, ((bel_alloc (Below.refl _ _) _).drew).trans (hbw4.mono (by simp))⟩
end Go.Proofs.Ytineinmghajmnaa
namespace Go.Proofs.Ytineinmghajmnaa
variable (P : Program) (w : World)
theorem ite_gt_max (x y : Int) : (if y > x then y else x) = max x y := by split <;> omega
theorem ite_lt_min (x y : Int) : (if y < x then y else x) = min x y := by split <;> omega
theorem run_max2m (ts : Array TypeId) (t : TypeId) (x y : Int) : (Builtin.max_ ts t #[.int .i64 x, .int .i64 y]).run P w = .ok (.int .i64 (max x y)) w := by
  rw [run_max_int2, ite_gt_max]
theorem run_min2m (ts : Array TypeId) (t : TypeId) (x y : Int) : (Builtin.min_ ts t #[.int .i64 x, .int .i64 y]).run P w = .ok (.int .i64 (min x y)) w := by
  rw [run_min_int2, ite_lt_min]
theorem run_max4m (ts : Array TypeId) (t : TypeId) (x y z u : Int) : (Builtin.max_ ts t #[.int .i64 x, .int .i64 y, .int .i64 z, .int .i64 u]).run P w = .ok (.int .i64 (max (max (max x y) z) u)) w := by
  simp [Builtin.max_, Builtin.max2]
  (repeat' split) <;> omega
end Go.Proofs.Ytineinmghajmnaa
namespace Go.Proofs.Ytineinmghajmnaa
open Go.RowKit

/-- The slice value v, of n elements of type E with s int cells each, is the call's own (its block is at least B); f: all its cells. -/
def FRow (E s : Nat) (w : World) (B : Nat) (v : Value) (n : Nat) (f : List Int) : Prop := w.ownsRow B E s v n (f.map (Value.int .i64))

section
variable {E s : Nat} {w w' : World} {B : Nat} {v : Value} {n : Nat} {f : List Int}
theorem FRow.nil (E s : Nat) (w : World) (B : Nat) : FRow E s w B (.slice none 0 0) 0 [] := World.ownsRow_nil _ _ _ _
theorem FRow.flen (h : FRow E s w B v n f) : f.length = n * s := by have := h.1; simpa using this
theorem FRow.drewN (h : FRow E s w B v n f) (k : Nat) : FRow E s (w.drewN k) B v n f := h
theorem FRow.drew (h : FRow E s w B v n f) : FRow E s w.drew B v n f := h
theorem FRow.alloc (h : FRow E s w B v n f) (o : Obj) : FRow E s (w.alloc o) B v n f := World.ownsRow.alloc h o
theorem FRow.below (h : FRow E s w B v n f) (hb : Below w.heap.size w w') : FRow E s w' B v n f := by
  refine World.ownsRow.kept (row := none) h ⟨hb.os, hb.tape, hb.output, hb.size, fun k hk _ => hb.block k hk⟩ ?_
  cases h : v.ownBlock
  · exact .inl rfl
  · exact .inr (by simp)
theorem FRow.form (h : FRow E s w B v n f) (hn : 0 < n) : ∃ g cap, v = .slice (some ⟨g, 0, none⟩) n cap ∧ B ≤ g ∧ g < w.heap.size := by
  have h0 := h
  rcases h with ⟨hl, ⟨rfl, hn'⟩ | ⟨g, cap, cur, rfl, hB, hg, hnc, hcm, hcs, ht⟩⟩
  · omega
  · exact ⟨g, cap, rfl, hB, (World.ownsRow.lt h0 g rfl).2⟩
/-- The shape of the value, whatever its length. -/
theorem FRow.shape (h : FRow E s w B v n f) : ∃ A cap, v = .slice A n cap := by
  rcases h with ⟨hl, ⟨rfl, rfl⟩ | ⟨g, cap, cur, rfl, hB, hg, hnc, hcm, hcs, ht⟩⟩
  · exact ⟨_, _, rfl⟩
  · exact ⟨_, _, rfl⟩
variable {g cap : Nat}
theorem FRow.cell (h : FRow E s w B (.slice (some ⟨g, 0, none⟩) n cap) n f) {i : Nat} {x : Int} (hx : f[i]? = some x) : w.cell? ⟨g, i, none⟩ = some (.int .i64 x) := by
  have hi : i < f.length := by
    rcases Nat.lt_or_ge i f.length with c | c
    · exact c
    · rw [List.getElem?_eq_none c] at hx; cases hx
  have := h.flen
  rw [World.ownsRow.cellAt h i (by omega), List.getElem?_map, hx]; rfl
theorem FRow.frozen (h : FRow E s w B (.slice (some ⟨g, 0, none⟩) n cap) n f) (i : Nat) : w.frozen? ⟨g, i, none⟩ = false := World.ownsRow.frozenAt h i
theorem FRow.stored (h : FRow E s w B (.slice (some ⟨g, 0, none⟩) n cap) n f) (j : Nat) (u : Int) :
    FRow E s (w.setCell ⟨g, j, none⟩ (.int .i64 u)) B (.slice (some ⟨g, 0, none⟩) n cap) n (f.set j u) := by
  have := (World.ownsRow.stored h j (.int .i64 u)).1
  unfold FRow
  rw [List.map_set]
  exact this
theorem FRow.lo (h : FRow E s w B (.slice (some ⟨g, 0, none⟩) n cap) n f) : B ≤ g ∧ g < w.heap.size := World.ownsRow.lt h g rfl
end

/-- A new slice of literals. -/
theorem FRow.made (E s : Nat) (w : World) (B : Nat) (n : Nat) (f : List Int) (hB : B ≤ w.heap.size) (hn : n ≤ 1000000) (hf : f.length = n * s) :
    FRow E s (w.alloc (.cells (f.map (Value.int .i64)).toArray E)) B (.slice (some ⟨w.heap.size, 0, none⟩) n n) n f := by
  have := World.ownsRow_lit (e := E) (size := s) (base := B) w (f.map (Value.int .i64)).toArray n hB (by unfold maxLen; omega) (by simpa using hf)
  simpa [FRow] using this

/-- append(v, x), x one struct, laid in a new block of its own. -/
theorem fpush_wp {P : Program} (E s T bytes : Nat) (i : TypeInfo) (z : Value) (ht : P.underlying T = some (.slice E)) (hi : P.info? E = some i) (hz : i.zero = some z) (hs : i.size = s) (hby : i.bytes = bytes) (hzs : z.cells.size = s) (hsz : 0 < s) (hb8 : bytes ≤ 100)
    (w : World) {o : Oper} {a : Act} {K : Act → World → Prop} {Q : Exit → Act → World → Prop} (so x : Operand)
    (ho : o.op = .call { callee := .builtin .append, args := #[so, x], argTypes := #[T, T] }) (B : Nat) (v : Value) (n : Nat) (f : List Int) (hv : a.eval so = v) (hown : FRow E s w B v n f)
    (g : Nat) (y : List Int) (hx : a.eval x = .slice (some ⟨g, 0, none⟩) 1 1) (hy : y.length = s) (hc : ∀ j u, y[j]? = some u → w.cell? ⟨g, j, none⟩ = some (.int .i64 u)) (hl : n ≤ 1000000000000) (hB : B ≤ w.heap.size)
    (h : ∀ v' w', FRow E s w' B v' (n + 1) (f ++ y) → Below B w w' → K (a.put o.dst v') w') : o.wp P a w K Q := by
  refine wp_append_own w so x T ho B E i z s bytes ht hi hz hs hby hzs hsz v _ _ hv hown ⟨g, 0, none⟩ 1 1 (y.map (Value.int .i64)) hx (by simpa using hy) ?_ ?_ ?_ ?_ hB ?_
  · intro j u hj
    rw [List.getElem?_map] at hj
    cases hyj : y[j]? with
    | none => rw [hyj] at hj; cases hj
    | some q =>
      rw [hyj] at hj
      have hj : Value.int .i64 q = u := by simpa using hj
      subst hj
      have := hc j q hyj
      unfold Addr.add
      by_cases h0 : j = 0
      · subst h0; simpa using this
      · rw [if_neg h0]; simpa using this
  · intro u hu
    rw [List.mem_map] at hu
    obtain ⟨q, _, rfl⟩ := hu
    rfl
  · unfold maxLen; omega
  · have : (n + 1) * bytes ≤ (1000000000000 + 1) * 100 := Nat.mul_le_mul (by omega) hb8
    omega
  · intro v' w' hown' hg _
    refine h v' w' ?_ ((Below.refl _ _).grown hg hB fun k hk => (World.ownsRow.lt hown k hk).1)
    unfold FRow
    rw [List.map_append]
    exact hown'
/-- In a plain region. -/
theorem fpush {P : Program} (E s T bytes : Nat) (i : TypeInfo) (z : Value) (ht : P.underlying T = some (.slice E)) (hi : P.info? E = some i) (hz : i.zero = some z) (hs : i.size = s) (hby : i.bytes = bytes) (hzs : z.cells.size = s) (hsz : 0 < s) (hb8 : bytes ≤ 100)
    (w : World) {ops : Array Oper} {rest : List Oper} {o : Oper} {a : Act} {Q : Exit → Act → World → Prop} (hgd : o.guard = none) (so x : Operand)
    (ho : o.op = .call { callee := .builtin .append, args := #[so, x], argTypes := #[T, T] }) (B : Nat) (v : Value) (n : Nat) (f : List Int) (hv : a.eval so = v) (hown : FRow E s w B v n f)
    (g : Nat) (y : List Int) (hx : a.eval x = .slice (some ⟨g, 0, none⟩) 1 1) (hy : y.length = s) (hc : ∀ j u, y[j]? = some u → w.cell? ⟨g, j, none⟩ = some (.int .i64 u)) (hl : n ≤ 1000000000000) (hB : B ≤ w.heap.size)
    (h : ∀ v' w', FRow E s w' B v' (n + 1) (f ++ y) → Below B w w' → wpList P ops Q rest (a.put o.dst v') w') : wpList P ops Q (o :: rest) a w :=
  wpList_plain hgd fun _ hK => fpush_wp E s T bytes i z ht hi hz hs hby hzs hsz hb8 w so x ho B v n f hv hown g y hx hy hc hl hB fun v' w' h2 h3 => hK _ _ (h v' w' h2 h3)
/-- The same inside a region that draws its order. -/
theorem fpush_step {P : Program} (E s T bytes : Nat) (i : TypeInfo) (z : Value) (ht : P.underlying T = some (.slice E)) (hi : P.info? E = some i) (hz : i.zero = some z) (hs : i.size = s) (hby : i.bytes = bytes) (hzs : z.cells.size = s) (hsz : 0 < s) (hb8 : bytes ≤ 100)
    (w : World) {ops : Array Oper} {o : Oper} {a : Act} {K : Act → World → Prop} {Q : Exit → Act → World → Prop} {F : Prop} (hgd : o.guard = none) (so x : Operand)
    (ho : o.op = .call { callee := .builtin .append, args := #[so, x], argTypes := #[T, T] }) (B : Nat) (v : Value) (n : Nat) (f : List Int) (hv : a.eval so = v) (hown : FRow E s w B v n f)
    (g : Nat) (y : List Int) (hx : a.eval x = .slice (some ⟨g, 0, none⟩) 1 1) (hy : y.length = s) (hc : ∀ j u, y[j]? = some u → w.cell? ⟨g, j, none⟩ = some (.int .i64 u)) (hl : n ≤ 1000000000000) (hB : B ≤ w.heap.size)
    (h : ∀ v' w', FRow E s w' B v' (n + 1) (f ++ y) → Below B w w' → K (a.put o.dst v') w') : if Region.wanted o (yielded ops a.tmps) = true then Oper.wp P o a w K Q else F := by
  have hw : Region.wanted o (yielded ops a.tmps) = true := by simp [Region.wanted, hgd]
  rw [if_pos hw]
  exact fpush_wp E s T bytes i z ht hi hz hs hby hzs hsz hb8 w so x ho B v n f hv hown g y hx hy hc hl hB h
theorem cells_new (w : World) (E : TypeId) (f : List Int) (j : Nat) (u : Int) (h : f[j]? = some u) : (w.alloc (.cells (f.map (Value.int .i64)).toArray E)).cell? ⟨w.heap.size, j, none⟩ = some (.int .i64 u) := by
  rw [cell_of_row _ _ _ _ _ _ (heap_alloc_new w _)]
  simp [h]
theorem toList_made (z : Value) (s n : Nat) (hz : z.cells.toList = List.replicate s (.int .i64 0)) (hs : 0 < s) : (madeCells z.cells (n * s)).toList = (List.replicate (n * s) (0 : Int)).map (Value.int .i64) := by
  have hsz : z.cells.size = s := by rw [← Array.length_toList, hz]; simp
  apply List.ext_getElem?
  intro j
  by_cases hj : j < n * s
  · have hm : j % s < s := Nat.mod_lt _ hs
    have : z.cells[j % s]? = some (.int .i64 0) := by
      rw [← Array.getElem?_toList, hz]; simp [hm]
    simp [madeCells, hj, hsz]
    rw [getElem!_def, this]
  · simp [madeCells, hj]
/-- make([]T, n). -/
theorem fmake {P : Program} (E s T bytes : Nat) (i : TypeInfo) (z : Value) (ht : P.underlying T = some (.slice E)) (hi : P.info? E = some i) (hz : i.zero = some z) (hs : i.size = s) (hby : i.bytes = bytes) (hzs : z.cells.toList = List.replicate s (.int .i64 0)) (hsz : 0 < s) (hb8 : bytes ≤ 100)
    (w : World) {ops : Array Oper} {rest : List Oper} {o : Oper} {a : Act} {Q : Exit → Act → World → Prop} (hgd : o.guard = none) (l c : Operand)
    (ho : o.op = .makeSlice T l c) (B : Nat) (L C : Int) (n : Nat) (hl : a.eval l = .int .i64 L) (hc : a.eval c = .int .i64 C) (hL : L = n) (hC : C = n) (hn : n ≤ 1000000000) (hB : B ≤ w.heap.size)
    (h : ∀ w', FRow E s w' B (.slice (some ⟨w.heap.size, 0, none⟩) n n) n (List.replicate (n * s) 0) → Below w.heap.size w w' → wpList P ops Q rest (a.put o.dst (.slice (some ⟨w.heap.size, 0, none⟩) n n)) w') : wpList P ops Q (o :: rest) a w := by
  refine wpList_make_full w hgd l c T ho B E i z s ht hi hz hs .i64 .i64 L C n hl hc hL hC ?_ (by unfold maxLen; omega) hB ?_
  · rw [hby]
    have : bytes * n ≤ 100 * 1000000000 := Nat.mul_le_mul hb8 hn
    omega
  · intro w' hown hg
    refine h w' ?_ ⟨hg.os, hg.tape, hg.output, hg.size, fun k hk => hg.block k hk (by simp)⟩
    unfold FRow
    rw [← toList_made z s n hzs hsz]
    exact hown
/-- What lies in a made slice after k rounds. -/
def partD {α : Type} (d : α) (l : List α) (k : Nat) : List α := l.take k ++ List.replicate (l.length - k) d
section
variable {α : Type} (d : α) (l : List α) (k : Nat)
theorem partD_length (h : k ≤ l.length) : (partD d l k).length = l.length := by simp [partD]; omega
theorem partD_zero : partD d l 0 = List.replicate l.length d := by simp [partD]
theorem partD_all : partD d l l.length = l := by simp [partD]
theorem partD_set (h : k < l.length) : (partD d l k).set k (l.getD k d) = partD d l (k + 1) := by
  have hl : (l.take k).length = k := by rw [List.length_take]; omega
  unfold partD
  rw [List.set_append_right _ _ (by omega), hl, Nat.sub_self, List.take_succ_eq_append_getElem h]
  obtain ⟨m, hm⟩ : ∃ m, l.length - k = m + 1 := ⟨l.length - k - 1, by omega⟩
  have e : l.getD k d = l[k] := by simp [h]
  rw [hm, List.replicate_succ, List.set_cons_zero, show l.length - (k + 1) = m by omega, e, List.append_assoc]
  rfl
theorem partD_at (h : k < l.length) : (partD d l k)[k]? = some d := by
  have hl : (l.take k).length = k := by rw [List.length_take]; omega
  unfold partD
  rw [List.getElem?_append_right (by omega), hl, Nat.sub_self]
  obtain ⟨m, hm⟩ : ∃ m, l.length - k = m + 1 := ⟨l.length - k - 1, by omega⟩
  rw [hm, List.replicate_succ]; rfl
end
/-- make([]int, n). -/
theorem imake (w : World) {ops : Array Oper} {rest : List Oper} {o : Oper} {a : Act} {Q : Exit → Act → World → Prop} (hgd : o.guard = none) (l c : Operand)
    (ho : o.op = .makeSlice 77 l c) (B : Nat) (L C : Int) (n : Nat) (hl : a.eval l = .int .i64 L) (hc : a.eval c = .int .i64 C) (hL : L = n) (hC : C = n) (hn : n ≤ 1000000000) (hB : B ≤ w.heap.size)
    (h : ∀ w', IRow w' B (.slice (some ⟨w.heap.size, 0, none⟩) n n) (List.replicate n 0) → Below w.heap.size w w' → wpList Try.prog ops Q rest (a.put o.dst (.slice (some ⟨w.heap.size, 0, none⟩) n n)) w') : wpList Try.prog ops Q (o :: rest) a w := by
  obtain ⟨i0, hi0, hz0, hz1, hz2⟩ := info_parts Try.infoInt
  refine fmake 3 1 77 8 i0 _ Try.underlying77 hi0 hz0 hz1 hz2 rfl (by omega) (by omega) w hgd l c ho B L C n hl hc hL hC hn hB fun w' h1 h2 => h w' ?_ h2
  unfold IRow
  rw [List.length_replicate]
  rw [Nat.mul_one] at h1
  exact h1
end Go.Proofs.Ytineinmghajmnaa
namespace Go.Proofs.Ytineinmghajmnaa
open Go.RowKit

/-- The slice value v reads in w as the pixels ps; its cells lie in blocks below B. -/
def Pixs (w : World) (B : Nat) (v : Value) (ps : List Px) : Prop :=
  ∃ A c, v = .slice A ps.length c ∧ ps.length ≤ 9223372036854775807 ∧ ∀ i, i < ps.length → ∃ b o, A = some ⟨b, o, none⟩ ∧ b < B ∧
    w.cell? ⟨b, o + i * 4, none⟩ = some (.int .i64 (pat ps i).r) ∧ w.cell? ⟨b, o + i * 4 + 1, none⟩ = some (.int .i64 (pat ps i).g) ∧
    w.cell? ⟨b, o + i * 4 + 2, none⟩ = some (.int .i64 (pat ps i).b) ∧ w.cell? ⟨b, o + i * 4 + 3, none⟩ = some (.int .i64 (pat ps i).a)
section
variable {w w' : World} {B B' : Nat} {v : Value} {ps : List Px}
theorem Pixs.keep (h : Pixs w B v ps) (hk : ∀ b o, b < B → w'.cell? ⟨b, o, none⟩ = w.cell? ⟨b, o, none⟩) : Pixs w' B v ps := by
  obtain ⟨A, c, e, hl, hc⟩ := h
  refine ⟨A, c, e, hl, fun i hi => ?_⟩
  obtain ⟨b, o, ea, hb, h1, h2, h3, h4⟩ := hc i hi
  exact ⟨b, o, ea, hb, (hk b _ hb).trans h1, (hk b _ hb).trans h2, (hk b _ hb).trans h3, (hk b _ hb).trans h4⟩
theorem Pixs.below (h : Pixs w B v ps) (hb : Below B w w') : Pixs w' B v ps := h.keep fun b o hlt => hb.cell (p := ⟨b, o, none⟩) hlt
theorem Pixs.drewN (h : Pixs w B v ps) (n : Nat) : Pixs (w.drewN n) B v ps := h
theorem Pixs.drew (h : Pixs w B v ps) : Pixs w.drew B v ps := h
theorem Pixs.more (h : Pixs w B v ps) (hB : B ≤ B') : Pixs w B' v ps := by
  obtain ⟨A, c, e, hl, hc⟩ := h
  refine ⟨A, c, e, hl, fun i hi => ?_⟩
  obtain ⟨b, o, ea, hb, hx⟩ := hc i hi
  exact ⟨b, o, ea, by omega, hx⟩
theorem Pixs.on (h : Pixs w w.heap.size v ps) (hb : Below w.heap.size w w') : Pixs w' w'.heap.size v ps := (h.below hb).more hb.size
theorem Pixs.alloc (h : Pixs w w.heap.size v ps) (o : Obj) : Pixs (w.alloc o) (w.alloc o).heap.size v ps := h.on (bel_alloc (Below.refl _ _) o)
theorem Pixs.nil (w : World) (B : Nat) : Pixs w B (.slice none 0 0) [] := ⟨none, 0, rfl, by simp, fun i hi => absurd hi (by simp)⟩
theorem Pixs.len {A : Option Addr} {n c : Nat} (h : Pixs w B (.slice A n c) ps) : ps.length = n := by
  obtain ⟨A', c', e, _, _⟩ := h
  injection e with _ e _
  exact e.symm
theorem Pixs.max (h : Pixs w B v ps) : ps.length ≤ 9223372036854775807 := by obtain ⟨_, _, _, hl, _⟩ := h; exact hl
end
end Go.Proofs.Ytineinmghajmnaa
namespace Go.Proofs.Ytineinmghajmnaa
open Go.RowKit

/-- The cells of a list of pixels. -/
def flat4 (ps : List Px) : List Int := ps.flatMap fun p => [p.r, p.g, p.b, p.a]
theorem flat4_nil : flat4 [] = [] := rfl
theorem flat4_cons (p : Px) (ps : List Px) : flat4 (p :: ps) = p.r :: p.g :: p.b :: p.a :: flat4 ps := rfl
theorem flat4_append (ps qs : List Px) : flat4 (ps ++ qs) = flat4 ps ++ flat4 qs := by simp [flat4]
theorem flat4_length (ps : List Px) : (flat4 ps).length = ps.length * 4 := by
  induction ps with
  | nil => rfl
  | cons p ps ih => rw [flat4_cons]; simp only [List.length_cons, ih]; omega
theorem flat4_get (ps : List Px) (i : Nat) (h : i < ps.length) : (flat4 ps)[i * 4]? = some (pat ps i).r ∧ (flat4 ps)[i * 4 + 1]? = some (pat ps i).g ∧ (flat4 ps)[i * 4 + 2]? = some (pat ps i).b ∧ (flat4 ps)[i * 4 + 3]? = some (pat ps i).a := by
  induction ps generalizing i with
  | nil => simp at h
  | cons p ps ih =>
    cases i with
    | zero => exact ⟨rfl, rfl, rfl, rfl⟩
    | succ i =>
      have hi := ih i (by simpa using h)
      have e : (i + 1) * 4 = i * 4 + 1 + 1 + 1 + 1 := by omega
      have ep : pat (p :: ps) (i + 1) = pat ps i := by simp [pat]
      rw [flat4_cons, e, ep]
      exact hi
theorem flat4_set (ps : List Px) (i : Nat) (p : Px) (h : i < ps.length) : flat4 (ps.set i p) = ((((flat4 ps).set (i * 4) p.r).set (i * 4 + 1) p.g).set (i * 4 + 2) p.b).set (i * 4 + 3) p.a := by
  induction ps generalizing i with
  | nil => simp at h
  | cons q ps ih =>
    cases i with
    | zero => rfl
    | succ i =>
      have hi := ih i (by simpa using h)
      have e : (i + 1) * 4 = i * 4 + 1 + 1 + 1 + 1 := by omega
      rw [List.set_cons_succ, flat4_cons, hi, flat4_cons, e]
      rfl
theorem flat4_rep (n : Nat) : flat4 (List.replicate n Px.zero) = List.replicate (n * 4) 0 := by
  induction n with
  | zero => rfl
  | succ n ih =>
    rw [List.replicate_succ, flat4_cons, ih, show (n + 1) * 4 = n * 4 + 1 + 1 + 1 + 1 by omega]
    rfl
/-- The slice value v is the call's own and holds the pixels ps. -/
def PRow (w : World) (B : Nat) (v : Value) (ps : List Px) : Prop := FRow 27 4 w B v ps.length (flat4 ps)
section
variable {w w' : World} {B B' : Nat} {v : Value} {ps : List Px}
theorem PRow.nil (w : World) (B : Nat) : PRow w B (.slice none 0 0) [] := FRow.nil _ _ _ _
theorem PRow.drewN (h : PRow w B v ps) (n : Nat) : PRow (w.drewN n) B v ps := h
theorem PRow.drew (h : PRow w B v ps) : PRow w.drew B v ps := h
theorem PRow.alloc (h : PRow w B v ps) (o : Obj) : PRow (w.alloc o) B v ps := FRow.alloc h o
theorem PRow.below (h : PRow w B v ps) (hb : Below w.heap.size w w') : PRow w' B v ps := FRow.below h hb
theorem PRow.mono (h : PRow w B v ps) (hB : B' ≤ B) : PRow w B' v ps := World.ownsRow.mono h hB
theorem PRow.shape (h : PRow w B v ps) : ∃ A cap, v = .slice A ps.length cap := FRow.shape h
theorem PRow.set {g k : Nat} {u : Value} (h : PRow w B v ps) (hg : g < B) (hB : B' ≤ B) : PRow (w.setCell ⟨g, k, none⟩ u) B' v ps :=
  World.ownsRow.mono (ownsRow_setCell_below h (a := ⟨g, k, none⟩) hg u) hB
theorem PRow.pixs (h : PRow w B v ps) : Pixs w w.heap.size v ps := by
  have h0 := h
  rcases h with ⟨hl, ⟨rfl, hn⟩ | ⟨g, cap, cur, rfl, hB, hg, hnc, hcm, hcs, ht⟩⟩
  · have : ps = [] := List.eq_nil_of_length_eq_zero hn
    subst this
    exact Pixs.nil _ _
  · refine ⟨_, _, rfl, by unfold maxLen at hcm; omega, fun i hi => ⟨g, 0, rfl, (World.ownsRow.lt h0 g rfl).2, ?_⟩⟩
    have hh := flat4_get ps i hi
    have h1 : FRow 27 4 w B (.slice (some ⟨g, 0, none⟩) ps.length cap) ps.length (flat4 ps) := h0
    simp only [Nat.zero_add]
    exact ⟨h1.cell hh.1, h1.cell hh.2.1, h1.cell hh.2.2.1, h1.cell hh.2.2.2⟩
end
theorem Try.infoPx : (Try.prog.info? 27).map (fun i => (i.zero, i.size, i.bytes)) = some (some (.agg #[.int .i64 0, .int .i64 0, .int .i64 0, .int .i64 0]), 4, 32) := by kernel_rfl
/-- append(v, p), p in a new block. -/
theorem ppush (w : World) {ops : Array Oper} {rest : List Oper} {o : Oper} {a : Act} {Q : Exit → Act → World → Prop} (hgd : o.guard = none) (s x : Operand)
    (ho : o.op = .call { callee := .builtin .append, args := #[s, x], argTypes := #[22, 22] }) (B : Nat) (v : Value) (ps : List Px) (hs : a.eval s = v) (hown : PRow w B v ps)
    (p : Px) (gx : Nat) (hx : a.eval x = .slice (some ⟨gx, 0, none⟩) 1 1) (hgx : gx = w.heap.size) (hl : ps.length ≤ 1000000000000) (hB : B ≤ w.heap.size)
    (h : ∀ v' w', PRow w' B v' (ps ++ [p]) → Below B w w' → wpList Try.prog ops Q rest (a.put o.dst v') w') :
    wpList Try.prog ops Q (o :: rest) a (w.alloc (.cells #[.int .i64 p.r, .int .i64 p.g, .int .i64 p.b, .int .i64 p.a] 27)) := by
  subst hgx
  obtain ⟨i0, hi0, hz0, hz1, hz2⟩ := info_parts Try.infoPx
  refine fpush 27 4 22 32 i0 _ Try.underlying22 hi0 hz0 hz1 hz2 rfl (by omega) (by omega) _ hgd s x ho B v ps.length (flat4 ps) hs (FRow.alloc hown _) w.heap.size [p.r, p.g, p.b, p.a] hx rfl ?_ hl (Nat.le_trans hB (by simp)) fun v' w' h1 h2 => h v' w' ?_ (((Below.refl _ _).alloc hB _).trans h2)
  · exact cells_new w 27 [p.r, p.g, p.b, p.a]
  · unfold PRow
    rw [List.length_append, flat4_append]
    exact h1
end Go.Proofs.Ytineinmghajmnaa
namespace Go.Proofs.Ytineinmghajmnaa
open Go.RowKit

def Bx (w : World) (g : Nat) (t : TypeId) (vs : Array Value) : Prop := w.heap[g]? = some (.cells vs t (0, 0))
section
variable {w w' : World} {g g' : Nat} {t : TypeId} {vs : Array Value}
theorem Bx.lt (h : Bx w g t vs) : g < w.heap.size := by
  unfold Bx at h
  rcases Nat.lt_or_ge g w.heap.size with c | c
  · exact c
  · rw [Array.getElem?_eq_none c] at h; cases h
theorem Bx.below (h : Bx w g t vs) (hb : Below w.heap.size w w') : Bx w' g t vs := (hb.block g h.lt).trans h
theorem Bx.low {B : Nat} (h : Bx w g t vs) (hg : g < B) (hb : Below B w w') : Bx w' g t vs := (hb.block g hg).trans h
theorem Bx.new (w : World) (t : TypeId) (vs : Array Value) : Bx (w.alloc (.cells vs t)) w.heap.size t vs := by
  show (w.heap.push _)[w.heap.size]? = _
  simp
theorem Bx.alloc (h : Bx w g t vs) (o : Obj) : Bx (w.alloc o) g t vs := (Below.heap_alloc w o g h.lt).trans h
theorem Bx.drewN (h : Bx w g t vs) (n : Nat) : Bx (w.drewN n) g t vs := h
theorem Bx.drew (h : Bx w g t vs) : Bx w.drew g t vs := h
theorem Bx.other (h : Bx w g t vs) (hne : g ≠ g') (j : Nat) (v : Value) : Bx (w.setCell ⟨g', j, none⟩ v) g t vs := (heap_setCell_other w ⟨g', j, none⟩ g v hne).trans h
theorem Bx.set (h : Bx w g t vs) (j : Nat) (v : Value) : Bx (w.setCell ⟨g, j, none⟩ v) g t (vs.setIfInBounds j v) := heap_setCell_same w g j vs t v h
theorem Bx.cell (h : Bx w g t vs) {j : Nat} {v : Value} (hj : vs[j]? = some v) : w.cell? ⟨g, j, none⟩ = some v := by
  unfold Bx at h
  simp [World.cell?, h, hj]
theorem Bx.frozen (h : Bx w g t vs) (j : Nat) : w.frozen? ⟨g, j, none⟩ = false := frozen_of_row w g j vs t h
end
theorem Bx.two {w : World} {g : Nat} {t : TypeId} {a b : Value} (h : Bx w g t #[a, b]) : (w.cell? ⟨g, 0, none⟩ = some a ∧ w.cell? ⟨g, 1, none⟩ = some b) ∧ (w.frozen? ⟨g, 0, none⟩ = false ∧ w.frozen? ⟨g, 1, none⟩ = false) :=
  ⟨⟨h.cell rfl, h.cell rfl⟩, h.frozen _, h.frozen _⟩
theorem Bx.three {w : World} {g : Nat} {t : TypeId} {a b c : Value} (h : Bx w g t #[a, b, c]) : (w.cell? ⟨g, 0, none⟩ = some a ∧ w.cell? ⟨g, 1, none⟩ = some b ∧ w.cell? ⟨g, 2, none⟩ = some c) ∧ (w.frozen? ⟨g, 0, none⟩ = false ∧ w.frozen? ⟨g, 1, none⟩ = false ∧ w.frozen? ⟨g, 2, none⟩ = false) :=
  ⟨⟨h.cell rfl, h.cell rfl, h.cell rfl⟩, h.frozen _, h.frozen _, h.frozen _⟩
theorem Bx.four {w : World} {g : Nat} {t : TypeId} {a b c d : Value} (h : Bx w g t #[a, b, c, d]) : (w.cell? ⟨g, 0, none⟩ = some a ∧ w.cell? ⟨g, 1, none⟩ = some b ∧ w.cell? ⟨g, 2, none⟩ = some c ∧ w.cell? ⟨g, 3, none⟩ = some d) ∧ (w.frozen? ⟨g, 0, none⟩ = false ∧ w.frozen? ⟨g, 1, none⟩ = false ∧ w.frozen? ⟨g, 2, none⟩ = false ∧ w.frozen? ⟨g, 3, none⟩ = false) :=
  ⟨⟨h.cell rfl, h.cell rfl, h.cell rfl, h.cell rfl⟩, h.frozen _, h.frozen _, h.frozen _, h.frozen _⟩
theorem Bx.six {w : World} {g : Nat} {t : TypeId} {a b c d e f : Value} (h : Bx w g t #[a, b, c, d, e, f]) : (w.cell? ⟨g, 0, none⟩ = some a ∧ w.cell? ⟨g, 1, none⟩ = some b ∧ w.cell? ⟨g, 2, none⟩ = some c ∧ w.cell? ⟨g, 3, none⟩ = some d ∧ w.cell? ⟨g, 4, none⟩ = some e ∧ w.cell? ⟨g, 5, none⟩ = some f) ∧ (w.frozen? ⟨g, 0, none⟩ = false ∧ w.frozen? ⟨g, 1, none⟩ = false ∧ w.frozen? ⟨g, 2, none⟩ = false ∧ w.frozen? ⟨g, 3, none⟩ = false ∧ w.frozen? ⟨g, 4, none⟩ = false ∧ w.frozen? ⟨g, 5, none⟩ = false) :=
  ⟨⟨h.cell rfl, h.cell rfl, h.cell rfl, h.cell rfl, h.cell rfl, h.cell rfl⟩, h.frozen _, h.frozen _, h.frozen _, h.frozen _, h.frozen _, h.frozen _⟩
/-- Six cells are stored. -/
def set6 (w : World) (g : Nat) (a b c d e f : Value) : World := (((((w.setCell ⟨g, 0, none⟩ a).setCell ⟨g, 1, none⟩ b).setCell ⟨g, 2, none⟩ c).setCell ⟨g, 3, none⟩ d).setCell ⟨g, 4, none⟩ e).setCell ⟨g, 5, none⟩ f
theorem set6_bx {w : World} {g : Nat} {t : TypeId} {a' b' c' d' e' f' : Value} (h : Bx w g t #[a', b', c', d', e', f']) (a b c d e f : Value) : Bx (set6 w g a b c d e f) g t #[a, b, c, d, e, f] := by
  have := (((((h.set 0 a).set 1 b).set 2 c).set 3 d).set 4 e).set 5 f
  exact this
theorem set6_other {w : World} {g g' : Nat} {t : TypeId} {vs : Array Value} (h : Bx w g t vs) (hne : g ≠ g') (a b c d e f : Value) : Bx (set6 w g' a b c d e f) g t vs :=
  (((((h.other hne 0 a).other hne 1 b).other hne 2 c).other hne 3 d).other hne 4 e).other hne 5 f
theorem set6_below {B : Nat} {w0 w : World} {g : Nat} (h : Below B w0 w) (hg : B ≤ g) (a b c d e f : Value) : Below B w0 (set6 w g a b c d e f) :=
  (((((h.setCell (p := ⟨g, 0, none⟩) hg a).setCell (p := ⟨g, 1, none⟩) hg b).setCell (p := ⟨g, 2, none⟩) hg c).setCell (p := ⟨g, 3, none⟩) hg d).setCell (p := ⟨g, 4, none⟩) hg e).setCell (p := ⟨g, 5, none⟩) hg f
end Go.Proofs.Ytineinmghajmnaa
namespace Go.Proofs.Ytineinmghajmnaa
open Go.RowKit

/-- Below block B all blocks but g are as they were. -/
structure KB (B g : Nat) (a w : World) : Prop where
  os : w.os = a.os
  tape : w.tape = a.tape
  output : w.output = a.output
  size : a.heap.size ≤ w.heap.size
  block : ∀ k, k < B → k ≠ g → w.heap[k]? = a.heap[k]?
section
variable {B g : Nat} {a w w' : World}
theorem KB.refl (B g : Nat) (w : World) : KB B g w w := ⟨rfl, rfl, rfl, Nat.le_refl _, fun _ _ _ => rfl⟩
theorem KB.trans {c : World} (h : KB B g a w) (k : KB B g w c) : KB B g a c :=
  ⟨k.os.trans h.os, k.tape.trans h.tape, k.output.trans h.output, Nat.le_trans h.size k.size, fun i hi hn => (k.block i hi hn).trans (h.block i hi hn)⟩
theorem KB.below (h : KB B g a w) (hb : Below w.heap.size w w') (hB : B ≤ w.heap.size) : KB B g a w' :=
  h.trans ⟨hb.os, hb.tape, hb.output, hb.size, fun k hk _ => hb.block k (by omega)⟩
theorem KB.drew (h : KB B g a w) : KB B g a w.drew := ⟨h.os, h.tape, h.output, h.size, h.block⟩
theorem KB.drewN (h : KB B g a w) (n : Nat) : KB B g a (w.drewN n) := ⟨h.os, h.tape, h.output, h.size, h.block⟩
theorem KB.alloc (h : KB B g a w) (o : Obj) (hB : B ≤ w.heap.size) : KB B g a (w.alloc o) := h.below (bel_alloc (Below.refl _ _) o) hB
theorem KB.set (h : KB B g a w) (k : Nat) (v : Value) : KB B g a (w.setCell ⟨g, k, none⟩ v) :=
  h.trans ⟨rfl, rfl, rfl, by simp [World.setCell], fun i _ hn => Below.heap_setCell _ _ _ _ hn⟩
theorem KB.grown {row : Option Nat} (h : KB B g a w) (hg : w.grownBy w' row) (hB : B ≤ w.heap.size) (hr : ∀ k, row = some k → B ≤ k) : KB B g a w' :=
  h.trans ⟨hg.os, hg.tape, hg.output, hg.size, fun k hk _ => hg.block k (by omega) (fun e => by have := hr k e.symm; omega)⟩
theorem KB.cell (h : KB B g a w) {k o : Nat} (hk : k < B) (hn : k ≠ g) : w.cell? ⟨k, o, none⟩ = a.cell? ⟨k, o, none⟩ := World.cell?_of_block (a := ⟨k, o, none⟩) (h.block k hk hn)
theorem KB.frozen (h : KB B g a w) {k o : Nat} (hk : k < B) (hn : k ≠ g) : w.frozen? ⟨k, o, none⟩ = a.frozen? ⟨k, o, none⟩ := World.frozen?_of_block (a := ⟨k, o, none⟩) (h.block k hk hn)
theorem KB.toBelow {w0 : World} (h : KB B g a w) (hb : Below w0.heap.size w0 a) (hg : w0.heap.size ≤ g) (hB : w0.heap.size ≤ B) : Below w0.heap.size w0 w :=
  hb.trans ⟨h.os, h.tape, h.output, h.size, fun k hk => h.block k (by omega) (by omega)⟩
end
theorem irow_kept {w w' : World} {B : Nat} {v : Value} {l : List Int} {row : Option Nat} (h : IRow w B v l) (hg : w.grownBy w' row) (hne : ∀ k, v.ownBlock = some k → row ≠ some k) : IRow w' B v l := by
  refine World.ownsRow.kept h hg ?_
  cases e : v.ownBlock with
  | none => exact .inl rfl
  | some k => exact .inr (fun e' => hne k e e'.symm)
theorem irow_lt {w : World} {B : Nat} {v : Value} {l : List Int} (h : IRow w B v l) {k : Nat} (hk : v.ownBlock = some k) : B ≤ k ∧ k < w.heap.size := World.ownsRow.lt h k hk
/-- append(s, y) on a slice of the call's own, behind the block of the one element: where the new slice lies. -/
theorem push_at (w : World) {ops : Array Oper} {rest : List Oper} {o : Oper} {a : Act} {Q : Exit → Act → World → Prop} (hgd : o.guard = none) (s x : Operand)
    (ho : o.op = .call { callee := .builtin .append, args := #[s, x], argTypes := #[77, 77] }) (B : Nat) (v : Value) (xs : List Int) (hs : a.eval s = v) (hown : IRow w B v xs)
    (y : Int) (gx : Nat) (hx : a.eval x = .slice (some ⟨gx, 0, none⟩) 1 1) (hgx : gx = w.heap.size) (hl : xs.length ≤ 1000000000000) (hB : B ≤ w.heap.size)
    (h : ∀ v' w', IRow w' B v' (xs ++ [y]) → w.grownBy w' v.ownBlock → (∀ k, v'.ownBlock = some k → v.ownBlock = some k ∨ w.heap.size ≤ k) → wpList Try.prog ops Q rest (a.put o.dst v') w') :
    wpList Try.prog ops Q (o :: rest) a (w.alloc (.cells #[.int .i64 y] 3)) := by
  subst hgx
  obtain ⟨i0, hi0, hz0, hz1, hz2⟩ := info_parts Try.infoInt
  refine wpList_append_own_at _ hgd s x 77 ho B 3 i0 (.int .i64 0) 1 8 Try.underlying77 hi0 hz0 hz1 hz2 rfl (by decide) v _ _ hs (hown.alloc _) ⟨w.heap.size, 0, none⟩ 1 1 [.int .i64 y] hx rfl ?_ ?_ ?_ ?_ (Nat.le_trans hB (by simp)) ?_
  · intro j u hj
    match j, hj with
    | 0, hj => simp at hj; subst hj; simp [Addr.add]
  · intro u hu; simp at hu; subst hu; rfl
  · unfold maxLen; omega
  · omega
  · intro v' w' hown' hg _ hat
    refine h v' w' ?_ ?_ ?_
    · unfold IRow
      simpa using hown'
    · have h0 := World.grownBy_alloc w (.cells #[.int .i64 y] 3) v.ownBlock
      exact ⟨hg.os.trans h0.os, hg.tape.trans h0.tape, hg.output.trans h0.output, Nat.le_trans h0.size hg.size, fun k hk hn => (hg.block k (Nat.lt_of_lt_of_le hk h0.size) hn).trans (h0.block k hk hn)⟩
    · intro k hk
      rcases hat with e | e
      · left; rw [← e, hk]
      · right; rw [hk] at e; injection e with e; rw [e]; simp
/-- The last element is taken off. -/
theorem irow_pop {w : World} {B g cap : Nat} {xs : List Int} {q : Int} (h : IRow w B (.slice (some ⟨g, 0, none⟩) (xs.length + 1) cap) (xs ++ [q])) : IRow w B (.slice (some ⟨g, 0, none⟩) xs.length cap) xs := by
  unfold IRow at h ⊢
  rw [List.length_append, List.length_singleton, List.map_append] at h
  exact ownsRow_pop (by simp) h
theorem irow_shape1 {w : World} {B : Nat} {xs : List Int} {q : Int} {v : Value} (h : IRow w B v (xs ++ [q])) : ∃ g cap, v = .slice (some ⟨g, 0, none⟩) (xs.length + 1) cap ∧ B ≤ g ∧ g < w.heap.size := by
  obtain ⟨g, cap, e, h1, h2⟩ := h.form (by simp)
  rw [List.length_append, List.length_singleton] at e
  exact ⟨g, cap, e, h1, h2⟩
theorem irow_cap {w : World} {B g n cap : Nat} {xs : List Int} (h : IRow w B (.slice (some ⟨g, 0, none⟩) n cap) xs) : n ≤ cap := by
  rcases h with ⟨_, ⟨h, _⟩ | ⟨g', cap', cur, h, _, _, hnc, _⟩⟩
  · cases h
  · injection h with _ h1 h2
    omega
end Go.Proofs.Ytineinmghajmnaa
