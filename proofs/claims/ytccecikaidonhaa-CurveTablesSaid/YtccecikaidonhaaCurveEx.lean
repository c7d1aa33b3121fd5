/- The chapter's examples hold. -/
import Derived.Test.YtccecikaidonhaaCurveInv
import Derived.Test.YtccecikaidonhaaCurveBack
namespace Go.Proofs.Ytccecikaidonhaa
open Go.RowKit

theorem Knots.alloc {w : World} {v : Value} {ks : List (Int × Int)} (h : Knots w w.heap.size v ks) (o : Obj) : Knots (w.alloc o) (w.alloc o).heap.size v ks := h.on ((Below.refl _ _).alloc (Nat.le_refl _) _)
/-- A literal slice, laid in a new block. -/
theorem knots_lit (w : World) (ks : List (Int × Int)) (cs : Array Value) (g n : Nat) (hl : ks.length ≤ 1000000) (hcs : cs = ((flat2 ks).map (Value.int .i64)).toArray) (hg : g = w.heap.size) (hn : n = ks.length) :
    Knots (w.alloc (.cells cs 33)) (w.alloc (.cells cs 33)).heap.size (.slice (some ⟨g, 0, none⟩) n n) ks := by
  subst hcs hg hn
  have h : KRow _ _ _ ks := FRow.made 33 2 w 0 ks.length (flat2 ks) (by omega) hl (flat2_length ks)
  exact h.knots (by omega)
def exK : List (Int × Int) := [(100, 7), (200, 9)]
def exFall : List (Int × Int) := [(0, 65535), (65535, 0)]
def exUp : List (Int × Int) := [(0, 0), (2, 4), (65535, 65535)]
theorem ex_chk : chk [(0, 0), (0, 5)] = 24 := by decide +kernel
theorem ex_a : cat exK (-5) = 7 := by decide +kernel
theorem ex_b : cat exK 125 = 8 := by decide +kernel
theorem ex_c : cat exK 300 = 9 := by decide +kernel
theorem ex_d : cat exFall 1 = 65534 := by decide +kernel
theorem ex_e : ierr exFall = 1 := by decide +kernel
theorem ex_r : Ris exUp := (risB_iff _).1 (by decide +kernel)
theorem ex_back (b : Int) (h : IsBack exUp 3 b) : b = 2 :=
  IsBack.unique ex_r h ⟨by omega, by omega, by decide +kernel, .inr (by decide +kernel)⟩

theorem ex_knots (w : World) : Knots (((w.alloc (.cells #[.int .i64 100, .int .i64 7, .int .i64 200, .int .i64 9] 33)).alloc (.cells #[.int .i64 0, .int .i64 65535, .int .i64 65535, .int .i64 0] 33)).alloc (.cells #[.int .i64 0, .int .i64 0, .int .i64 2, .int .i64 4, .int .i64 65535, .int .i64 65535] 33)) (((w.alloc (.cells #[.int .i64 100, .int .i64 7, .int .i64 200, .int .i64 9] 33)).alloc (.cells #[.int .i64 0, .int .i64 65535, .int .i64 65535, .int .i64 0] 33)).alloc (.cells #[.int .i64 0, .int .i64 0, .int .i64 2, .int .i64 4, .int .i64 65535, .int .i64 65535] 33)).heap.size (.slice (some ⟨w.heap.size, 0, none⟩) 2 2) exK ∧ Knots (((w.alloc (.cells #[.int .i64 100, .int .i64 7, .int .i64 200, .int .i64 9] 33)).alloc (.cells #[.int .i64 0, .int .i64 65535, .int .i64 65535, .int .i64 0] 33)).alloc (.cells #[.int .i64 0, .int .i64 0, .int .i64 2, .int .i64 4, .int .i64 65535, .int .i64 65535] 33)) (((w.alloc (.cells #[.int .i64 100, .int .i64 7, .int .i64 200, .int .i64 9] 33)).alloc (.cells #[.int .i64 0, .int .i64 65535, .int .i64 65535, .int .i64 0] 33)).alloc (.cells #[.int .i64 0, .int .i64 0, .int .i64 2, .int .i64 4, .int .i64 65535, .int .i64 65535] 33)).heap.size (.slice (some ⟨w.heap.size + 1, 0, none⟩) 2 2) exFall ∧
    Knots (((w.alloc (.cells #[.int .i64 100, .int .i64 7, .int .i64 200, .int .i64 9] 33)).alloc (.cells #[.int .i64 0, .int .i64 65535, .int .i64 65535, .int .i64 0] 33)).alloc (.cells #[.int .i64 0, .int .i64 0, .int .i64 2, .int .i64 4, .int .i64 65535, .int .i64 65535] 33)) (((w.alloc (.cells #[.int .i64 100, .int .i64 7, .int .i64 200, .int .i64 9] 33)).alloc (.cells #[.int .i64 0, .int .i64 65535, .int .i64 65535, .int .i64 0] 33)).alloc (.cells #[.int .i64 0, .int .i64 0, .int .i64 2, .int .i64 4, .int .i64 65535, .int .i64 65535] 33)).heap.size (.slice (some ⟨w.heap.size + 2, 0, none⟩) 3 3) exUp ∧ Below w.heap.size w (((w.alloc (.cells #[.int .i64 100, .int .i64 7, .int .i64 200, .int .i64 9] 33)).alloc (.cells #[.int .i64 0, .int .i64 65535, .int .i64 65535, .int .i64 0] 33)).alloc (.cells #[.int .i64 0, .int .i64 0, .int .i64 2, .int .i64 4, .int .i64 65535, .int .i64 65535] 33)) :=
  ⟨((knots_lit _ exK _ _ _ (by decide) rfl rfl rfl).alloc _).alloc _, (knots_lit _ exFall _ _ _ (by decide) rfl (by simp) rfl).alloc _, knots_lit _ exUp _ _ _ (by decide) rfl (by simp) rfl, bel_alloc (bel_alloc (bel_alloc (Below.refl _ _) _) _) _⟩

set_option maxHeartbeats 1000000 in
theorem example_any (w : World) : Calls Try.prog 15 #[] w fun e w' => e = .returned (.bool true) ∧ Below w.heap.size w w' := by
  go_enter Try.func15, Try.ntmps15
  go_wp2_with fail
  obtain ⟨k1, k2, k3, hB0⟩ := ex_knots w
  refine (inverse_any _ exFall _ k2).mono ?_
  rintro e w1 ⟨v1, rfl, _, hb1⟩
  rw [ex_e]
  have k1' := k1.on hb1
  have k2' := k2.on hb1
  have k3' := k3.on hb1
  have hB1 := bel_trans hB0 hb1
  clear k1 k2 k3 hb1 hB0
  go_wp2_with fail
  have hA : Below w1.heap.size w1 (w1.alloc (.cells #[.int .i64 0, .int .i64 0, .int .i64 0, .int .i64 5] 33)) := bel_alloc (Below.refl _ _) _
  refine (check_any _ [(0, 0), (0, 5)] _ (knots_lit _ _ _ _ _ (by decide) rfl rfl rfl)).mono ?_
  rintro e w2 ⟨rfl, hb2⟩
  rw [ex_chk]
  have hB2 := bel_trans hA hb2
  clear hA hb2
  have hk1 := k1'.on hB2
  have hk2 := k2'.on hB2
  have hk3 := k3'.on hB2
  have hB3 := bel_trans hB1 hB2
  clear k1' k2' k3' hB1 hB2
  go_wp2_with fail
  refine (at_any _ exK _ _ hk1).mono ?_
  rintro e w3 ⟨rfl, hb3⟩
  rw [ex_a]
  go_wp2_with fail
  refine (at_any _ exK _ _ (hk1.on hb3)).mono ?_
  rintro e w4 ⟨rfl, hb4⟩
  rw [ex_b]
  go_wp2_with fail
  refine (at_any _ exK _ _ ((hk1.on hb3).on hb4)).mono ?_
  rintro e w5 ⟨rfl, hb5⟩
  rw [ex_c]
  have hB5 := bel_trans (bel_trans hb3 hb4) hb5
  clear hb3 hb4 hb5
  go_wp2_with fail
  refine (at_any _ exFall _ _ (hk2.on hB5)).mono ?_
  rintro e w6 ⟨rfl, hb6⟩
  rw [ex_d]
  have hB6 := bel_trans hB5 hb6
  go_wp2_with fail
  refine (back_any _ exUp _ _ (hk3.on hB6) ex_r).mono ?_
  rintro e w7 ⟨b, rfl, hbk, hb7⟩
  rw [ex_back b hbk]
  go_wp2_with fail
  go_ret
  exact ⟨rfl, bel_trans (bel_trans hB3 hB6) hb7⟩
end Go.Proofs.Ytccecikaidonhaa
