/- The law's comparison of masks, and the images and masks of its examples. -/
import Derived.Test.YtgdefgpbaccneaaWandBox
import Derived.Deep.LoopGhost
namespace Go.Proofs.Ytgdefgpbaccneaa
open Go.RowKit

def MSameRel (xs ys : List Int) (w : World) (g : Nat) (i : Value) (wr : World) : Prop :=
  ∃ k : Nat, k ≤ xs.length ∧ g = xs.length - k ∧ i = .int .i64 k ∧ (∀ j, j < k → xs.getD j 0 = ys.getD j 0) ∧ ∃ m, wr = w.drewN m
theorem ints_eq_of {xs ys : List Int} (hl : xs.length = ys.length) (h : ∀ j, j < xs.length → xs.getD j 0 = ys.getD j 0) : xs = ys := by
  apply List.ext_getElem hl
  intro i h1 h2
  have := h i h1
  simpa [h1, h2] using this
theorem two_boxes (w : World) (W H W' H' : Int) (v v' : Value) (w0 : World) (hw : w0 = (w.alloc (.cells #[.int .i64 W, .int .i64 H, v] 29)).alloc (.cells #[.int .i64 W', .int .i64 H', v'] 29)) :
    ImgAt w0 w.heap.size W H v ∧ ImgAt w0 (w.heap.size + 1) W' H' v' ∧ Below w.heap.size w w0 := by
  subst hw
  have a := ImgAt.new w W H v 29
  have b := ImgAt.new (w.alloc (.cells #[.int .i64 W, .int .i64 H, v] 29)) W' H' v' 29
  simp only [World.size_alloc] at b
  exact ⟨a.below (bel1 _ _), b, bel_alloc (bel1 _ _) _⟩

set_option maxHeartbeats 2000000 in
theorem msame_any (W H W' H' : Int) (v1 v2 : Value) (xs ys : List Int) (w : World) (h1 : Ints w w.heap.size v1 xs) (h2 : Ints w w.heap.size v2 ys) :
    Calls Try.prog 11 #[.agg #[.int .i64 W, .int .i64 H, v1], .agg #[.int .i64 W', .int .i64 H', v2]] w
      fun e w' => e = .returned (.bool (decide (W = W' ∧ H = H' ∧ xs = ys))) ∧ Below w.heap.size w w' := by
  obtain ⟨A1, c1, rfl, l1, r1⟩ := h1
  obtain ⟨A2, c2, rfl, l2, r2⟩ := h2
  have R1 := Lib.hid r1; clear r1
  have R2 := Lib.hid r2; clear r2
  have HB := Lib.hid (two_boxes w W H W' H' (.slice A1 xs.length c1) (.slice A2 ys.length c2) _ rfl)
  by_cases hne : W = W' ∧ H = H' ∧ xs.length = ys.length
  rotate_left
  · rcases (show (W != W') = true ∨ ((W != W') = false ∧ (H != H') = true) ∨ ((W != W') = false ∧ (H != H') = false ∧ ((xs.length : Int) != ys.length) = true) by
      by_cases e1 : W = W'
      · by_cases e2 : H = H'
        · right; right
          refine ⟨by simp [e1], by simp [e2], ?_⟩
          simp only [bne_iff_ne]
          intro e; exact hne ⟨e1, e2, by omega⟩
        · right; left; simp [e1, e2]
      · left; simp [e1]) with t1 | ⟨t1, t2⟩ | ⟨t1, t2, t3⟩
    all_goals
      have HNE := Lib.hid hne
      clear hne
      go_enter Try.func11, Try.ntmps11
      go_wp2_with fail
      go_ret
      refine ⟨ret_bool ?_, HB.out.2.2⟩
      symm
      rw [decide_eq_false_iff_not]
      intro e
      exact HNE.out ⟨e.1, e.2.1, by rw [e.2.2]⟩
  · obtain ⟨rfl, rfl, hl⟩ := hne
    have t3 : ((xs.length : Int) != ys.length) = false := by simp [hl]
    have HL := Lib.hid hl; clear hl
    go_enter Try.func11, Try.ntmps11
    go_wp2_with fail
    generalize World.alloc (w.alloc _) _ = w0 at *
    go_loopg [30] xs.length (MSameRel xs ys w0)
    case atStart => exact ⟨0, Nat.zero_le _, rfl, rfl, fun j hj => absurd hj (by omega), 0, rfl⟩
    case round =>
      obtain ⟨k, hk, rfl, rfl, hj, m, rfl⟩ := hrel
      have HJ := Lib.hid hj; clear hj
      have HB0 := Lib.hid HB.out.2.2
      obtain ⟨⟨b0, b1, b2, b3⟩, ⟨d0, d1, d2, d3⟩, hbl⟩ := HB.out
      by_cases hlt : k < xs.length
      · obtain ⟨b, o, rfl, hb, hc⟩ := R1.out k hlt
        have hlt2 : k < ys.length := by have := HL.out; omega
        obtain ⟨b', o', rfl, hb', hc'⟩ := R2.out k hlt2
        replace hc := (hbl.cell (p := ⟨b, o + k, none⟩) hb).trans hc
        replace hc' := (hbl.cell (p := ⟨b', o' + k, none⟩) hb').trans hc'
        have hbz : b < w0.heap.size := Nat.lt_of_lt_of_le hb hbl.size
        have hbz' : b' < w0.heap.size := Nat.lt_of_lt_of_le hb' hbl.size
        clear hbl hb hb'
        have hk0 : (0 : Int) ≤ (k : Int) := by omega
        have hk1 : (k : Int) < (xs.length : Int) := by omega
        have hk2 : (k : Int) < (ys.length : Int) := by omega
        generalize hx : xs.getD k 0 = x at hc
        generalize hy : ys.getD k 0 = y at hc'
        have HX := Lib.hid hx; clear hx
        have HY := Lib.hid hy; clear hy
        by_cases hxy : x = y
        · subst hxy
          go_wp2_with fail
          go_quiet (fail)
          go_wp2_with fail
          go_roundg (xs.length - (k + 1))
          case measure => omega
          case rel =>
            refine ⟨k + 1, by omega, rfl, by go_num, fun j hj => ?_, _, rfl⟩
            by_cases e : j = k
            · subst e; rw [HX.out, HY.out]
            · exact HJ.out j (by omega)
        · have en : (x != y) = true := by simp [hxy]
          have HXY := Lib.hid hxy; clear hxy
          go_wp2_with fail
          go_quiet (fail)
          go_wp2_with fail
          go_ret
          refine ⟨ret_bool ?_, Below.drewN' (Below.drewN' HB0.out _) _⟩
          symm
          rw [decide_eq_false_iff_not]
          intro e
          exact HXY.out (HX.out.symm.trans ((congrArg (fun l => l.getD k 0) e.2.2).trans HY.out))
      · go_wp2_with fail
        go_ret
        refine ⟨ret_bool ?_, Below.drewN' HB0.out _⟩
        symm
        rw [decide_eq_true_eq]
        exact ⟨by trivial, by trivial, ints_eq_of HL.out fun j hj => HJ.out j (by omega)⟩
end Go.Proofs.Ytgdefgpbaccneaa
