/- The law's own comparison of two curves. -/
import Derived.Test.YtccecikaidonhaaKnotRow
namespace Go.Proofs.Ytccecikaidonhaa
open Go.RowKit

theorem knots_eq_of {xs ys : List (Int × Int)} (hl : xs.length = ys.length) (h : ∀ j, j < xs.length → kx xs j = kx ys j ∧ ky xs j = ky ys j) : xs = ys := by
  apply List.ext_getElem hl
  intro i h1 h2
  have := h i h1
  simp [kx, ky, h1, h2] at this
  exact Prod.ext this.1 this.2
def KSameRel (xs ys : List (Int × Int)) (w : World) (i : Value) (wr : World) : Prop :=
  ∃ k : Nat, k ≤ xs.length ∧ i = .int .i64 k ∧ (∀ j, j < k → kx xs j = kx ys j ∧ ky xs j = ky ys j) ∧ ∃ m, wr = w.drewN m

set_option maxHeartbeats 1000000 in
theorem ksame_any (v1 v2 : Value) (xs ys : List (Int × Int)) (B : Nat) (w : World) (h1 : Knots w B v1 xs) (h2 : Knots w B v2 ys) :
    Calls Try.prog 20 #[v1, v2] w fun e w' => e = .returned (.bool (decide (xs = ys))) ∧ ∃ n, w' = w.drewN n := by
  obtain ⟨A1, c1, rfl, l1, r1⟩ := h1
  obtain ⟨A2, c2, rfl, l2, r2⟩ := h2
  have R1 := Lib.hid r1; clear r1
  have R2 := Lib.hid r2; clear r2
  by_cases hl : xs.length = ys.length
  · have hne : ((xs.length : Int) != ys.length) = false := by simp [hl]
    have HL := Lib.hid hl; clear hl
    go_enter Try.func20, Try.ntmps20
    go_wp2
    go_loopw [5] (KSameRel xs ys w) (fun i _ => xs.length - (intOf i).toNat)
    case atStart => exact ⟨0, Nat.zero_le _, rfl, fun j hj => absurd hj (by omega), 0, rfl⟩
    case round =>
      obtain ⟨k, hk, rfl, hj, m, rfl⟩ := hrel
      have HJ := Lib.hid hj; clear hj
      by_cases hlt : k < xs.length
      · obtain ⟨b, o, rfl, hb, hc, hd⟩ := R1.out k hlt
        obtain ⟨b', o', rfl, hb', hc', hd'⟩ := R2.out k (by have := HL.out; omega)
        have hlt2 : k < ys.length := by have := HL.out; omega
        generalize hx : kx xs k = x at hc
        generalize hy : ky xs k = y at hd
        generalize hx' : kx ys k = x' at hc'
        generalize hy' : ky ys k = y' at hd'
        have HX := Lib.hid hx; clear hx
        have HY := Lib.hid hy; clear hy
        have HX' := Lib.hid hx'; clear hx'
        have HY' := Lib.hid hy'; clear hy'
        by_cases hxy : x = x' ∧ y = y'
        · obtain ⟨rfl, rfl⟩ := hxy
          go_wp2
          go_quiet (fail)
          go_wp2
          go_roundw
          case rel => 
            refine ⟨k + 1, by omega, by go_num, fun j hj => ?_, _, rfl⟩
            by_cases e : j = k
            · subst e; rw [HX.out, HY.out, HX'.out, HY'.out]; exact ⟨rfl, rfl⟩
            · exact HJ.out j (by omega)
          case measure => simp [intOf]; omega
        · have HXY : Hid (¬ (x = x' ∧ y = y')) := hxy
          rcases (show (x == x') = false ∨ (x = x' ∧ (y == y') = false) by
            by_cases e : x = x'
            · right; refine ⟨e, ?_⟩; rw [beq_eq_false_iff_ne]; intro e2; exact hxy ⟨e, e2⟩
            · left; rw [beq_eq_false_iff_ne]; exact e) with en | ⟨rfl, en⟩
          all_goals
            clear hxy
            go_wp2
            go_quiet (fail)
            go_wp2
            go_ret
            refine ⟨ret_bool ?_, _, World.drewN_drewN _ _ _⟩
            symm
            rw [decide_eq_false_iff_not]
            intro e
            first | exact HXY.out ⟨HX.out.symm.trans ((congrArg (fun l => kx l k) e).trans HX'.out), HY.out.symm.trans ((congrArg (fun l => ky l k) e).trans HY'.out)⟩ | exact HXY.out ⟨trivial, HY.out.symm.trans ((congrArg (fun l => ky l k) e).trans HY'.out)⟩
      · go_wp2
        go_ret
        refine ⟨ret_bool ?_, _, rfl⟩
        symm
        rw [decide_eq_true_eq]
        exact knots_eq_of HL.out fun j hj => HJ.out j (by omega)
  · have hne : ((xs.length : Int) != ys.length) = true := by simp; omega
    go_enter Try.func20, Try.ntmps20
    go_wp2
    go_ret
    refine ⟨ret_bool ?_, 0, rfl⟩
    symm
    rw [decide_eq_false_iff_not]
    intro e
    exact hl (by rw [e])
end Go.Proofs.Ytccecikaidonhaa
