/- RasterBoxes: the plain law, and the whole walk. -/
import Derived.Test.YtllmckapiplpcaaRasW8
namespace Go.Proofs.Ytllmckapiplpcaa
open Go.RowKit

/-- b is the box of the first k pixels. -/
def BoxInv (W H : Int) (ps : List Px) (k : Nat) (b : Rc) : Prop :=
  (b = Rc.zero ∧ ∀ j, j < k → (pat ps j).a = 0) ∨
  ((0 ≤ b.x ∧ 0 ≤ b.y ∧ 1 ≤ b.w ∧ 1 ≤ b.h ∧ b.x + b.w ≤ W ∧ b.y + b.h ≤ H) ∧
   (∀ j : Nat, j < k → (pat ps j).a ≠ 0 → b.x ≤ (j : Int) % W ∧ (j : Int) % W < b.x + b.w ∧ b.y ≤ (j : Int) / W ∧ (j : Int) / W < b.y + b.h) ∧
   (∃ j : Nat, j < k ∧ (pat ps j).a ≠ 0 ∧ (j : Int) % W = b.x) ∧ (∃ j : Nat, j < k ∧ (pat ps j).a ≠ 0 ∧ (j : Int) % W = b.x + b.w - 1) ∧
   (∃ j : Nat, j < k ∧ (pat ps j).a ≠ 0 ∧ (j : Int) / W = b.y) ∧ (∃ j : Nat, j < k ∧ (pat ps j).a ≠ 0 ∧ (j : Int) / W = b.y + b.h - 1))
theorem ex_more {P : Nat → Prop} {k : Nat} (h : ∃ j, j < k ∧ P j) : ∃ j, j < k + 1 ∧ P j := by obtain ⟨j, a, b⟩ := h; exact ⟨j, by omega, b⟩
theorem box_inv {W H : Int} {ps : List Px} (i : IOk W H ps) : ∀ k, k ≤ ps.length → BoxInv W H ps k (boxN W ps k)
  | 0, _ => .inl ⟨rfl, fun j hj => absurd hj (by omega)⟩
  | k + 1, hk => by
    have ih := box_inv i k (by omega)
    have hkp : k < (W * H).toNat := by have := i.n; omega
    have hp := place_of hkp (pos_of hkp i.w0)
    by_cases c : (pat ps k).a = 0
    · rw [boxN_skip c]
      rcases ih with ⟨e, h⟩ | ⟨h1, h2, h3, h4, h5, h6⟩
      · refine .inl ⟨e, fun j hj => ?_⟩
        rcases Nat.lt_or_ge j k with d | d
        · exact h j d
        · obtain rfl : j = k := by omega
          exact c
      · refine .inr ⟨h1, fun j hj ha => ?_, ex_more h3, ex_more h4, ex_more h5, ex_more h6⟩
        rcases Nat.lt_or_ge j k with d | d
        · exact h2 j d ha
        · obtain rfl : j = k := by omega
          exact absurd c ha
    · rw [boxN_join c]
      generalize hX : (k : Int) % W = X at *
      generalize hY : (k : Int) / W = Y at *
      rcases ih with ⟨e, h⟩ | ⟨h1, h2, h3, h4, h5, h6⟩
      · rw [e]
        refine .inr ⟨?_, fun j hj ha => ?_, ⟨k, by omega, c, hX⟩, ⟨k, by omega, c, ?_⟩, ⟨k, by omega, c, hY⟩, ⟨k, by omega, c, ?_⟩⟩
        · show 0 ≤ X ∧ 0 ≤ Y ∧ (1 : Int) ≤ 1 ∧ (1 : Int) ≤ 1 ∧ X + 1 ≤ W ∧ Y + 1 ≤ H
          omega
        · rcases Nat.lt_or_ge j k with d | d
          · exact absurd (h j d) ha
          · obtain rfl : j = k := by omega
            show X ≤ (j : Int) % W ∧ (j : Int) % W < X + 1 ∧ Y ≤ (j : Int) / W ∧ (j : Int) / W < Y + 1
            omega
        · show (k : Int) % W = X + 1 - 1
          omega
        · show (k : Int) / W = Y + 1 - 1
          omega
      · generalize boxN W ps k = b at *
        obtain ⟨bx, by', bw, bh⟩ := b
        simp only at h1 h2 h3 h4 h5 h6
        have hj : jn ⟨bx, by', bw, bh⟩ ⟨X, Y, 1, 1⟩ = ⟨min bx X, min by' Y, max (bx + bw) (X + 1) - min bx X, max (by' + bh) (Y + 1) - min by' Y⟩ := by
          unfold jn hull
          rw [if_neg (by simp only; omega)]
        rw [hj]
        refine .inr ⟨?_, fun j hj ha => ?_, ?_, ?_, ?_, ?_⟩
        · simp only; omega
        · simp only
          rcases Nat.lt_or_ge j k with d | d
          · have := h2 j d ha
            omega
          · obtain rfl : j = k := by omega
            omega
        · simp only
          rcases Int.le_total bx X with d | d
          · obtain ⟨j, a1, a2, a3⟩ := h3
            exact ⟨j, by omega, a2, by omega⟩
          · exact ⟨k, by omega, c, by omega⟩
        · simp only
          rcases Int.le_total (X + 1) (bx + bw) with d | d
          · obtain ⟨j, a1, a2, a3⟩ := h4
            exact ⟨j, by omega, a2, by omega⟩
          · exact ⟨k, by omega, c, by omega⟩
        · simp only
          rcases Int.le_total by' Y with d | d
          · obtain ⟨j, a1, a2, a3⟩ := h5
            exact ⟨j, by omega, a2, by omega⟩
          · exact ⟨k, by omega, c, by omega⟩
        · simp only
          rcases Int.le_total (Y + 1) (by' + bh) with d | d
          · obtain ⟨j, a1, a2, a3⟩ := h6
            exact ⟨j, by omega, a2, by omega⟩
          · exact ⟨k, by omega, c, by omega⟩
theorem walk_boxes (v0 : Value) (x0 : Int × Int × List Px) (w : World) (h0 : ImgV w v0 x0) :
    Calls Try.prog 13 #[v0] w fun e w' => e = .returned (.bool true) ∧ Below w.heap.size w w' := by
  obtain ⟨⟨A, n, c, rfl, hp⟩, _, _⟩ := h0
  obtain ⟨W, H, ps⟩ := x0
  obtain rfl := hp.len
  by_cases hc : ichk W H ps = 0
  · have i := (ichk_iff W H ps).1 hc
    have hb := box_inv i ps.length (Nat.le_refl _)
    have T : ∀ w', Pixs w' w'.heap.size (.slice A ps.length c) ps → Calls Try.prog 33 #[.agg #[.int .i64 W, .int .i64 H, .slice A ps.length c]] w' (RcPost (boxN W ps ps.length) w') := by
      intro w' h
      have := box_any W H A c ps w' h
      unfold boxP at this
      rw [if_pos hc] at this
      exact this
    have K : ∀ w', Pixs w' w'.heap.size (.slice A ps.length c) ps → Calls Try.prog 18 #[.agg #[.int .i64 W, .int .i64 H, .slice A ps.length c]] w' fun e w'' => e = .returned (.int .i64 0) ∧ Below w'.heap.size w' w'' := by
      intro w' h
      have := icheck_any W H A ps.length c ps w' h
      rw [hc] at this
      exact this
    generalize boxN W ps ps.length = b at *
    have hw0 := i.w0; have hh0 := i.h0
    have hbd : 0 ≤ b.x ∧ 0 ≤ b.y ∧ 0 ≤ b.w ∧ 0 ≤ b.h ∧ b.w ≤ W ∧ b.h ≤ H ∧ b.x ≤ W - b.w ∧ b.y ≤ H - b.h := by
      rcases hb with ⟨rfl, _⟩ | ⟨h1, _⟩
      · simp only [Rc.zero]; omega
      · omega
    refine boxes_run W H A c ps b (fun j => (pat ps j).a != 0 && ((j : Int) % W == b.x)) (fun j => (pat ps j).a != 0 && ((j : Int) % W == b.x + b.w - 1)) (fun j => (pat ps j).a != 0 && ((j : Int) / W == b.y)) (fun j => (pat ps j).a != 0 && ((j : Int) / W == b.y + b.h - 1)) w hp i
      hbd.1 hbd.2.1 hbd.2.2.1 hbd.2.2.2.1 hbd.2.2.2.2.1 hbd.2.2.2.2.2.1 hbd.2.2.2.2.2.2.1 hbd.2.2.2.2.2.2.2 ?_ (fun j _ ha => by simp [ha]) (fun j _ ha => by simp [ha]) ?_ K T
    · intro j hj ha
      rcases hb with ⟨_, h⟩ | ⟨_, h2, _⟩
      · exact absurd (h j hj) ha
      · exact h2 j hj ha
    · rcases hb with ⟨rfl, _⟩ | ⟨h1, _, ⟨j3, a3, b3, c3⟩, ⟨j4, a4, b4, c4⟩, ⟨j5, a5, b5, c5⟩, ⟨j6, a6, b6, c6⟩⟩
      · exact .inl ⟨rfl, rfl, rfl, rfl⟩
      · exact .inr ⟨h1.2.2.1, anyB_true (j := j3) (by simp [b3, c3]) _ a3, anyB_true (j := j4) (by simp [b4, c4]) _ a4, anyB_true (j := j5) (by simp [b5, c5]) _ a5, anyB_true (j := j6) (by simp [b6, c6]) _ a6⟩
  · exact boxes_no W H A c ps (ichk W H ps) (by simp [hc]) w hp (fun w' h => icheck_any W H A ps.length c ps w' h)
end Go.Proofs.Ytllmckapiplpcaa
