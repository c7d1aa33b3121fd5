/- Values of a curve: their bounds, that they do not decrease if the knots do not, and the least place of a value. No program in sight. -/
import Derived.Test.YtmbglkholoblaaaDoorCurveMath
namespace Go.Proofs.YtmbglkholoblaaaDoor

theorem rdiv_ge (a b m : Int) (hb : 0 < b) (h : b * m ≤ a) : m ≤ rdiv a b := by
  have := rdiv_spec a b hb
  rcases Int.lt_or_le (rdiv a b) m with hc | hc
  · have : b * (rdiv a b + 1) ≤ b * m := Int.mul_le_mul_of_nonneg_left (by omega) (by omega)
    rw [Int.mul_add] at this
    omega
  · exact hc
theorem rdiv_le (a b m : Int) (hb : 0 < b) (h : a ≤ b * m) : rdiv a b ≤ m := by
  have := rdiv_spec a b hb
  rcases Int.lt_or_le m (rdiv a b) with hc | hc
  · have : b * (m + 1) ≤ b * rdiv a b := Int.mul_le_mul_of_nonneg_left (by omega) (by omega)
    rw [Int.mul_add] at this
    omega
  · exact hc
theorem rdiv_mono (a a' b : Int) (hb : 0 < b) (h : a ≤ a') : rdiv a b ≤ rdiv a' b := by
  unfold rdiv
  exact Int.ediv_le_ediv (by omega) (by omega)
theorem rdiv_zero (b : Int) (hb : 0 < b) : rdiv 0 b = 0 := by
  unfold rdiv
  exact ediv_unique _ _ _ (by omega) (by omega) (by omega)
theorem lin_start (x0 y0 x1 y1 : Int) (h : x0 < x1) : lin x0 y0 x1 y1 x0 = y0 := by
  unfold lin
  rw [Int.sub_self, Int.mul_zero, rdiv_zero _ (by omega)]; omega
theorem lin_mono (x0 y0 x1 y1 x x' : Int) (h : x0 < x1) (hy : y0 ≤ y1) (hx : x ≤ x') : lin x0 y0 x1 y1 x ≤ lin x0 y0 x1 y1 x' := by
  unfold lin
  have := rdiv_mono ((y1 - y0) * (x - x0)) ((y1 - y0) * (x' - x0)) (x1 - x0) (by omega) (Int.mul_le_mul_of_nonneg_left (by omega) (by omega))
  omega
theorem lin_between (lo hi x0 y0 x1 y1 x : Int) (h : x0 < x1) (hx0 : x0 ≤ x) (hx1 : x ≤ x1) (a0 : lo ≤ y0) (a1 : lo ≤ y1) (b0 : y0 ≤ hi) (b1 : y1 ≤ hi) : lo ≤ lin x0 y0 x1 y1 x ∧ lin x0 y0 x1 y1 x ≤ hi := by
  unfold lin
  rcases Int.le_total y0 y1 with hy | hy
  · have h1 : 0 ≤ (y1 - y0) * (x - x0) := Int.mul_nonneg (by omega) (by omega)
    have h2 : (y1 - y0) * (x - x0) ≤ (y1 - y0) * (x1 - x0) := Int.mul_le_mul_of_nonneg_left (by omega) (by omega)
    have e1 := rdiv_ge ((y1 - y0) * (x - x0)) (x1 - x0) 0 (by omega) (by omega)
    have e2 := rdiv_le ((y1 - y0) * (x - x0)) (x1 - x0) (y1 - y0) (by omega) (by rw [Int.mul_comm (x1 - x0)]; exact h2)
    omega
  · have h1 : 0 ≤ (y0 - y1) * (x - x0) := Int.mul_nonneg (by omega) (by omega)
    have h2 : (y0 - y1) * (x - x0) ≤ (y0 - y1) * (x1 - x0) := Int.mul_le_mul_of_nonneg_left (by omega) (by omega)
    have n1 : (y1 - y0) * (x - x0) = -((y0 - y1) * (x - x0)) := by rw [← Int.neg_mul]; congr 1; omega
    have n2 : (x1 - x0) * (y1 - y0) = -((y0 - y1) * (x1 - x0)) := by rw [Int.mul_comm, ← Int.neg_mul]; congr 1; omega
    have e1 := rdiv_ge ((y1 - y0) * (x - x0)) (x1 - x0) (y1 - y0) (by omega) (by omega)
    have e2 := rdiv_le ((y1 - y0) * (x - x0)) (x1 - x0) 0 (by omega) (by omega)
    omega

theorem go_between (ks : List (Int × Int)) (g : Good ks) (lo hi : Int) (hb : ∀ i, i < ks.length → lo ≤ ky ks i ∧ ky ks i ≤ hi) (x : Int) :
    ∀ (m k : Nat), k + 1 + m = ks.length → kx ks k ≤ x → lo ≤ valGo (kx ks k, ky ks k) (ks.drop (k + 1)) x ∧ valGo (kx ks k, ky ks k) (ks.drop (k + 1)) x ≤ hi
  | 0, k, hm, _ => by rw [val_last ks k x (by omega)]; exact hb k (by omega)
  | m + 1, k, hm, hx => by
    have hk : k + 1 < ks.length := by omega
    by_cases h : x < kx ks (k + 1)
    · rw [val_hit ks k x hk h]
      have b0 := hb k (by omega)
      have b1 := hb (k + 1) hk
      exact lin_between lo hi _ _ _ _ x (g.ord k hk) hx (by omega) b0.1 b1.1 b0.2 b1.2
    · rw [val_next ks k x hk h]
      exact go_between ks g lo hi hb x m (k + 1) (by omega) (by omega)
theorem val_between (ks : List (Int × Int)) (g : Good ks) (lo hi : Int) (hb : ∀ i, i < ks.length → lo ≤ ky ks i ∧ ky ks i ≤ hi) (x : Int) : lo ≤ val ks x ∧ val ks x ≤ hi := by
  have h2 := g.n2
  unfold val
  split
  · exact hb 0 (by omega)
  · exact go_between ks g lo hi hb x (ks.length - 1) 0 (by omega) (by omega)
theorem val_unit (ks : List (Int × Int)) (g : Good ks) (x : Int) : 0 ≤ val ks x ∧ val ks x ≤ 65535 :=
  val_between ks g 0 65535 (fun i hi => by have := g.rng i hi; omega) x

theorem ord_le (ks : List (Int × Int)) (g : Good ks) : ∀ (d k : Nat), k + d < ks.length → kx ks k ≤ kx ks (k + d)
  | 0, k, _ => by simp
  | d + 1, k, h => by
    have h1 := ord_le ks g d k (by omega)
    have h2 := g.ord (k + d) (by omega)
    show kx ks k ≤ kx ks (k + d + 1)
    omega
theorem go_knot (ks : List (Int × Int)) (g : Good ks) (i : Nat) (hi : i < ks.length) :
    ∀ (d k : Nat), k + d = i → valGo (kx ks k, ky ks k) (ks.drop (k + 1)) (kx ks i) = ky ks i
  | 0, k, e => by
    have e : k = i := e
    subst e
    by_cases h : k + 1 < ks.length
    · rw [val_hit ks k _ h (g.ord k h)]
      exact lin_start _ _ _ _ (g.ord k h)
    · exact val_last ks k _ (by omega)
  | d + 1, k, e => by
    have h := ord_le ks g d (k + 1) (by omega)
    rw [show k + 1 + d = i by omega] at h
    rw [val_next ks k _ (by omega) (by omega)]
    exact go_knot ks g i hi d (k + 1) (by omega)
theorem val_knot (ks : List (Int × Int)) (g : Good ks) (i : Nat) (hi : i < ks.length) : val ks (kx ks i) = ky ks i := by
  unfold val
  split
  · rename_i h
    by_cases e : i = 0
    · subst e; rfl
    · have h0 := g.ord 0 (by omega)
      have h1 := ord_le ks g (i - 1) 1 (by omega)
      rw [show 1 + (i - 1) = i by omega] at h1
      have : kx ks (0 + 1) = kx ks 1 := rfl
      omega
  · exact go_knot ks g i hi i 0 (by omega)

theorem go_mono (ks : List (Int × Int)) (g : Good ks) (up : ∀ i, i + 1 < ks.length → ky ks i ≤ ky ks (i + 1)) (x x' : Int) (hxx : x ≤ x') :
    ∀ (m k : Nat), k + 1 + m = ks.length → kx ks k ≤ x' →
      (ky ks k ≤ valGo (kx ks k, ky ks k) (ks.drop (k + 1)) x') ∧ (kx ks k ≤ x → valGo (kx ks k, ky ks k) (ks.drop (k + 1)) x ≤ valGo (kx ks k, ky ks k) (ks.drop (k + 1)) x')
  | 0, k, hm, _ => by rw [val_last ks k x (by omega), val_last ks k x' (by omega)]; exact ⟨Int.le_refl _, fun _ => Int.le_refl _⟩
  | m + 1, k, hm, hx' => by
    have hk : k + 1 < ks.length := by omega
    have ho := g.ord k hk
    have hu := up k hk
    by_cases h' : x' < kx ks (k + 1)
    · rw [val_hit ks k x' hk h', val_hit ks k x hk (by omega)]
      have h1 := lin_mono (kx ks k) (ky ks k) (kx ks (k + 1)) (ky ks (k + 1)) (kx ks k) x' ho hu hx'
      rw [lin_start _ _ _ _ ho] at h1
      exact ⟨h1, fun _ => lin_mono _ _ _ _ _ _ ho hu hxx⟩
    · obtain ⟨h1, h2⟩ := go_mono ks g up x x' hxx m (k + 1) (by omega) (by omega)
      rw [val_next ks k x' hk h']
      refine ⟨by omega, fun hx => ?_⟩
      by_cases h : x < kx ks (k + 1)
      · rw [val_hit ks k x hk h]
        have := lin_between (ky ks k) (ky ks (k + 1)) (kx ks k) (ky ks k) (kx ks (k + 1)) (ky ks (k + 1)) x ho hx (by omega) (by omega) hu hu (by omega)
        omega
      · rw [val_next ks k x hk h]
        exact h2 (by omega)
theorem val_mono (ks : List (Int × Int)) (g : Good ks) (up : ∀ i, i + 1 < ks.length → ky ks i ≤ ky ks (i + 1)) (x x' : Int) (hxx : x ≤ x') : val ks x ≤ val ks x' := by
  have h2 := g.n2
  unfold val
  split
  · split
    · omega
    · exact (go_mono ks g up x x' hxx (ks.length - 1) 0 (by omega) (by omega)).1
  · rw [if_neg (by omega)]
    exact (go_mono ks g up x x' hxx (ks.length - 1) 0 (by omega) (by omega)).2 (by omega)

theorem Ris.mono {ks : List (Int × Int)} (r : Ris ks) {x x' : Int} (h : x ≤ x') : val ks x ≤ val ks x' :=
  val_mono ks r.good (fun i hi => by have := r.up i hi; omega) x x' h
theorem Ris.lo {ks : List (Int × Int)} (r : Ris ks) {x : Int} (h : x ≤ 0) : val ks x = 0 := by
  unfold val; rw [r.x0, if_pos h, r.y0]
theorem Ris.top {ks : List (Int × Int)} (r : Ris ks) : val ks 65535 = 65535 := by
  have := r.good.n2
  have h := val_knot ks r.good (ks.length - 1) (by omega)
  rw [r.x1, r.y1] at h
  exact h
theorem Ris.hi {ks : List (Int × Int)} (r : Ris ks) {x : Int} (h : 65535 ≤ x) : val ks x = 65535 := by
  have h1 := r.mono h
  rw [r.top] at h1
  have := val_unit ks r.good x
  omega
theorem Ris.clamp {ks : List (Int × Int)} (r : Ris ks) (x : Int) : val ks (min 65535 (max x 0)) = val ks x := by
  rcases (show x ≤ 0 ∨ 65535 ≤ x ∨ (0 ≤ x ∧ x ≤ 65535) by omega) with h | h | h
  · rw [r.lo h, show min 65535 (max x 0) = 0 by omega]; exact r.lo (Int.le_refl 0)
  · rw [r.hi h, show min 65535 (max x 0) = 65535 by omega]; exact r.top
  · rw [show min 65535 (max x 0) = x by omega]

/-- The least place at which the curve is at least y. -/
structure IsBack (ks : List (Int × Int)) (y b : Int) : Prop where
  lo : 0 ≤ b
  hi : b ≤ 65535
  ge : y ≤ val ks b
  lt : b = 0 ∨ val ks (b - 1) < y
theorem IsBack.unique {ks : List (Int × Int)} (r : Ris ks) {y b b' : Int} (h : IsBack ks y b) (h' : IsBack ks y b') : b = b' := by
  rcases Int.lt_trichotomy b b' with c | c | c
  · rcases h'.lt with e | e
    · have := h.lo; omega
    · have := r.mono (show b ≤ b' - 1 by omega)
      have := h.ge
      omega
  · exact c
  · rcases h.lt with e | e
    · have := h'.lo; omega
    · have := r.mono (show b' ≤ b - 1 by omega)
      have := h'.ge
      omega
theorem IsBack.least {ks : List (Int × Int)} (r : Ris ks) {x b : Int} (h : IsBack ks (val ks x) b) : b ≤ min 65535 (max x 0) := by
  rcases Int.le_total b (min 65535 (max x 0)) with c | c
  · exact c
  · rcases h.lt with e | e
    · omega
    · by_cases hc : b = min 65535 (max x 0)
      · omega
      · have := r.mono (show min 65535 (max x 0) ≤ b - 1 by omega)
        rw [r.clamp x] at this
        omega
end Go.Proofs.YtmbglkholoblaaaDoor
