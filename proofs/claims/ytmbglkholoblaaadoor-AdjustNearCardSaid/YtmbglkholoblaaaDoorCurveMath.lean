/- Piecewise-linear curves as plain lists of pairs of integers: what Check, At, Rising, Back come to; the promises. No program in sight. -/
import Derived.Test.YtmbglkholoblaaaDoorMath
namespace Go.Proofs.YtmbglkholoblaaaDoor

/-- The knot at a place. -/
def kx (ks : List (Int × Int)) (i : Nat) : Int := (ks.getD i (0, 0)).1
def ky (ks : List (Int × Int)) (i : Nat) : Int := (ks.getD i (0, 0)).2

/-- The error among the knots from a place on, p being the X before them. -/
def chkFrom (p : Int) : List (Int × Int) → Int
  | [] => 0
  | q :: r => if ¬ (0 ≤ q.1 ∧ q.1 ≤ 65535 ∧ 0 ≤ q.2 ∧ q.2 ≤ 65535) then 2 else if q.1 ≤ p then 24 else chkFrom q.1 r
def chk (ks : List (Int × Int)) : Int := if ks.length < 2 then 1 else if 16 < ks.length then 3 else chkFrom (-1) ks
/-- The X before a place. -/
def px (ks : List (Int × Int)) : Nat → Int
  | 0 => -1
  | k + 1 => kx ks k

theorem drop_cons (ks : List (Int × Int)) (k : Nat) (h : k < ks.length) : ks.drop k = (kx ks k, ky ks k) :: ks.drop (k + 1) := by
  have e : (kx ks k, ky ks k) = ks[k] := by simp [kx, ky, h]
  rw [List.drop_eq_getElem_cons h, e]
theorem chk_bad (ks : List (Int × Int)) (k : Nat) (h : k < ks.length) (hb : ¬ (0 ≤ kx ks k ∧ kx ks k ≤ 65535 ∧ 0 ≤ ky ks k ∧ ky ks k ≤ 65535)) : chkFrom (px ks k) (ks.drop k) = 2 := by
  rw [drop_cons ks k h]; unfold chkFrom; rw [if_pos hb]
theorem chk_ord (ks : List (Int × Int)) (k : Nat) (h : k < ks.length) (hb : 0 ≤ kx ks k ∧ kx ks k ≤ 65535 ∧ 0 ≤ ky ks k ∧ ky ks k ≤ 65535) (ho : kx ks k ≤ px ks k) : chkFrom (px ks k) (ks.drop k) = 24 := by
  rw [drop_cons ks k h]; unfold chkFrom; rw [if_neg (not_not_intro hb), if_pos ho]
theorem chk_next (ks : List (Int × Int)) (k : Nat) (h : k < ks.length) (hb : 0 ≤ kx ks k ∧ kx ks k ≤ 65535 ∧ 0 ≤ ky ks k ∧ ky ks k ≤ 65535) (ho : ¬ kx ks k ≤ px ks k) : chkFrom (px ks k) (ks.drop k) = chkFrom (px ks (k + 1)) (ks.drop (k + 1)) := by
  rw [drop_cons ks k h]; conv => lhs; unfold chkFrom
  rw [if_neg (not_not_intro hb), if_neg ho]; rfl
theorem chk_end (ks : List (Int × Int)) : chkFrom (px ks ks.length) (ks.drop ks.length) = 0 := by simp [chkFrom]

/-- A curve without error. -/
structure Good (ks : List (Int × Int)) : Prop where
  n2 : 2 ≤ ks.length
  n16 : ks.length ≤ 16
  rng : ∀ i, i < ks.length → 0 ≤ kx ks i ∧ kx ks i ≤ 65535 ∧ 0 ≤ ky ks i ∧ ky ks i ≤ 65535
  ord : ∀ i, i + 1 < ks.length → kx ks i < kx ks (i + 1)

theorem good_from (ks : List (Int × Int)) : ∀ (m k : Nat), k + m = ks.length → chkFrom (px ks k) (ks.drop k) = 0 →
    (∀ i, k ≤ i → i < ks.length → 0 ≤ kx ks i ∧ kx ks i ≤ 65535 ∧ 0 ≤ ky ks i ∧ ky ks i ≤ 65535) ∧ (∀ i, k ≤ i → i < ks.length → px ks i < kx ks i)
  | 0, k, hm, _ => ⟨fun i h1 h2 => absurd h1 (by omega), fun i h1 h2 => absurd h1 (by omega)⟩
  | m + 1, k, hm, h => by
    have hk : k < ks.length := by omega
    by_cases hb : 0 ≤ kx ks k ∧ kx ks k ≤ 65535 ∧ 0 ≤ ky ks k ∧ ky ks k ≤ 65535
    · by_cases ho : kx ks k ≤ px ks k
      · rw [chk_ord ks k hk hb ho] at h; cases h
      · rw [chk_next ks k hk hb ho] at h
        obtain ⟨h1, h2⟩ := good_from ks m (k + 1) (by omega) h
        constructor
        · intro i hi hl
          by_cases e : i = k
          · subst e; exact hb
          · exact h1 i (by omega) hl
        · intro i hi hl
          by_cases e : i = k
          · subst e; omega
          · exact h2 i (by omega) hl
    · rw [chk_bad ks k hk hb] at h; cases h
theorem from_good (ks : List (Int × Int)) (g : Good ks) : ∀ (m k : Nat), k + m = ks.length → chkFrom (px ks k) (ks.drop k) = 0
  | 0, k, hm => by have : k = ks.length := by omega
                   subst this; exact chk_end ks
  | m + 1, k, hm => by
    have hk : k < ks.length := by omega
    have hr := g.rng k hk
    rw [chk_next ks k hk hr (by
      cases k with
      | zero => show ¬ kx ks 0 ≤ -1; omega
      | succ j => have := g.ord j hk; show ¬ kx ks (j + 1) ≤ kx ks j; omega)]
    exact from_good ks g m (k + 1) (by omega)
theorem chk_iff (ks : List (Int × Int)) : chk ks = 0 ↔ Good ks := by
  unfold chk
  constructor
  · intro h
    split at h
    · cases h
    · split at h
      · cases h
      · obtain ⟨h1, h2⟩ := good_from ks ks.length 0 (by omega) h
        exact ⟨by omega, by omega, fun i hi => h1 i (by omega) hi, fun i hi => h2 (i + 1) (by omega) hi⟩
  · intro g
    have h1 := g.n2
    have h2 := g.n16
    rw [if_neg (by omega), if_neg (by omega)]
    exact from_good ks g ks.length 0 (by omega)
theorem chk_le (ks : List (Int × Int)) : 0 ≤ chk ks ∧ chk ks ≤ 24 := by
  have h : ∀ (l : List (Int × Int)) (p : Int), 0 ≤ chkFrom p l ∧ chkFrom p l ≤ 24 := by
    intro l
    induction l with
    | nil => intro p; simp [chkFrom]
    | cons q r ih =>
      intro p
      unfold chkFrom
      split
      · omega
      · split
        · omega
        · exact ih _
  unfold chk
  split
  · omega
  · split
    · omega
    · exact h _ _

/-- Between two knots. -/
def lin (x0 y0 x1 y1 x : Int) : Int := y0 + rdiv ((y1 - y0) * (x - x0)) (x1 - x0)
def valGo (p : Int × Int) : List (Int × Int) → Int → Int
  | [], _ => p.2
  | q :: r, x => if x < q.1 then lin p.1 p.2 q.1 q.2 x else valGo q r x
/-- The value of a curve without error. -/
def val (ks : List (Int × Int)) (x : Int) : Int := if x ≤ kx ks 0 then ky ks 0 else valGo (kx ks 0, ky ks 0) (ks.drop 1) x
def cat (ks : List (Int × Int)) (x : Int) : Int := if chk ks = 0 then val ks x else min 65535 (max x 0)
theorem val_hit (ks : List (Int × Int)) (k : Nat) (x : Int) (h : k + 1 < ks.length) (hx : x < kx ks (k + 1)) : valGo (kx ks k, ky ks k) (ks.drop (k + 1)) x = lin (kx ks k) (ky ks k) (kx ks (k + 1)) (ky ks (k + 1)) x := by
  rw [drop_cons ks (k + 1) h]; unfold valGo; rw [if_pos hx]
theorem val_next (ks : List (Int × Int)) (k : Nat) (x : Int) (h : k + 1 < ks.length) (hx : ¬ x < kx ks (k + 1)) : valGo (kx ks k, ky ks k) (ks.drop (k + 1)) x = valGo (kx ks (k + 1), ky ks (k + 1)) (ks.drop (k + 1 + 1)) x := by
  rw [drop_cons ks (k + 1) h]; conv => lhs; unfold valGo
  rw [if_neg hx]
theorem val_last (ks : List (Int × Int)) (k : Nat) (x : Int) (h : k + 1 = ks.length) : valGo (kx ks k, ky ks k) (ks.drop (k + 1)) x = ky ks k := by
  rw [h]; simp [valGo]

/-- A rising curve. -/
structure Ris (ks : List (Int × Int)) : Prop where
  good : Good ks
  x0 : kx ks 0 = 0
  y0 : ky ks 0 = 0
  x1 : kx ks (ks.length - 1) = 65535
  y1 : ky ks (ks.length - 1) = 65535
  up : ∀ i, i + 1 < ks.length → ky ks i < ky ks (i + 1)
end Go.Proofs.YtmbglkholoblaaaDoor
