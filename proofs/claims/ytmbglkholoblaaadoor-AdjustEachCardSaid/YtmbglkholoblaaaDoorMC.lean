/- Piecewise-linear curves as plain lists of pairs of integers: what Check, At, Rising, Back come to; the promises. No program in sight. -/
import Derived.Test.YtmbglkholoblaaaDoorMA
import Derived.Deep.RegionHeld3
namespace Go.Proofs.YtmbglkholoblaaaDoor

/-- The knot at a place. -/
def kx (ks : List (Int × Int)) (i : Nat) : Int := (ks.getD i (0, 0)).1
def ky (ks : List (Int × Int)) (i : Nat) : Int := (ks.getD i (0, 0)).2

/-- The error among the knots from a place on, p being the X before them. -/
def chkFrom (p : Int) : List (Int × Int) → Int
  | [] => 0
  | q :: r => if ¬ (0 ≤ q.1 ∧ q.1 ≤ 65535 ∧ 0 ≤ q.2 ∧ q.2 ≤ 65535) then 2 else if q.1 ≤ p then 24 else chkFrom q.1 r
def chk (ks : List (Int × Int)) : Int := if ks.length < 2 then 1 else if 16 < ks.length then 3 else chkFrom (-1) ks
/-- The X before a place. -/
def px (ks : List (Int × Int)) : Nat → Int
  | 0 => -1
  | k + 1 => kx ks k

theorem drop_cons (ks : List (Int × Int)) (k : Nat) (h : k < ks.length) : ks.drop k = (kx ks k, ky ks k) :: ks.drop (k + 1) := by
  have e : (kx ks k, ky ks k) = ks[k] := by simp [kx, ky, h]
  rw [List.drop_eq_getElem_cons h, e]
theorem chk_bad (ks : List (Int × Int)) (k : Nat) (h : k < ks.length) (hb : ¬ (0 ≤ kx ks k ∧ kx ks k ≤ 65535 ∧ 0 ≤ ky ks k ∧ ky ks k ≤ 65535)) : chkFrom (px ks k) (ks.drop k) = 2 := by
  rw [drop_cons ks k h]; unfold chkFrom; rw [if_pos hb]
theorem chk_ord (ks : List (Int × Int)) (k : Nat) (h : k < ks.length) (hb : 0 ≤ kx ks k ∧ kx ks k ≤ 65535 ∧ 0 ≤ ky ks k ∧ ky ks k ≤ 65535) (ho : kx ks k ≤ px ks k) : chkFrom (px ks k) (ks.drop k) = 24 := by
  rw [drop_cons ks k h]; unfold chkFrom; rw [if_neg (not_not_intro hb), if_pos ho]
theorem chk_next (ks : List (Int × Int)) (k : Nat) (h : k < ks.length) (hb : 0 ≤ kx ks k ∧ kx ks k ≤ 65535 ∧ 0 ≤ ky ks k ∧ ky ks k ≤ 65535) (ho : ¬ kx ks k ≤ px ks k) : chkFrom (px ks k) (ks.drop k) = chkFrom (px ks (k + 1)) (ks.drop (k + 1)) := by
  rw [drop_cons ks k h]; conv => lhs; unfold chkFrom
  rw [if_neg (not_not_intro hb), if_neg ho]; rfl
theorem chk_end (ks : List (Int × Int)) : chkFrom (px ks ks.length) (ks.drop ks.length) = 0 := by simp [chkFrom]

/-- A curve without error. -/
structure Good (ks : List (Int × Int)) : Prop where
  n2 : 2 ≤ ks.length
  n16 : ks.length ≤ 16
  rng : ∀ i, i < ks.length → 0 ≤ kx ks i ∧ kx ks i ≤ 65535 ∧ 0 ≤ ky ks i ∧ ky ks i ≤ 65535
  ord : ∀ i, i + 1 < ks.length → kx ks i < kx ks (i + 1)

theorem good_from (ks : List (Int × Int)) : ∀ (m k : Nat), k + m = ks.length → chkFrom (px ks k) (ks.drop k) = 0 →
    (∀ i, k ≤ i → i < ks.length → 0 ≤ kx ks i ∧ kx ks i ≤ 65535 ∧ 0 ≤ ky ks i ∧ ky ks i ≤ 65535) ∧ (∀ i, k ≤ i → i < ks.length → px ks i < kx ks i)
  | 0, k, hm, _ => ⟨fun i h1 h2 => absurd h1 (by omega), fun i h1 h2 => absurd h1 (by omega)⟩
  | m + 1, k, hm, h => by
    have hk : k < ks.length := by omega
    by_cases hb : 0 ≤ kx ks k ∧ kx ks k ≤ 65535 ∧ 0 ≤ ky ks k ∧ ky ks k ≤ 65535
    · by_cases ho : kx ks k ≤ px ks k
      · rw [chk_ord ks k hk hb ho] at h; cases h
      · rw [chk_next ks k hk hb ho] at h
        obtain ⟨h1, h2⟩ := good_from ks m (k + 1) (by omega) h
        constructor
        · intro i hi hl
          by_cases e : i = k
          · subst e; exact hb
          · exact h1 i (by omega) hl
        · intro i hi hl
          by_cases e : i = k
          · subst e; omega
          · exact h2 i (by omega) hl
    · rw [chk_bad ks k hk hb] at h; cases h
theorem from_good (ks : List (Int × Int)) (g : Good ks) : ∀ (m k : Nat), k + m = ks.length → chkFrom (px ks k) (ks.drop k) = 0
  | 0, k, hm => by have : k = ks.length := by omega
                   subst this; exact chk_end ks
  | m + 1, k, hm => by
    have hk : k < ks.length := by omega
    have hr := g.rng k hk
    rw [chk_next ks k hk hr (by
      cases k with
      | zero => show ¬ kx ks 0 ≤ -1; omega
      | succ j => have := g.ord j hk; show ¬ kx ks (j + 1) ≤ kx ks j; omega)]
    exact from_good ks g m (k + 1) (by omega)
theorem chk_iff (ks : List (Int × Int)) : chk ks = 0 ↔ Good ks := by
  unfold chk
  constructor
  · intro h
    split at h
    · cases h
    · split at h
      · cases h
      · obtain ⟨h1, h2⟩ := good_from ks ks.length 0 (by omega) h
        exact ⟨by omega, by omega, fun i hi => h1 i (by omega) hi, fun i hi => h2 (i + 1) (by omega) hi⟩
  · intro g
    have h1 := g.n2
    have h2 := g.n16
    rw [if_neg (by omega), if_neg (by omega)]
    exact from_good ks g ks.length 0 (by omega)
theorem chk_le (ks : List (Int × Int)) : 0 ≤ chk ks ∧ chk ks ≤ 24 := by
  have h : ∀ (l : List (Int × Int)) (p : Int), 0 ≤ chkFrom p l ∧ chkFrom p l ≤ 24 := by
    intro l
    induction l with
    | nil => intro p; simp [chkFrom]
    | cons q r ih =>
      intro p
      unfold chkFrom
      split
      · omega
      · split
        · omega
        · exact ih _
  unfold chk
  split
  · omega
  · split
    · omega
    · exact h _ _

/-- Between two knots. -/
def lin (x0 y0 x1 y1 x : Int) : Int := y0 + rdiv ((y1 - y0) * (x - x0)) (x1 - x0)
def valGo (p : Int × Int) : List (Int × Int) → Int → Int
  | [], _ => p.2
  | q :: r, x => if x < q.1 then lin p.1 p.2 q.1 q.2 x else valGo q r x
/-- The value of a curve without error. -/
def val (ks : List (Int × Int)) (x : Int) : Int := if x ≤ kx ks 0 then ky ks 0 else valGo (kx ks 0, ky ks 0) (ks.drop 1) x
def cat (ks : List (Int × Int)) (x : Int) : Int := if chk ks = 0 then val ks x else min 65535 (max x 0)
theorem val_hit (ks : List (Int × Int)) (k : Nat) (x : Int) (h : k + 1 < ks.length) (hx : x < kx ks (k + 1)) : valGo (kx ks k, ky ks k) (ks.drop (k + 1)) x = lin (kx ks k) (ky ks k) (kx ks (k + 1)) (ky ks (k + 1)) x := by
  rw [drop_cons ks (k + 1) h]; unfold valGo; rw [if_pos hx]
theorem val_next (ks : List (Int × Int)) (k : Nat) (x : Int) (h : k + 1 < ks.length) (hx : ¬ x < kx ks (k + 1)) : valGo (kx ks k, ky ks k) (ks.drop (k + 1)) x = valGo (kx ks (k + 1), ky ks (k + 1)) (ks.drop (k + 1 + 1)) x := by
  rw [drop_cons ks (k + 1) h]; conv => lhs; unfold valGo
  rw [if_neg hx]
theorem val_last (ks : List (Int × Int)) (k : Nat) (x : Int) (h : k + 1 = ks.length) : valGo (kx ks k, ky ks k) (ks.drop (k + 1)) x = ky ks k := by
  rw [h]; simp [valGo]

/-- A rising curve. -/
structure Ris (ks : List (Int × Int)) : Prop where
  good : Good ks
  x0 : kx ks 0 = 0
  y0 : ky ks 0 = 0
  x1 : kx ks (ks.length - 1) = 65535
  y1 : ky ks (ks.length - 1) = 65535
  up : ∀ i, i + 1 < ks.length → ky ks i < ky ks (i + 1)
end Go.Proofs.YtmbglkholoblaaaDoor
namespace Go.Proofs.YtmbglkholoblaaaDoor
open Go.RowKit

/-- The slice value v reads in w as the knots ks; its cells lie in blocks below B. -/
def Knots (w : World) (B : Nat) (v : Value) (ks : List (Int × Int)) : Prop :=
  ∃ A c, v = .slice A ks.length c ∧ ks.length ≤ 9223372036854775807 ∧ ∀ i, i < ks.length → ∃ b o, A = some ⟨b, o, none⟩ ∧ b < B ∧
    w.cell? ⟨b, o + i * 2, none⟩ = some (.int .i64 (kx ks i)) ∧ w.cell? ⟨b, o + i * 2 + 1, none⟩ = some (.int .i64 (ky ks i))
theorem Knots.keep {w w' : World} {B : Nat} {v : Value} {ks : List (Int × Int)} (h : Knots w B v ks) (hk : ∀ b o, b < B → w'.cell? ⟨b, o, none⟩ = w.cell? ⟨b, o, none⟩) : Knots w' B v ks := by
  obtain ⟨A, c, e, hl, hc⟩ := h
  refine ⟨A, c, e, hl, fun i hi => ?_⟩
  obtain ⟨b, o, ea, hb, hx, hy⟩ := hc i hi
  exact ⟨b, o, ea, hb, (hk b _ hb).trans hx, (hk b _ hb).trans hy⟩
theorem Knots.below {w w' : World} {B : Nat} {v : Value} {ks : List (Int × Int)} (h : Knots w B v ks) (hb : Below B w w') : Knots w' B v ks :=
  h.keep fun b o hlt => hb.cell (p := ⟨b, o, none⟩) hlt
theorem Knots.drewN {w : World} {B : Nat} {v : Value} {ks : List (Int × Int)} (h : Knots w B v ks) (n : Nat) : Knots (w.drewN n) B v ks := h
theorem Knots.more {w : World} {B B' : Nat} {v : Value} {ks : List (Int × Int)} (h : Knots w B v ks) (hB : B ≤ B') : Knots w B' v ks := by
  obtain ⟨A, c, e, hl, hc⟩ := h
  refine ⟨A, c, e, hl, fun i hi => ?_⟩
  obtain ⟨b, o, ea, hb, hx⟩ := hc i hi
  exact ⟨b, o, ea, by omega, hx⟩
/-- Behind a call that wrote nothing that was there. -/
theorem Knots.on {w w' : World} {v : Value} {ks : List (Int × Int)} (h : Knots w w.heap.size v ks) (hb : Below w.heap.size w w') : Knots w' w'.heap.size v ks :=
  (h.below hb).more hb.size
theorem Knots.nil (w : World) (B : Nat) : Knots w B (.slice none 0 0) [] := ⟨none, 0, rfl, by simp, fun i hi => absurd hi (by simp)⟩

/-- A slice that holds something: its address. -/
theorem Knots.form {w : World} {B : Nat} {v : Value} {ks : List (Int × Int)} (h : Knots w B v ks) (hn : 0 < ks.length) : ∃ b o c, v = .slice (some ⟨b, o, none⟩) ks.length c ∧ b < B ∧
    ∀ i, i < ks.length → w.cell? ⟨b, o + i * 2, none⟩ = some (.int .i64 (kx ks i)) ∧ w.cell? ⟨b, o + i * 2 + 1, none⟩ = some (.int .i64 (ky ks i)) := by
  obtain ⟨A, c, rfl, hl, hc⟩ := h
  obtain ⟨b, o, rfl, hb, _⟩ := hc 0 hn
  refine ⟨b, o, c, rfl, hb, fun i hi => ?_⟩
  obtain ⟨b', o', e, _, hx⟩ := hc i hi
  injection e with e
  injection e with e1 e2
  subst e1 e2
  exact hx
end Go.Proofs.YtmbglkholoblaaaDoor
namespace Go.Proofs.YtmbglkholoblaaaDoor

theorem rdiv_ge (a b m : Int) (hb : 0 < b) (h : b * m ≤ a) : m ≤ rdiv a b := by
  have := rdiv_spec a b hb
  rcases Int.lt_or_le (rdiv a b) m with hc | hc
  · have : b * (rdiv a b + 1) ≤ b * m := Int.mul_le_mul_of_nonneg_left (by omega) (by omega)
    rw [Int.mul_add] at this
    omega
  · exact hc
theorem rdiv_le (a b m : Int) (hb : 0 < b) (h : a ≤ b * m) : rdiv a b ≤ m := by
  have := rdiv_spec a b hb
  rcases Int.lt_or_le m (rdiv a b) with hc | hc
  · have : b * (m + 1) ≤ b * rdiv a b := Int.mul_le_mul_of_nonneg_left (by omega) (by omega)
    rw [Int.mul_add] at this
    omega
  · exact hc
theorem rdiv_mono (a a' b : Int) (hb : 0 < b) (h : a ≤ a') : rdiv a b ≤ rdiv a' b := by
  unfold rdiv
  exact Int.ediv_le_ediv (by omega) (by omega)
theorem rdiv_zero (b : Int) (hb : 0 < b) : rdiv 0 b = 0 := by
  unfold rdiv
  exact ediv_unique _ _ _ (by omega) (by omega) (by omega)
theorem lin_start (x0 y0 x1 y1 : Int) (h : x0 < x1) : lin x0 y0 x1 y1 x0 = y0 := by
  unfold lin
  rw [Int.sub_self, Int.mul_zero, rdiv_zero _ (by omega)]; omega
theorem lin_mono (x0 y0 x1 y1 x x' : Int) (h : x0 < x1) (hy : y0 ≤ y1) (hx : x ≤ x') : lin x0 y0 x1 y1 x ≤ lin x0 y0 x1 y1 x' := by
  unfold lin
  have := rdiv_mono ((y1 - y0) * (x - x0)) ((y1 - y0) * (x' - x0)) (x1 - x0) (by omega) (Int.mul_le_mul_of_nonneg_left (by omega) (by omega))
  omega
theorem lin_between (lo hi x0 y0 x1 y1 x : Int) (h : x0 < x1) (hx0 : x0 ≤ x) (hx1 : x ≤ x1) (a0 : lo ≤ y0) (a1 : lo ≤ y1) (b0 : y0 ≤ hi) (b1 : y1 ≤ hi) : lo ≤ lin x0 y0 x1 y1 x ∧ lin x0 y0 x1 y1 x ≤ hi := by
  unfold lin
  rcases Int.le_total y0 y1 with hy | hy
  · have h1 : 0 ≤ (y1 - y0) * (x - x0) := Int.mul_nonneg (by omega) (by omega)
    have h2 : (y1 - y0) * (x - x0) ≤ (y1 - y0) * (x1 - x0) := Int.mul_le_mul_of_nonneg_left (by omega) (by omega)
    have e1 := rdiv_ge ((y1 - y0) * (x - x0)) (x1 - x0) 0 (by omega) (by omega)
    have e2 := rdiv_le ((y1 - y0) * (x - x0)) (x1 - x0) (y1 - y0) (by omega) (by rw [Int.mul_comm (x1 - x0)]; exact h2)
    omega
  · have h1 : 0 ≤ (y0 - y1) * (x - x0) := Int.mul_nonneg (by omega) (by omega)
    have h2 : (y0 - y1) * (x - x0) ≤ (y0 - y1) * (x1 - x0) := Int.mul_le_mul_of_nonneg_left (by omega) (by omega)
    have n1 : (y1 - y0) * (x - x0) = -((y0 - y1) * (x - x0)) := by rw [← Int.neg_mul]; congr 1; omega
    have n2 : (x1 - x0) * (y1 - y0) = -((y0 - y1) * (x1 - x0)) := by rw [Int.mul_comm, ← Int.neg_mul]; congr 1; omega
    have e1 := rdiv_ge ((y1 - y0) * (x - x0)) (x1 - x0) (y1 - y0) (by omega) (by omega)
    have e2 := rdiv_le ((y1 - y0) * (x - x0)) (x1 - x0) 0 (by omega) (by omega)
    omega

theorem go_between (ks : List (Int × Int)) (g : Good ks) (lo hi : Int) (hb : ∀ i, i < ks.length → lo ≤ ky ks i ∧ ky ks i ≤ hi) (x : Int) :
    ∀ (m k : Nat), k + 1 + m = ks.length → kx ks k ≤ x → lo ≤ valGo (kx ks k, ky ks k) (ks.drop (k + 1)) x ∧ valGo (kx ks k, ky ks k) (ks.drop (k + 1)) x ≤ hi
  | 0, k, hm, _ => by rw [val_last ks k x (by omega)]; exact hb k (by omega)
  | m + 1, k, hm, hx => by
    have hk : k + 1 < ks.length := by omega
    by_cases h : x < kx ks (k + 1)
    · rw [val_hit ks k x hk h]
      have b0 := hb k (by omega)
      have b1 := hb (k + 1) hk
      exact lin_between lo hi _ _ _ _ x (g.ord k hk) hx (by omega) b0.1 b1.1 b0.2 b1.2
    · rw [val_next ks k x hk h]
      exact go_between ks g lo hi hb x m (k + 1) (by omega) (by omega)
theorem val_between (ks : List (Int × Int)) (g : Good ks) (lo hi : Int) (hb : ∀ i, i < ks.length → lo ≤ ky ks i ∧ ky ks i ≤ hi) (x : Int) : lo ≤ val ks x ∧ val ks x ≤ hi := by
  have h2 := g.n2
  unfold val
  split
  · exact hb 0 (by omega)
  · exact go_between ks g lo hi hb x (ks.length - 1) 0 (by omega) (by omega)
theorem val_unit (ks : List (Int × Int)) (g : Good ks) (x : Int) : 0 ≤ val ks x ∧ val ks x ≤ 65535 :=
  val_between ks g 0 65535 (fun i hi => by have := g.rng i hi; omega) x

theorem ord_le (ks : List (Int × Int)) (g : Good ks) : ∀ (d k : Nat), k + d < ks.length → kx ks k ≤ kx ks (k + d)
  | 0, k, _ => by simp
  | d + 1, k, h => by
    have h1 := ord_le ks g d k (by omega)
    have h2 := g.ord (k + d) (by omega)
    show kx ks k ≤ kx ks (k + d + 1)
    omega
theorem go_knot (ks : List (Int × Int)) (g : Good ks) (i : Nat) (hi : i < ks.length) :
    ∀ (d k : Nat), k + d = i → valGo (kx ks k, ky ks k) (ks.drop (k + 1)) (kx ks i) = ky ks i
  | 0, k, e => by
    have e : k = i := e
    subst e
    by_cases h : k + 1 < ks.length
    · rw [val_hit ks k _ h (g.ord k h)]
      exact lin_start _ _ _ _ (g.ord k h)
    · exact val_last ks k _ (by omega)
  | d + 1, k, e => by
    have h := ord_le ks g d (k + 1) (by omega)
    rw [show k + 1 + d = i by omega] at h
    rw [val_next ks k _ (by omega) (by omega)]
    exact go_knot ks g i hi d (k + 1) (by omega)
theorem val_knot (ks : List (Int × Int)) (g : Good ks) (i : Nat) (hi : i < ks.length) : val ks (kx ks i) = ky ks i := by
  unfold val
  split
  · rename_i h
    by_cases e : i = 0
    · subst e; rfl
    · have h0 := g.ord 0 (by omega)
      have h1 := ord_le ks g (i - 1) 1 (by omega)
      rw [show 1 + (i - 1) = i by omega] at h1
      have : kx ks (0 + 1) = kx ks 1 := rfl
      omega
  · exact go_knot ks g i hi i 0 (by omega)

theorem go_mono (ks : List (Int × Int)) (g : Good ks) (up : ∀ i, i + 1 < ks.length → ky ks i ≤ ky ks (i + 1)) (x x' : Int) (hxx : x ≤ x') :
    ∀ (m k : Nat), k + 1 + m = ks.length → kx ks k ≤ x' →
      (ky ks k ≤ valGo (kx ks k, ky ks k) (ks.drop (k + 1)) x') ∧ (kx ks k ≤ x → valGo (kx ks k, ky ks k) (ks.drop (k + 1)) x ≤ valGo (kx ks k, ky ks k) (ks.drop (k + 1)) x')
  | 0, k, hm, _ => by rw [val_last ks k x (by omega), val_last ks k x' (by omega)]; exact ⟨Int.le_refl _, fun _ => Int.le_refl _⟩
  | m + 1, k, hm, hx' => by
    have hk : k + 1 < ks.length := by omega
    have ho := g.ord k hk
    have hu := up k hk
    by_cases h' : x' < kx ks (k + 1)
    · rw [val_hit ks k x' hk h', val_hit ks k x hk (by omega)]
      have h1 := lin_mono (kx ks k) (ky ks k) (kx ks (k + 1)) (ky ks (k + 1)) (kx ks k) x' ho hu hx'
      rw [lin_start _ _ _ _ ho] at h1
      exact ⟨h1, fun _ => lin_mono _ _ _ _ _ _ ho hu hxx⟩
    · obtain ⟨h1, h2⟩ := go_mono ks g up x x' hxx m (k + 1) (by omega) (by omega)
      rw [val_next ks k x' hk h']
      refine ⟨by omega, fun hx => ?_⟩
      by_cases h : x < kx ks (k + 1)
      · rw [val_hit ks k x hk h]
        have := lin_between (ky ks k) (ky ks (k + 1)) (kx ks k) (ky ks k) (kx ks (k + 1)) (ky ks (k + 1)) x ho hx (by omega) (by omega) hu hu (by omega)
        omega
      · rw [val_next ks k x hk h]
        exact h2 (by omega)
theorem val_mono (ks : List (Int × Int)) (g : Good ks) (up : ∀ i, i + 1 < ks.length → ky ks i ≤ ky ks (i + 1)) (x x' : Int) (hxx : x ≤ x') : val ks x ≤ val ks x' := by
  have h2 := g.n2
  unfold val
  split
  · split
    · omega
    · exact (go_mono ks g up x x' hxx (ks.length - 1) 0 (by omega) (by omega)).1
  · rw [if_neg (by omega)]
    exact (go_mono ks g up x x' hxx (ks.length - 1) 0 (by omega) (by omega)).2 (by omega)

theorem Ris.mono {ks : List (Int × Int)} (r : Ris ks) {x x' : Int} (h : x ≤ x') : val ks x ≤ val ks x' :=
  val_mono ks r.good (fun i hi => by have := r.up i hi; omega) x x' h
theorem Ris.lo {ks : List (Int × Int)} (r : Ris ks) {x : Int} (h : x ≤ 0) : val ks x = 0 := by
  unfold val; rw [r.x0, if_pos h, r.y0]
theorem Ris.top {ks : List (Int × Int)} (r : Ris ks) : val ks 65535 = 65535 := by
  have := r.good.n2
  have h := val_knot ks r.good (ks.length - 1) (by omega)
  rw [r.x1, r.y1] at h
  exact h
theorem Ris.hi {ks : List (Int × Int)} (r : Ris ks) {x : Int} (h : 65535 ≤ x) : val ks x = 65535 := by
  have h1 := r.mono h
  rw [r.top] at h1
  have := val_unit ks r.good x
  omega
theorem Ris.clamp {ks : List (Int × Int)} (r : Ris ks) (x : Int) : val ks (min 65535 (max x 0)) = val ks x := by
  rcases (show x ≤ 0 ∨ 65535 ≤ x ∨ (0 ≤ x ∧ x ≤ 65535) by omega) with h | h | h
  · rw [r.lo h, show min 65535 (max x 0) = 0 by omega]; exact r.lo (Int.le_refl 0)
  · rw [r.hi h, show min 65535 (max x 0) = 65535 by omega]; exact r.top
  · rw [show min 65535 (max x 0) = x by omega]

/-- The least place at which the curve is at least y. -/
structure IsBack (ks : List (Int × Int)) (y b : Int) : Prop where
  lo : 0 ≤ b
  hi : b ≤ 65535
  ge : y ≤ val ks b
  lt : b = 0 ∨ val ks (b - 1) < y
theorem IsBack.unique {ks : List (Int × Int)} (r : Ris ks) {y b b' : Int} (h : IsBack ks y b) (h' : IsBack ks y b') : b = b' := by
  rcases Int.lt_trichotomy b b' with c | c | c
  · rcases h'.lt with e | e
    · have := h.lo; omega
    · have := r.mono (show b ≤ b' - 1 by omega)
      have := h.ge
      omega
  · exact c
  · rcases h.lt with e | e
    · have := h'.lo; omega
    · have := r.mono (show b' ≤ b - 1 by omega)
      have := h'.ge
      omega
theorem IsBack.least {ks : List (Int × Int)} (r : Ris ks) {x b : Int} (h : IsBack ks (val ks x) b) : b ≤ min 65535 (max x 0) := by
  rcases Int.le_total b (min 65535 (max x 0)) with c | c
  · exact c
  · rcases h.lt with e | e
    · omega
    · by_cases hc : b = min 65535 (max x 0)
      · omega
      · have := r.mono (show min 65535 (max x 0) ≤ b - 1 by omega)
        rw [r.clamp x] at this
        omega
end Go.Proofs.YtmbglkholoblaaaDoor
namespace Go.Proofs.YtmbglkholoblaaaDoor
open Go.RowKit

set_option maxHeartbeats 400000 in
theorem unit_any (x : Int) (w : World) :
    Calls Tryd.prog 93 #[.int .i64 x] w fun e w' => e = .returned (.int .i64 (min 65535 (max x 0))) ∧ w = w' := by
  go_enter Tryd.func93, Tryd.ntmps93
  go_wp2_with (go_at_call 69; refine (clamp_any _ _ _ _).mono ?_; rintro e w' ⟨rfl, rfl⟩)
  go_ret
  exact ⟨rfl, rfl⟩
def uok (x : Int) : Bool := decide (0 ≤ x ∧ x ≤ 65535)
theorem uok_t (x : Int) (h : 0 ≤ x ∧ x ≤ 65535) : uok x = true := by unfold uok; simp; omega
theorem uok_f (x : Int) (h : ¬ (0 ≤ x ∧ x ≤ 65535)) : uok x = false := by unfold uok; simp; omega
set_option maxHeartbeats 400000 in
theorem runitb_any (x : Int) (w : World) :
    Calls Tryd.prog 96 #[.int .i64 x] w fun e w' => e = .returned (.bool (uok x)) ∧ w = w' := by
  by_cases h : 0 ≤ x
  · go_enter Tryd.func96, Tryd.ntmps96
    go_wp2
    go_ret
    exact ⟨ret_bool (by unfold uok; simp [h]), rfl⟩
  · go_enter Tryd.func96, Tryd.ntmps96
    go_wp2
    go_ret
    exact ⟨ret_bool (by unfold uok; simp; omega), rfl⟩

/-- The loop's head. -/
def ChkRel (ks : List (Int × Int)) (w : World) (i : Value) (wr : World) : Prop :=
  ∃ k : Nat, k ≤ ks.length ∧ i = .int .i64 k ∧ chkFrom (px ks k) (ks.drop k) = chkFrom (-1) ks ∧ Below w.heap.size w wr

theorem clamp_ne (x : Int) (h : ¬ (0 ≤ x ∧ x ≤ 65535)) : (x != min 65535 (max x 0)) = true := by simp; omega
theorem clamp_eq (x : Int) (h : 0 ≤ x ∧ x ≤ 65535) : (x != min 65535 (max x 0)) = false := by simp; omega

set_option maxHeartbeats 2000000 in
theorem check_any (v : Value) (ks : List (Int × Int)) (w : World) (h : Knots w w.heap.size v ks) :
    Calls Tryd.prog 92 #[v] w fun e w' => e = .returned (.int .i64 (chk ks)) ∧ Below w.heap.size w w' := by
  by_cases h2 : ks.length < 2
  · obtain ⟨A, c, rfl, _, _⟩ := h
    have HC := Lib.hid (show chk ks = 1 by unfold chk; rw [if_pos h2])
    go_enter Tryd.func92, Tryd.ntmps92
    go_wp2
    go_ret
    exact ⟨ret_int HC.out.symm, Below.refl _ _⟩
  by_cases h16 : 16 < ks.length
  · obtain ⟨A, c, rfl, hl, _⟩ := h
    have HC := Lib.hid (show chk ks = 3 by unfold chk; rw [if_neg h2, if_pos h16])
    go_enter Tryd.func92, Tryd.ntmps92
    go_wp2
    go_ret
    exact ⟨ret_int HC.out.symm, Below.refl _ _⟩
  have HC := Lib.hid (show chk ks = chkFrom (-1) ks by unfold chk; rw [if_neg h2, if_neg h16])
  obtain ⟨b, o, c, rfl, hb, hcell⟩ := h.form (by omega)
  have HK := Lib.hid hcell
  clear hcell h
  have hn2 : 2 ≤ ks.length := by omega
  have hn16 : ks.length ≤ 16 := by omega
  clear h2 h16
  go_enter Tryd.func92, Tryd.ntmps92
  go_wp2
  go_loopw [13] (ChkRel ks w) (fun i _ => ks.length - (intOf i).toNat)
  case atStart => exact ⟨0, Nat.zero_le _, rfl, rfl, Below.refl _ _⟩
  case round =>
    obtain ⟨k, hk, rfl, hck, hbel⟩ := hrel
    have HCK := Lib.hid hck; clear hck
    have hsz := hbel.size
    by_cases hlt : k < ks.length
    · have hcx := (hbel.cell (p := ⟨b, o + k * 2, none⟩) hb).trans (HK.out k hlt).1
      have hcy := (hbel.cell (p := ⟨b, o + k * 2 + 1, none⟩) hb).trans (HK.out k hlt).2
      have hbw : b < wr.heap.size := by omega
      have HB := Lib.hid (chk_bad ks k hlt)
      have HO := Lib.hid (chk_ord ks k hlt)
      have HN := Lib.hid (chk_next ks k hlt)
      have hpx : Hid (∀ j, k = j + 1 → px ks k = kx ks j) := by rintro j rfl; rfl
      generalize hX : kx ks k = X at *
      generalize hY : ky ks k = Y at *
      have HX := Lib.hid hX; clear hX
      have HY := Lib.hid hY; clear hY
      by_cases gX : 0 ≤ X ∧ X ≤ 65535
      · have tX := clamp_eq X gX
        by_cases gY : 0 ≤ Y ∧ Y ≤ 65535
        · have tY := clamp_eq Y gY
          have G : Hid (0 ≤ X ∧ X ≤ 65535 ∧ 0 ≤ Y ∧ Y ≤ 65535) := ⟨gX.1, gX.2, gY.1, gY.2⟩
          by_cases h0 : k = 0
          · subst h0
            have E := Lib.hid (HN.out G.out (by show ¬ X ≤ -1; omega))
            simp only [Nat.zero_mul, Nat.add_zero] at hcx hcy
            go_wp2
            go_quiet ((go_at_call 93; exact Calls.quiet_of_same ((unit_any _ _).mono fun _ _ hh => ⟨hh.1, hh.2.symm⟩)))
            go_wp2
            go_quiet (fail)
            go_wp2
            go_roundw
            case rel => exact ⟨1, by omega, by go_num, by rw [← HCK.out, ← E.out], by repeat (first | exact hbel | refine Below.drewN' ?_ _ | refine Below.alloc ?_ (by first | omega | (simp; omega)) _)⟩
            case measure => simp [intOf]; omega
          · obtain ⟨j, rfl⟩ : ∃ j, k = j + 1 := ⟨k - 1, by omega⟩
            have hpc := (hbel.cell (p := ⟨b, o + j * 2, none⟩) hb).trans (HK.out j (by omega)).1
            have hpp := hpx.out j rfl
            rw [hpp] at HO HN HCK
            generalize kx ks j = P at *
            clear hpp hpx
            by_cases ho : X ≤ P
            · have E := Lib.hid (HO.out G.out ho)
              go_wp2
              go_quiet ((go_at_call 93; exact Calls.quiet_of_same ((unit_any _ _).mono fun _ _ hh => ⟨hh.1, hh.2.symm⟩)))
              go_wp2
              go_quiet (fail)
              go_wp2
              go_ret
              exact ⟨ret_int (by rw [HC.out, ← HCK.out, E.out]), by repeat (first | exact hbel | refine Below.drewN' ?_ _ | refine Below.alloc ?_ (by first | omega | (simp; omega)) _)⟩
            · have E := Lib.hid (HN.out G.out ho)
              go_wp2
              go_quiet ((go_at_call 93; exact Calls.quiet_of_same ((unit_any _ _).mono fun _ _ hh => ⟨hh.1, hh.2.symm⟩)))
              go_wp2
              go_quiet (fail)
              go_wp2
              go_roundw
              case rel => exact ⟨j + 1 + 1, by omega, by go_num, by rw [← HCK.out, ← E.out], by repeat (first | exact hbel | refine Below.drewN' ?_ _ | refine Below.alloc ?_ (by first | omega | (simp; omega)) _)⟩
              case measure => simp [intOf]; omega
        · have tY := clamp_ne Y gY
          have E := Lib.hid (HB.out (by omega))
          go_wp2
          go_quiet ((go_at_call 93; exact Calls.quiet_of_same ((unit_any _ _).mono fun _ _ hh => ⟨hh.1, hh.2.symm⟩)))
          go_wp2
          go_ret
          exact ⟨ret_int (by rw [HC.out, ← HCK.out, E.out]), by repeat (first | exact hbel | refine Below.drewN' ?_ _ | refine Below.alloc ?_ (by first | omega | (simp; omega)) _)⟩
      · have tX := clamp_ne X gX
        have E := Lib.hid (HB.out (by omega))
        go_wp2
        go_quiet ((go_at_call 93; exact Calls.quiet_of_same ((unit_any _ _).mono fun _ _ hh => ⟨hh.1, hh.2.symm⟩)))
        go_wp2
        go_ret
        exact ⟨ret_int (by rw [HC.out, ← HCK.out, E.out]), by repeat (first | exact hbel | refine Below.drewN' ?_ _ | refine Below.alloc ?_ (by first | omega | (simp; omega)) _)⟩
    · obtain rfl : k = ks.length := by omega
      have E := Lib.hid (chk_end ks)
      go_wp2
      go_ret
      exact ⟨ret_int (by rw [HC.out, ← HCK.out, E.out]), hbel⟩
end Go.Proofs.YtmbglkholoblaaaDoor
namespace Go.Proofs.YtmbglkholoblaaaDoor
open Go.RowKit

set_option maxHeartbeats 2000000 in
theorem rcheck_any (v : Value) (ks : List (Int × Int)) (w : World) (h : Knots w w.heap.size v ks) :
    Calls Tryd.prog 95 #[v] w fun e w' => e = .returned (.int .i64 (chk ks)) ∧ Below w.heap.size w w' := by
  by_cases h2 : ks.length < 2
  · obtain ⟨A, c, rfl, _, _⟩ := h
    have HC := Lib.hid (show chk ks = 1 by unfold chk; rw [if_pos h2])
    go_enter Tryd.func95, Tryd.ntmps95
    go_wp2
    go_ret
    exact ⟨ret_int HC.out.symm, Below.refl _ _⟩
  by_cases h16 : 16 < ks.length
  · obtain ⟨A, c, rfl, hl, _⟩ := h
    have HC := Lib.hid (show chk ks = 3 by unfold chk; rw [if_neg h2, if_pos h16])
    go_enter Tryd.func95, Tryd.ntmps95
    go_wp2
    go_ret
    exact ⟨ret_int HC.out.symm, Below.refl _ _⟩
  have HC := Lib.hid (show chk ks = chkFrom (-1) ks by unfold chk; rw [if_neg h2, if_neg h16])
  obtain ⟨b, o, c, rfl, hb, hcell⟩ := h.form (by omega)
  have HK := Lib.hid hcell
  clear hcell h
  have hn2 : 2 ≤ ks.length := by omega
  have hn16 : ks.length ≤ 16 := by omega
  clear h2 h16
  go_enter Tryd.func95, Tryd.ntmps95
  go_wp2
  go_loopw [3] (ChkRel ks w) (fun i _ => ks.length - (intOf i).toNat)
  case atStart => exact ⟨0, Nat.zero_le _, rfl, rfl, Below.refl _ _⟩
  case round =>
    obtain ⟨k, hk, rfl, hck, hbel⟩ := hrel
    have HCK := Lib.hid hck; clear hck
    have hsz := hbel.size
    by_cases hlt : k < ks.length
    · have hcx := (hbel.cell (p := ⟨b, o + k * 2, none⟩) hb).trans (HK.out k hlt).1
      have hcy := (hbel.cell (p := ⟨b, o + k * 2 + 1, none⟩) hb).trans (HK.out k hlt).2
      have HB := Lib.hid (chk_bad ks k hlt)
      have HO := Lib.hid (chk_ord ks k hlt)
      have HN := Lib.hid (chk_next ks k hlt)
      have hpx : Hid (∀ j, k = j + 1 → px ks k = kx ks j) := by rintro j rfl; rfl
      generalize hX : kx ks k = X at *
      generalize hY : ky ks k = Y at *
      have HX := Lib.hid hX; clear hX
      have HY := Lib.hid hY; clear hY
      by_cases gX : 0 ≤ X ∧ X ≤ 65535
      · have tX := uok_t X gX
        by_cases gY : 0 ≤ Y ∧ Y ≤ 65535
        · have tY := uok_t Y gY
          have G : Hid (0 ≤ X ∧ X ≤ 65535 ∧ 0 ≤ Y ∧ Y ≤ 65535) := ⟨gX.1, gX.2, gY.1, gY.2⟩
          by_cases h0 : k = 0
          · subst h0
            have E := Lib.hid (HN.out G.out (by show ¬ X ≤ -1; omega))
            simp only [Nat.zero_mul, Nat.add_zero] at hcx hcy
            go_wp2_with (go_at_call 96; refine (runitb_any _ _).mono ?_; rintro e w' ⟨rfl, rfl⟩)
            go_quiet (fail)
            go_wp2
            go_roundw
            case rel => exact ⟨1, by omega, by go_num, by rw [← HCK.out, ← E.out], by repeat (first | exact hbel | refine Below.drewN' ?_ _)⟩
            case measure => simp [intOf]; omega
          · obtain ⟨j, rfl⟩ : ∃ j, k = j + 1 := ⟨k - 1, by omega⟩
            have hpc := (hbel.cell (p := ⟨b, o + j * 2, none⟩) hb).trans (HK.out j (by omega)).1
            have hpp := hpx.out j rfl
            rw [hpp] at HO HN HCK
            generalize kx ks j = P at *
            clear hpp hpx
            by_cases ho : X ≤ P
            · have E := Lib.hid (HO.out G.out ho)
              go_wp2_with (go_at_call 96; refine (runitb_any _ _).mono ?_; rintro e w' ⟨rfl, rfl⟩)
              go_quiet (fail)
              go_wp2
              go_ret
              exact ⟨ret_int (by rw [HC.out, ← HCK.out, E.out]), by repeat (first | exact hbel | refine Below.drewN' ?_ _)⟩
            · have E := Lib.hid (HN.out G.out ho)
              go_wp2_with (go_at_call 96; refine (runitb_any _ _).mono ?_; rintro e w' ⟨rfl, rfl⟩)
              go_quiet (fail)
              go_wp2
              go_roundw
              case rel => exact ⟨j + 1 + 1, by omega, by go_num, by rw [← HCK.out, ← E.out], by repeat (first | exact hbel | refine Below.drewN' ?_ _)⟩
              case measure => simp [intOf]; omega
        · have tY := uok_f Y gY
          have E := Lib.hid (HB.out (by omega))
          go_wp2_with (go_at_call 96; refine (runitb_any _ _).mono ?_; rintro e w' ⟨rfl, rfl⟩)
          go_ret
          exact ⟨ret_int (by rw [HC.out, ← HCK.out, E.out]), by repeat (first | exact hbel | refine Below.drewN' ?_ _)⟩
      · have tX := uok_f X gX
        have E := Lib.hid (HB.out (by omega))
        go_wp2_with (go_at_call 96; refine (runitb_any _ _).mono ?_; rintro e w' ⟨rfl, rfl⟩)
        go_ret
        exact ⟨ret_int (by rw [HC.out, ← HCK.out, E.out]), by repeat (first | exact hbel | refine Below.drewN' ?_ _)⟩
    · obtain rfl : k = ks.length := by omega
      have E := Lib.hid (chk_end ks)
      go_wp2
      go_ret
      exact ⟨ret_int (by rw [HC.out, ← HCK.out, E.out]), hbel⟩
end Go.Proofs.YtmbglkholoblaaaDoor
namespace Go.Proofs.YtmbglkholoblaaaDoor
open Go.RowKit

/-- The loop's head. -/
def ValRel (ks : List (Int × Int)) (x : Int) (w : World) (i : Value) (wr : World) : Prop :=
  ∃ j : Nat, j + 1 ≤ ks.length ∧ i = .int .i64 ((j : Int) + 1) ∧ valGo (kx ks j, ky ks j) (ks.drop (j + 1)) x = val ks x ∧ kx ks j ≤ x ∧ Below w.heap.size w wr

theorem prod_bd (a b : Int) (ha : -65535 ≤ a) (ha' : a ≤ 65535) (hb : 0 ≤ b) (hb' : b ≤ 65535) : -4294836225 ≤ a * b ∧ a * b ≤ 4294836225 := by
  have h1 : a * b ≤ 65535 * b := Int.mul_le_mul_of_nonneg_right ha' hb
  have h2 : (-65535) * b ≤ a * b := Int.mul_le_mul_of_nonneg_right ha hb
  omega

set_option maxHeartbeats 2000000 in
theorem value_any (v : Value) (ks : List (Int × Int)) (x : Int) (w : World) (h : Knots w w.heap.size v ks) (g : Good ks) :
    Calls Tryd.prog 94 #[v, .int .i64 x] w fun e w' => e = .returned (.int .i64 (val ks x)) ∧ Below w.heap.size w w' := by
  have hn2 := g.n2
  have hn16 := g.n16
  obtain ⟨b, o, c, rfl, hb, hcell⟩ := h.form (by omega)
  have HK := Lib.hid hcell
  clear hcell h
  have hc0 := (HK.out 0 (by omega)).1
  have hd0 := (HK.out 0 (by omega)).2
  simp only [Nat.zero_mul, Nat.add_zero] at hc0 hd0
  by_cases hx : x ≤ kx ks 0
  · have E := Lib.hid (show val ks x = ky ks 0 by unfold val; rw [if_pos hx])
    generalize kx ks 0 = X0 at *
    generalize ky ks 0 = Y0 at *
    go_enter Tryd.func94, Tryd.ntmps94
    go_wp2
    go_ret
    exact ⟨ret_int E.out.symm, Below.refl _ _⟩
  · have E := Lib.hid (show valGo (kx ks 0, ky ks 0) (ks.drop (0 + 1)) x = val ks x by unfold val; rw [if_neg hx])
    have hx0 : Hid (kx ks 0 ≤ x) := by show kx ks 0 ≤ x; omega
    generalize hX0 : kx ks 0 = X0 at *
    generalize hY0 : ky ks 0 = Y0 at *
    have HX0 := Lib.hid hX0; clear hX0
    have HY0 := Lib.hid hY0; clear hY0
    go_enter Tryd.func94, Tryd.ntmps94
    go_wp2
    go_loopw [5] (ValRel ks x w) (fun i _ => ks.length - (intOf i).toNat)
    case atStart => exact ⟨0, by omega, by go_num, by rw [HX0.out, HY0.out]; exact E.out, by rw [HX0.out]; exact hx0.out, Below.refl _ _⟩
    case round =>
      obtain ⟨j, hj, rfl, hvj, hxj, hbel⟩ := hrel
      have HVJ := Lib.hid hvj; clear hvj
      have hsz := hbel.size
      clear hc0 hd0
      by_cases hlt : j + 1 < ks.length
      · have c1 := (hbel.cell (p := ⟨b, o + j * 2, none⟩) hb).trans (HK.out j (by omega)).1
        have c2 := (hbel.cell (p := ⟨b, o + j * 2 + 1, none⟩) hb).trans (HK.out j (by omega)).2
        have c3 := (hbel.cell (p := ⟨b, o + (j + 1) * 2, none⟩) hb).trans (HK.out (j + 1) hlt).1
        have c4 := (hbel.cell (p := ⟨b, o + (j + 1) * 2 + 1, none⟩) hb).trans (HK.out (j + 1) hlt).2
        have hbw : b < wr.heap.size := by omega
        have HH := Lib.hid (val_hit ks j x hlt)
        have HN := Lib.hid (val_next ks j x hlt)
        have ho := g.ord j hlt
        have r1 := g.rng j (by omega)
        have r2 := g.rng (j + 1) hlt
        generalize hpx : kx ks j = px at *
        generalize hpy : ky ks j = py at *
        generalize hqx : kx ks (j + 1) = qx at *
        generalize hqy : ky ks (j + 1) = qy at *
        have HPX := Lib.hid hpx; clear hpx
        have HPY := Lib.hid hpy; clear hpy
        have HQX := Lib.hid hqx; clear hqx
        have HQY := Lib.hid hqy; clear hqy
        by_cases hq : x < qx
        · have hpr := prod_bd (qy - py) (x - px) (by omega) (by omega) (by omega) (by omega)
          have E2 := Lib.hid (HH.out hq)
          have hl := val_unit ks g x
          rw [← HVJ.out, E2.out] at hl
          unfold lin at hl
          go_wp2
          go_region
          all_goals
            go_wp2
            go_quiet ((go_at_call 34; exact quiet_tol (div_any _ _ _ (by omega) (by omega) (by omega) (by omega)) ⟨_, rfl⟩))
            go_wp2
            go_ret
            exact ⟨ret_int (by rw [← HVJ.out, E2.out]; rfl), by repeat (first | exact hbel | refine Below.drewN' ?_ _ | refine Below.drew ?_ | refine Below.alloc ?_ (by first | omega | (simp; omega)) _)⟩
        · have E2 := Lib.hid (HN.out hq)
          go_wp2
          go_region
          all_goals
            go_wp2
            go_roundw
            case rel => exact ⟨j + 1, by omega, by go_num, by rw [HQX.out, HQY.out, ← E2.out, HVJ.out], by rw [HQX.out]; omega, by repeat (first | exact hbel | refine Below.drewN' ?_ _ | refine Below.drew ?_ | refine Below.alloc ?_ (by first | omega | (simp; omega)) _)⟩
            case measure => simp [intOf]; omega
      · have E2 := Lib.hid (val_last ks j x (by omega))
        have c2 := (hbel.cell (p := ⟨b, o + j * 2 + 1, none⟩) hb).trans (HK.out j (by omega)).2
        have hje : Hid (ks.length = j + 1) := by show ks.length = j + 1; omega
        have c2' : wr.cell? ⟨b, o + (ks.length - 1) * 2 + 1, none⟩ = some (.int .i64 (ky ks j)) := by rw [hje.out]; exact c2
        generalize ky ks j = py at *
        go_wp2
        go_ret
        exact ⟨ret_int (by rw [← HVJ.out, E2.out]), hbel⟩
end Go.Proofs.YtmbglkholoblaaaDoor
namespace Go.Proofs.YtmbglkholoblaaaDoor
open Go.RowKit

set_option maxHeartbeats 1000000 in
theorem at_any (v : Value) (ks : List (Int × Int)) (x : Int) (w : World) (h : Knots w w.heap.size v ks) :
    Calls Tryd.prog 78 #[v, .int .i64 x] w fun e w' => e = .returned (.int .i64 (cat ks x)) ∧ Below w.heap.size w w' := by
  have H := Lib.hid h
  by_cases hc : chk ks = 0
  · have E := Lib.hid (show cat ks x = val ks x by unfold cat; rw [if_pos hc])
    have hg := (chk_iff ks).1 hc
    have HC := Lib.hid hc; clear hc h
    go_enter Tryd.func78, Tryd.ntmps78
    go_wp2_with fail
    refine (check_any _ ks _ H.out).mono ?_
    rintro e w1 ⟨rfl, hb1⟩
    rw [HC.out]
    go_wp2_with fail
    refine (value_any _ ks _ _ (H.out.on hb1) hg).mono ?_
    rintro e w2 ⟨rfl, hb2⟩
    go_wp2_with fail
    go_ret
    exact ⟨ret_int E.out.symm, bel_trans hb1 hb2⟩
  · have E := Lib.hid (show cat ks x = min 65535 (max x 0) by unfold cat; rw [if_neg hc])
    have hne : (chk ks != 0) = true := by simp [hc]
    generalize hcc : chk ks = cc at *
    have HCC := Lib.hid hcc; clear hcc hc h
    go_enter Tryd.func78, Tryd.ntmps78
    go_wp2_with fail
    refine (check_any _ ks _ H.out).mono ?_
    rintro e w1 ⟨rfl, hb1⟩
    rw [HCC.out]
    go_wp2_with fail
    refine (unit_any _ _).mono ?_
    rintro e w2 ⟨rfl, rfl⟩
    go_wp2_with fail
    go_ret
    exact ⟨ret_int E.out.symm, hb1⟩

set_option maxHeartbeats 400000 in
theorem runit_any (x : Int) (w : World) :
    Calls Tryd.prog 84 #[.int .i64 x] w fun e w' => e = .returned (.int .i64 (min 65535 (max x 0))) ∧ w = w' := by
  go_enter Tryd.func84, Tryd.ntmps84
  go_wp2_with (go_at_call 89; refine (rclamp_any _ _ _ _).mono ?_; rintro e w' ⟨rfl, rfl⟩)
  go_ret
  exact ⟨rfl, rfl⟩

set_option maxHeartbeats 2000000 in
theorem rat_any (v : Value) (ks : List (Int × Int)) (x : Int) (w : World) (h : Knots w w.heap.size v ks) :
    Calls Tryd.prog 87 #[v, .int .i64 x] w fun e w' => e = .returned (.int .i64 (cat ks x)) ∧ Below w.heap.size w w' := by
  have H := Lib.hid h
  by_cases hc : chk ks = 0
  · have EC := Lib.hid (show cat ks x = val ks x by unfold cat; rw [if_pos hc])
    have g := (chk_iff ks).1 hc
    have HC := Lib.hid hc; clear hc h
    have hn2 := g.n2
    have hn16 := g.n16
    go_enter Tryd.func87, Tryd.ntmps87
    go_wp2_with fail
    refine (rcheck_any _ ks _ H.out).mono ?_
    rintro e w1 ⟨rfl, hb1⟩
    rw [HC.out]
    have H1 := H.out.on hb1
    obtain ⟨b, o, c, rfl, hb, hcell⟩ := H1.form (by omega)
    have HK := Lib.hid hcell
    clear hcell H1
    have hc0 := (HK.out 0 (by omega)).1
    have hd0 := (HK.out 0 (by omega)).2
    simp only [Nat.zero_mul, Nat.add_zero] at hc0 hd0
    by_cases hx : x ≤ kx ks 0
    · have E := Lib.hid (show val ks x = ky ks 0 by unfold val; rw [if_pos hx])
      generalize kx ks 0 = X0 at *
      generalize ky ks 0 = Y0 at *
      go_wp2
      go_ret
      exact ⟨ret_int (by rw [EC.out, E.out]), hb1⟩
    · have E := Lib.hid (show valGo (kx ks 0, ky ks 0) (ks.drop (0 + 1)) x = val ks x by unfold val; rw [if_neg hx])
      have hx0 : Hid (kx ks 0 ≤ x) := by show kx ks 0 ≤ x; omega
      generalize hX0 : kx ks 0 = X0 at *
      generalize hY0 : ky ks 0 = Y0 at *
      have HX0 := Lib.hid hX0; clear hX0
      have HY0 := Lib.hid hY0; clear hY0
      go_wp2
      go_loopw [5] (ValRel ks x w1) (fun i _ => ks.length - (intOf i).toNat)
      case atStart => exact ⟨0, by omega, by go_num, by rw [HX0.out, HY0.out]; exact E.out, by rw [HX0.out]; exact hx0.out, Below.refl _ _⟩
      case round =>
        obtain ⟨j, hj, rfl, hvj, hxj, hbel⟩ := hrel
        have HVJ := Lib.hid hvj; clear hvj
        have hsz := hbel.size
        clear hc0 hd0
        by_cases hlt : j + 1 < ks.length
        · have c1 := (hbel.cell (p := ⟨b, o + j * 2, none⟩) hb).trans (HK.out j (by omega)).1
          have c2 := (hbel.cell (p := ⟨b, o + j * 2 + 1, none⟩) hb).trans (HK.out j (by omega)).2
          have c3 := (hbel.cell (p := ⟨b, o + (j + 1) * 2, none⟩) hb).trans (HK.out (j + 1) hlt).1
          have c4 := (hbel.cell (p := ⟨b, o + (j + 1) * 2 + 1, none⟩) hb).trans (HK.out (j + 1) hlt).2
          have HH := Lib.hid (val_hit ks j x hlt)
          have HN := Lib.hid (val_next ks j x hlt)
          have ho := g.ord j hlt
          have r1 := g.rng j (by omega)
          have r2 := g.rng (j + 1) hlt
          generalize hpx : kx ks j = px at *
          generalize hpy : ky ks j = py at *
          generalize hqx : kx ks (j + 1) = qx at *
          generalize hqy : ky ks (j + 1) = qy at *
          have HPX := Lib.hid hpx; clear hpx
          have HPY := Lib.hid hpy; clear hpy
          have HQX := Lib.hid hqx; clear hqx
          have HQY := Lib.hid hqy; clear hqy
          by_cases hq : x < qx
          · have hpr := prod_bd (qy - py) (x - px) (by omega) (by omega) (by omega) (by omega)
            have E2 := Lib.hid (HH.out hq)
            have hl := val_unit ks g x
            rw [← HVJ.out, E2.out] at hl
            unfold lin at hl
            go_wp2
            go_quiet ((go_at_call 37; exact quiet_tolN (rdiv_any _ _ _ (by omega) (by omega) (by omega) (by omega)) (fun _ => ⟨_, World.drewN_drewN _ _ _⟩)))
            go_wp2
            go_ret
            exact ⟨ret_int (by rw [EC.out, ← HVJ.out, E2.out]; rfl), bel_trans hb1 (by repeat (first | exact hbel | refine Below.drewN' ?_ _))⟩
          · have E2 := Lib.hid (HN.out hq)
            go_wp2
            go_roundw
            case rel => exact ⟨j + 1, by omega, by go_num, by rw [HQX.out, HQY.out, ← E2.out, HVJ.out], by rw [HQX.out]; omega, by repeat (first | exact hbel | refine Below.drewN' ?_ _)⟩
            case measure => simp [intOf]; omega
        · have E2 := Lib.hid (val_last ks j x (by omega))
          have c2 := (hbel.cell (p := ⟨b, o + j * 2 + 1, none⟩) hb).trans (HK.out j (by omega)).2
          have hje : Hid (ks.length = j + 1) := by show ks.length = j + 1; omega
          have c2' : wr.cell? ⟨b, o + (ks.length - 1) * 2 + 1, none⟩ = some (.int .i64 (ky ks j)) := by rw [hje.out]; exact c2
          generalize ky ks j = py at *
          go_wp2
          go_ret
          exact ⟨ret_int (by rw [EC.out, ← HVJ.out, E2.out]), bel_trans hb1 hbel⟩
  · have E := Lib.hid (show cat ks x = min 65535 (max x 0) by unfold cat; rw [if_neg hc])
    have hne : (chk ks != 0) = true := by simp [hc]
    generalize hcc : chk ks = cc at *
    have HCC := Lib.hid hcc; clear hcc hc h
    go_enter Tryd.func87, Tryd.ntmps87
    go_wp2_with fail
    refine (rcheck_any _ ks _ H.out).mono ?_
    rintro e w1 ⟨rfl, hb1⟩
    rw [HCC.out]
    go_wp2_with fail
    refine (runit_any _ _).mono ?_
    rintro e w2 ⟨rfl, rfl⟩
    go_wp2_with fail
    go_ret
    exact ⟨ret_int E.out.symm, hb1⟩
end Go.Proofs.YtmbglkholoblaaaDoor
namespace Go.Proofs.YtmbglkholoblaaaDoor
open Go.RowKit

def flat2 (ks : List (Int × Int)) : List Int := ks.flatMap fun k => [k.1, k.2]
theorem flat2_nil : flat2 [] = [] := rfl
theorem flat2_cons (k : Int × Int) (ks : List (Int × Int)) : flat2 (k :: ks) = k.1 :: k.2 :: flat2 ks := rfl
theorem flat2_append (a b : List (Int × Int)) : flat2 (a ++ b) = flat2 a ++ flat2 b := by simp [flat2]
theorem flat2_length : ∀ ks : List (Int × Int), (flat2 ks).length = ks.length * 2
  | [] => rfl
  | k :: ks => by rw [flat2_cons]; simp [flat2_length ks]; omega
theorem flat2_x : ∀ (ks : List (Int × Int)) (i : Nat), i < ks.length → (flat2 ks)[i * 2]? = some (kx ks i)
  | [], i, h => absurd h (by simp)
  | k :: ks, 0, _ => rfl
  | k :: ks, i + 1, h => by
    have := flat2_x ks i (by simpa using h)
    rw [flat2_cons, show (i + 1) * 2 = i * 2 + 1 + 1 by omega]
    simpa [kx] using this
theorem flat2_y : ∀ (ks : List (Int × Int)) (i : Nat), i < ks.length → (flat2 ks)[i * 2 + 1]? = some (ky ks i)
  | [], i, h => absurd h (by simp)
  | k :: ks, 0, _ => rfl
  | k :: ks, i + 1, h => by
    have := flat2_y ks i (by simpa using h)
    rw [flat2_cons, show (i + 1) * 2 + 1 = i * 2 + 1 + 1 + 1 by omega]
    simpa [ky] using this
theorem flat2_set : ∀ (ks : List (Int × Int)) (i : Nat) (p : Int × Int), flat2 (ks.set i p) = ((flat2 ks).set (i * 2) p.1).set (i * 2 + 1) p.2
  | [], i, p => by simp [flat2]
  | k :: ks, 0, p => rfl
  | k :: ks, i + 1, p => by
    have := flat2_set ks i p
    rw [List.set_cons_succ, flat2_cons, flat2_cons, this, show (i + 1) * 2 = i * 2 + 1 + 1 by omega]
    rfl
theorem flat2_zero : ∀ n : Nat, flat2 (List.replicate n (0, 0)) = List.replicate (n * 2) 0
  | 0 => rfl
  | n + 1 => by rw [List.replicate_succ, flat2_cons, flat2_zero n, show (n + 1) * 2 = n * 2 + 1 + 1 by omega]; rfl

/-- The slice of knots v is the call's own and holds the knots ks. -/
def KRow (w : World) (B : Nat) (v : Value) (ks : List (Int × Int)) : Prop := FRow 77 2 w B v ks.length (flat2 ks)

section
variable {w w' : World} {B : Nat} {v : Value} {ks : List (Int × Int)}
theorem KRow.nil (w : World) (B : Nat) : KRow w B (.slice none 0 0) [] := FRow.nil _ _ _ _
theorem KRow.drewN (h : KRow w B v ks) (k : Nat) : KRow (w.drewN k) B v ks := h
theorem KRow.drew (h : KRow w B v ks) : KRow w.drew B v ks := h
theorem KRow.alloc (h : KRow w B v ks) (o : Obj) : KRow (w.alloc o) B v ks := FRow.alloc h o
theorem KRow.below (h : KRow w B v ks) (hb : Below w.heap.size w w') : KRow w' B v ks := FRow.below h hb
theorem KRow.knots (h : KRow w B v ks) (hn : ks.length ≤ 9223372036854775807) : Knots w w.heap.size v ks := by
  by_cases h0 : ks.length = 0
  · have : ks = [] := List.eq_nil_of_length_eq_zero h0
    subst this
    obtain ⟨A, c, rfl⟩ := FRow.shape h
    exact ⟨A, c, rfl, by simp, fun i hi => absurd hi (by simp)⟩
  · obtain ⟨g, cap, rfl, hB, hlt⟩ := FRow.form h (by omega)
    exact ⟨_, _, rfl, hn, fun i hi => ⟨g, 0, rfl, hlt, by rw [Nat.zero_add]; exact FRow.cell h (flat2_x ks i hi), by rw [Nat.zero_add]; exact FRow.cell h (flat2_y ks i hi)⟩⟩
end
theorem Tryd.infoKnot : (Tryd.prog.info? 77).map (fun i => (i.zero, i.size, i.bytes)) = some (some (.agg #[.int .i64 0, .int .i64 0]), 2, 16) := by kernel_rfl
end Go.Proofs.YtmbglkholoblaaaDoor
