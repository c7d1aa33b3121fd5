/- Piecewise-linear curves as plain lists of pairs of integers: what Check, At, Rising, Back come to; the promises. No program in sight. -/
import Derived.Test.YtbakgdcajpagkaaMA
namespace Go.Proofs.Ytbakgdcajpagkaa

/-- The knot at a place. -/
def kx (ks : List (Int × Int)) (i : Nat) : Int := (ks.getD i (0, 0)).1
def ky (ks : List (Int × Int)) (i : Nat) : Int := (ks.getD i (0, 0)).2

/-- The error among the knots from a place on, p being the X before them. -/
def chkFrom (p : Int) : List (Int × Int) → Int
  | [] => 0
  | q :: r => if ¬ (0 ≤ q.1 ∧ q.1 ≤ 65535 ∧ 0 ≤ q.2 ∧ q.2 ≤ 65535) then 2 else if q.1 ≤ p then 24 else chkFrom q.1 r
def chk (ks : List (Int × Int)) : Int := if ks.length < 2 then 1 else if 16 < ks.length then 3 else chkFrom (-1) ks
/-- The X before a place. -/
def px (ks : List (Int × Int)) : Nat → Int
  | 0 => -1
  | k + 1 => kx ks k

theorem drop_cons (ks : List (Int × Int)) (k : Nat) (h : k < ks.length) : ks.drop k = (kx ks k, ky ks k) :: ks.drop (k + 1) := by
  have e : (kx ks k, ky ks k) = ks[k] := by simp [kx, ky, h]
  rw [List.drop_eq_getElem_cons h, e]
theorem chk_bad (ks : List (Int × Int)) (k : Nat) (h : k < ks.length) (hb : ¬ (0 ≤ kx ks k ∧ kx ks k ≤ 65535 ∧ 0 ≤ ky ks k ∧ ky ks k ≤ 65535)) : chkFrom (px ks k) (ks.drop k) = 2 := by
  rw [drop_cons ks k h]; unfold chkFrom; rw [if_pos hb]
theorem chk_ord (ks : List (Int × Int)) (k : Nat) (h : k < ks.length) (hb : 0 ≤ kx ks k ∧ kx ks k ≤ 65535 ∧ 0 ≤ ky ks k ∧ ky ks k ≤ 65535) (ho : kx ks k ≤ px ks k) : chkFrom (px ks k) (ks.drop k) = 24 := by
  rw [drop_cons ks k h]; unfold chkFrom; rw [if_neg (not_not_intro hb), if_pos ho]
theorem chk_next (ks : List (Int × Int)) (k : Nat) (h : k < ks.length) (hb : 0 ≤ kx ks k ∧ kx ks k ≤ 65535 ∧ 0 ≤ ky ks k ∧ ky ks k ≤ 65535) (ho : ¬ kx ks k ≤ px ks k) : chkFrom (px ks k) (ks.drop k) = chkFrom (px ks (k + 1)) (ks.drop (k + 1)) := by
  rw [drop_cons ks k h]; conv => lhs; unfold chkFrom
  rw [if_neg (not_not_intro hb), if_neg ho]; rfl
theorem chk_end (ks : List (Int × Int)) : chkFrom (px ks ks.length) (ks.drop ks.length) = 0 := by simp [chkFrom]

/-- A curve without error. -/
structure Good (ks : List (Int × Int)) : Prop where
  n2 : 2 ≤ ks.length
  n16 : ks.length ≤ 16
  rng : ∀ i, i < ks.length → 0 ≤ kx ks i ∧ kx ks i ≤ 65535 ∧ 0 ≤ ky ks i ∧ ky ks i ≤ 65535
  ord : ∀ i, i + 1 < ks.length → kx ks i < kx ks (i + 1)

theorem good_from (ks : List (Int × Int)) : ∀ (m k : Nat), k + m = ks.length → chkFrom (px ks k) (ks.drop k) = 0 →
    (∀ i, k ≤ i → i < ks.length → 0 ≤ kx ks i ∧ kx ks i ≤ 65535 ∧ 0 ≤ ky ks i ∧ ky ks i ≤ 65535) ∧ (∀ i, k ≤ i → i < ks.length → px ks i < kx ks i)
  | 0, k, hm, _ => ⟨fun i h1 h2 => absurd h1 (by omega), fun i h1 h2 => absurd h1 (by omega)⟩
  | m + 1, k, hm, h => by
    have hk : k < ks.length := by omega
    by_cases hb : 0 ≤ kx ks k ∧ kx ks k ≤ 65535 ∧ 0 ≤ ky ks k ∧ ky ks k ≤ 65535
    · by_cases ho : kx ks k ≤ px ks k
      · rw [chk_ord ks k hk hb ho] at h; cases h
      · rw [chk_next ks k hk hb ho] at h
        obtain ⟨h1, h2⟩ := good_from ks m (k + 1) (by omega) h
        constructor
        · intro i hi hl
          by_cases e : i = k
          · subst e; exact hb
          · exact h1 i (by omega) hl
        · intro i hi hl
          by_cases e : i = k
          · subst e; omega
          · exact h2 i (by omega) hl
    · rw [chk_bad ks k hk hb] at h; cases h
theorem from_good (ks : List (Int × Int)) (g : Good ks) : ∀ (m k : Nat), k + m = ks.length → chkFrom (px ks k) (ks.drop k) = 0
  | 0, k, hm => by have : k = ks.length := by omega
                   subst this; exact chk_end ks
  | m + 1, k, hm => by
    have hk : k < ks.length := by omega
    have hr := g.rng k hk
    rw [chk_next ks k hk hr (by
      cases k with
      | zero => show ¬ kx ks 0 ≤ -1; omega
      | succ j => have := g.ord j hk; show ¬ kx ks (j + 1) ≤ kx ks j; omega)]
    exact from_good ks g m (k + 1) (by omega)
theorem chk_iff (ks : List (Int × Int)) : chk ks = 0 ↔ Good ks := by
  unfold chk
  constructor
  · intro h
    split at h
    · cases h
    · split at h
      · cases h
      · obtain ⟨h1, h2⟩ := good_from ks ks.length 0 (by omega) h
        exact ⟨by omega, by omega, fun i hi => h1 i (by omega) hi, fun i hi => h2 (i + 1) (by omega) hi⟩
  · intro g
    have h1 := g.n2
    have h2 := g.n16
    rw [if_neg (by omega), if_neg (by omega)]
    exact from_good ks g ks.length 0 (by omega)
theorem chk_le (ks : List (Int × Int)) : 0 ≤ chk ks ∧ chk ks ≤ 24 := by
  have h : ∀ (l : List (Int × Int)) (p : Int), 0 ≤ chkFrom p l ∧ chkFrom p l ≤ 24 := by
    intro l
    induction l with
    | nil => intro p; simp [chkFrom]
    | cons q r ih =>
      intro p
      unfold chkFrom
      split
      · omega
      · split
        · omega
        · exact ih _
  unfold chk
  split
  · omega
  · split
    · omega
    · exact h _ _

/-- Between two knots. -/
def lin (x0 y0 x1 y1 x : Int) : Int := y0 + rdiv ((y1 - y0) * (x - x0)) (x1 - x0)
def valGo (p : Int × Int) : List (Int × Int) → Int → Int
  | [], _ => p.2
  | q :: r, x => if x < q.1 then lin p.1 p.2 q.1 q.2 x else valGo q r x
/-- The value of a curve without error. -/
def val (ks : List (Int × Int)) (x : Int) : Int := if x ≤ kx ks 0 then ky ks 0 else valGo (kx ks 0, ky ks 0) (ks.drop 1) x
def cat (ks : List (Int × Int)) (x : Int) : Int := if chk ks = 0 then val ks x else min 65535 (max x 0)
theorem val_hit (ks : List (Int × Int)) (k : Nat) (x : Int) (h : k + 1 < ks.length) (hx : x < kx ks (k + 1)) : valGo (kx ks k, ky ks k) (ks.drop (k + 1)) x = lin (kx ks k) (ky ks k) (kx ks (k + 1)) (ky ks (k + 1)) x := by
  rw [drop_cons ks (k + 1) h]; unfold valGo; rw [if_pos hx]
theorem val_next (ks : List (Int × Int)) (k : Nat) (x : Int) (h : k + 1 < ks.length) (hx : ¬ x < kx ks (k + 1)) : valGo (kx ks k, ky ks k) (ks.drop (k + 1)) x = valGo (kx ks (k + 1), ky ks (k + 1)) (ks.drop (k + 1 + 1)) x := by
  rw [drop_cons ks (k + 1) h]; conv => lhs; unfold valGo
  rw [if_neg hx]
theorem val_last (ks : List (Int × Int)) (k : Nat) (x : Int) (h : k + 1 = ks.length) : valGo (kx ks k, ky ks k) (ks.drop (k + 1)) x = ky ks k := by
  rw [h]; simp [valGo]

/-- A rising curve. -/
structure Ris (ks : List (Int × Int)) : Prop where
  good : Good ks
  x0 : kx ks 0 = 0
  y0 : ky ks 0 = 0
  x1 : kx ks (ks.length - 1) = 65535
  y1 : ky ks (ks.length - 1) = 65535
  up : ∀ i, i + 1 < ks.length → ky ks i < ky ks (i + 1)
end Go.Proofs.Ytbakgdcajpagkaa
namespace Go.Proofs.Ytbakgdcajpagkaa

def wSz (C R S : Int) (n : Nat) : Bool := decide ((2 ≤ C ∧ C ≤ 8) ∧ (2 ≤ R ∧ R ≤ 8) ∧ (1 ≤ S ∧ S ≤ 256) ∧ (n : Int) = C * R)
def wRg (ks : List (Int × Int)) : Bool := decide (∀ i : Nat, i < ks.length → (-1048576 ≤ kx ks i ∧ kx ks i ≤ 1048576) ∧ -1048576 ≤ ky ks i ∧ ky ks i ≤ 1048576)
/-- The error of a warp. -/
def wErr (C R S : Int) (ks : List (Int × Int)) : Int := if wSz C R S ks.length = true then (if wRg ks = true then 0 else 2) else 15
structure WOk (C R S : Int) (ks : List (Int × Int)) : Prop where
  c0 : 2 ≤ C
  c1 : C ≤ 8
  r0 : 2 ≤ R
  r1 : R ≤ 8
  s0 : 1 ≤ S
  s1 : S ≤ 256
  n : (ks.length : Int) = C * R
  rng : ∀ i : Nat, i < ks.length → (-1048576 ≤ kx ks i ∧ kx ks i ≤ 1048576) ∧ -1048576 ≤ ky ks i ∧ ky ks i ≤ 1048576
theorem wErr_iff (C R S : Int) (ks : List (Int × Int)) : wErr C R S ks = 0 ↔ WOk C R S ks := by
  unfold wErr
  constructor
  · intro h
    split at h
    · rename_i h1
      split at h
      · rename_i h2
        unfold wSz at h1; unfold wRg at h2
        have h1 := of_decide_eq_true h1; have h2 := of_decide_eq_true h2
        exact ⟨h1.1.1, h1.1.2, h1.2.1.1, h1.2.1.2, h1.2.2.1.1, h1.2.2.1.2, h1.2.2.2, h2⟩
      · cases h
    · cases h
  · intro h
    rw [if_pos (show wSz C R S ks.length = true from decide_eq_true ⟨⟨h.c0, h.c1⟩, ⟨h.r0, h.r1⟩, ⟨h.s0, h.s1⟩, h.n⟩), if_pos (show wRg ks = true from decide_eq_true h.rng)]
/-- The cell in which a coordinate lies, and the distance from its begin. -/
def wcU (x n S : Int) : Int := min ((n - 1) * S) (max x 0)
def wcI (x n S : Int) : Int := min (wcU x n S / S) (n - 2)
def wcF (x n S : Int) : Int := wcU x n S - wcI x n S * S
theorem wc_bd {x n S : Int} (hn : 2 ≤ n) (hn2 : n ≤ 8) (hs : 1 ≤ S) (hs2 : S ≤ 256) : (0 ≤ wcU x n S ∧ wcU x n S ≤ 1792) ∧ (0 ≤ wcI x n S ∧ wcI x n S ≤ n - 2) ∧ 0 ≤ wcF x n S ∧ wcF x n S ≤ S := by
  have h0 : 0 ≤ (n - 1) * S := Int.mul_nonneg (by omega) (by omega)
  have h1 : (n - 1) * S ≤ 7 * 256 := Int.mul_le_mul (by omega) hs2 (by omega) (by omega)
  have hU : 0 ≤ wcU x n S ∧ wcU x n S ≤ (n - 1) * S := by unfold wcU; omega
  have hd := Int.mul_ediv_add_emod (wcU x n S) S
  have hm := Int.emod_nonneg (wcU x n S) (b := S) (by omega)
  have hm2 := Int.emod_lt_of_pos (wcU x n S) (b := S) (by omega)
  have hq : 0 ≤ wcU x n S / S := Int.ediv_nonneg hU.1 (by omega)
  refine ⟨⟨hU.1, by omega⟩, ⟨by unfold wcI; omega, by unfold wcI; omega⟩, ?_⟩
  unfold wcF wcI
  rcases Int.lt_or_le (n - 2) (wcU x n S / S) with c | c
  · rw [show min (wcU x n S / S) (n - 2) = n - 2 by omega]
    have e1 : S * (n - 1) ≤ S * (wcU x n S / S) := Int.mul_le_mul_of_nonneg_left (by omega) (by omega)
    have e2 : (n - 1) * S = (n - 2) * S + S := by rw [show n - 1 = n - 2 + 1 by omega, Int.add_mul, Int.one_mul]
    rw [Int.mul_comm S (n - 1)] at e1
    omega
  · rw [show min (wcU x n S / S) (n - 2) = wcU x n S / S by omega]
    rw [Int.mul_comm S] at hd
    omega
/-- The four weights of a displacement. -/
def wk (S f g : Int) : Int × Int × Int × Int := ((S - f) * (S - g), f * (S - g), (S - f) * g, f * g)
theorem wk_bd {S f g : Int} (hs : 1 ≤ S) (hs2 : S ≤ 256) (hf : 0 ≤ f ∧ f ≤ S) (hg : 0 ≤ g ∧ g ≤ S) : (0 ≤ (wk S f g).1 ∧ (wk S f g).1 ≤ 65536) ∧ (0 ≤ (wk S f g).2.1 ∧ (wk S f g).2.1 ≤ 65536) ∧ (0 ≤ (wk S f g).2.2.1 ∧ (wk S f g).2.2.1 ≤ 65536) ∧ (0 ≤ (wk S f g).2.2.2 ∧ (wk S f g).2.2.2 ≤ 65536) ∧
    (wk S f g).1 + (wk S f g).2.1 + (wk S f g).2.2.1 + (wk S f g).2.2.2 = S * S := by
  have key : ∀ a b : Int, 0 ≤ a ∧ a ≤ 256 → 0 ≤ b ∧ b ≤ 256 → 0 ≤ a * b ∧ a * b ≤ 65536 := fun a b ha hb => ⟨Int.mul_nonneg ha.1 hb.1, by have : a * b ≤ 256 * 256 := Int.mul_le_mul ha.2 hb.2 hb.1 (by omega); omega⟩
  refine ⟨key _ _ (by omega) (by omega), key _ _ (by omega) (by omega), key _ _ (by omega) (by omega), key _ _ (by omega) (by omega), ?_⟩
  unfold wk
  dsimp only
  have e1 : (S - f) * (S - g) + (S - f) * g = (S - f) * S := by rw [← Int.mul_add]; congr 1; omega
  have e2 : f * (S - g) + f * g = f * S := by rw [← Int.mul_add]; congr 1; omega
  have e3 : (S - f) * S + f * S = S * S := by rw [← Int.add_mul]; congr 1; omega
  omega
def wsum (k : Int × Int × Int × Int) (a b c d : Int) : Int := k.1 * a + k.2.1 * b + k.2.2.1 * c + k.2.2.2 * d
theorem mul_abs {k a m : Int} (hk : 0 ≤ k) (ha : -m ≤ a ∧ a ≤ m) : -(k * m) ≤ k * a ∧ k * a ≤ k * m := by
  have h1 : k * a ≤ k * m := Int.mul_le_mul_of_nonneg_left ha.2 hk
  have h2 : k * (-m) ≤ k * a := Int.mul_le_mul_of_nonneg_left ha.1 hk
  rw [Int.mul_neg] at h2
  exact ⟨h2, h1⟩
/-- A weighted sum of numbers up to m. -/
theorem wsum_bd {S f g m a b c d : Int} (hs : 1 ≤ S) (hs2 : S ≤ 256) (hf : 0 ≤ f ∧ f ≤ S) (hg : 0 ≤ g ∧ g ≤ S) (ha : -m ≤ a ∧ a ≤ m) (hb : -m ≤ b ∧ b ≤ m) (hc : -m ≤ c ∧ c ≤ m) (hd : -m ≤ d ∧ d ≤ m) :
    -(S * S * m) ≤ wsum (wk S f g) a b c d ∧ wsum (wk S f g) a b c d ≤ S * S * m := by
  obtain ⟨h1, h2, h3, h4, h5⟩ := wk_bd hs hs2 hf hg
  have e1 := mul_abs h1.1 ha; have e2 := mul_abs h2.1 hb; have e3 := mul_abs h3.1 hc; have e4 := mul_abs h4.1 hd
  have e5 : S * S * m = (wk S f g).1 * m + (wk S f g).2.1 * m + (wk S f g).2.2.1 * m + (wk S f g).2.2.2 * m := by rw [← h5, Int.add_mul, Int.add_mul, Int.add_mul]
  unfold wsum
  omega
/-- The index of a cell's first point. -/
def wN (C R S x y : Int) : Nat := (wcI y R S * C + wcI x C S).toNat
theorem wN_eq {C R S x y : Int} {ks : List (Int × Int)} (h : WOk C R S ks) : (wN C R S x y : Int) = wcI y R S * C + wcI x C S ∧ (wN C R S x y : Int) + C + 1 < (ks.length : Int) := by
  have hx := (wc_bd (x := x) h.c0 h.c1 h.s0 h.s1).2.1
  have hy := (wc_bd (x := y) h.r0 h.r1 h.s0 h.s1).2.1
  have e1 : wcI y R S * C ≤ (R - 2) * C := Int.mul_le_mul_of_nonneg_right hy.2 (by have := h.c0; omega)
  have e2 : 0 ≤ wcI y R S * C := Int.mul_nonneg hy.1 (by have := h.c0; omega)
  have e3 : C * R = (R - 2) * C + 2 * C := by rw [Int.mul_comm, ← Int.add_mul]; congr 1; omega
  have e4 := h.n
  have e5 := h.c0
  constructor
  · unfold wN; omega
  · unfold wN; omega
/-- The displacement. -/
def watX (C R S : Int) (ks : List (Int × Int)) (x y : Int) : Int :=
  wsum (wk S (wcF x C S) (wcF y R S)) (kx ks (wN C R S x y)) (kx ks (wN C R S x y + 1)) (kx ks (wN C R S x y + C.toNat)) (kx ks (wN C R S x y + C.toNat + 1))
def watY (C R S : Int) (ks : List (Int × Int)) (x y : Int) : Int :=
  wsum (wk S (wcF x C S) (wcF y R S)) (ky ks (wN C R S x y)) (ky ks (wN C R S x y + 1)) (ky ks (wN C R S x y + C.toNat)) (ky ks (wN C R S x y + C.toNat + 1))
def wat (C R S : Int) (ks : List (Int × Int)) (x y : Int) : Int × Int := if wErr C R S ks = 0 then (rdiv (watX C R S ks x y) (S * S), rdiv (watY C R S ks x y) (S * S)) else (0, 0)
/-- The greatest displacement. -/
def wmx (m : Int) (p : Int × Int) : Int := max (max (max (max m p.1) (-p.1)) p.2) (-p.2)
def wmax (ks : List (Int × Int)) : Int := ks.foldl wmx 0
theorem wmx_ge (m : Int) (p : Int × Int) : m ≤ wmx m p ∧ (-(wmx m p) ≤ p.1 ∧ p.1 ≤ wmx m p) ∧ -(wmx m p) ≤ p.2 ∧ p.2 ≤ wmx m p := by unfold wmx; omega
theorem foldl_ge (ks : List (Int × Int)) : ∀ m, m ≤ ks.foldl wmx m ∧ ∀ p ∈ ks, (-(ks.foldl wmx m) ≤ p.1 ∧ p.1 ≤ ks.foldl wmx m) ∧ -(ks.foldl wmx m) ≤ p.2 ∧ p.2 ≤ ks.foldl wmx m := by
  induction ks with
  | nil => intro m; exact ⟨Int.le_refl _, fun p hp => by cases hp⟩
  | cons q ks ih =>
    intro m
    have h := ih (wmx m q)
    have hq := wmx_ge m q
    refine ⟨by have := h.1; simp only [List.foldl_cons]; omega, fun p hp => ?_⟩
    simp only [List.foldl_cons]
    rcases List.mem_cons.1 hp with rfl | hp
    · have := h.1; omega
    · exact h.2 p hp
theorem wmax_at (ks : List (Int × Int)) (i : Nat) (h : i < ks.length) : (-(wmax ks) ≤ kx ks i ∧ kx ks i ≤ wmax ks) ∧ -(wmax ks) ≤ ky ks i ∧ ky ks i ≤ wmax ks := by
  have := (foldl_ge ks 0).2 ks[i] (List.getElem_mem h)
  simpa [kx, ky, h, wmax] using this
theorem foldl_le (ks : List (Int × Int)) (M : Int) (h : ∀ p ∈ ks, (-M ≤ p.1 ∧ p.1 ≤ M) ∧ -M ≤ p.2 ∧ p.2 ≤ M) : ∀ m, m ≤ M → ks.foldl wmx m ≤ M := by
  induction ks with
  | nil => intro m hm; exact hm
  | cons q ks ih =>
    intro m hm
    refine ih (fun p hp => h p (by simp [hp])) _ ?_
    have := h q (by simp)
    unfold wmx
    omega
def wreach (C R S : Int) (ks : List (Int × Int)) : Int := if wErr C R S ks = 0 then (wmax ks + 65535) / 65536 else 0
end Go.Proofs.Ytbakgdcajpagkaa
namespace Go.Proofs.Ytbakgdcajpagkaa
open Go.RowKit

/-- The slice value v reads in w as the knots ks; its cells lie in blocks below B. -/
def Knots (w : World) (B : Nat) (v : Value) (ks : List (Int × Int)) : Prop :=
  ∃ A c, v = .slice A ks.length c ∧ ks.length ≤ 9223372036854775807 ∧ ∀ i, i < ks.length → ∃ b o, A = some ⟨b, o, none⟩ ∧ b < B ∧
    w.cell? ⟨b, o + i * 2, none⟩ = some (.int .i64 (kx ks i)) ∧ w.cell? ⟨b, o + i * 2 + 1, none⟩ = some (.int .i64 (ky ks i))
theorem Knots.keep {w w' : World} {B : Nat} {v : Value} {ks : List (Int × Int)} (h : Knots w B v ks) (hk : ∀ b o, b < B → w'.cell? ⟨b, o, none⟩ = w.cell? ⟨b, o, none⟩) : Knots w' B v ks := by
  obtain ⟨A, c, e, hl, hc⟩ := h
  refine ⟨A, c, e, hl, fun i hi => ?_⟩
  obtain ⟨b, o, ea, hb, hx, hy⟩ := hc i hi
  exact ⟨b, o, ea, hb, (hk b _ hb).trans hx, (hk b _ hb).trans hy⟩
theorem Knots.below {w w' : World} {B : Nat} {v : Value} {ks : List (Int × Int)} (h : Knots w B v ks) (hb : Below B w w') : Knots w' B v ks :=
  h.keep fun b o hlt => hb.cell (p := ⟨b, o, none⟩) hlt
theorem Knots.drewN {w : World} {B : Nat} {v : Value} {ks : List (Int × Int)} (h : Knots w B v ks) (n : Nat) : Knots (w.drewN n) B v ks := h
theorem Knots.more {w : World} {B B' : Nat} {v : Value} {ks : List (Int × Int)} (h : Knots w B v ks) (hB : B ≤ B') : Knots w B' v ks := by
  obtain ⟨A, c, e, hl, hc⟩ := h
  refine ⟨A, c, e, hl, fun i hi => ?_⟩
  obtain ⟨b, o, ea, hb, hx⟩ := hc i hi
  exact ⟨b, o, ea, by omega, hx⟩
/-- Behind a call that wrote nothing that was there. -/
theorem Knots.on {w w' : World} {v : Value} {ks : List (Int × Int)} (h : Knots w w.heap.size v ks) (hb : Below w.heap.size w w') : Knots w' w'.heap.size v ks :=
  (h.below hb).more hb.size
theorem Knots.nil (w : World) (B : Nat) : Knots w B (.slice none 0 0) [] := ⟨none, 0, rfl, by simp, fun i hi => absurd hi (by simp)⟩

/-- A slice that holds something: its address. -/
theorem Knots.form {w : World} {B : Nat} {v : Value} {ks : List (Int × Int)} (h : Knots w B v ks) (hn : 0 < ks.length) : ∃ b o c, v = .slice (some ⟨b, o, none⟩) ks.length c ∧ b < B ∧
    ∀ i, i < ks.length → w.cell? ⟨b, o + i * 2, none⟩ = some (.int .i64 (kx ks i)) ∧ w.cell? ⟨b, o + i * 2 + 1, none⟩ = some (.int .i64 (ky ks i)) := by
  obtain ⟨A, c, rfl, hl, hc⟩ := h
  obtain ⟨b, o, rfl, hb, _⟩ := hc 0 hn
  refine ⟨b, o, c, rfl, hb, fun i hi => ?_⟩
  obtain ⟨b', o', e, _, hx⟩ := hc i hi
  injection e with e
  injection e with e1 e2
  subst e1 e2
  exact hx
end Go.Proofs.Ytbakgdcajpagkaa
