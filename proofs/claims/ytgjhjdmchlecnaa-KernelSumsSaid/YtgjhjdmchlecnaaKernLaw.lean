/- The weights of the pixels about a position, as plain lists of integers; their sum. No program in sight. -/
import Derived.Test.YtgjhjdmchlecnaaKernMath
namespace Go.Proofs.Ytgjhjdmchlecnaa

def k1 (kind x : Int) : Int := (x - spt kind * 65536 - 32768) / 65536 + 1
def kl (kind x : Int) : Int := (x + spt kind * 65536 - 32768 - 1) / 65536
def kn (kind x : Int) : Nat := (kl kind x - k1 kind x + 1).toNat
/-- The raw weights. -/
def raw (kind x : Int) : List Int := (List.range (kn kind x)).map fun i => wt kind (x - ((k1 kind x + (i : Nat)) * 65536 + 32768))
/-- The normalized weights. -/
def nrm (l : List Int) : List Int := l.map fun w => rdiv (w * 65536) l.sum
/-- The place of the first greatest number among the first k. -/
def bst (l : List Int) : Nat → Nat
  | 0 => 0
  | k + 1 => if l.getD (bst l k) 0 < l.getD k 0 then k else bst l k
def fin (l : List Int) : List Int := (nrm l).set (bst (nrm l) l.length) ((nrm l).getD (bst (nrm l) l.length) 0 + (65536 - (nrm l).sum))
def cl (x : Int) : Int := min 1099511627776 (max x (-1099511627776))
def tapFirst (kind x : Int) : Int := if vld kind then k1 kind (cl x) else 0
def taps (kind x : Int) : List Int := if vld kind then fin (raw kind (cl x)) else []

theorem raw_length (kind x : Int) : (raw kind x).length = kn kind x := by simp [raw]
theorem raw_get (kind x : Int) (i : Nat) (h : i < kn kind x) : (raw kind x).getD i 0 = wt kind (x - ((k1 kind x + i) * 65536 + 32768)) := by
  simp [raw, h]
theorem nrm_length (l : List Int) : (nrm l).length = l.length := by simp [nrm]
theorem nrm_get (l : List Int) (i : Nat) (h : i < l.length) : (nrm l).getD i 0 = rdiv (l.getD i 0 * 65536) l.sum := by
  simp [nrm, h]
theorem bst_lt (l : List Int) : ∀ k, bst l k < k ∨ bst l k = 0
  | 0 => .inr rfl
  | k + 1 => by
    unfold bst
    split
    · left; omega
    · rcases bst_lt l k with h | h
      · left; omega
      · right; exact h
theorem take_snoc_int (l : List Int) (k : Nat) (h : k < l.length) : l.take (k + 1) = l.take k ++ [l.getD k 0] := by
  rw [List.take_succ_eq_append_getElem h]; simp [h]
theorem sum_snoc (l : List Int) (a : Int) : (l ++ [a]).sum = l.sum + a := by simp

/-- The list in the middle of the second loop. -/
def cur (l : List Int) (k : Nat) : List Int := (nrm l).take k ++ l.drop k
theorem cur_length (l : List Int) (k : Nat) : (cur l k).length = l.length := by
  simp [cur, nrm_length]; omega
theorem cur_zero (l : List Int) : cur l 0 = l := by simp [cur]
theorem cur_all (l : List Int) : cur l l.length = nrm l := by
  simp [cur]; rw [← nrm_length l, List.take_length]
theorem cur_at (l : List Int) (k : Nat) (h : k < l.length) : (cur l k)[k]? = some (l.getD k 0) := by
  have : ((nrm l).take k).length = k := by rw [List.length_take, nrm_length]; omega
  unfold cur
  rw [List.getElem?_append_right (by omega), this]
  simp [h]
theorem cur_set (l : List Int) (k : Nat) (h : k < l.length) : (cur l k).set k ((nrm l).getD k 0) = cur l (k + 1) := by
  have hl : ((nrm l).take k).length = k := by rw [List.length_take, nrm_length]; omega
  unfold cur
  rw [List.set_append_right _ _ (by omega), hl, Nat.sub_self, take_snoc_int (nrm l) k (by rw [nrm_length]; exact h)]
  rw [List.drop_eq_getElem_cons h, List.set_cons_zero, List.append_assoc]
  rfl
theorem cur_old (l : List Int) (k j : Nat) (h : k ≤ l.length) (hj : j < k) : (cur l k)[j]? = some ((nrm l).getD j 0) := by
  have hl : ((nrm l).take k).length = k := by rw [List.length_take, nrm_length]; omega
  unfold cur
  rw [List.getElem?_append_left (by omega), List.getElem?_take, if_pos hj]
  have : j < (nrm l).length := by rw [nrm_length]; omega
  simp [this]

theorem rdiv_lo (a b m : Int) (hb : 0 < b) (h : b * m ≤ a) : m ≤ rdiv a b := by
  have := rdiv_spec a b hb
  rcases Int.lt_or_le (rdiv a b) m with hc | hc
  · have : b * (rdiv a b + 1) ≤ b * m := Int.mul_le_mul_of_nonneg_left (by omega) (by omega)
    rw [Int.mul_add] at this
    omega
  · exact hc
theorem rdiv_hi (a b m : Int) (hb : 0 < b) (h : a ≤ b * m) : rdiv a b ≤ m := by
  have := rdiv_spec a b hb
  rcases Int.lt_or_le m (rdiv a b) with hc | hc
  · have : b * (m + 1) ≤ b * rdiv a b := Int.mul_le_mul_of_nonneg_left (by omega) (by omega)
    rw [Int.mul_add] at this
    omega
  · exact hc

theorem cub_le (a : Int) (h0 : 0 ≤ a) (h1 : a ≤ 131072) : -2097152 ≤ cub a ∧ cub a ≤ 2097152 := by
  obtain ⟨d1, d2, d3, d4, d5⟩ := cub_bounds a h0 h1
  unfold cub
  by_cases h : a < 65536
  · rw [cubN_lo a h]; exact ⟨rdiv_lo _ _ _ (by omega) (by omega), rdiv_hi _ _ _ (by omega) (by omega)⟩
  · rw [cubN_hi a h]; exact ⟨rdiv_lo _ _ _ (by omega) (by omega), rdiv_hi _ _ _ (by omega) (by omega)⟩
theorem mit_le (a : Int) (h0 : 0 ≤ a) (h1 : a ≤ 131072) : -2097152 ≤ mit a ∧ mit a ≤ 2097152 := by
  obtain ⟨d1, d2, d3, d4, d5⟩ := mit_bounds a h0 h1
  unfold mit
  by_cases h : a < 65536
  · rw [mitN_lo a h]; exact ⟨rdiv_lo _ _ _ (by omega) (by omega), rdiv_hi _ _ _ (by omega) (by omega)⟩
  · rw [mitN_hi a h]; exact ⟨rdiv_lo _ _ _ (by omega) (by omega), rdiv_hi _ _ _ (by omega) (by omega)⟩
theorem wt_le (kind t : Int) : -2097152 ≤ wt kind t ∧ wt kind t ≤ 2097152 := by
  unfold wt
  split
  · omega
  · have := cub_le (max t (-t)) (by omega) (by omega)
    have := mit_le (max t (-t)) (by omega) (by omega)
    repeat' split
    all_goals omega

theorem raw_el (kind x : Int) (i : Nat) : -2097152 ≤ (raw kind x).getD i 0 ∧ (raw kind x).getD i 0 ≤ 2097152 := by
  by_cases hi : i < kn kind x
  · rw [raw_get _ _ _ hi]; exact wt_le _ _
  · have : (raw kind x).getD i 0 = 0 := by
      have : (raw kind x).length ≤ i := by rw [raw_length]; omega
      simp [this]
    omega
/-- What is known of the raw weights: enough for the second loop. -/
structure Raw (l : List Int) : Prop where
  n1 : 1 ≤ l.length
  n2 : l.length ≤ 4
  s1 : 65532 ≤ l.sum
  s2 : l.sum ≤ 65540
  el : ∀ i, -2097152 ≤ l.getD i 0 ∧ l.getD i 0 ≤ 2097152
theorem Raw.nel {l : List Int} (h : Raw l) (i : Nat) : -2200000 ≤ (nrm l).getD i 0 ∧ (nrm l).getD i 0 ≤ 2200000 := by
  by_cases hi : i < l.length
  · rw [nrm_get _ _ hi]
    have := h.el i
    have := h.s1
    exact ⟨rdiv_lo _ _ _ (by omega) (by omega), rdiv_hi _ _ _ (by omega) (by omega)⟩
  · have : (nrm l).getD i 0 = 0 := by
      have : (nrm l).length ≤ i := by rw [nrm_length]; omega
      simp [this]
    omega
theorem Raw.nsum {l : List Int} (h : Raw l) : ∀ k, k ≤ l.length → -2200000 * (k : Int) ≤ ((nrm l).take k).sum ∧ ((nrm l).take k).sum ≤ 2200000 * (k : Int)
  | 0, _ => by simp
  | k + 1, hk => by
    have h1 := h.nsum k (by omega)
    have h2 := h.nel k
    rw [take_snoc_int _ _ (by rw [nrm_length]; omega), sum_snoc]
    omega
theorem spt_le (kind : Int) : 0 ≤ spt kind ∧ spt kind ≤ 2 := by unfold spt; repeat' split
                                                                all_goals omega
theorem k1_bd (kind x : Int) (h0 : -1099511627776 ≤ x) (h1 : x ≤ 1099511627776) : -16777220 ≤ k1 kind x ∧ k1 kind x ≤ 16777220 := by
  have := spt_le kind
  unfold k1; omega
theorem kl_bd (kind x : Int) (h0 : -1099511627776 ≤ x) (h1 : x ≤ 1099511627776) : -16777220 ≤ kl kind x ∧ kl kind x ≤ 16777220 := by
  have := spt_le kind
  unfold kl; omega
theorem vld_iff (kind : Int) : vld kind = true ↔ (kind = 0 ∨ kind = 1 ∨ kind = 2 ∨ kind = 3 ∨ kind = 4) := by unfold vld; simp; omega
/-- All but the rest r of the position falls out: the distances are s - (i + 1) One + r. -/
theorem kn_r (kind x r : Int) (hv : vld kind = true) (hr : r = (x - spt kind * 65536 - 32768) % 65536) : (kn kind x : Int) = 2 * spt kind - (if r = 0 then 1 else 0) ∧ ∀ i : Int, x - ((k1 kind x + i) * 65536 + 32768) = (spt kind - 1 - i) * 65536 + r := by
  have := spt_le kind
  have h1 : 1 ≤ spt kind := by
    rw [vld_iff] at hv
    unfold spt; split <;> (try split) <;> omega
  unfold kn kl k1
  constructor
  · split <;> omega
  · intro i; omega
/-- The raw weights by the rest alone. -/
def rawR (kind r : Int) : List Int := (List.range (2 * spt kind - (if r = 0 then 1 else 0)).toNat).map fun i => wt kind ((spt kind - 1 - (i : Nat)) * 65536 + r)
theorem raw_eq (kind x : Int) (hv : vld kind = true) : raw kind x = rawR kind ((x - spt kind * 65536 - 32768) % 65536) := by
  obtain ⟨h1, h2⟩ := kn_r kind x _ hv rfl
  unfold raw rawR
  rw [← h1, Int.toNat_natCast]
  apply List.map_congr_left
  intro i _
  rw [h2 i]
theorem cub_sum (r : Int) (h0 : 0 ≤ r) (h1 : r < 65536) : cubN (65536 + r) + cubN r + cubN (65536 - r) + cubN (131072 - r) = 562949953421312 := by
  rw [cubN_hi _ (by omega), cubN_lo r (by omega), cubN_hi (131072 - r) (by omega)]
  by_cases h : r = 0
  · subst h; decide
  · rw [cubN_lo _ (by omega)]; grind
theorem mit_sum (r : Int) (h0 : 0 ≤ r) (h1 : r < 65536) : mitN (65536 + r) + mitN r + mitN (65536 - r) + mitN (131072 - r) = 5066549580791808 := by
  rw [mitN_hi _ (by omega), mitN_lo r (by omega), mitN_hi (131072 - r) (by omega)]
  by_cases h : r = 0
  · subst h; decide
  · rw [mitN_lo _ (by omega)]; grind
theorem rawR_2 (kind r : Int) (hs : spt kind = 2) (h : r ≠ 0) : rawR kind r = [wt kind (65536 + r), wt kind r, wt kind (r - 65536), wt kind (r - 131072)] := by
  unfold rawR
  rw [hs, if_neg h]
  simp only [show (2 * 2 - 0 : Int).toNat = 4 from rfl, List.range_succ, List.range_zero, List.map_nil, List.map_cons, List.nil_append, List.cons_append]
  simp only [List.cons.injEq, and_true]
  exact ⟨congrArg (wt kind) (by omega), congrArg (wt kind) (by omega), congrArg (wt kind) (by omega), congrArg (wt kind) (by omega)⟩
theorem rawR_20 (kind : Int) (hs : spt kind = 2) : rawR kind 0 = [wt kind 65536, wt kind 0, wt kind (-65536)] := by
  unfold rawR
  rw [hs]; rfl
theorem rawR_1 (kind r : Int) (hs : spt kind = 1) (h : r ≠ 0) : rawR kind r = [wt kind r, wt kind (r - 65536)] := by
  unfold rawR
  rw [hs, if_neg h]
  simp only [show (2 * 1 - 0 : Int).toNat = 2 from rfl, List.range_succ, List.range_zero, List.map_nil, List.map_cons, List.nil_append, List.cons_append]
  simp only [List.cons.injEq, and_true]
  exact ⟨congrArg (wt kind) (by omega), congrArg (wt kind) (by omega)⟩
theorem rawR_10 (kind : Int) (hs : spt kind = 1) : rawR kind 0 = [wt kind 0] := by
  unfold rawR
  rw [hs]; rfl
theorem rawR_sum (kind r : Int) (hv : vld kind = true) (h0 : 0 ≤ r) (h1 : r < 65536) : 65532 ≤ (rawR kind r).sum ∧ (rawR kind r).sum ≤ 65540 := by
  rw [vld_iff] at hv
  by_cases h : r = 0
  · subst h
    rcases hv with rfl | rfl | rfl | rfl | rfl
    · rw [rawR_10 _ rfl]; decide
    · rw [rawR_10 _ rfl]; decide
    · rw [rawR_20 _ rfl]; decide
    · rw [rawR_10 _ rfl]; decide
    · rw [rawR_20 _ rfl]; decide
  · rcases hv with rfl | rfl | rfl | rfl | rfl
    · rw [rawR_1 _ _ rfl h]
      simp only [List.sum_cons, List.sum_nil]
      by_cases c : r < 32768
      · rw [wt_0 r (by omega) (by omega) (by omega), wt_0' (r - 65536) (by omega) (by omega) (by omega)]; omega
      · rw [wt_0' r (by omega) (by omega) (by omega), wt_0 (r - 65536) (by omega) (by omega) (by omega)]; omega
    · rw [rawR_1 _ _ rfl h]
      simp only [List.sum_cons, List.sum_nil]
      rw [wt_1 r (by omega) (by omega), wt_1 (r - 65536) (by omega) (by omega)]; omega
    · rw [rawR_2 _ _ rfl h]
      simp only [List.sum_cons, List.sum_nil]
      rw [wt_2 _ (by omega) (by omega), wt_2 _ (by omega) (by omega), wt_2 _ (by omega) (by omega), wt_2 _ (by omega) (by omega)]
      rw [show max (65536 + r) (-(65536 + r)) = 65536 + r by omega, show max r (-r) = r by omega, show max (r - 65536) (-(r - 65536)) = 65536 - r by omega, show max (r - 131072) (-(r - 131072)) = 131072 - r by omega]
      have e := cub_sum r h0 h1
      have e1 := rdiv_spec (cubN (65536 + r)) 8589934592 (by omega)
      have e2 := rdiv_spec (cubN r) 8589934592 (by omega)
      have e3 := rdiv_spec (cubN (65536 - r)) 8589934592 (by omega)
      have e4 := rdiv_spec (cubN (131072 - r)) 8589934592 (by omega)
      unfold cub
      omega
    · rw [rawR_1 _ _ rfl h]
      simp only [List.sum_cons, List.sum_nil]
      rw [wt_3 r (by omega) (by omega), wt_3 (r - 65536) (by omega) (by omega)]
      repeat' split
      all_goals omega
    · rw [rawR_2 _ _ rfl h]
      simp only [List.sum_cons, List.sum_nil]
      rw [wt_4 _ (by omega) (by omega), wt_4 _ (by omega) (by omega), wt_4 _ (by omega) (by omega), wt_4 _ (by omega) (by omega)]
      rw [show max (65536 + r) (-(65536 + r)) = 65536 + r by omega, show max r (-r) = r by omega, show max (r - 65536) (-(r - 65536)) = 65536 - r by omega, show max (r - 131072) (-(r - 131072)) = 131072 - r by omega]
      have e := mit_sum r h0 h1
      have e1 := rdiv_spec (mitN (65536 + r)) 77309411328 (by omega)
      have e2 := rdiv_spec (mitN r) 77309411328 (by omega)
      have e3 := rdiv_spec (mitN (65536 - r)) 77309411328 (by omega)
      have e4 := rdiv_spec (mitN (131072 - r)) 77309411328 (by omega)
      unfold mit
      omega
theorem raw_sum (kind x : Int) (hv : vld kind = true) : 65532 ≤ (raw kind x).sum ∧ (raw kind x).sum ≤ 65540 := by
  rw [raw_eq kind x hv]
  exact rawR_sum kind _ hv (by omega) (by omega)
theorem kn_le (kind x : Int) (hv : vld kind = true) : 1 ≤ kn kind x ∧ kn kind x ≤ 4 ∧ kl kind x = k1 kind x + kn kind x - 1 := by
  obtain ⟨h1, _⟩ := kn_r kind x _ hv rfl
  have h2 := spt_le kind
  have h3 : 1 ≤ spt kind := by
    rw [vld_iff] at hv
    unfold spt; split <;> (try split) <;> omega
  have : 1 ≤ kn kind x ∧ kn kind x ≤ 4 := by split at h1 <;> omega
  refine ⟨this.1, this.2, ?_⟩
  unfold kn at *; omega
theorem raw_raw (kind x : Int) (hv : vld kind = true) : Raw (raw kind x) := by
  have h1 := kn_le kind x hv
  have h2 := raw_sum kind x hv
  exact ⟨by rw [raw_length]; omega, by rw [raw_length]; omega, h2.1, h2.2, raw_el kind x⟩
end Go.Proofs.Ytgjhjdmchlecnaa
