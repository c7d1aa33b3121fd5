/- The weights of the kernels as plain functions of integers, and bounds of the products that occur. No program in sight. -/
import Derived.Test.YtineinmghajmnaaMA
import Derived.Test.YtineinmghajmnaaMC
namespace Go.Proofs.Ytineinmghajmnaa

def cubN (a : Int) : Int := if a < 65536 then 3 * a * a * a - 5 * a * a * 65536 + 562949953421312 else -a * a * a + 5 * a * a * 65536 - 8 * a * 4294967296 + 1125899906842624
def mitN (a : Int) : Int := if a < 65536 then 21 * a * a * a - 36 * a * a * 65536 + 4503599627370496 else -7 * a * a * a + 36 * a * a * 65536 - 60 * a * 4294967296 + 9007199254740992
def cub (a : Int) : Int := rdiv (cubN a) 8589934592
def mit (a : Int) : Int := rdiv (mitN a) 77309411328

theorem sq_bounds (a : Int) (h0 : 0 ≤ a) (h1 : a ≤ 131072) : 0 ≤ a * a ∧ a * a ≤ 17179869184 ∧ 0 ≤ a * a * a ∧ a * a * a ≤ 2251799813685248 := by
  have e1 : a * a ≤ 131072 * 131072 := Int.mul_le_mul h1 h1 h0 (by omega)
  have e0 : 0 ≤ a * a := Int.mul_nonneg h0 h0
  have e2 : a * a * a ≤ 17179869184 * 131072 := Int.mul_le_mul (by omega) h1 h0 (by omega)
  have e3 : 0 ≤ a * a * a := Int.mul_nonneg e0 h0
  omega
theorem k_sq (k a : Int) : k * a * a = k * (a * a) := Int.mul_assoc k a a
theorem k_cu (k a : Int) : k * a * a * a = k * (a * a * a) := by rw [k_sq, Int.mul_assoc, Int.mul_assoc]
theorem n_sq (a : Int) : -a * a = -(a * a) := Int.neg_mul a a
theorem n_cu (a : Int) : -a * a * a = -(a * a * a) := by rw [n_sq, Int.neg_mul]
theorem cubN_lo (a : Int) (h : a < 65536) : cubN a = 3 * a * a * a - 5 * a * a * 65536 + 562949953421312 := by unfold cubN; rw [if_pos h]
theorem cubN_hi (a : Int) (h : ¬ a < 65536) : cubN a = -a * a * a + 5 * a * a * 65536 - 8 * a * 4294967296 + 1125899906842624 := by unfold cubN; rw [if_neg h]
theorem mitN_lo (a : Int) (h : a < 65536) : mitN a = 21 * a * a * a - 36 * a * a * 65536 + 4503599627370496 := by unfold mitN; rw [if_pos h]
theorem mitN_hi (a : Int) (h : ¬ a < 65536) : mitN a = -7 * a * a * a + 36 * a * a * 65536 - 60 * a * 4294967296 + 9007199254740992 := by unfold mitN; rw [if_neg h]
theorem cub_bounds (a : Int) (h0 : 0 ≤ a) (h1 : a ≤ 131072) :
    (0 ≤ 3 * a * a ∧ 3 * a * a ≤ 51539607552) ∧ (0 ≤ 3 * a * a * a ∧ 3 * a * a * a ≤ 6755399441055744) ∧ (0 ≤ 5 * a * a ∧ 5 * a * a ≤ 85899345920) ∧
    (-17179869184 ≤ -a * a ∧ -a * a ≤ 0) ∧ (-2251799813685248 ≤ -a * a * a ∧ -a * a * a ≤ 0) := by
  obtain ⟨b1, b2, b3, b4⟩ := sq_bounds a h0 h1
  rw [k_cu 3, k_sq 3, k_sq 5, n_cu, n_sq]
  omega
theorem mit_bounds (a : Int) (h0 : 0 ≤ a) (h1 : a ≤ 131072) :
    (0 ≤ 21 * a * a ∧ 21 * a * a ≤ 360777252864) ∧ (0 ≤ 21 * a * a * a ∧ 21 * a * a * a ≤ 47287796087390208) ∧ (0 ≤ 36 * a * a ∧ 36 * a * a ≤ 618475290624) ∧
    (-120259084288 ≤ -7 * a * a ∧ -7 * a * a ≤ 0) ∧ (-15762598695796736 ≤ -7 * a * a * a ∧ -7 * a * a * a ≤ 0) := by
  obtain ⟨b1, b2, b3, b4⟩ := sq_bounds a h0 h1
  rw [k_cu 21, k_sq 21, k_sq 36, k_cu (-7), k_sq (-7)]
  omega

/-- The weight of a kernel at a distance. -/
def wt (kind t : Int) : Int :=
  if t ≤ -131072 ∨ 131072 ≤ t then 0
  else if kind = 0 then (if -32768 ≤ t ∧ t < 32768 then 65536 else 0)
  else if kind = 1 then max (65536 - max t (-t)) 0
  else if kind = 3 then (if max t (-t) < 32768 then 65536 else if max t (-t) = 32768 then 32768 else 0)
  else if kind = 2 then cub (max t (-t))
  else if kind = 4 then mit (max t (-t))
  else 0
theorem wt_far (kind t : Int) (h : t ≤ -131072 ∨ 131072 ≤ t) : wt kind t = 0 := by unfold wt; rw [if_pos h]
theorem wt_0 (t : Int) (hl : -131072 < t) (hr : t < 131072) (h : -32768 ≤ t ∧ t < 32768) : wt 0 t = 65536 := by unfold wt; rw [if_neg (by omega), if_pos rfl, if_pos h]
theorem wt_0' (t : Int) (hl : -131072 < t) (hr : t < 131072) (h : ¬ (-32768 ≤ t ∧ t < 32768)) : wt 0 t = 0 := by unfold wt; rw [if_neg (by omega), if_pos rfl, if_neg h]
theorem wt_1 (t : Int) (hl : -131072 < t) (hr : t < 131072) : wt 1 t = max (65536 - max t (-t)) 0 := by unfold wt; rw [if_neg (by omega)]; rfl
theorem wt_3 (t : Int) (hl : -131072 < t) (hr : t < 131072) : wt 3 t = if max t (-t) < 32768 then 65536 else if max t (-t) = 32768 then 32768 else 0 := by unfold wt; rw [if_neg (by omega)]; rfl
theorem wt_2 (t : Int) (hl : -131072 < t) (hr : t < 131072) : wt 2 t = cub (max t (-t)) := by unfold wt; rw [if_neg (by omega)]; rfl
theorem wt_4 (t : Int) (hl : -131072 < t) (hr : t < 131072) : wt 4 t = mit (max t (-t)) := by unfold wt; rw [if_neg (by omega)]; rfl
theorem wt_none (kind t : Int) (h0 : kind ≠ 0) (h1 : kind ≠ 1) (h2 : kind ≠ 2) (h3 : kind ≠ 3) (h4 : kind ≠ 4) : wt kind t = 0 := by
  unfold wt; rw [if_neg h0, if_neg h1, if_neg h3, if_neg h2, if_neg h4]; split <;> rfl
def vld (kind : Int) : Bool := decide (0 ≤ kind ∧ kind ≤ 4)
theorem vld_none (kind : Int) (h0 : kind ≠ 0) (h1 : kind ≠ 1) (h2 : kind ≠ 2) (h3 : kind ≠ 3) (h4 : kind ≠ 4) : vld kind = false := by unfold vld; simp; omega
def spt (kind : Int) : Int := if kind = 2 ∨ kind = 4 then 2 else if kind = 0 ∨ kind = 1 ∨ kind = 3 then 1 else 0
theorem spt_none (kind : Int) (h0 : kind ≠ 0) (h1 : kind ≠ 1) (h2 : kind ≠ 2) (h3 : kind ≠ 3) (h4 : kind ≠ 4) : spt kind = 0 := by unfold spt; rw [if_neg (by omega), if_neg (by omega)]
end Go.Proofs.Ytineinmghajmnaa
namespace Go.Proofs.Ytineinmghajmnaa

def k1 (kind x : Int) : Int := (x - spt kind * 65536 - 32768) / 65536 + 1
def kl (kind x : Int) : Int := (x + spt kind * 65536 - 32768 - 1) / 65536
def kn (kind x : Int) : Nat := (kl kind x - k1 kind x + 1).toNat
/-- The raw weights. -/
def raw (kind x : Int) : List Int := (List.range (kn kind x)).map fun i => wt kind (x - ((k1 kind x + (i : Nat)) * 65536 + 32768))
/-- The normalized weights. -/
def nrm (l : List Int) : List Int := l.map fun w => rdiv (w * 65536) l.sum
/-- The place of the first greatest number among the first k. -/
def bst (l : List Int) : Nat → Nat
  | 0 => 0
  | k + 1 => if l.getD (bst l k) 0 < l.getD k 0 then k else bst l k
def fin (l : List Int) : List Int := (nrm l).set (bst (nrm l) l.length) ((nrm l).getD (bst (nrm l) l.length) 0 + (65536 - (nrm l).sum))
def cl (x : Int) : Int := min 1099511627776 (max x (-1099511627776))
def tapFirst (kind x : Int) : Int := if vld kind then k1 kind (cl x) else 0
def taps (kind x : Int) : List Int := if vld kind then fin (raw kind (cl x)) else []

theorem raw_length (kind x : Int) : (raw kind x).length = kn kind x := by simp [raw]
theorem raw_get (kind x : Int) (i : Nat) (h : i < kn kind x) : (raw kind x).getD i 0 = wt kind (x - ((k1 kind x + i) * 65536 + 32768)) := by
  simp [raw, h]
theorem nrm_length (l : List Int) : (nrm l).length = l.length := by simp [nrm]
theorem nrm_get (l : List Int) (i : Nat) (h : i < l.length) : (nrm l).getD i 0 = rdiv (l.getD i 0 * 65536) l.sum := by
  simp [nrm, h]
theorem bst_lt (l : List Int) : ∀ k, bst l k < k ∨ bst l k = 0
  | 0 => .inr rfl
  | k + 1 => by
    unfold bst
    split
    · left; omega
    · rcases bst_lt l k with h | h
      · left; omega
      · right; exact h
theorem take_snoc_int (l : List Int) (k : Nat) (h : k < l.length) : l.take (k + 1) = l.take k ++ [l.getD k 0] := by
  rw [List.take_succ_eq_append_getElem h]; simp [h]
theorem sum_snoc (l : List Int) (a : Int) : (l ++ [a]).sum = l.sum + a := by simp

/-- The list in the middle of the second loop. -/
def cur (l : List Int) (k : Nat) : List Int := (nrm l).take k ++ l.drop k
theorem cur_length (l : List Int) (k : Nat) : (cur l k).length = l.length := by
  simp [cur, nrm_length]; omega
theorem cur_zero (l : List Int) : cur l 0 = l := by simp [cur]
theorem cur_all (l : List Int) : cur l l.length = nrm l := by
  simp [cur]; rw [← nrm_length l, List.take_length]
theorem cur_at (l : List Int) (k : Nat) (h : k < l.length) : (cur l k)[k]? = some (l.getD k 0) := by
  have : ((nrm l).take k).length = k := by rw [List.length_take, nrm_length]; omega
  unfold cur
  rw [List.getElem?_append_right (by omega), this]
  simp [h]
theorem cur_set (l : List Int) (k : Nat) (h : k < l.length) : (cur l k).set k ((nrm l).getD k 0) = cur l (k + 1) := by
  have hl : ((nrm l).take k).length = k := by rw [List.length_take, nrm_length]; omega
  unfold cur
  rw [List.set_append_right _ _ (by omega), hl, Nat.sub_self, take_snoc_int (nrm l) k (by rw [nrm_length]; exact h)]
  rw [List.drop_eq_getElem_cons h, List.set_cons_zero, List.append_assoc]
  rfl
theorem cur_old (l : List Int) (k j : Nat) (h : k ≤ l.length) (hj : j < k) : (cur l k)[j]? = some ((nrm l).getD j 0) := by
  have hl : ((nrm l).take k).length = k := by rw [List.length_take, nrm_length]; omega
  unfold cur
  rw [List.getElem?_append_left (by omega), List.getElem?_take, if_pos hj]
  have : j < (nrm l).length := by rw [nrm_length]; omega
  simp [this]

theorem rdiv_lo (a b m : Int) (hb : 0 < b) (h : b * m ≤ a) : m ≤ rdiv a b := by
  have := rdiv_spec a b hb
  rcases Int.lt_or_le (rdiv a b) m with hc | hc
  · have : b * (rdiv a b + 1) ≤ b * m := Int.mul_le_mul_of_nonneg_left (by omega) (by omega)
    rw [Int.mul_add] at this
    omega
  · exact hc
theorem rdiv_hi (a b m : Int) (hb : 0 < b) (h : a ≤ b * m) : rdiv a b ≤ m := by
  have := rdiv_spec a b hb
  rcases Int.lt_or_le m (rdiv a b) with hc | hc
  · have : b * (m + 1) ≤ b * rdiv a b := Int.mul_le_mul_of_nonneg_left (by omega) (by omega)
    rw [Int.mul_add] at this
    omega
  · exact hc

theorem cub_le (a : Int) (h0 : 0 ≤ a) (h1 : a ≤ 131072) : -2097152 ≤ cub a ∧ cub a ≤ 2097152 := by
  obtain ⟨d1, d2, d3, d4, d5⟩ := cub_bounds a h0 h1
  unfold cub
  by_cases h : a < 65536
  · rw [cubN_lo a h]; exact ⟨rdiv_lo _ _ _ (by omega) (by omega), rdiv_hi _ _ _ (by omega) (by omega)⟩
  · rw [cubN_hi a h]; exact ⟨rdiv_lo _ _ _ (by omega) (by omega), rdiv_hi _ _ _ (by omega) (by omega)⟩
theorem mit_le (a : Int) (h0 : 0 ≤ a) (h1 : a ≤ 131072) : -2097152 ≤ mit a ∧ mit a ≤ 2097152 := by
  obtain ⟨d1, d2, d3, d4, d5⟩ := mit_bounds a h0 h1
  unfold mit
  by_cases h : a < 65536
  · rw [mitN_lo a h]; exact ⟨rdiv_lo _ _ _ (by omega) (by omega), rdiv_hi _ _ _ (by omega) (by omega)⟩
  · rw [mitN_hi a h]; exact ⟨rdiv_lo _ _ _ (by omega) (by omega), rdiv_hi _ _ _ (by omega) (by omega)⟩
theorem wt_le (kind t : Int) : -2097152 ≤ wt kind t ∧ wt kind t ≤ 2097152 := by
  unfold wt
  split
  · omega
  · have := cub_le (max t (-t)) (by omega) (by omega)
    have := mit_le (max t (-t)) (by omega) (by omega)
    repeat' split
    all_goals omega

theorem raw_el (kind x : Int) (i : Nat) : -2097152 ≤ (raw kind x).getD i 0 ∧ (raw kind x).getD i 0 ≤ 2097152 := by
  by_cases hi : i < kn kind x
  · rw [raw_get _ _ _ hi]; exact wt_le _ _
  · have : (raw kind x).getD i 0 = 0 := by
      have : (raw kind x).length ≤ i := by rw [raw_length]; omega
      simp [this]
    omega
/-- What is known of the raw weights: enough for the second loop. -/
structure Raw (l : List Int) : Prop where
  n1 : 1 ≤ l.length
  n2 : l.length ≤ 4
  s1 : 65532 ≤ l.sum
  s2 : l.sum ≤ 65540
  el : ∀ i, -2097152 ≤ l.getD i 0 ∧ l.getD i 0 ≤ 2097152
theorem Raw.nel {l : List Int} (h : Raw l) (i : Nat) : -2200000 ≤ (nrm l).getD i 0 ∧ (nrm l).getD i 0 ≤ 2200000 := by
  by_cases hi : i < l.length
  · rw [nrm_get _ _ hi]
    have := h.el i
    have := h.s1
    exact ⟨rdiv_lo _ _ _ (by omega) (by omega), rdiv_hi _ _ _ (by omega) (by omega)⟩
  · have : (nrm l).getD i 0 = 0 := by
      have : (nrm l).length ≤ i := by rw [nrm_length]; omega
      simp [this]
    omega
theorem Raw.nsum {l : List Int} (h : Raw l) : ∀ k, k ≤ l.length → -2200000 * (k : Int) ≤ ((nrm l).take k).sum ∧ ((nrm l).take k).sum ≤ 2200000 * (k : Int)
  | 0, _ => by simp
  | k + 1, hk => by
    have h1 := h.nsum k (by omega)
    have h2 := h.nel k
    rw [take_snoc_int _ _ (by rw [nrm_length]; omega), sum_snoc]
    omega
theorem spt_le (kind : Int) : 0 ≤ spt kind ∧ spt kind ≤ 2 := by unfold spt; repeat' split
                                                                all_goals omega
theorem k1_bd (kind x : Int) (h0 : -1099511627776 ≤ x) (h1 : x ≤ 1099511627776) : -16777220 ≤ k1 kind x ∧ k1 kind x ≤ 16777220 := by
  have := spt_le kind
  unfold k1; omega
theorem kl_bd (kind x : Int) (h0 : -1099511627776 ≤ x) (h1 : x ≤ 1099511627776) : -16777220 ≤ kl kind x ∧ kl kind x ≤ 16777220 := by
  have := spt_le kind
  unfold kl; omega
theorem vld_iff (kind : Int) : vld kind = true ↔ (kind = 0 ∨ kind = 1 ∨ kind = 2 ∨ kind = 3 ∨ kind = 4) := by unfold vld; simp; omega
/-- All but the rest r of the position falls out: the distances are s - (i + 1) One + r. -/
theorem kn_r (kind x r : Int) (hv : vld kind = true) (hr : r = (x - spt kind * 65536 - 32768) % 65536) : (kn kind x : Int) = 2 * spt kind - (if r = 0 then 1 else 0) ∧ ∀ i : Int, x - ((k1 kind x + i) * 65536 + 32768) = (spt kind - 1 - i) * 65536 + r := by
  have := spt_le kind
  have h1 : 1 ≤ spt kind := by
    rw [vld_iff] at hv
    unfold spt; split <;> (try split) <;> omega
  unfold kn kl k1
  constructor
  · split <;> omega
  · intro i; omega
/-- The raw weights by the rest alone. -/
def rawR (kind r : Int) : List Int := (List.range (2 * spt kind - (if r = 0 then 1 else 0)).toNat).map fun i => wt kind ((spt kind - 1 - (i : Nat)) * 65536 + r)
theorem raw_eq (kind x : Int) (hv : vld kind = true) : raw kind x = rawR kind ((x - spt kind * 65536 - 32768) % 65536) := by
  obtain ⟨h1, h2⟩ := kn_r kind x _ hv rfl
  unfold raw rawR
  rw [← h1, Int.toNat_natCast]
  apply List.map_congr_left
  intro i _
  rw [h2 i]
theorem cub_sum (r : Int) (h0 : 0 ≤ r) (h1 : r < 65536) : cubN (65536 + r) + cubN r + cubN (65536 - r) + cubN (131072 - r) = 562949953421312 := by
  rw [cubN_hi _ (by omega), cubN_lo r (by omega), cubN_hi (131072 - r) (by omega)]
  by_cases h : r = 0
  · subst h; decide
  · rw [cubN_lo _ (by omega)]; grind
theorem mit_sum (r : Int) (h0 : 0 ≤ r) (h1 : r < 65536) : mitN (65536 + r) + mitN r + mitN (65536 - r) + mitN (131072 - r) = 5066549580791808 := by
  rw [mitN_hi _ (by omega), mitN_lo r (by omega), mitN_hi (131072 - r) (by omega)]
  by_cases h : r = 0
  · subst h; decide
  · rw [mitN_lo _ (by omega)]; grind
theorem rawR_2 (kind r : Int) (hs : spt kind = 2) (h : r ≠ 0) : rawR kind r = [wt kind (65536 + r), wt kind r, wt kind (r - 65536), wt kind (r - 131072)] := by
  unfold rawR
  rw [hs, if_neg h]
  simp only [show (2 * 2 - 0 : Int).toNat = 4 from rfl, List.range_succ, List.range_zero, List.map_nil, List.map_cons, List.nil_append, List.cons_append]
  simp only [List.cons.injEq, and_true]
  exact ⟨congrArg (wt kind) (by omega), congrArg (wt kind) (by omega), congrArg (wt kind) (by omega), congrArg (wt kind) (by omega)⟩
theorem rawR_20 (kind : Int) (hs : spt kind = 2) : rawR kind 0 = [wt kind 65536, wt kind 0, wt kind (-65536)] := by
  unfold rawR
  rw [hs]; rfl
theorem rawR_1 (kind r : Int) (hs : spt kind = 1) (h : r ≠ 0) : rawR kind r = [wt kind r, wt kind (r - 65536)] := by
  unfold rawR
  rw [hs, if_neg h]
  simp only [show (2 * 1 - 0 : Int).toNat = 2 from rfl, List.range_succ, List.range_zero, List.map_nil, List.map_cons, List.nil_append, List.cons_append]
  simp only [List.cons.injEq, and_true]
  exact ⟨congrArg (wt kind) (by omega), congrArg (wt kind) (by omega)⟩
theorem rawR_10 (kind : Int) (hs : spt kind = 1) : rawR kind 0 = [wt kind 0] := by
  unfold rawR
  rw [hs]; rfl
theorem rawR_sum (kind r : Int) (hv : vld kind = true) (h0 : 0 ≤ r) (h1 : r < 65536) : 65532 ≤ (rawR kind r).sum ∧ (rawR kind r).sum ≤ 65540 := by
  rw [vld_iff] at hv
  by_cases h : r = 0
  · subst h
    rcases hv with rfl | rfl | rfl | rfl | rfl
    · rw [rawR_10 _ rfl]; decide
    · rw [rawR_10 _ rfl]; decide
    · rw [rawR_20 _ rfl]; decide
    · rw [rawR_10 _ rfl]; decide
    · rw [rawR_20 _ rfl]; decide
  · rcases hv with rfl | rfl | rfl | rfl | rfl
    · rw [rawR_1 _ _ rfl h]
      simp only [List.sum_cons, List.sum_nil]
      by_cases c : r < 32768
      · rw [wt_0 r (by omega) (by omega) (by omega), wt_0' (r - 65536) (by omega) (by omega) (by omega)]; omega
      · rw [wt_0' r (by omega) (by omega) (by omega), wt_0 (r - 65536) (by omega) (by omega) (by omega)]; omega
    · rw [rawR_1 _ _ rfl h]
      simp only [List.sum_cons, List.sum_nil]
      rw [wt_1 r (by omega) (by omega), wt_1 (r - 65536) (by omega) (by omega)]; omega
    · rw [rawR_2 _ _ rfl h]
      simp only [List.sum_cons, List.sum_nil]
      rw [wt_2 _ (by omega) (by omega), wt_2 _ (by omega) (by omega), wt_2 _ (by omega) (by omega), wt_2 _ (by omega) (by omega)]
      rw [show max (65536 + r) (-(65536 + r)) = 65536 + r by omega, show max r (-r) = r by omega, show max (r - 65536) (-(r - 65536)) = 65536 - r by omega, show max (r - 131072) (-(r - 131072)) = 131072 - r by omega]
      have e := cub_sum r h0 h1
      have e1 := rdiv_spec (cubN (65536 + r)) 8589934592 (by omega)
      have e2 := rdiv_spec (cubN r) 8589934592 (by omega)
      have e3 := rdiv_spec (cubN (65536 - r)) 8589934592 (by omega)
      have e4 := rdiv_spec (cubN (131072 - r)) 8589934592 (by omega)
      unfold cub
      omega
    · rw [rawR_1 _ _ rfl h]
      simp only [List.sum_cons, List.sum_nil]
      rw [wt_3 r (by omega) (by omega), wt_3 (r - 65536) (by omega) (by omega)]
      repeat' split
      all_goals omega
    · rw [rawR_2 _ _ rfl h]
      simp only [List.sum_cons, List.sum_nil]
      rw [wt_4 _ (by omega) (by omega), wt_4 _ (by omega) (by omega), wt_4 _ (by omega) (by omega), wt_4 _ (by omega) (by omega)]
      rw [show max (65536 + r) (-(65536 + r)) = 65536 + r by omega, show max r (-r) = r by omega, show max (r - 65536) (-(r - 65536)) = 65536 - r by omega, show max (r - 131072) (-(r - 131072)) = 131072 - r by omega]
      have e := mit_sum r h0 h1
      have e1 := rdiv_spec (mitN (65536 + r)) 77309411328 (by omega)
      have e2 := rdiv_spec (mitN r) 77309411328 (by omega)
      have e3 := rdiv_spec (mitN (65536 - r)) 77309411328 (by omega)
      have e4 := rdiv_spec (mitN (131072 - r)) 77309411328 (by omega)
      unfold mit
      omega
theorem raw_sum (kind x : Int) (hv : vld kind = true) : 65532 ≤ (raw kind x).sum ∧ (raw kind x).sum ≤ 65540 := by
  rw [raw_eq kind x hv]
  exact rawR_sum kind _ hv (by omega) (by omega)
theorem kn_le (kind x : Int) (hv : vld kind = true) : 1 ≤ kn kind x ∧ kn kind x ≤ 4 ∧ kl kind x = k1 kind x + kn kind x - 1 := by
  obtain ⟨h1, _⟩ := kn_r kind x _ hv rfl
  have h2 := spt_le kind
  have h3 : 1 ≤ spt kind := by
    rw [vld_iff] at hv
    unfold spt; split <;> (try split) <;> omega
  have : 1 ≤ kn kind x ∧ kn kind x ≤ 4 := by split at h1 <;> omega
  refine ⟨this.1, this.2, ?_⟩
  unfold kn at *; omega
theorem raw_raw (kind x : Int) (hv : vld kind = true) : Raw (raw kind x) := by
  have h1 := kn_le kind x hv
  have h2 := raw_sum kind x hv
  exact ⟨by rw [raw_length]; omega, by rw [raw_length]; omega, h2.1, h2.2, raw_el kind x⟩
end Go.Proofs.Ytineinmghajmnaa
namespace Go.Proofs.Ytineinmghajmnaa
theorem cub1 (a : Int) : 3 * a * a * a - 5 * a * a * 65536 + 562949953421312 = (65536 - a) * (8589934592 + 131072 * a - 3 * (a * a)) := by grind
theorem cub2 (a : Int) : -a * a * a + 5 * a * a * 65536 - 8 * a * 4294967296 + 1125899906842624 = (131072 - a) * (131072 - a) * (65536 - a) := by grind
theorem mit1 (a : Int) : 21 * a * a * a - 36 * a * a * 65536 + 4503599627370496 = (65536 - a) * (64424509440 + 983040 * a - 21 * (a * a)) + 281474976710656 := by grind
theorem mit2 (a : Int) : -7 * a * a * a + 36 * a * a * 65536 - 60 * a * 4294967296 + 9007199254740992 = (131072 - a) * (131072 - a) * (524288 - 7 * a) := by grind
theorem cub_t (a : Int) (h0 : 0 ≤ a) (h1 : a ≤ 131072) : -562949953421312 ≤ cubN a ∧ cubN a ≤ 562949953421312 := by
  by_cases h : a < 65536
  · rw [cubN_lo a h]
    have e := cub1 a
    have sq : a * a ≤ a * 65536 := Int.mul_le_mul_of_nonneg_left (by omega) h0
    have sq2 : 0 ≤ a * a := Int.mul_nonneg h0 h0
    have p1 : 0 ≤ (65536 - a) * (8589934592 + 131072 * a - 3 * (a * a)) := Int.mul_nonneg (by omega) (by omega)
    have c1 : 0 ≤ a * a * (327680 - 3 * a) := Int.mul_nonneg sq2 (by omega)
    have c2 : 3 * a * a * a - 5 * a * a * 65536 = -(a * a * (327680 - 3 * a)) := by grind
    omega
  · rw [cubN_hi a h, cub2]
    have s1 : 0 ≤ (131072 - a) * (131072 - a) := Int.mul_nonneg (by omega) (by omega)
    have s2 : (131072 - a) * (131072 - a) ≤ 65536 * 65536 := Int.mul_le_mul (by omega) (by omega) (by omega) (by omega)
    have s3 : (131072 - a) * (131072 - a) * (a - 65536) ≤ 65536 * 65536 * 65536 := Int.mul_le_mul s2 (by omega) (by omega) (by omega)
    have s4 : 0 ≤ (131072 - a) * (131072 - a) * (a - 65536) := Int.mul_nonneg s1 (by omega)
    have s5 : (131072 - a) * (131072 - a) * (65536 - a) = -((131072 - a) * (131072 - a) * (a - 65536)) := by grind
    omega
theorem mit_t (a : Int) (h0 : 0 ≤ a) (h1 : a ≤ 131072) : -5066549580791808 ≤ mitN a ∧ mitN a ≤ 5066549580791808 := by
  by_cases h : a < 65536
  · rw [mitN_lo a h]
    have e := mit1 a
    have sq : a * a ≤ a * 65536 := Int.mul_le_mul_of_nonneg_left (by omega) h0
    have sq2 : 0 ≤ a * a := Int.mul_nonneg h0 h0
    have p1 : 0 ≤ (65536 - a) * (64424509440 + 983040 * a - 21 * (a * a)) := Int.mul_nonneg (by omega) (by omega)
    have c1 : 0 ≤ a * a * (2359296 - 21 * a) := Int.mul_nonneg sq2 (by omega)
    have c2 : 21 * a * a * a - 36 * a * a * 65536 = -(a * a * (2359296 - 21 * a)) := by grind
    omega
  · rw [mitN_hi a h, mit2]
    have s1 : 0 ≤ (131072 - a) * (131072 - a) := Int.mul_nonneg (by omega) (by omega)
    have s2 : (131072 - a) * (131072 - a) ≤ 65536 * 65536 := Int.mul_le_mul (by omega) (by omega) (by omega) (by omega)
    have s3 : (131072 - a) * (131072 - a) * (7 * a - 458752) ≤ 65536 * 65536 * 458752 := Int.mul_le_mul s2 (by omega) (by omega) (by omega)
    have s4 : 0 ≤ (131072 - a) * (131072 - a) * (7 * a - 458752) := Int.mul_nonneg s1 (by omega)
    have s5 : (131072 - a) * (131072 - a) * (524288 - 7 * a) = (131072 - a) * (131072 - a) * 65536 - (131072 - a) * (131072 - a) * (7 * a - 458752) := by grind
    omega
theorem wt_t (kind t : Int) : -65536 ≤ wt kind t ∧ wt kind t ≤ 65536 := by
  by_cases hf : t ≤ -131072 ∨ 131072 ≤ t
  · rw [wt_far kind t hf]; omega
  have hl : -131072 < t := by omega
  have hr : t < 131072 := by omega
  have ha : 0 ≤ max t (-t) ∧ max t (-t) ≤ 131072 := by omega
  by_cases k0 : kind = 0
  · subst k0
    by_cases h : -32768 ≤ t ∧ t < 32768
    · rw [wt_0 t hl hr h]; omega
    · rw [wt_0' t hl hr h]; omega
  by_cases k1 : kind = 1
  · subst k1; rw [wt_1 t hl hr]; omega
  by_cases k3 : kind = 3
  · subst k3; rw [wt_3 t hl hr]; repeat' split
    all_goals omega
  by_cases k2 : kind = 2
  · subst k2
    rw [wt_2 t hl hr]
    obtain ⟨c1, c2⟩ := cub_t _ ha.1 ha.2
    unfold cub
    exact ⟨rdiv_lo _ _ _ (by omega) (by omega), rdiv_hi _ _ _ (by omega) (by omega)⟩
  by_cases k4 : kind = 4
  · subst k4
    rw [wt_4 t hl hr]
    obtain ⟨c1, c2⟩ := mit_t _ ha.1 ha.2
    unfold mit
    exact ⟨rdiv_lo _ _ _ (by omega) (by omega), rdiv_hi _ _ _ (by omega) (by omega)⟩
  rw [wt_none kind t k0 k1 k2 k3 k4]; omega
theorem raw_t (kind x : Int) (i : Nat) : -65536 ≤ (raw kind x).getD i 0 ∧ (raw kind x).getD i 0 ≤ 65536 := by
  rcases Nat.lt_or_ge i (kn kind x) with h | h
  · rw [raw_get _ _ _ h]; exact wt_t _ _
  · rw [List.getD_eq_getElem?_getD, List.getElem?_eq_none (by rw [raw_length]; exact h)]
    show -65536 ≤ (0 : Int) ∧ (0 : Int) ≤ 65536
    omega
/-- A normalized weight, and the sum of the first ones. -/
theorem nrm_t {l : List Int} (hs : 65532 ≤ l.sum ∧ l.sum ≤ 65540) (hl : ∀ i, -65536 ≤ l.getD i 0 ∧ l.getD i 0 ≤ 65536) (i : Nat) : (-65541 ≤ (nrm l).getD i 0 ∧ (nrm l).getD i 0 ≤ 65541) ∧ -l.sum ≤ 2 * (l.sum * (nrm l).getD i 0 - l.getD i 0 * 65536) ∧ 2 * (l.sum * (nrm l).getD i 0 - l.getD i 0 * 65536) ≤ l.sum := by
  rcases Nat.lt_or_ge i l.length with h | h
  · rw [nrm_get _ _ h]
    have h1 := hl i
    have sp := rdiv_spec (l.getD i 0 * 65536) l.sum (by omega)
    generalize l.getD i 0 = a at *
    generalize l.sum = s at *
    have q1 := rdiv_lo (a * 65536) s (-65541) (by omega) (by omega)
    have q2 := rdiv_hi (a * 65536) s 65541 (by omega) (by omega)
    refine ⟨⟨q1, q2⟩, ?_, ?_⟩
    · generalize s * rdiv (a * 65536) s = p at *; omega
    · generalize s * rdiv (a * 65536) s = p at *; omega
  · rw [List.getD_eq_getElem?_getD, List.getElem?_eq_none (by rw [nrm_length]; exact h), List.getD_eq_getElem?_getD, List.getElem?_eq_none h]
    show (-65541 ≤ (0 : Int) ∧ (0 : Int) ≤ 65541) ∧ -l.sum ≤ 2 * (l.sum * 0 - 0 * 65536) ∧ 2 * (l.sum * 0 - 0 * 65536) ≤ l.sum
    omega
theorem nrm_sum_t {l : List Int} (hs : 65532 ≤ l.sum ∧ l.sum ≤ 65540) (hl : ∀ i, -65536 ≤ l.getD i 0 ∧ l.getD i 0 ≤ 65536) : ∀ k, k ≤ l.length → -(l.sum * (k : Int)) ≤ 2 * (l.sum * ((nrm l).take k).sum - (l.take k).sum * 65536) ∧ 2 * (l.sum * ((nrm l).take k).sum - (l.take k).sum * 65536) ≤ l.sum * (k : Int)
  | 0, _ => by simp
  | k + 1, h => by
    have ih := nrm_sum_t hs hl k (by omega)
    have h1 := (nrm_t hs hl k).2
    rw [take_snoc_int _ _ (by rw [nrm_length]; omega), take_snoc_int _ _ (by omega), sum_snoc, sum_snoc]
    rw [Int.mul_add, Int.add_mul, Int.natCast_add, Int.mul_add]
    generalize l.sum * ((nrm l).take k).sum = p1 at *
    generalize l.sum * (nrm l).getD k 0 = p2 at *
    generalize l.sum * (k : Int) = p3 at *
    have : l.sum * ((1 : Nat) : Int) = l.sum := by simp
    omega
/-- The taps are few and small. -/
theorem taps_t (kind x : Int) : (taps kind x).length ≤ 4 ∧ ∀ i : Nat, -65600 ≤ (taps kind x).getD i 0 ∧ (taps kind x).getD i 0 ≤ 65600 := by
  unfold taps
  cases hv : vld kind
  · exact ⟨by simp, fun i => by simp⟩
  · simp only [if_true]
    have hn := kn_le kind (cl x) hv
    have hs := raw_sum kind (cl x) hv
    have hl := raw_t kind (cl x)
    have hlen := raw_length kind (cl x)
    generalize raw kind (cl x) = l at *
    have hall := nrm_sum_t hs hl l.length (Nat.le_refl _)
    rw [List.take_of_length_le (by rw [nrm_length]; exact Nat.le_refl _), List.take_length] at hall
    have hsum : -4 ≤ (nrm l).sum - 65536 ∧ (nrm l).sum - 65536 ≤ 4 := by
      have hk : (l.length : Int) ≤ 4 := by omega
      have hp : l.sum * (l.length : Int) ≤ l.sum * 4 := Int.mul_le_mul_of_nonneg_left hk (by omega)
      have e : l.sum * (nrm l).sum - l.sum * 65536 = l.sum * ((nrm l).sum - 65536) := by rw [Int.mul_sub]
      generalize (nrm l).sum - 65536 = d at *
      generalize l.sum = s at *
      have b1 : s * d ≤ s * 2 := by omega
      have b2 : s * (-2) ≤ s * d := by omega
      have c1 := Int.le_of_mul_le_mul_left b1 (by omega)
      have c2 := Int.le_of_mul_le_mul_left b2 (by omega)
      omega
    constructor
    · unfold fin; rw [List.length_set, nrm_length]; omega
    · intro i
      unfold fin
      have b0 := (nrm_t hs hl i).1
      have b1 := (nrm_t hs hl (bst (nrm l) l.length)).1
      rw [List.getD_eq_getElem?_getD, List.getElem?_set]
      split
      · split
        · simp only [Option.getD_some]; omega
        · simp only [Option.getD_none]; omega
      · rw [← List.getD_eq_getElem?_getD]; omega
end Go.Proofs.Ytineinmghajmnaa
namespace Go.Proofs.Ytineinmghajmnaa
/-- One weighted pixel; the first rows and the first columns of the next. -/
def wcell (px : Int → Int → Px) (fx fy : Int) (us vs : List Int) (k j : Nat) : Int × Px := (us.getD j 0 * vs.getD k 0, px (fx + j) (fy + k))
def wpre (px : Int → Int → Px) (fx fy : Int) (us vs : List Int) (k j : Nat) : List (Int × Px) :=
  (List.range k).flatMap (fun k => (List.range us.length).map (wcell px fx fy us vs k)) ++ (List.range j).map (wcell px fx fy us vs k)
def wmean (l : List (Int × Px)) : Px := blend (bsA l) (bsR l) (bsG l) (bsB l)
section
variable {px : Int → Int → Px} {fx fy : Int} {us vs : List Int}
theorem wpre_zero : wpre px fx fy us vs 0 0 = [] := rfl
theorem wpre_step (k j : Nat) : wpre px fx fy us vs k (j + 1) = wpre px fx fy us vs k j ++ [wcell px fx fy us vs k j] := by
  unfold wpre; rw [List.range_succ, List.map_append, List.append_assoc]; rfl
theorem wpre_row (k : Nat) : wpre px fx fy us vs k us.length = wpre px fx fy us vs (k + 1) 0 := by
  unfold wpre; rw [List.range_succ, List.flatMap_append]; simp
theorem wpre_mem {k j : Nat} {t : Int × Px} (h : t ∈ wpre px fx fy us vs k j) : ∃ k' j', t = wcell px fx fy us vs k' j' := by
  unfold wpre at h
  rcases List.mem_append.1 h with h | h
  · obtain ⟨k', _, h⟩ := List.mem_flatMap.1 h
    obtain ⟨j', _, h⟩ := List.mem_map.1 h
    exact ⟨k', j', h.symm⟩
  · obtain ⟨j', _, h⟩ := List.mem_map.1 h
    exact ⟨k, j', h.symm⟩
theorem wpre_length (k j : Nat) : (wpre px fx fy us vs k j).length = k * us.length + j := by
  unfold wpre
  rw [List.length_append, List.length_map, List.length_range]
  congr 1
  induction k with
  | zero => simp
  | succ k ih => rw [List.range_succ, List.flatMap_append, List.length_append, ih]; simp [Nat.add_mul]
end
/-- Sums of weighted pixels are bounded. -/
theorem bs_bd (M : Int) (hM : 0 ≤ M) : ∀ l : List (Int × Px), (∀ t ∈ l, (-M ≤ t.1 ∧ t.1 ≤ M) ∧ t.2.ok) →
    (-(M * 65535 * l.length) ≤ bsA l ∧ bsA l ≤ M * 65535 * l.length) ∧ (-(M * 65535 * 65535 * l.length) ≤ bsR l ∧ bsR l ≤ M * 65535 * 65535 * l.length) ∧ (-(M * 65535 * 65535 * l.length) ≤ bsG l ∧ bsG l ≤ M * 65535 * 65535 * l.length) ∧ (-(M * 65535 * 65535 * l.length) ≤ bsB l ∧ bsB l ≤ M * 65535 * 65535 * l.length)
  | [], _ => by simp [bsA, bsR, bsG, bsB]
  | t :: l, h => by
    obtain ⟨i1, i2, i3, i4⟩ := bs_bd M hM l fun u hu => h u (by simp [hu])
    obtain ⟨⟨m1, m2⟩, ⟨o1, o2, o3, o4⟩⟩ := h t (by simp)
    have key : ∀ a b B : Int, (-B ≤ a ∧ a ≤ B) → (0 ≤ b ∧ b ≤ 65535) → -(B * 65535) ≤ a * b ∧ a * b ≤ B * 65535 := fun a b B ha hb => by
      have hB : 0 ≤ B := by omega
      have h1 : a * b ≤ B * b := Int.mul_le_mul_of_nonneg_right ha.2 hb.1
      have h2 : -B * b ≤ a * b := Int.mul_le_mul_of_nonneg_right ha.1 hb.1
      have h3 : B * b ≤ B * 65535 := Int.mul_le_mul_of_nonneg_left hb.2 hB
      rw [Int.neg_mul] at h2
      omega
    have a1 := key t.1 t.2.a M ⟨m1, m2⟩ o4
    have a2 := key (t.1 * t.2.a) t.2.r (M * 65535) a1 o1
    have a3 := key (t.1 * t.2.a) t.2.g (M * 65535) a1 o2
    have a4 := key (t.1 * t.2.a) t.2.b (M * 65535) a1 o3
    have eA : bsA (t :: l) = t.1 * t.2.a + bsA l := by simp [bsA]
    have eR : bsR (t :: l) = t.1 * t.2.a * t.2.r + bsR l := by simp [bsR]
    have eG : bsG (t :: l) = t.1 * t.2.a * t.2.g + bsG l := by simp [bsG]
    have eB : bsB (t :: l) = t.1 * t.2.a * t.2.b + bsB l := by simp [bsB]
    rw [eA, eR, eG, eB, List.length_cons]
    have e1 : M * 65535 * ((l.length + 1 : Nat) : Int) = M * 65535 * (l.length : Int) + M * 65535 := by rw [Int.natCast_add, Int.mul_add]; simp
    have e2 : M * 65535 * 65535 * ((l.length + 1 : Nat) : Int) = M * 65535 * 65535 * (l.length : Int) + M * 65535 * 65535 := by rw [Int.natCast_add, Int.mul_add]; simp
    rw [e1, e2]
    generalize M * 65535 * (l.length : Int) = p1 at *
    generalize M * 65535 * 65535 * (l.length : Int) = p2 at *
    generalize t.1 * t.2.a * t.2.r = q1 at *
    generalize t.1 * t.2.a * t.2.g = q2 at *
    generalize t.1 * t.2.a * t.2.b = q3 at *
    omega
/-- The sums of at most sixteen pixels with small weights. -/
theorem wpre_bd {px : Int → Int → Px} {fx fy : Int} {us vs : List Int} (hu : ∀ i : Nat, -65600 ≤ us.getD i 0 ∧ us.getD i 0 ≤ 65600) (hv : ∀ i : Nat, -65600 ≤ vs.getD i 0 ∧ vs.getD i 0 ≤ 65600) (hp : ∀ x y, (px x y).ok) (hl : us.length ≤ 4) {k j : Nat} (hk : k ≤ 4) (hj : j ≤ 4) :
    (-6000000000000000 ≤ bsA (wpre px fx fy us vs k j) ∧ bsA (wpre px fx fy us vs k j) ≤ 6000000000000000) ∧ (-400000000000000000000 ≤ bsR (wpre px fx fy us vs k j) ∧ bsR (wpre px fx fy us vs k j) ≤ 400000000000000000000) ∧ (-400000000000000000000 ≤ bsG (wpre px fx fy us vs k j) ∧ bsG (wpre px fx fy us vs k j) ≤ 400000000000000000000) ∧ (-400000000000000000000 ≤ bsB (wpre px fx fy us vs k j) ∧ bsB (wpre px fx fy us vs k j) ≤ 400000000000000000000) := by
  have h := bs_bd 4303360000 (by omega) (wpre px fx fy us vs k j) (fun t ht => by
    obtain ⟨k', j', rfl⟩ := wpre_mem ht
    refine ⟨?_, hp _ _⟩
    show -4303360000 ≤ us.getD j' 0 * vs.getD k' 0 ∧ us.getD j' 0 * vs.getD k' 0 ≤ 4303360000
    have a := hu j'; have b := hv k'
    generalize us.getD j' 0 = u at *
    generalize vs.getD k' 0 = v at *
    rcases Int.le_total 0 u with c | c
    · have h1 : u * v ≤ u * 65600 := Int.mul_le_mul_of_nonneg_left b.2 c
      have h2 : u * (-65600) ≤ u * v := Int.mul_le_mul_of_nonneg_left b.1 c
      omega
    · have h1 : u * 65600 ≤ u * v := Int.mul_le_mul_of_nonpos_left c b.2
      have h2 : u * v ≤ u * (-65600) := Int.mul_le_mul_of_nonpos_left c b.1
      omega)
  rw [wpre_length] at h
  have hn : k * us.length + j ≤ 20 := by
    have : k * us.length ≤ 4 * 4 := Nat.mul_le_mul hk hl
    omega
  generalize k * us.length + j = n at *
  generalize wpre px fx fy us vs k j = l at *
  omega
/-- The place of a tap about a pixel: not far. -/
theorem tap_near {kind x d m : Int} (hv : vld kind = true) (hx : -4194304 ≤ x ∧ x ≤ 4194304) (hm : 0 ≤ m ∧ m ≤ 16) (hd : -(m * 65536) ≤ d ∧ d ≤ m * 65536) (j : Nat) (hj : j < (taps kind (x * 65536 + 32768 + d)).length) :
    x - m - spt kind ≤ tapFirst kind (x * 65536 + 32768 + d) + j ∧ tapFirst kind (x * 65536 + 32768 + d) + j ≤ x + m + spt kind := by
  have hc : cl (x * 65536 + 32768 + d) = x * 65536 + 32768 + d := by unfold cl; omega
  unfold taps at hj
  unfold tapFirst
  simp only [hv, if_true, hc] at hj ⊢
  have hn := kn_le kind (x * 65536 + 32768 + d) hv
  have hl : j < kn kind (x * 65536 + 32768 + d) := by
    unfold fin at hj
    rw [List.length_set, nrm_length, raw_length] at hj
    exact hj
  have hs := spt_le kind
  have e1 : k1 kind (x * 65536 + 32768 + d) = (x * 65536 + 32768 + d - spt kind * 65536 - 32768) / 65536 + 1 := rfl
  have e2 : kl kind (x * 65536 + 32768 + d) = (x * 65536 + 32768 + d + spt kind * 65536 - 32768 - 1) / 65536 := rfl
  omega
theorem tap_first_bd (kind x : Int) : -16777220 ≤ tapFirst kind x ∧ tapFirst kind x ≤ 16777220 := by
  unfold tapFirst
  split
  · exact k1_bd kind (cl x) (by unfold cl; omega) (by unfold cl; omega)
  · omega
theorem taps_pos {kind x : Int} (hv : vld kind = true) : 0 < (taps kind x).length := by
  unfold taps
  simp only [hv, if_true]
  have hn := kn_le kind (cl x) hv
  unfold fin
  rw [List.length_set, nrm_length, raw_length]
  omega
end Go.Proofs.Ytineinmghajmnaa
namespace Go.Proofs.Ytineinmghajmnaa
theorem cl_center {X : Int} (h : -8388608 ≤ X ∧ X ≤ 8388608) : cl (X * 65536 + 32768) = X * 65536 + 32768 := by unfold cl; omega
theorem wt_center (k : Int) (hk : k = 0 ∨ k = 1 ∨ k = 2 ∨ k = 3) : wt k 0 = 65536 := by rcases hk with rfl | rfl | rfl | rfl <;> decide +kernel
/-- A kernel whose support is one pixel. -/
theorem tap_one {kind X : Int} (hk : kind = 0 ∨ kind = 1 ∨ kind = 3) (h : -8388608 ≤ X ∧ X ≤ 8388608) : tapFirst kind (X * 65536 + 32768) = X ∧ taps kind (X * 65536 + 32768) = [65536] := by
  have hv : vld kind = true := by unfold vld; simp; omega
  have hs : spt kind = 1 := by rcases hk with rfl | rfl | rfl <;> rfl
  have e1 : k1 kind (X * 65536 + 32768) = X := by unfold k1; rw [hs]; omega
  have e2 : kn kind (X * 65536 + 32768) = 1 := by unfold kn kl; rw [e1, hs]; omega
  constructor
  · unfold tapFirst; rw [hv, if_pos rfl, cl_center h, e1]
  · unfold taps
    rw [hv, if_pos rfl, cl_center h]
    have e3 : raw kind (X * 65536 + 32768) = [65536] := by
      unfold raw
      rw [e2, e1]
      simp only [List.range_succ, List.range_zero, List.nil_append, List.map_cons, List.map_nil]
      rw [show X * 65536 + 32768 - ((X + ((0 : Nat) : Int)) * 65536 + 32768) = 0 by omega, wt_center kind (by omega)]
    rw [e3]
    decide +kernel
/-- The cubic kernel. -/
theorem tap_two {X : Int} (h : -8388608 ≤ X ∧ X ≤ 8388608) : tapFirst 2 (X * 65536 + 32768) = X - 1 ∧ taps 2 (X * 65536 + 32768) = [0, 65536, 0] := by
  have hv : vld 2 = true := rfl
  have hs : spt 2 = 2 := rfl
  have e1 : k1 2 (X * 65536 + 32768) = X - 1 := by unfold k1; rw [hs]; omega
  have e2 : kn 2 (X * 65536 + 32768) = 3 := by unfold kn kl; rw [e1, hs]; omega
  constructor
  · unfold tapFirst; rw [hv, if_pos rfl, cl_center h, e1]
  · unfold taps
    rw [hv, if_pos rfl, cl_center h]
    have e3 : raw 2 (X * 65536 + 32768) = [0, 65536, 0] := by
      unfold raw
      rw [e2, e1]
      simp only [List.range_succ, List.range_zero, List.nil_append, List.map_cons, List.map_nil, List.cons_append]
      rw [show X * 65536 + 32768 - ((X - 1 + ((0 : Nat) : Int)) * 65536 + 32768) = 65536 by omega, show X * 65536 + 32768 - ((X - 1 + ((0 + 1 : Nat) : Int)) * 65536 + 32768) = 0 by omega, show X * 65536 + 32768 - ((X - 1 + ((0 + 1 + 1 : Nat) : Int)) * 65536 + 32768) = -65536 by omega]
      decide +kernel
    rw [e3]
    decide +kernel
/-- A clear pixel is a zero pixel. -/
def pclr (p : Px) : Px := if p.a = 0 then Px.zero else p
theorem rdiv_mul' (a b : Int) (hb : 0 < b) : rdiv (b * a) b = a := by
  have h1 := rdiv_lo (b * a) b a hb (Int.le_refl _); have h2 := rdiv_hi (b * a) b a hb (Int.le_refl _)
  omega
/-- The mean, where one pixel alone has a weight. -/
theorem blend_one {p : Px} (h : p.ok) : blend (65536 * 65536 * p.a) (65536 * 65536 * p.a * p.r) (65536 * 65536 * p.a * p.g) (65536 * 65536 * p.a * p.b) = pclr p := by
  obtain ⟨h1, h2, h3, h4⟩ := h
  have e : lim16 (rdiv (65536 * 65536 * p.a) 4294967296) = p.a := by
    rw [show (65536 : Int) * 65536 * p.a = 4294967296 * p.a by omega, rdiv_mul' _ _ (by omega)]
    exact lim16_id _ h4
  unfold blend pclr
  rw [e]
  by_cases h0 : p.a = 0
  · rw [if_pos h0, if_pos h0]
  · rw [if_neg h0, if_neg h0]
    have hp : 0 < 65536 * 65536 * p.a := by omega
    rw [rdiv_mul' _ _ hp, rdiv_mul' _ _ hp, rdiv_mul' _ _ hp, lim16_id _ h1, lim16_id _ h2, lim16_id _ h3]
/-- Zero weights count nothing. -/
theorem mean_zero_cons (p : Px) (l : List (Int × Px)) : wmean ((0, p) :: l) = wmean l := by
  unfold wmean bsA bsR bsG bsB
  simp
theorem mean_one (p : Px) (h : p.ok) (l : List (Int × Px)) (hl : ∀ t ∈ l, t.1 = 0) : wmean ((65536 * 65536, p) :: l) = pclr p := by
  have hz : ∀ f : (Int × Px) → Int, (∀ t : Int × Px, t.1 = 0 → f t = 0) → (l.map f).sum = 0 := by
    intro f hf
    induction l with
    | nil => rfl
    | cons t l ih =>
      rw [List.map_cons, List.sum_cons, hf t (hl t (by simp)), ih (fun u hu => hl u (by simp [hu]))]
      rfl
  rw [← blend_one h]
  unfold wmean bsA bsR bsG bsB
  simp only [List.map_cons, List.sum_cons]
  rw [hz _ (fun t ht => by rw [ht]; simp), hz _ (fun t ht => by rw [ht]; simp), hz _ (fun t ht => by rw [ht]; simp), hz _ (fun t ht => by rw [ht]; simp)]
  simp
/-- The pixel of a center: the pixel of that place. -/
theorem center_mean {px : Int → Int → Px} {kind X Y : Int} (hk : kind = 0 ∨ kind = 1 ∨ kind = 2 ∨ kind = 3) (hX : -8388608 ≤ X ∧ X ≤ 8388608) (hY : -8388608 ≤ Y ∧ Y ≤ 8388608) (hp : (px X Y).ok) :
    wmean (wpre px (tapFirst kind (X * 65536 + 32768)) (tapFirst kind (Y * 65536 + 32768)) (taps kind (X * 65536 + 32768)) (taps kind (Y * 65536 + 32768)) (taps kind (Y * 65536 + 32768)).length 0) = pclr (px X Y) := by
  rcases (show kind = 2 ∨ (kind = 0 ∨ kind = 1 ∨ kind = 3) by omega) with rfl | hk
  · rw [(tap_two hX).1, (tap_two hX).2, (tap_two hY).1, (tap_two hY).2]
    have e : wpre px (X - 1) (Y - 1) [0, 65536, 0] [0, 65536, 0] [(0 : Int), 65536, 0].length 0 =
      [(0, px (X - 1 + 0) (Y - 1 + 0)), (0, px (X - 1 + 1) (Y - 1 + 0)), (0, px (X - 1 + 2) (Y - 1 + 0)), (0, px (X - 1 + 0) (Y - 1 + 1)), (65536 * 65536, px (X - 1 + 1) (Y - 1 + 1)), (0, px (X - 1 + 2) (Y - 1 + 1)), (0, px (X - 1 + 0) (Y - 1 + 2)), (0, px (X - 1 + 1) (Y - 1 + 2)), (0, px (X - 1 + 2) (Y - 1 + 2))] := rfl
    rw [e, mean_zero_cons, mean_zero_cons, mean_zero_cons, mean_zero_cons, show X - 1 + 1 = X by omega, show Y - 1 + 1 = Y by omega]
    exact mean_one _ hp _ (fun t ht => by simp at ht; rcases ht with rfl | rfl | rfl | rfl <;> rfl)
  · rw [(tap_one hk hX).1, (tap_one hk hX).2, (tap_one hk hY).1, (tap_one hk hY).2]
    have e : wpre px X Y [65536] [65536] [(65536 : Int)].length 0 = [(65536 * 65536, px (X + 0) (Y + 0))] := rfl
    rw [e, Int.add_zero, Int.add_zero]
    exact mean_one _ hp _ (fun t ht => by cases ht)
end Go.Proofs.Ytineinmghajmnaa
namespace Go.Proofs.Ytineinmghajmnaa
open Go.RowKit

set_option maxHeartbeats 400000 in
theorem cubic_any (a : Int) (w : World) (h0 : 0 ≤ a) (h1 : a ≤ 131072) :
    Calls Try.prog 95 #[.int .i64 a] w fun e w' => e = .returned (.int .i64 (cub a)) ∧ w = w' := by
  obtain ⟨b1, b2, b3, b4⟩ := sq_bounds a h0 h1
  obtain ⟨d1, d2, d3, d4, d5⟩ := cub_bounds a h0 h1
  by_cases hc : a < 65536
  · have E := Lib.hid (cubN_lo a hc)
    go_enter Try.func95, Try.ntmps95
    go_wp2_with (go_at_call 50; refine (div_any _ _ _ (by omega) (by omega) (by omega) (by omega)).mono ?_; rintro e w' ⟨rfl, rfl⟩)
    go_ret
    exact ⟨ret_int (by unfold cub; rw [E.out]), rfl⟩
  · have E := Lib.hid (cubN_hi a hc)
    go_enter Try.func95, Try.ntmps95
    go_wp2_with (go_at_call 50; refine (div_any _ _ _ (by omega) (by omega) (by omega) (by omega)).mono ?_; rintro e w' ⟨rfl, rfl⟩)
    go_ret
    exact ⟨ret_int (by unfold cub; rw [E.out]), rfl⟩

set_option maxHeartbeats 400000 in
theorem mitchell_any (a : Int) (w : World) (h0 : 0 ≤ a) (h1 : a ≤ 131072) :
    Calls Try.prog 96 #[.int .i64 a] w fun e w' => e = .returned (.int .i64 (mit a)) ∧ w = w' := by
  obtain ⟨b1, b2, b3, b4⟩ := sq_bounds a h0 h1
  obtain ⟨d1, d2, d3, d4, d5⟩ := mit_bounds a h0 h1
  by_cases hc : a < 65536
  · have E := Lib.hid (mitN_lo a hc)
    go_enter Try.func96, Try.ntmps96
    go_wp2_with (go_at_call 50; refine (div_any _ _ _ (by omega) (by omega) (by omega) (by omega)).mono ?_; rintro e w' ⟨rfl, rfl⟩)
    go_ret
    exact ⟨ret_int (by unfold mit; rw [E.out]), rfl⟩
  · have E := Lib.hid (mitN_hi a hc)
    go_enter Try.func96, Try.ntmps96
    go_wp2_with (go_at_call 50; refine (div_any _ _ _ (by omega) (by omega) (by omega) (by omega)).mono ?_; rintro e w' ⟨rfl, rfl⟩)
    go_ret
    exact ⟨ret_int (by unfold mit; rw [E.out]), rfl⟩

set_option maxHeartbeats 400000 in
theorem rcubic_any (a : Int) (w : World) (h0 : 0 ≤ a) (h1 : a ≤ 131072) :
    Calls Try.prog 101 #[.int .i64 a] w fun e w' => e = .returned (.int .i64 (cub a)) ∧ ∃ n, w' = w.drewN n := by
  obtain ⟨b1, b2, b3, b4⟩ := sq_bounds a h0 h1
  obtain ⟨d1, d2, d3, d4, d5⟩ := cub_bounds a h0 h1
  by_cases hc : a < 65536
  · have E := Lib.hid (cubN_lo a hc)
    go_enter Try.func101, Try.ntmps101
    go_wp2_with (go_at_call 51; refine (rdiv_any _ _ _ (by omega) (by omega) (by omega) (by omega)).mono ?_; rintro e w' ⟨rfl, n, rfl⟩)
    go_ret
    exact ⟨ret_int (by unfold cub; rw [E.out]), _, rfl⟩
  · have E := Lib.hid (cubN_hi a hc)
    go_enter Try.func101, Try.ntmps101
    go_wp2_with (go_at_call 51; refine (rdiv_any _ _ _ (by omega) (by omega) (by omega) (by omega)).mono ?_; rintro e w' ⟨rfl, n, rfl⟩)
    go_ret
    exact ⟨ret_int (by unfold cub; rw [E.out]; congr 1; omega), _, rfl⟩

set_option maxHeartbeats 400000 in
theorem rmitchell_any (a : Int) (w : World) (h0 : 0 ≤ a) (h1 : a ≤ 131072) :
    Calls Try.prog 102 #[.int .i64 a] w fun e w' => e = .returned (.int .i64 (mit a)) ∧ ∃ n, w' = w.drewN n := by
  obtain ⟨b1, b2, b3, b4⟩ := sq_bounds a h0 h1
  obtain ⟨d1, d2, d3, d4, d5⟩ := mit_bounds a h0 h1
  by_cases hc : a < 65536
  · have E := Lib.hid (mitN_lo a hc)
    go_enter Try.func102, Try.ntmps102
    go_wp2_with (go_at_call 51; refine (rdiv_any _ _ _ (by omega) (by omega) (by omega) (by omega)).mono ?_; rintro e w' ⟨rfl, n, rfl⟩)
    go_ret
    exact ⟨ret_int (by unfold mit; rw [E.out]), _, rfl⟩
  · have E := Lib.hid (mitN_hi a hc)
    go_enter Try.func102, Try.ntmps102
    go_wp2_with (go_at_call 51; refine (rdiv_any _ _ _ (by omega) (by omega) (by omega) (by omega)).mono ?_; rintro e w' ⟨rfl, n, rfl⟩)
    go_ret
    exact ⟨ret_int (by unfold mit; rw [E.out]; congr 1; omega), _, rfl⟩

set_option maxHeartbeats 1000000 in
theorem weight_any (kind t : Int) (w : World) :
    Calls Try.prog 86 #[.int .i64 kind, .int .i64 t] w fun e w' => e = .returned (.int .i64 (wt kind t)) ∧ w = w' := by
  by_cases hf : t ≤ -131072 ∨ 131072 ≤ t
  · have E := Lib.hid (wt_far kind t hf)
    rcases hf with hf | hf
    · go_enter Try.func86, Try.ntmps86
      go_wp2
      all_goals (go_ret; exact ⟨ret_int (by rw [E.out]), rfl⟩)
    · go_enter Try.func86, Try.ntmps86
      go_wp2
      all_goals (go_ret; exact ⟨ret_int (by rw [E.out]), rfl⟩)
  · have hl : -131072 < t := by omega
    have hr : t < 131072 := by omega
    clear hf
    by_cases hk : kind = 0 ∨ kind = 1 ∨ kind = 2 ∨ kind = 3 ∨ kind = 4
    · rcases hk with rfl | rfl | rfl | rfl | rfl
      all_goals
        go_enter Try.func86, Try.ntmps86
        go_wp2_with (first | (go_at_call 95; refine (cubic_any _ _ (by omega) (by omega)).mono ?_; rintro e w' ⟨rfl, rfl⟩) | (go_at_call 96; refine (mitchell_any _ _ (by omega) (by omega)).mono ?_; rintro e w' ⟨rfl, rfl⟩))
        all_goals (go_ret; exact ⟨ret_int (by first | exact (wt_0 t hl hr (by omega)).symm | exact (wt_0' t hl hr (by omega)).symm | (rw [wt_1 t hl hr]; omega) | (rw [wt_3 t hl hr]; split <;> omega) | (simp only [beq_iff_eq, beq_eq_false_iff_ne, ne_eq] at *; rw [wt_3 t hl hr]; split <;> (try split) <;> omega) | (rw [wt_2 t hl hr]; congr 1; omega) | (rw [wt_4 t hl hr]; congr 1; omega)), rfl⟩)
    · have E := Lib.hid (wt_none kind t (by omega) (by omega) (by omega) (by omega) (by omega))
      have k0 : (kind == 0) = false := by simp; omega
      have k1 : (kind == 1) = false := by simp; omega
      have k2 : (kind == 2) = false := by simp; omega
      have k3 : (kind == 3) = false := by simp; omega
      have k4 : (kind == 4) = false := by simp; omega
      clear hk
      go_enter Try.func86, Try.ntmps86
      go_wp2
      all_goals (go_ret; exact ⟨ret_int (by rw [E.out]), rfl⟩)

set_option maxHeartbeats 1000000 in
theorem rweight_any (kind t : Int) (w : World) :
    Calls Try.prog 91 #[.int .i64 kind, .int .i64 t] w fun e w' => e = .returned (.int .i64 (wt kind t)) ∧ ∃ n, w' = w.drewN n := by
  by_cases hf : t ≤ -131072 ∨ 131072 ≤ t
  · have E := Lib.hid (wt_far kind t hf)
    rcases hf with hf | hf
    · go_enter Try.func91, Try.ntmps91
      go_wp2
      all_goals (go_ret; exact ⟨ret_int (by rw [E.out]), by first | exact ⟨_, rfl⟩ | exact ⟨0, rfl⟩⟩)
    · go_enter Try.func91, Try.ntmps91
      go_wp2
      all_goals (go_ret; exact ⟨ret_int (by rw [E.out]), by first | exact ⟨_, rfl⟩ | exact ⟨0, rfl⟩⟩)
  · have hl : -131072 < t := by omega
    have hr : t < 131072 := by omega
    clear hf
    by_cases hk : kind = 0 ∨ kind = 1 ∨ kind = 2 ∨ kind = 3 ∨ kind = 4
    · rcases hk with rfl | rfl | rfl | rfl | rfl
      all_goals
        go_enter Try.func91, Try.ntmps91
        go_wp2_with (first | (go_at_call 101; refine (rcubic_any _ _ (by omega) (by omega)).mono ?_; rintro e w' ⟨rfl, n, rfl⟩) | (go_at_call 102; refine (rmitchell_any _ _ (by omega) (by omega)).mono ?_; rintro e w' ⟨rfl, n, rfl⟩))
        all_goals (go_ret; exact ⟨ret_int (by first | exact (wt_0 t hl hr (by omega)).symm | exact (wt_0' t hl hr (by omega)).symm | (rw [wt_1 t hl hr]; omega) | (rw [wt_3 t hl hr]; split <;> omega) | (simp only [beq_iff_eq, beq_eq_false_iff_ne, ne_eq] at *; rw [wt_3 t hl hr]; split <;> (try split) <;> omega) | (rw [wt_2 t hl hr]; congr 1; omega) | (rw [wt_4 t hl hr]; congr 1; omega)), by first | exact ⟨_, rfl⟩ | exact ⟨0, rfl⟩⟩)
    · have E := Lib.hid (wt_none kind t (by omega) (by omega) (by omega) (by omega) (by omega))
      have k0 : (kind == 0) = false := by simp; omega
      have k1 : (kind == 1) = false := by simp; omega
      have k2 : (kind == 2) = false := by simp; omega
      have k3 : (kind == 3) = false := by simp; omega
      have k4 : (kind == 4) = false := by simp; omega
      clear hk
      go_enter Try.func91, Try.ntmps91
      go_wp2
      all_goals (go_ret; exact ⟨ret_int (by rw [E.out]), by first | exact ⟨_, rfl⟩ | exact ⟨0, rfl⟩⟩)

set_option maxHeartbeats 400000 in
theorem kvalid_any (kind : Int) (w : World) :
    Calls Try.prog 28 #[.int .i64 kind] w fun e w' => e = .returned (.bool (vld kind)) ∧ w = w' := by
  by_cases hk : kind = 0 ∨ kind = 1 ∨ kind = 2 ∨ kind = 3 ∨ kind = 4
  · rcases hk with rfl | rfl | rfl | rfl | rfl
    all_goals
      go_enter Try.func28, Try.ntmps28
      go_wp2_with go_in
      all_goals (go_ret; exact ⟨rfl, rfl⟩)
  · have E := Lib.hid (vld_none kind (by omega) (by omega) (by omega) (by omega) (by omega))
    have k0 : (kind == 0) = false := by simp; omega
    have k1 : (kind == 1) = false := by simp; omega
    have k2 : (kind == 2) = false := by simp; omega
    have k3 : (kind == 3) = false := by simp; omega
    have k4 : (kind == 4) = false := by simp; omega
    rcases (show kind < 0 ∨ 4 < kind by omega) with hk' | hk'
    all_goals
      clear hk
      go_enter Try.func28, Try.ntmps28
      go_wp2_with go_in
      all_goals (go_ret; exact ⟨by rw [E.out]; first | rfl | exact ret_bool (by simp; omega), rfl⟩)

set_option maxHeartbeats 400000 in
theorem rkvalid_any (kind : Int) (w : World) :
    Calls Try.prog 32 #[.int .i64 kind] w fun e w' => e = .returned (.bool (vld kind)) ∧ w = w' := by
  by_cases hk : kind = 0 ∨ kind = 1 ∨ kind = 2 ∨ kind = 3 ∨ kind = 4
  · rcases hk with rfl | rfl | rfl | rfl | rfl
    all_goals
      go_enter Try.func32, Try.ntmps32
      go_wp2_with go_in
      all_goals (go_ret; exact ⟨rfl, rfl⟩)
  · have E := Lib.hid (vld_none kind (by omega) (by omega) (by omega) (by omega) (by omega))
    have k0 : (kind == 0) = false := by simp; omega
    have k1 : (kind == 1) = false := by simp; omega
    have k2 : (kind == 2) = false := by simp; omega
    have k3 : (kind == 3) = false := by simp; omega
    have k4 : (kind == 4) = false := by simp; omega
    rcases (show kind < 0 ∨ 4 < kind by omega) with hk' | hk'
    all_goals
      clear hk
      go_enter Try.func32, Try.ntmps32
      go_wp2_with go_in
      all_goals (go_ret; exact ⟨by rw [E.out]; first | rfl | exact ret_bool (by simp; omega), rfl⟩)

set_option maxHeartbeats 400000 in
theorem support_any (kind : Int) (w : World) :
    Calls Try.prog 45 #[.int .i64 kind] w fun e w' => e = .returned (.int .i64 (spt kind)) ∧ w = w' := by
  by_cases hk : kind = 0 ∨ kind = 1 ∨ kind = 2 ∨ kind = 3 ∨ kind = 4
  · rcases hk with rfl | rfl | rfl | rfl | rfl
    all_goals
      go_enter Try.func45, Try.ntmps45
      go_wp2_with go_in
      all_goals (go_ret; exact ⟨rfl, rfl⟩)
  · have E := Lib.hid (spt_none kind (by omega) (by omega) (by omega) (by omega) (by omega))
    have k0 : (kind == 0) = false := by simp; omega
    have k1 : (kind == 1) = false := by simp; omega
    have k2 : (kind == 2) = false := by simp; omega
    have k3 : (kind == 3) = false := by simp; omega
    have k4 : (kind == 4) = false := by simp; omega
    rcases (show kind < 0 ∨ 4 < kind by omega) with hk' | hk'
    all_goals
      clear hk
      go_enter Try.func45, Try.ntmps45
      go_wp2_with go_in
      all_goals (go_ret; exact ⟨by rw [E.out]; first | rfl | exact ret_bool (by simp; omega), rfl⟩)

set_option maxHeartbeats 400000 in
theorem rsupport_any (kind : Int) (w : World) :
    Calls Try.prog 48 #[.int .i64 kind] w fun e w' => e = .returned (.int .i64 (spt kind)) ∧ w = w' := by
  by_cases hk : kind = 0 ∨ kind = 1 ∨ kind = 2 ∨ kind = 3 ∨ kind = 4
  · rcases hk with rfl | rfl | rfl | rfl | rfl
    all_goals
      go_enter Try.func48, Try.ntmps48
      go_wp2_with go_in
      all_goals (go_ret; exact ⟨rfl, rfl⟩)
  · have E := Lib.hid (spt_none kind (by omega) (by omega) (by omega) (by omega) (by omega))
    have k0 : (kind == 0) = false := by simp; omega
    have k1 : (kind == 1) = false := by simp; omega
    have k2 : (kind == 2) = false := by simp; omega
    have k3 : (kind == 3) = false := by simp; omega
    have k4 : (kind == 4) = false := by simp; omega
    rcases (show kind < 0 ∨ 4 < kind by omega) with hk' | hk'
    all_goals
      clear hk
      go_enter Try.func48, Try.ntmps48
      go_wp2_with go_in
      all_goals (go_ret; exact ⟨by rw [E.out]; first | rfl | exact ret_bool (by simp; omega), rfl⟩)
end Go.Proofs.Ytineinmghajmnaa
