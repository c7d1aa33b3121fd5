/- The normalized weights have the sum One; the pixel of the position is among them; one pixel further they are the same. No program in sight. -/
import Derived.Test.YtineinmghajmnaaML
namespace Go.Proofs.Ytineinmghajmnaa

theorem sum_set : ∀ (l : List Int) (b : Nat) (v : Int), b < l.length → (l.set b v).sum = l.sum - l.getD b 0 + v
  | [], b, v, h => absurd h (by simp)
  | a :: l, 0, v, _ => by simp; omega
  | a :: l, b + 1, v, h => by
    have := sum_set l b v (by simpa using h)
    simp only [List.set_cons_succ, List.sum_cons, this, List.getD_cons_succ]
    omega
theorem fin_length (l : List Int) : (fin l).length = l.length := by simp [fin, nrm_length]
theorem fin_sum (l : List Int) (h : 1 ≤ l.length) : (fin l).sum = 65536 := by
  unfold fin
  have hb : bst (nrm l) l.length < l.length := by rcases bst_lt (nrm l) l.length with h' | h' <;> omega
  rw [sum_set _ _ _ (by rw [nrm_length]; exact hb)]
  omega
theorem getD_set (l : List Int) (b : Nat) (v : Int) (i : Nat) : (l.set b v).getD i 0 = l.getD i 0 ∨ (l.set b v).getD i 0 = v := by
  by_cases h : i = b
  · subst h
    by_cases hi : i < l.length
    · right; simp [hi]
    · left; simp at hi; simp [hi]
  · left
    have : b ≠ i := fun e => h e.symm
    simp [this]
theorem Raw.fel {l : List Int} (h : Raw l) (i : Nat) : -20000000 ≤ (fin l).getD i 0 ∧ (fin l).getD i 0 ≤ 20000000 := by
  have h1 := h.nel i
  have h2 := h.nel (bst (nrm l) l.length)
  have h3 := h.nsum l.length (Nat.le_refl _)
  rw [show (nrm l).take l.length = nrm l by rw [← nrm_length l, List.take_length]] at h3
  have h4 := h.n2
  unfold fin
  rcases getD_set (nrm l) (bst (nrm l) l.length) ((nrm l).getD (bst (nrm l) l.length) 0 + (65536 - (nrm l).sum)) i with e | e
  · rw [e]; omega
  · rw [e]; omega
theorem fin_take {l : List Int} (h : Raw l) : ∀ k, k ≤ l.length → -20000000 * (k : Int) ≤ ((fin l).take k).sum ∧ ((fin l).take k).sum ≤ 20000000 * (k : Int)
  | 0, _ => by simp
  | k + 1, hk => by
    have h1 := fin_take h k (by omega)
    have h2 := h.fel k
    rw [take_snoc_int _ _ (by rw [fin_length]; omega), sum_snoc]
    omega
theorem cl_id (x : Int) (h0 : -1099511627776 ≤ x) (h1 : x ≤ 1099511627776) : cl x = x := by unfold cl; omega
theorem k1_at (kind x : Int) (hv : vld kind = true) : k1 kind x ≤ x / 65536 ∧ x / 65536 < k1 kind x + kn kind x := by
  have h := kn_le kind x hv
  have h2 := spt_le kind
  have h3 : 1 ≤ spt kind := by
    rw [vld_iff] at hv
    unfold spt; split <;> (try split) <;> omega
  have h4 := h.2.2
  unfold kl at h4
  unfold k1 at *
  omega
theorem kn_spt (kind x : Int) (hv : vld kind = true) : (kn kind x : Int) = 2 * spt kind ∨ (kn kind x : Int) = 2 * spt kind - 1 := by
  obtain ⟨h1, _⟩ := kn_r kind x _ hv rfl
  split at h1 <;> omega
theorem taps_shift (kind x : Int) (hv : vld kind = true) (h0 : -1099511627776 ≤ x) (h1 : x + 65536 ≤ 1099511627776) : taps kind (x + 65536) = taps kind x ∧ tapFirst kind (x + 65536) = tapFirst kind x + 1 := by
  unfold taps tapFirst
  rw [hv, cl_id x h0 (by omega), cl_id (x + 65536) (by omega) h1, raw_eq _ _ hv, raw_eq _ _ hv]
  constructor
  · rw [show (x + 65536 - spt kind * 65536 - 32768) % 65536 = (x - spt kind * 65536 - 32768) % 65536 by omega]
  · simp only [if_true]
    unfold k1
    omega
end Go.Proofs.Ytineinmghajmnaa
