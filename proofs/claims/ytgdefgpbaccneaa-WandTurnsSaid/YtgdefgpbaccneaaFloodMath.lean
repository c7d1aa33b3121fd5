/- What a flood reaches, as plain data. No program in sight. -/
import Derived.Test.YtgdefgpbaccneaaImgMath
namespace Go.Proofs.Ytgdefgpbaccneaa

/-- Neighbors (or the same pixel). -/
def Adj (W : Int) (dg : Bool) (a b : Int) : Prop :=
  -1 ≤ b % W - a % W ∧ b % W - a % W ≤ 1 ∧ -1 ≤ b / W - a / W ∧ b / W - a / W ≤ 1 ∧ (dg = true ∨ a % W = b % W ∨ a / W = b / W)
theorem Adj.symm {W : Int} {dg : Bool} {a b : Int} (h : Adj W dg a b) : Adj W dg b a := by
  obtain ⟨h1, h2, h3, h4, h5⟩ := h
  exact ⟨by omega, by omega, by omega, by omega, h5.imp id (Or.imp Eq.symm Eq.symm)⟩

section
variable (N : Nat) (W : Int) (dg : Bool) (sim : Nat → Prop) (s : Nat)
/-- The pixel k can be reached from s. -/
def Reach (k : Nat) : Prop := ∀ S : Nat → Prop, S s → (∀ a b : Nat, S a → a < N → b < N → Adj W dg a b → sim b → S b) → S k
/-- The values of a flood. -/
def FloodIs (l : List Int) : Prop := l.length = N ∧ ∀ k, k < N → (l.getD k 0 = 65535 ∧ Reach N W dg sim s k) ∨ (l.getD k 0 = 0 ∧ ¬ Reach N W dg sim s k)
/-- The head of the loops: the marks, the pixels still to be looked at, the pixel at hand and its neighbors that are left. -/
structure DInv (M st : List Int) (p : Nat) (rest : List Int) : Prop where
  len : M.length = N
  val : ∀ k, k < N → M.getD k 0 = 0 ∨ M.getD k 0 = 65535
  first : M.getD s 0 = 65535
  snd : ∀ k, k < N → M.getD k 0 ≠ 0 → Reach N W dg sim s k
  stk : ∀ x, x ∈ st → ∃ k : Nat, x = k ∧ k < N ∧ M.getD k 0 ≠ 0
  cl : ∀ k, k < N → M.getD k 0 ≠ 0 → (k : Int) ∉ st → ∀ b : Nat, b < N → Adj W dg k b → sim b → M.getD b 0 ≠ 0 ∨ (k = p ∧ (b : Int) ∈ rest)
  at_ : p < N ∧ M.getD p 0 ≠ 0
end
section
variable {N : Nat} {W : Int} {dg : Bool} {sim : Nat → Prop} {s : Nat} {k a b : Nat}
theorem Reach.start : Reach N W dg sim s s := fun _ h _ => h
theorem Reach.step (h : Reach N W dg sim s a) (ha : a < N) (hb : b < N) (hj : Adj W dg a b) (hs : sim b) : Reach N W dg sim s b := fun S h0 hc => hc a b (h S h0 hc) ha hb hj hs
theorem Reach.lt (h : Reach N W dg sim s k) (hs : s < N) : k < N := h (· < N) hs fun _ _ _ _ hb _ _ => hb
theorem Reach.sim' (h : Reach N W dg sim s k) (hs : sim s) : sim k := h sim hs fun _ _ _ _ _ _ hb => hb
theorem Reach.mono {dg' : Bool} {sim' : Nat → Prop} (h : Reach N W dg sim s k) (hd : dg = true → dg' = true) (hs : ∀ b, b < N → sim b → sim' b) : Reach N W dg' sim' s k :=
  fun S h0 hc => h S h0 fun a b h1 h2 h3 h4 h5 => hc a b h1 h2 h3 ⟨h4.1, h4.2.1, h4.2.2.1, h4.2.2.2.1, h4.2.2.2.2.imp hd id⟩ (hs b h3 h5)
theorem Reach.back (hs : s < N) (hss : sim s) (h : Reach N W dg sim s k) : Reach N W dg sim k s := by
  have hk := h.lt hs
  refine h (fun k => Reach N W dg sim k s ∧ sim k) ⟨Reach.start, hss⟩ ?_ |>.1
  intro a b ⟨h1, h1'⟩ ha hb hj hsb
  refine ⟨?_, hsb⟩
  intro S h0 hc
  exact h1 S (hc b a h0 hb ha hj.symm h1') hc
theorem Reach.trans {m : Nat} (h : Reach N W dg sim s k) (h2 : Reach N W dg sim k m) : Reach N W dg sim s m := fun S h0 hc => h2 S (h S h0 hc) hc

theorem floodIs_eq {l l' : List Int} (h : FloodIs N W dg sim s l) (h' : FloodIs N W dg sim s l') : l = l' := by
  obtain ⟨h1, h2⟩ := h
  obtain ⟨h1', h2'⟩ := h'
  apply List.ext_getElem (by omega)
  intro i hi hi'
  have e : l.getD i 0 = l[i] := by simp [hi]
  have e' : l'.getD i 0 = l'[i] := by simp [hi']
  rw [← e, ← e']
  rcases h2 i (by omega) with ⟨a, b⟩ | ⟨a, b⟩ <;> rcases h2' i (by omega) with ⟨a', b'⟩ | ⟨a', b'⟩
  · rw [a, a']
  · exact absurd b b'
  · exact absurd b' b
  · rw [a, a']
theorem getD_set (l : List Int) (k j : Nat) (u : Int) (hk : k < l.length) : (l.set k u).getD j 0 = if j = k then u else l.getD j 0 := by
  simp only [List.getD_eq_getElem?_getD, List.getElem?_set]
  by_cases h : k = j
  · subst h; simp [hk]
  · simp [h, Ne.symm h]
def zeros (M : List Int) : Nat := M.count 0
theorem zeros_set (M : List Int) (k : Nat) (hk : k < M.length) (h0 : M.getD k 0 = 0) : zeros (M.set k 65535) + 1 = zeros M := by
  induction M generalizing k with
  | nil => simp at hk
  | cons x M ih =>
    cases k with
    | zero =>
      have : x = 0 := by simpa using h0
      subst this
      simp [zeros]
    | succ k =>
      have := ih k (by simpa using hk) (by simpa using h0)
      simp only [zeros, List.set_cons_succ, List.count_cons] at this ⊢
      omega
theorem zeros_le (M : List Int) : zeros M ≤ M.length := List.count_le_length

theorem dinv_start (hs : s < N) : DInv N W dg sim s ((List.replicate N 0).set s 65535) [(s : Int)] s [] := by
  have hl : s < (List.replicate N (0 : Int)).length := by simpa using hs
  have hz : ∀ k, (List.replicate N (0 : Int)).getD k 0 = 0 := by intro k; simp only [List.getD_eq_getElem?_getD, List.getElem?_replicate]; split <;> rfl
  refine ⟨by simp, ?_, ?_, ?_, ?_, ?_, hs, ?_⟩
  · intro k hk; rw [getD_set _ _ _ _ hl, hz]; split <;> simp
  · rw [getD_set _ _ _ _ hl]; simp
  · intro k hk h; rw [getD_set _ _ _ _ hl, hz] at h
    split at h
    · rename_i e; subst e; exact Reach.start
    · exact absurd rfl h
  · intro x hx
    simp at hx
    exact ⟨s, hx, hs, by rw [getD_set _ _ _ _ hl]; simp⟩
  · intro k hk h hn
    rw [getD_set _ _ _ _ hl, hz] at h
    split at h
    · rename_i e; subst e; simp at hn
    · exact absurd rfl h
  · rw [getD_set _ _ _ _ hl]; simp
theorem DInv.pop {M st st' l : List Int} {p q : Nat} (h : DInv N W dg sim s M st p []) (hq : (q : Int) ∈ st) (h1 : ∀ x, x ∈ st → x = q ∨ x ∈ st') (h2 : ∀ x, x ∈ st' → x ∈ st)
    (hl : ∀ b : Nat, b < N → Adj W dg q b → b = q ∨ (b : Int) ∈ l) : DInv N W dg sim s M st' q l := by
  obtain ⟨k0, e0, hk0, hm0⟩ := h.stk q hq
  obtain rfl : q = k0 := by omega
  refine ⟨h.len, h.val, h.first, h.snd, fun x hx => h.stk x (h2 x hx), ?_, hk0, hm0⟩
  intro k hk hm hn b hb hj hs
  by_cases e : k = q
  · subst e
    rcases hl b hb hj with rfl | h'
    · exact .inl hm
    · exact .inr ⟨rfl, h'⟩
  · have hn' : (k : Int) ∉ st := fun hx => by
      rcases h1 k hx with h' | h'
      · exact e (by omega)
      · exact hn h'
    rcases h.cl k hk hm hn' b hb hj hs with h' | ⟨_, h'⟩
    · exact .inl h'
    · cases h'
theorem DInv.skip {M st rest : List Int} {p n : Nat} (h : DInv N W dg sim s M st p ((n : Int) :: rest)) (hn : M.getD n 0 ≠ 0 ∨ ¬ sim n) : DInv N W dg sim s M st p rest := by
  refine ⟨h.len, h.val, h.first, h.snd, h.stk, ?_, h.at_⟩
  intro k hk hm hst b hb hj hs
  rcases h.cl k hk hm hst b hb hj hs with h' | ⟨e, h'⟩
  · exact .inl h'
  · rcases List.mem_cons.1 h' with h' | h'
    · obtain rfl : b = n := by omega
      rcases hn with hn | hn
      · exact .inl hn
      · exact absurd hs hn
    · exact .inr ⟨e, h'⟩
theorem DInv.push {M st rest : List Int} {p n : Nat} (h : DInv N W dg sim s M st p ((n : Int) :: rest)) (hn : n < N) (h0 : M.getD n 0 = 0) (hs : sim n) (hj : Adj W dg p n) :
    DInv N W dg sim s (M.set n 65535) (st ++ [(n : Int)]) p rest := by
  have hl : n < M.length := by rw [h.len]; exact hn
  have hup : ∀ k, M.getD k 0 ≠ 0 → (M.set n 65535).getD k 0 ≠ 0 := by
    intro k hk; rw [getD_set _ _ _ _ hl]; split <;> simp_all
  refine ⟨by rw [List.length_set]; exact h.len, ?_, ?_, ?_, ?_, ?_, h.at_.1, hup _ h.at_.2⟩
  · intro k hk; rw [getD_set _ _ _ _ hl]; split
    · exact .inr rfl
    · exact h.val k hk
  · rw [getD_set _ _ _ _ hl]; split
    · rfl
    · exact h.first
  · intro k hk hm
    rw [getD_set _ _ _ _ hl] at hm
    split at hm
    · rename_i e; subst e; exact (h.snd p h.at_.1 h.at_.2).step h.at_.1 hn hj hs
    · exact h.snd k hk hm
  · intro x hx
    rcases List.mem_append.1 hx with hx | hx
    · obtain ⟨k, e, hk, hm⟩ := h.stk x hx
      exact ⟨k, e, hk, hup k hm⟩
    · simp at hx
      exact ⟨n, hx, hn, by rw [getD_set _ _ _ _ hl]; simp⟩
  · intro k hk hm hst b hb hj' hs'
    rw [List.mem_append] at hst
    have e : k ≠ n := fun e => hst (.inr (by simp [e]))
    rw [getD_set _ _ _ _ hl, if_neg e] at hm
    rcases h.cl k hk hm (fun hx => hst (.inl hx)) b hb hj' hs' with h' | ⟨e', h'⟩
    · exact .inl (hup b h')
    · rcases List.mem_cons.1 h' with h' | h'
      · obtain rfl : b = n := by omega
        exact .inl (by rw [getD_set _ _ _ _ hl]; simp)
      · exact .inr ⟨e', h'⟩
theorem DInv.done {M : List Int} {p : Nat} (h : DInv N W dg sim s M [] p []) : FloodIs N W dg sim s M := by
  have hc : ∀ k, Reach N W dg sim s k → M.getD k 0 ≠ 0 := by
    intro k hr
    refine (hr (fun k => M.getD k 0 ≠ 0) (by show M.getD s 0 ≠ 0; rw [h.first]; omega) ?_)
    intro a b ha haN hb hj hsb
    rcases h.cl a haN ha (by simp) b hb hj hsb with h' | ⟨_, h'⟩
    · exact h'
    · cases h'
  refine ⟨h.len, fun k hk => ?_⟩
  rcases h.val k hk with h0 | h1
  · exact .inr ⟨h0, fun hr => hc k hr h0⟩
  · exact .inl ⟨h1, h.snd k hk (by rw [h1]; omega)⟩
end

/-- A place and its two coordinates. -/
theorem place_bd {x y W H : Int} (h0 : 0 ≤ x) (h1 : x < W) (h2 : 0 ≤ y) (h3 : y < H) : 0 ≤ y * W + x ∧ y * W + x < W * H := by
  have e1 : 0 ≤ y * W := Int.mul_nonneg h2 (by omega)
  have e2 : (y + 1) * W ≤ H * W := Int.mul_le_mul_of_nonneg_right (by omega) (by omega)
  rw [Int.add_mul, Int.mul_comm H W] at e2
  omega
theorem place_mod {x y W : Int} (h0 : 0 ≤ x) (h1 : x < W) : (y * W + x) % W = x ∧ (y * W + x) / W = y := by
  rw [Int.add_comm]
  exact ⟨by rw [Int.add_mul_emod_self_right]; exact Int.emod_eq_of_lt h0 h1, by rw [Int.add_mul_ediv_right _ _ (by omega), Int.ediv_eq_zero_of_lt h0 h1]; omega⟩
theorem place_of (k W : Int) : k = k / W * W + k % W := by have := Int.emod_add_mul_ediv k W; rw [Int.mul_comm] at this; omega
theorem row_lt {k W H : Int} (hW : 0 < W) (h : k < W * H) : k / W < H := Int.ediv_lt_of_lt_mul hW (by rw [Int.mul_comm]; exact h)

/-- One candidate of the program's list of neighbors. -/
def nb1 (W H k : Int) (dg : Bool) (dx dy : Int) : List Int :=
  if (dx = 0 ∧ dy = 0) ∨ (dx ≠ 0 ∧ dy ≠ 0 ∧ dg = false) then [] else
  if 0 ≤ k % W + dx ∧ k % W + dx < W ∧ 0 ≤ k / W + dy ∧ k / W + dy < H then [k + dy * W + dx] else []
def nbRow (W H k : Int) (dg : Bool) (dy : Int) (n : Nat) : List Int := (List.range n).flatMap fun (b : Nat) => nb1 W H k dg ((b : Int) - 1) dy
def nbAll (W H k : Int) (dg : Bool) (n : Nat) : List Int := (List.range n).flatMap fun (a : Nat) => nbRow W H k dg ((a : Int) - 1) 3
section
variable (W H k : Int) (dg : Bool)
theorem nbRow_succ (dy : Int) (n : Nat) : nbRow W H k dg dy (n + 1) = nbRow W H k dg dy n ++ nb1 W H k dg ((n : Int) - 1) dy := by
  unfold nbRow; rw [List.range_succ, List.flatMap_append]; simp
theorem nbAll_succ (n : Nat) : nbAll W H k dg (n + 1) = nbAll W H k dg n ++ nbRow W H k dg ((n : Int) - 1) 3 := by
  unfold nbAll; rw [List.range_succ, List.flatMap_append]; simp
theorem nb1_len (dx dy : Int) : (nb1 W H k dg dx dy).length ≤ 1 := by unfold nb1; split <;> (try split) <;> simp
theorem nbRow_len (dy : Int) (n : Nat) : (nbRow W H k dg dy n).length ≤ n := by
  induction n with
  | zero => simp [nbRow]
  | succ n ih => rw [nbRow_succ, List.length_append]; have := nb1_len W H k dg ((n : Int) - 1) dy; omega
theorem nbAll_len (n : Nat) : (nbAll W H k dg n).length ≤ 3 * n := by
  induction n with
  | zero => simp [nbAll]
  | succ n ih => rw [nbAll_succ, List.length_append]; have := nbRow_len W H k dg ((n : Int) - 1) 3; omega
theorem nb1_mem {W H k dx dy : Int} {dg : Bool} (hdx : -1 ≤ dx ∧ dx ≤ 1) (hdy : -1 ≤ dy ∧ dy ≤ 1) {x : Int} (h : x ∈ nb1 W H k dg dx dy) : 0 ≤ x ∧ x < W * H ∧ Adj W dg k x := by
  unfold nb1 at h
  split at h
  · cases h
  · rename_i hd
    split at h
    · rename_i hb
      have hx : x = k + dy * W + dx := by simpa using h
      have e : x = (k / W + dy) * W + (k % W + dx) := by rw [Int.add_mul]; have := place_of k W; omega
      have p := place_bd hb.1 hb.2.1 hb.2.2.1 hb.2.2.2
      have m := place_mod (y := k / W + dy) hb.1 hb.2.1
      rw [← e] at p m
      refine ⟨p.1, p.2, by omega, by omega, by omega, by omega, ?_⟩
      cases dg
      · right
        have : dx = 0 ∨ dy = 0 := by
          rcases Int.decEq dx 0 with h1 | h1
          · rcases Int.decEq dy 0 with h2 | h2
            · exact absurd (Or.inr ⟨h1, h2, rfl⟩) hd
            · exact .inr h2
          · exact .inl h1
        rcases this with h | h
        · left; omega
        · right; omega
      · left; rfl
    · cases h
theorem nbAll_mem {W H k : Int} {dg : Bool} {x : Int} (h : x ∈ nbAll W H k dg 3) : 0 ≤ x ∧ x < W * H ∧ Adj W dg k x := by
  unfold nbAll nbRow at h
  rw [List.mem_flatMap] at h
  obtain ⟨a, ha, h⟩ := h
  rw [List.mem_flatMap] at h
  obtain ⟨b, hb, h⟩ := h
  rw [List.mem_range] at ha hb
  exact nb1_mem (by omega) (by omega) h
theorem nbAll_has {W H k : Int} {dg : Bool} (hW : 0 < W) {b : Int} (hb : 0 ≤ b ∧ b < W * H) (hj : Adj W dg k b) (hne : b ≠ k) : b ∈ nbAll W H k dg 3 := by
  obtain ⟨h1, h2, h3, h4, h5⟩ := hj
  have pk := place_of k W
  have pb := place_of b W
  have bx0 := Int.emod_nonneg b (show W ≠ 0 by omega)
  have bx1 := Int.emod_lt_of_pos b hW
  have by0 : 0 ≤ b / W := Int.ediv_nonneg hb.1 (by omega)
  have by1 := row_lt hW hb.2
  unfold nbAll nbRow
  rw [List.mem_flatMap]
  refine ⟨(b / W - k / W + 1).toNat, by rw [List.mem_range]; omega, ?_⟩
  rw [List.mem_flatMap]
  refine ⟨(b % W - k % W + 1).toNat, by rw [List.mem_range]; omega, ?_⟩
  have ea : (((b % W - k % W + 1).toNat : Nat) : Int) - 1 = b % W - k % W := by omega
  have eb : (((b / W - k / W + 1).toNat : Nat) : Int) - 1 = b / W - k / W := by omega
  rw [ea, eb]
  unfold nb1
  rw [if_neg, if_pos]
  · have : k + (b / W - k / W) * W + (b % W - k % W) = b := by rw [Int.sub_mul]; omega
    rw [this]; simp
  · omega
  · intro hh
    rcases hh with ⟨e1, e2⟩ | ⟨e1, e2, e3⟩
    · apply hne
      have e3 : b % W = k % W := by omega
      have e4 : b / W = k / W := by omega
      rw [pb, pk, e3, e4]
    · rcases h5 with h5 | h5 | h5
      · rw [h5] at e3; cases e3
      · omega
      · omega
end
/-- One candidate of the reference's two loops, its number j; the candidates that are left when m of nine are left. -/
def cand (W H x y : Int) (dg : Bool) (dx dy : Int) : List Int :=
  if 0 ≤ x + dx ∧ 0 ≤ y + dy ∧ x + dx < W ∧ y + dy < H ∧ (dg = true ∨ dx = 0 ∨ dy = 0) then [(y + dy) * W + (x + dx)] else []
def rowR (W H x y : Int) (dg : Bool) (dy : Int) (b : Nat) : List Int := (List.range' b (3 - b)).flatMap fun (i : Nat) => cand W H x y dg ((i : Int) - 1) dy
def allR (W H x y : Int) (dg : Bool) (a : Nat) : List Int := (List.range' a (3 - a)).flatMap fun (i : Nat) => rowR W H x y dg ((i : Int) - 1) 0
section
variable (W H x y : Int) (dg : Bool)
theorem rowR_step (dy : Int) (b : Nat) (h : b < 3) : rowR W H x y dg dy b = cand W H x y dg ((b : Int) - 1) dy ++ rowR W H x y dg dy (b + 1) := by
  unfold rowR
  rw [show 3 - b = (3 - (b + 1)) + 1 by omega, List.range'_succ, List.flatMap_cons]
theorem rowR_end (dy : Int) : rowR W H x y dg dy 3 = [] := rfl
theorem allR_step (a : Nat) (h : a < 3) : allR W H x y dg a = rowR W H x y dg ((a : Int) - 1) 0 ++ allR W H x y dg (a + 1) := by
  unfold allR
  rw [show 3 - a = (3 - (a + 1)) + 1 by omega, List.range'_succ, List.flatMap_cons]
theorem allR_end : allR W H x y dg 3 = [] := rfl
theorem cand_mem {W H k : Int} {dg : Bool} {dx dy : Int} (hdx : -1 ≤ dx ∧ dx ≤ 1) (hdy : -1 ≤ dy ∧ dy ≤ 1) (h : 0 ≤ k % W + dx ∧ 0 ≤ k / W + dy ∧ k % W + dx < W ∧ k / W + dy < H ∧ (dg = true ∨ dx = 0 ∨ dy = 0)) :
    0 ≤ (k / W + dy) * W + (k % W + dx) ∧ (k / W + dy) * W + (k % W + dx) < W * H ∧ Adj W dg k ((k / W + dy) * W + (k % W + dx)) := by
  obtain ⟨h1, h2, h3, h4, h5⟩ := h
  have p := place_bd h1 h3 h2 h4
  have m := place_mod (y := k / W + dy) h1 h3
  refine ⟨p.1, p.2, by omega, by omega, by omega, by omega, ?_⟩
  rcases h5 with h5 | h5 | h5
  · exact .inl h5
  · right; left; omega
  · right; right; omega
theorem allR_has {W H k : Int} {dg : Bool} (hW : 0 < W) {b : Int} (hb : 0 ≤ b ∧ b < W * H) (hj : Adj W dg k b) : b ∈ allR W H (k % W) (k / W) dg 0 := by
  obtain ⟨h1, h2, h3, h4, h5⟩ := hj
  have pk := place_of k W
  have pb := place_of b W
  have bx0 := Int.emod_nonneg b (show W ≠ 0 by omega)
  have bx1 := Int.emod_lt_of_pos b hW
  have by0 : 0 ≤ b / W := Int.ediv_nonneg hb.1 (by omega)
  have by1 := row_lt hW hb.2
  unfold allR rowR
  rw [List.mem_flatMap]
  refine ⟨(b / W - k / W + 1).toNat, by rw [List.mem_range'_1]; omega, ?_⟩
  rw [List.mem_flatMap]
  refine ⟨(b % W - k % W + 1).toNat, by rw [List.mem_range'_1]; omega, ?_⟩
  have ea : (((b % W - k % W + 1).toNat : Nat) : Int) - 1 = b % W - k % W := by omega
  have eb : (((b / W - k / W + 1).toNat : Nat) : Int) - 1 = b / W - k / W := by omega
  rw [ea, eb]
  unfold cand
  rw [if_pos]
  · have e1 : k / W + (b / W - k / W) = b / W := by omega
    have e2 : k % W + (b % W - k % W) = b % W := by omega
    rw [e1, e2, ← pb]; simp
  · refine ⟨by omega, by omega, by omega, by omega, ?_⟩
    rcases h5 with h5 | h5 | h5
    · exact .inl h5
    · right; left; omega
    · right; right; omega
end
end Go.Proofs.Ytgdefgpbaccneaa
