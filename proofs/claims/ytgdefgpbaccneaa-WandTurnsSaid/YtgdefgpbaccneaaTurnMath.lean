/- The flood of a transposed image. No program in sight. -/
import Derived.Test.YtgdefgpbaccneaaFloodDef
import Derived.Test.YtgdefgpbaccneaaGrid
namespace Go.Proofs.Ytgdefgpbaccneaa

/-- The place of a pixel in the transposed image. -/
def tr (W H : Int) (k : Nat) : Nat := (((k : Int) % W) * H + (k : Int) / W).toNat
theorem tr_spec {W H : Int} {k N : Nat} (hN : (N : Int) = W * H) (hk : k < N) (hW : 0 ≤ W) (hH : 0 ≤ H) :
    ((tr W H k : Nat) : Int) = ((k : Int) % W) * H + (k : Int) / W ∧ tr W H k < N ∧ ((tr W H k : Nat) : Int) % H = (k : Int) / W ∧ ((tr W H k : Nat) : Int) / H = (k : Int) % W ∧ 0 < W ∧ 0 < H ∧
      0 ≤ (k : Int) % W ∧ (k : Int) % W < W ∧ 0 ≤ (k : Int) / W ∧ (k : Int) / W < H := by
  have hw0 : 0 < W := by
    rcases Int.lt_or_eq_of_le hW with c | c
    · exact c
    · rw [← c, Int.zero_mul] at hN; omega
  have hh0 : 0 < H := by
    rcases Int.lt_or_eq_of_le hH with c | c
    · exact c
    · rw [← c, Int.mul_zero] at hN; omega
  have hp := place_ofF (w := W) (h := H) (k := k) (by omega) hw0
  obtain ⟨⟨a, b⟩, c, d⟩ := hp
  have hi := place_bd (x := (k : Int) / W) (y := (k : Int) % W) (W := H) (H := W) c d a b
  have e : ((tr W H k : Nat) : Int) = ((k : Int) % W) * H + (k : Int) / W := by unfold tr; omega
  have hm := place_mod (x := (k : Int) / W) (y := (k : Int) % W) (W := H) c d
  rw [← e] at hm
  have hc : H * W = W * H := Int.mul_comm _ _
  exact ⟨e, by omega, hm.1, hm.2, hw0, hh0, a, b, c, d⟩
theorem tr_tr {W H : Int} {k N : Nat} (hN : (N : Int) = W * H) (hk : k < N) (hW : 0 ≤ W) (hH : 0 ≤ H) : tr H W (tr W H k) = k := by
  obtain ⟨_, _, h3, h4, _⟩ := tr_spec hN hk hW hH
  unfold tr at h3 h4 ⊢
  rw [h3, h4]
  have := place_of (k : Int) W
  omega
section
variable {N : Nat} {W H : Int} {dg : Bool} {sim sim' : Nat → Prop} {s : Nat} (hN : (N : Int) = W * H) (hW : 0 ≤ W) (hH : 0 ≤ H)
include hN hW hH
theorem adj_tr {a b : Nat} (ha : a < N) (hb : b < N) (h : Adj W dg a b) : Adj H dg (tr W H a : Nat) (tr W H b : Nat) := by
  obtain ⟨_, _, a3, a4, _⟩ := tr_spec hN ha hW hH
  obtain ⟨_, _, b3, b4, _⟩ := tr_spec hN hb hW hH
  obtain ⟨h1, h2, h3, h4, h5⟩ := h
  unfold Adj
  rw [a3, a4, b3, b4]
  exact ⟨h3, h4, h1, h2, by rcases h5 with h | h | h; exact .inl h; exact .inr (.inr h); exact .inr (.inl h)⟩
theorem reach_tr (hsim : ∀ b, b < N → sim b → sim' (tr W H b)) {k : Nat} (h : Reach N W dg sim s k) : Reach N H dg sim' (tr W H s) (tr W H k) := by
  refine (h (fun k => Reach N H dg sim' (tr W H s) (tr W H k)) Reach.start ?_)
  intro a b ha haN hbN hj hsb
  exact Reach.step ha (tr_spec hN haN hW hH).2.1 (tr_spec hN hbN hW hH).2.1 (adj_tr hN hW hH haN hbN hj) (hsim b hbN hsb)
theorem flood_tr {l l' : List Int} (h : FloodIs N W dg sim s l) (h' : FloodIs N H dg sim' (tr W H s) l') (hsim : ∀ b, b < N → (sim b ↔ sim' (tr W H b))) (hs : s < N) {k : Nat} (hk : k < N) : l.getD k 0 = l'.getD (tr W H k) 0 := by
  have hN' : (N : Int) = H * W := by rw [Int.mul_comm]; exact hN
  have tk := (tr_spec hN hk hW hH).2.1
  have fwd : Reach N W dg sim s k → Reach N H dg sim' (tr W H s) (tr W H k) := reach_tr hN hW hH (fun b hb => (hsim b hb).1)
  have bwd : Reach N H dg sim' (tr W H s) (tr W H k) → Reach N W dg sim s k := by
    intro r
    have := reach_tr (sim' := sim) hN' hH hW (fun b hb h => by
      have tb := (tr_spec hN' hb hH hW).2.1
      rw [hsim _ tb, tr_tr hN' hb hH hW]; exact h) r
    rw [tr_tr hN hs hW hH, tr_tr hN hk hW hH] at this
    exact this
  rcases h.2 k hk with ⟨a, b⟩ | ⟨a, b⟩ <;> rcases h'.2 _ tk with ⟨a', b'⟩ | ⟨a', b'⟩
  · rw [a, a']
  · exact absurd (fwd b) b'
  · exact absurd (bwd b') b
  · rw [a, a']
end
/-- The transposed image. -/
def trL (W H : Int) (ps : List Px) : List Px := gridL H W fun a b => pick W H ps b a
theorem trL_length {W H : Int} {ps : List Px} (i : IOk W H ps) : (trL W H ps).length = ps.length := by
  unfold trL; rw [grid_length]; have := i.n; have : H * W = W * H := Int.mul_comm _ _; omega
theorem trL_pat {W H : Int} {ps : List Px} (i : IOk W H ps) {k : Nat} (hk : k < ps.length) : pat (trL W H ps) (tr W H k) = pat ps k := by
  have hn := i.n
  obtain ⟨h1, h2, h3, h4, hw, hh, a, b, c, d⟩ := tr_spec (W := W) (H := H) (N := ps.length) (by omega) hk i.w0 i.h0
  unfold trL tr
  rw [grid_at _ ⟨c, d⟩ ⟨a, b⟩, pick_in ⟨a, b, c, d⟩]
  have := place_of (k : Int) W
  congr 1
  omega
theorem trL_ok {W H : Int} {ps : List Px} (i : IOk W H ps) : IOk H W (trL W H ps) :=
  grid_ok i.h0 i.h1 i.w0 i.w1 i.z.symm fun _ _ => pick_ok i _ _
/-- A flood and the flood of the transposed image. -/
theorem flood_turns {W H t x y : Int} {dg : Bool} {ps : List Px} {l l' : List Int} (i : IOk W H ps) (hx : 0 ≤ x ∧ x < W) (hy : 0 ≤ y ∧ y < H)
    (h : FloodIs ps.length W dg (simP ps t (y * W + x).toNat) (y * W + x).toNat l) (h' : FloodIs (trL W H ps).length H dg (simP (trL W H ps) t (x * H + y).toNat) (x * H + y).toNat l') {k : Nat} (hk : k < ps.length) :
    l.getD k 0 = l'.getD (tr W H k) 0 := by
  have hn := i.n
  have hb := place_bd hx.1 hx.2 hy.1 hy.2
  have hs : (y * W + x).toNat < ps.length := by omega
  have hm := place_mod (y := y) hx.1 hx.2
  have hts : tr W H (y * W + x).toNat = (x * H + y).toNat := by
    unfold tr
    rw [show (((y * W + x).toNat : Nat) : Int) = y * W + x by omega, hm.1, hm.2]
  rw [trL_length i, ← hts] at h'
  refine flood_tr (sim := simP ps t (y * W + x).toNat) (sim' := simP (trL W H ps) t (tr W H (y * W + x).toNat)) (by omega) i.w0 i.h0 h h' (fun b hbk => ?_) hs hk
  unfold simP
  rw [trL_pat i hbk, trL_pat i hs]
end Go.Proofs.Ytgdefgpbaccneaa
