/- WandTurns: the walk joined with what floods say of each other. -/
import Derived.Test.YtgdefgpbaccneaaWandTurn
import Derived.Test.YtgdefgpbaccneaaImgOpen
namespace Go.Proofs.Ytgdefgpbaccneaa
open Go.RowKit

/-- What a flood leaves. -/
def FlF (E : Int) (W H : Int) (dg : Bool) (ps : List Px) (t : Int) (s : Nat) (l : List Int) (W' H' : Int) : Prop :=
  (E = 0 → FloodIs ps.length W dg (simP ps t s) s l ∧ W' = W ∧ H' = H) ∧ (E ≠ 0 → l = [])
theorem flood_h (W H x y t : Int) (dg : Bool) (A : Option Addr) (n c : Nat) (ps : List Px) (w : World) (h : Pixs w w.heap.size (.slice A n c) ps) {E : Int} (hE : ferr (ichk W H ps) W H x y (uok t) = E) :
    Calls Try.prog 9 #[.agg #[.int .i64 W, .int .i64 H, .slice A n c], .agg #[.int .i64 x, .int .i64 y], .int .i64 t, .bool dg] w
      (fun e w' => ∃ l W' H', FlF E W H dg ps t (y * W + x).toNat l W' H' ∧ MkPost E W' H' l w e w') := by
  subst hE
  refine (flood_any W H x y t dg A n c ps w h).mono fun e w' ⟨l, h1, h2⟩ => ?_
  by_cases hE : ferr (ichk W H ps) W H x y (uok t) = 0
  · rw [hE, mkOut_ok] at h2
    exact ⟨l, W, H, ⟨fun h => ⟨h1 hE, rfl, rfl⟩, fun h => absurd hE h⟩, by rw [hE]; exact h2⟩
  · rw [mkOut_err hE] at h2
    exact ⟨[], 0, 0, ⟨fun h => absurd h hE, fun _ => rfl⟩, h2⟩
theorem ferr_tr (W H x y : Int) (u : Bool) : ferr 0 H W y x u = ferr 0 W H x y u := by
  unfold ferr
  have : (0 ≤ y ∧ y < H ∧ 0 ≤ x ∧ x < W ∧ u = true) ↔ (0 ≤ x ∧ x < W ∧ 0 ≤ y ∧ y < H ∧ u = true) := ⟨fun ⟨a, b, c, d, e⟩ => ⟨c, d, a, b, e⟩, fun ⟨a, b, c, d, e⟩ => ⟨c, d, a, b, e⟩⟩
  simp only [this]
theorem turn_fact {W H x y t : Int} {dg : Bool} {ps : List Px} (i : IOk W H ps) {la lb : List Int} {Wa Ha Wb Hb : Int}
    (ha : FlF (ferr 0 W H x y (uok t)) W H dg ps t (y * W + x).toNat la Wa Ha) (hb : FlF (ferr 0 W H x y (uok t)) H W dg (trL W H ps) t (x * H + y).toNat lb Wb Hb) : TurnFact W H ps.length (ferr 0 W H x y (uok t)) Wa Wb la lb := by
  by_cases hE : ferr 0 W H x y (uok t) = 0
  · obtain ⟨fa, ea, _⟩ := ha.1 hE
    obtain ⟨fb, eb, _⟩ := hb.1 hE
    have hla := fa.1
    have hlb := fb.1
    rw [trL_length i] at hlb
    obtain ⟨_, hx0, hx1, hy0, hy1, _⟩ := ferr_zero hE
    refine ⟨by omega, fun _ => ⟨hla, ea, eb⟩, fun h => absurd hE h, fun k hk => ?_⟩
    have hn := i.n
    have hln := i.w1; have hhn := i.h1
    obtain ⟨e, h2, h3, h4, hw, hh, a0, a1, q0, q1⟩ := tr_spec (W := W) (H := H) (N := ps.length) (k := k) (by omega) (by omega) i.w0 i.h0
    have hb0 : 0 ≤ (k : Int) % W * H := Int.mul_nonneg a0 (by omega)
    have hb1 : (k : Int) % W * H ≤ 256 * 256 := Int.mul_le_mul (by omega) hhn (by omega) (by omega)
    have hll := iok_len i
    exact ⟨hw, _, _, _, tr W H k, rfl, rfl, rfl, hb0, by omega, q0, by omega, e.symm, by omega, by omega, flood_turns i ⟨hx0, hx1⟩ ⟨hy0, hy1⟩ fa fb (by omega)⟩
  · obtain rfl := ha.2 hE
    obtain rfl := hb.2 hE
    exact ⟨rfl, fun h => absurd h hE, fun _ => rfl, fun k hk => absurd hk (by simp)⟩
theorem walk_turns (v0 : Value) (x0 : Int × Int × List Px) (v1 : Value) (x1 : Int × Int) (t : Int) (dg : Bool) (w : World) (h0 : ImgV w v0 x0) (h1 : PtV v1 x1) :
    Calls Try.prog 8 #[v0, v1, .int .i64 t, .bool dg] w fun e w' => e = .returned (.bool true) ∧ Below w.heap.size w w' := by
  obtain ⟨⟨A, n, c, rfl, hp⟩, _, _⟩ := h0
  obtain ⟨W, H, ps⟩ := x0
  obtain rfl := hp.len
  obtain ⟨rfl, _⟩ := h1
  obtain ⟨x, y⟩ := x1
  by_cases hc : ichk W H ps = 0
  · have i := (ichk_iff W H ps).1 hc
    have hc' := (ichk_iff H W (trL W H ps)).2 (trL_ok i)
    exact turns_core W H x y t dg A c ps (trL W H ps) (ferr 0 W H x y (uok t)) _ _ w hp
      (fun w' h => by have := flip3_any W H A c ps w' h; rw [hc, imOut_ok] at this; exact this)
      (fun w' h => flood_h W H x y t dg A _ c ps w' h (by rw [hc]))
      (fun w' A' c' h => flood_h H W y x t dg A' _ c' _ w' h (by rw [hc', ferr_tr]))
      (fun la Wa Ha lb Wb Hb ha hb => turn_fact i ha hb)
  · exact turns_err W H x y t dg A c ps (ichk W H ps) hc w hp (fun w' h => by have := flip3_any W H A c ps w' h; rw [imOut_err hc] at this; exact this)
end Go.Proofs.Ytgdefgpbaccneaa
