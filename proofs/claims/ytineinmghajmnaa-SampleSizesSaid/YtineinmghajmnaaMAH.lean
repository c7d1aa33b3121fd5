/- The reference's Resize for any input. -/
import Derived.Test.YtineinmghajmnaaMAC
import Derived.Test.YtineinmghajmnaaMAG
import Derived.Test.YtineinmghajmnaaMAD
namespace Go.Proofs.Ytineinmghajmnaa
open Go.RowKit
theorem rsres_any (W H : Int) (A : Option Addr) (c : Nat) (ps : List Px) (p q kind : Int) (w : World) (hp : Pixs w w.heap.size (.slice A ps.length c) ps) :
    Calls Try.prog 20 #[.agg #[.int .i64 W, .int .i64 H, .slice A ps.length c], .int .i64 p, .int .i64 q, .int .i64 kind] w (ImOut (sRE W H ps p q kind) p q (sRpic W H ps p q kind) w) := by
  have TC := fun w' (hb : Below w.heap.size w w') => richeck_any W H A ps.length c ps w' (hp.on hb)
  have TK := fun w => rkvalid_any kind w
  by_cases h0 : sRE W H ps p q kind = 0
  rotate_left
  · rw [imOut_err h0]
    exact rsres_no W H kind p q _ _ A c ps _ w (sRE_path W H ps p q kind h0) TC TK
  have s := sRE_iff.1 h0
  have io := s.i
  have i0 := io.w0; have i1 := io.w1; have i2 := io.h0; have i3 := io.h1; have i4 := s.w
  have sp := s.p; have sq := s.q
  have hw : ((p.toNat : Nat) : Int) = p := Int.toNat_of_nonneg (by omega)
  have hh : ((q.toNat : Nat) : Int) = q := Int.toNat_of_nonneg (by omega)
  rw [(ichk_iff W H ps).2 io] at TC
  rw [s.k] at TK
  rw [h0, imOut_ok]
  have key := rsres_ok W H kind p.toNat q.toNat A c ps (rdot W H ps ((p.toNat : Nat) : Int) ((q.toNat : Nat) : Int) kind)
    (fun X => rdiv ((2 * X + 1) * W * 65536) (2 * ((p.toNat : Nat) : Int))) (fun Y => rdiv ((2 * Y + 1) * H * 65536) (2 * ((q.toNat : Nat) : Int))) w
    (by omega) (by omega) (by omega) (by omega) (by omega) (by omega) TC TK
    (fun X hX w => by
      have b := pos_bd (r := (X : Int)) (W := W) (p := ((p.toNat : Nat) : Int)) (by omega) (by omega) (by omega)
      refine (rdiv_any _ _ w (by omega) (by omega) (by omega) (by omega)).mono ?_
      rintro e w' ⟨rfl, n, rfl⟩
      exact ⟨rfl, Below.drewN' (Below.refl _ _) n⟩)
    (fun Y hY w => by
      have b := pos_bd (r := (Y : Int)) (W := H) (p := ((q.toNat : Nat) : Int)) (by omega) (by omega) (by omega)
      refine (rdiv_any _ _ w (by omega) (by omega) (by omega) (by omega)).mono ?_
      rintro e w' ⟨rfl, n, rfl⟩
      exact ⟨rfl, Below.drewN' (Below.refl _ _) n⟩)
    (fun X Y hX hY w' hb => by
      have b := pos_bd (r := (X : Int)) (W := W) (p := ((p.toNat : Nat) : Int)) (by omega) (by omega) (by omega)
      have b2 := pos_bd (r := (Y : Int)) (W := H) (p := ((q.toNat : Nat) : Int)) (by omega) (by omega) (by omega)
      have h := rsamp_any W H A c ps kind (rdiv ((2 * (X : Int) + 1) * W * 65536) (2 * ((p.toNat : Nat) : Int))) (rdiv ((2 * (Y : Int) + 1) * H * 65536) (2 * ((q.toNat : Nat) : Int))) true w' io s.k (hp.on hb)
      rw [srcP_t, cl_in (by omega), cl_in (by omega)] at h
      exact h)
  rw [hw, hh] at key
  exact key
end Go.Proofs.Ytineinmghajmnaa
namespace Go.Proofs.Ytineinmghajmnaa
open Go.RowKit
theorem walk_ssizes (v0 : Value) (x0 : Int × Int × List Px) (p q kind : Int) (w : World) (h0 : ImgV w v0 x0) :
    Calls Try.prog 6 #[v0, .int .i64 p, .int .i64 q, .int .i64 kind] w fun e w' => e = .returned (.bool true) ∧ Below w.heap.size w w' := by
  obtain ⟨W, H, ps⟩ := x0
  obtain ⟨⟨A0, n0, c0, rfl, hp⟩, -⟩ := h0
  obtain rfl := hp.len
  exact ssizes_core W H kind p q _ _ _ _ _ w (fun w' hb => sres_any W H A0 c0 ps p q kind w' (hp.on hb)) (fun w' hb => rsres_any W H A0 c0 ps p q kind w' (hp.on hb)) awake_any
end Go.Proofs.Ytineinmghajmnaa
