/- Draw and Resize for any input. -/
import Derived.Test.YtineinmghajmnaaMAA
import Derived.Test.YtineinmghajmnaaMAB
import Derived.Test.YtineinmghajmnaaMT
namespace Go.Proofs.Ytineinmghajmnaa
open Go.RowKit
/-- The pixel that Draw puts at a place. -/
def sdot (W H : Int) (ps : List Px) (a : Af) (kind x y : Int) : Px := samp (pick W H ps) kind (a.inv.1.app (x * 65536 + 32768) (y * 65536 + 32768)).1 (a.inv.1.app (x * 65536 + 32768) (y * 65536 + 32768)).2
def sDE (W H : Int) (ps : List Px) (a : Af) (kind : Int) (o : Rk) : Int :=
  if ichk W H ps = 0 then (if rvalid o.x o.y o.w o.h = true then (if 256 < o.w ∨ 256 < o.h then 15 else (if vld kind = true then a.inv.2 else 8)) else 2) else ichk W H ps
def sPic (W H : Int) (ps : List Px) (a : Af) (kind : Int) (o : Rk) : List Px := gridL o.w o.h fun X Y => sdot W H ps a kind (o.x + X) (o.y + Y)
def sGo (W H : Int) (ps : List Px) (a : Af) (kind : Int) (o : Rk) : Bool := sDE W H ps a kind o == 0 && !o.empty
def sW (W H : Int) (ps : List Px) (a : Af) (kind : Int) (o : Rk) : Int := if sGo W H ps a kind o = true then o.w else 0
def sH (W H : Int) (ps : List Px) (a : Af) (kind : Int) (o : Rk) : Int := if sGo W H ps a kind o = true then o.h else 0
def sL (W H : Int) (ps : List Px) (a : Af) (kind : Int) (o : Rk) : List Px := if sGo W H ps a kind o = true then sPic W H ps a kind o else []
theorem sGo_no {W H : Int} {ps : List Px} {a : Af} {kind : Int} {o : Rk} (h : sGo W H ps a kind o = false) (w : World) : ImPost (sDE W H ps a kind o) (sW W H ps a kind o) (sH W H ps a kind o) (sL W H ps a kind o) w = ImPost (sDE W H ps a kind o) 0 0 [] w := by
  unfold sW sH sL; rw [h]; rfl
theorem sGo_yes {W H : Int} {ps : List Px} {a : Af} {kind : Int} {o : Rk} (h : sGo W H ps a kind o = true) (w : World) : ImPost (sDE W H ps a kind o) (sW W H ps a kind o) (sH W H ps a kind o) (sL W H ps a kind o) w = ImPost 0 o.w o.h (sPic W H ps a kind o) w := by
  have h2 : sDE W H ps a kind o = 0 := by unfold sGo at h; simp at h; exact h.1
  unfold sW sH sL; rw [h, h2]; rfl
structure SOk (W H : Int) (ps : List Px) (a : Af) (kind : Int) (o : Rk) : Prop where
  i : IOk W H ps
  v : rvalid o.x o.y o.w o.h = true
  w : o.w ≤ 256
  h : o.h ≤ 256
  k : vld kind = true
  a : a.inv.2 = 0
theorem sDE_iff {W H : Int} {ps : List Px} {a : Af} {kind : Int} {o : Rk} : sDE W H ps a kind o = 0 ↔ SOk W H ps a kind o := by
  unfold sDE
  constructor
  · intro h
    by_cases h1 : ichk W H ps = 0
    · rw [if_pos h1] at h
      by_cases h2 : rvalid o.x o.y o.w o.h = true
      · rw [if_pos h2] at h
        by_cases h3 : 256 < o.w ∨ 256 < o.h
        · rw [if_pos h3] at h; cases h
        · rw [if_neg h3] at h
          by_cases h4 : vld kind = true
          · rw [if_pos h4] at h
            exact ⟨(ichk_iff W H ps).1 h1, h2, by omega, by omega, h4, h⟩
          · rw [if_neg h4] at h; cases h
      · rw [if_neg h2] at h; cases h
    · rw [if_neg h1] at h; exact absurd h h1
  · intro h
    have h3 := h.w; have h4 := h.h
    rw [if_pos ((ichk_iff W H ps).2 h.i), if_pos h.v, if_neg (by omega), if_pos h.k]
    exact h.a
theorem sDE_path (W H : Int) (ps : List Px) (a : Af) (kind : Int) (o : Rk) (h : sGo W H ps a kind o = false) :
    ((ichk W H ps != 0) = true ∧ sDE W H ps a kind o = ichk W H ps) ∨ ((ichk W H ps != 0) = false ∧ ((rvalid o.x o.y o.w o.h = false ∧ sDE W H ps a kind o = 2) ∨ (rvalid o.x o.y o.w o.h = true ∧ (((256 < o.w ∨ 256 < o.h) ∧ sDE W H ps a kind o = 15) ∨ (¬ (256 < o.w ∨ 256 < o.h) ∧ ((vld kind = false ∧ sDE W H ps a kind o = 8) ∨ (vld kind = true ∧ (((a.inv.2 != 0) = true ∧ sDE W H ps a kind o = a.inv.2) ∨ ((a.inv.2 != 0) = false ∧ o.empty = true ∧ sDE W H ps a kind o = 0))))))))) := by
  by_cases h1 : ichk W H ps = 0
  rotate_left
  · exact .inl ⟨by simpa using h1, by unfold sDE; rw [if_neg h1]⟩
  refine .inr ⟨by simp [h1], ?_⟩
  by_cases h2 : rvalid o.x o.y o.w o.h = true
  rotate_left
  · exact .inl ⟨by simpa using h2, by unfold sDE; rw [if_pos h1, if_neg h2]⟩
  refine .inr ⟨h2, ?_⟩
  by_cases h3 : 256 < o.w ∨ 256 < o.h
  · exact .inl ⟨h3, by unfold sDE; rw [if_pos h1, if_pos h2, if_pos h3]⟩
  refine .inr ⟨h3, ?_⟩
  by_cases h4 : vld kind = true
  rotate_left
  · exact .inl ⟨by simpa using h4, by unfold sDE; rw [if_pos h1, if_pos h2, if_neg h3, if_neg h4]⟩
  refine .inr ⟨h4, ?_⟩
  have e : sDE W H ps a kind o = a.inv.2 := by unfold sDE; rw [if_pos h1, if_pos h2, if_neg h3, if_pos h4]
  by_cases h5 : a.inv.2 = 0
  rotate_left
  · exact .inl ⟨by simpa using h5, e⟩
  refine .inr ⟨by simp [h5], ?_, by rw [e, h5]⟩
  unfold sGo at h
  rw [e, h5] at h
  simpa using h
theorem gridL_nat (ow oh : Nat) (f : Int → Int → Px) : gridL (ow : Int) (oh : Int) f = (List.range (ow * oh)).map fun n : Nat => f ((n : Int) % (ow : Int)) ((n : Int) / (ow : Int)) := by
  unfold gridL
  rw [← Int.natCast_mul, Int.toNat_natCast]
theorem cl_in {x : Int} (h : -1099511627776 ≤ x ∧ x ≤ 1099511627776) : cl x = x := by unfold cl; omega
theorem sdraw_any (W H : Int) (A : Option Addr) (c : Nat) (ps : List Px) (a : Af) (kind : Int) (o : Rk) (w : World) (hp : Pixs w w.heap.size (.slice A ps.length c) ps) :
    Calls Try.prog 14 #[.agg #[.int .i64 W, .int .i64 H, .slice A ps.length c], .agg #[.int .i64 a.a, .int .i64 a.b, .int .i64 a.c, .int .i64 a.d, .int .i64 a.e, .int .i64 a.f], .int .i64 kind, .agg #[.int .i64 o.x, .int .i64 o.y, .int .i64 o.w, .int .i64 o.h]] w (ImPost (sDE W H ps a kind o) (sW W H ps a kind o) (sH W H ps a kind o) (sL W H ps a kind o) w) := by
  have TC := fun w' (hb : Below w.heap.size w w') => icheck_any W H A ps.length c ps w' (hp.on hb)
  have TV := fun w => valid_any o.x o.y o.w o.h w
  have TK := fun w => kvalid_any kind w
  have TI := fun w => inverse_any a.a a.b a.c a.d a.e a.f w
  have TE := fun w => empty_any o.x o.y o.w o.h w
  cases hg : sGo W H ps a kind o
  · rw [sGo_no hg]
    exact sdraw_no W H kind _ _ _ A c ps a a.inv.1 o _ _ _ w (sDE_path W H ps a kind o hg) TC TV TK TI TE
  rw [sGo_yes hg]
  have h0 : sDE W H ps a kind o = 0 ∧ o.empty = false := by unfold sGo at hg; simpa using hg
  have s := sDE_iff.1 h0.1
  have fb := full_bd (show rempty o.x o.y o.w o.h = false from h0.2)
  have sw := s.w; have sh := s.h
  have hw : ((o.w.toNat : Nat) : Int) = o.w := Int.toNat_of_nonneg (by omega)
  have hh : ((o.h.toNat : Nat) : Int) = o.h := Int.toNat_of_nonneg (by omega)
  have io := s.i
  rw [(ichk_iff W H ps).2 io] at TC
  rw [s.v] at TV
  rw [s.k] at TK
  rw [show (Af.mk a.a a.b a.c a.d a.e a.f) = a from rfl, s.a] at TI
  rw [show rempty o.x o.y o.w o.h = false from h0.2] at TE
  have hN : ∀ n : Nat, n < o.w.toNat * o.h.toNat → (0 ≤ (n : Int) % ((o.w.toNat : Nat) : Int) ∧ (n : Int) % ((o.w.toNat : Nat) : Int) < ((o.w.toNat : Nat) : Int)) ∧ 0 ≤ (n : Int) / ((o.w.toNat : Nat) : Int) ∧ (n : Int) / ((o.w.toNat : Nat) : Int) < ((o.h.toNat : Nat) : Int) := fun n hn => by
    have hw0 : (0 : Int) < ((o.w.toNat : Nat) : Int) := by omega
    exact ⟨⟨Int.emod_nonneg _ (by omega), Int.emod_lt_of_pos _ hw0⟩, Int.ediv_nonneg (by omega) (by omega), Int.ediv_lt_of_lt_mul hw0 (by rw [← Int.natCast_mul, Nat.mul_comm]; omega)⟩
  have key := sdraw_ok W H kind o.x o.y o.w.toNat o.h.toNat (o.w.toNat * o.h.toNat) A c ps a a.inv.1
    (fun n => sdot W H ps a kind (o.x + (n : Int) % ((o.w.toNat : Nat) : Int)) (o.y + (n : Int) / ((o.w.toNat : Nat) : Int)))
    (fun n => (o.x + (n : Int) % ((o.w.toNat : Nat) : Int)) * 65536 + 32768) (fun n => (o.y + (n : Int) / ((o.w.toNat : Nat) : Int)) * 65536 + 32768)
    (fun n => (a.inv.1.app ((o.x + (n : Int) % ((o.w.toNat : Nat) : Int)) * 65536 + 32768) ((o.y + (n : Int) / ((o.w.toNat : Nat) : Int)) * 65536 + 32768)).1)
    (fun n => (a.inv.1.app ((o.x + (n : Int) % ((o.w.toNat : Nat) : Int)) * 65536 + 32768) ((o.y + (n : Int) / ((o.w.toNat : Nat) : Int)) * 65536 + 32768)).2) w
    rfl (by omega) (by omega) (by omega) (by omega) (by omega) TC (by rw [hw, hh]; exact TV) TK TI (by rw [hw, hh]; exact TE)
    (fun n hn w => center_any _ _ w (by have := hN n hn; omega) (by have := hN n hn; omega))
    (fun n hn w => apply_any a.inv.1.a a.inv.1.b a.inv.1.c a.inv.1.d a.inv.1.e a.inv.1.f _ _ w)
    (fun n hn w' g hb hgx => by
      have b := app_bd a.inv.1 ((o.x + (n : Int) % ((o.w.toNat : Nat) : Int)) * 65536 + 32768) ((o.y + (n : Int) / ((o.w.toNat : Nat) : Int)) * 65536 + 32768)
      exact sat_any _ g kind _ _ (pick W H ps) w' (by omega) (by omega) s.k ent_in (pick_ok io) (fun X Y w'' hb2 => in_any W H A c ps io X Y g w'' (hgx.below hb2) ((hp.on hb).on hb2)))
  rw [← gridL_nat o.w.toNat o.h.toNat (fun X Y => sdot W H ps a kind (o.x + X) (o.y + Y)), hw, hh] at key
  exact key
theorem rsdraw_any (W H : Int) (A : Option Addr) (c : Nat) (ps : List Px) (a : Af) (kind : Int) (o : Rk) (w : World) (hp : Pixs w w.heap.size (.slice A ps.length c) ps) :
    Calls Try.prog 15 #[.agg #[.int .i64 W, .int .i64 H, .slice A ps.length c], .agg #[.int .i64 a.a, .int .i64 a.b, .int .i64 a.c, .int .i64 a.d, .int .i64 a.e, .int .i64 a.f], .int .i64 kind, .agg #[.int .i64 o.x, .int .i64 o.y, .int .i64 o.w, .int .i64 o.h]] w (ImPost (sDE W H ps a kind o) (sW W H ps a kind o) (sH W H ps a kind o) (sL W H ps a kind o) w) := by
  have TC := fun w' (hb : Below w.heap.size w w') => richeck_any W H A ps.length c ps w' (hp.on hb)
  have TV := fun w => rvalid_any o.x o.y o.w o.h w
  have TK := fun w => rkvalid_any kind w
  have TI := fun w => rinverse_any a.a a.b a.c a.d a.e a.f w
  have TE := fun w => rempty_any o.x o.y o.w o.h w
  cases hg : sGo W H ps a kind o
  · rw [sGo_no hg]
    exact rsdraw_no W H kind _ _ _ A c ps a a.inv.1 o _ _ _ w (sDE_path W H ps a kind o hg) TC TV TK TI TE
  rw [sGo_yes hg]
  have h0 : sDE W H ps a kind o = 0 ∧ o.empty = false := by unfold sGo at hg; simpa using hg
  have s := sDE_iff.1 h0.1
  have fb := full_bd (show rempty o.x o.y o.w o.h = false from h0.2)
  have sw := s.w; have sh := s.h
  have hw : ((o.w.toNat : Nat) : Int) = o.w := Int.toNat_of_nonneg (by omega)
  have hh : ((o.h.toNat : Nat) : Int) = o.h := Int.toNat_of_nonneg (by omega)
  have io := s.i
  rw [(ichk_iff W H ps).2 io] at TC
  rw [s.v] at TV
  rw [s.k] at TK
  rw [show (Af.mk a.a a.b a.c a.d a.e a.f) = a from rfl, s.a] at TI
  rw [show rempty o.x o.y o.w o.h = false from h0.2] at TE
  have key := rsdraw_ok W H kind o.x o.y o.w.toNat o.h.toNat A c ps a a.inv.1 (fun X Y => sdot W H ps a kind (o.x + X) (o.y + Y))
    (fun X Y => (a.inv.1.app ((o.x + X) * 65536 + 32768) ((o.y + Y) * 65536 + 32768)).1) (fun X Y => (a.inv.1.app ((o.x + X) * 65536 + 32768) ((o.y + Y) * 65536 + 32768)).2) w
    (by omega) (by omega) (by omega) (by omega) (by omega) TC (by rw [hw, hh]; exact TV) TK TI (by rw [hw, hh]; exact TE)
    (fun X Y hX hY w => rapply_any a.inv.1.a a.inv.1.b a.inv.1.c a.inv.1.d a.inv.1.e a.inv.1.f _ _ w)
    (fun X Y hX hY w' hb => by
      have b := app_bd a.inv.1 ((o.x + (X : Int)) * 65536 + 32768) ((o.y + (Y : Int)) * 65536 + 32768)
      have h := rsamp_any W H A c ps kind (a.inv.1.app ((o.x + (X : Int)) * 65536 + 32768) ((o.y + (Y : Int)) * 65536 + 32768)).1 (a.inv.1.app ((o.x + (X : Int)) * 65536 + 32768) ((o.y + (Y : Int)) * 65536 + 32768)).2 false w' io s.k (hp.on hb)
      rw [srcP_f, cl_in b.1, cl_in b.2] at h
      exact h)
  rw [hw, hh] at key
  exact key
/-- The pixel that Resize puts at a place. -/
def rdot (W H : Int) (ps : List Px) (p q kind X Y : Int) : Px := samp (pnear W H ps) kind (rdiv ((2 * X + 1) * W * 65536) (2 * p)) (rdiv ((2 * Y + 1) * H * 65536) (2 * q))
def sRE (W H : Int) (ps : List Px) (p q kind : Int) : Int := if ichk W H ps = 0 then (if p < 1 ∨ 256 < p ∨ q < 1 ∨ 256 < q ∨ W = 0 then 15 else (if vld kind = true then 0 else 8)) else ichk W H ps
def sRpic (W H : Int) (ps : List Px) (p q kind : Int) : List Px := gridL p q (rdot W H ps p q kind)
structure ROk (W H : Int) (ps : List Px) (p q kind : Int) : Prop where
  i : IOk W H ps
  p : 1 ≤ p ∧ p ≤ 256
  q : 1 ≤ q ∧ q ≤ 256
  w : W ≠ 0
  k : vld kind = true
theorem sRE_iff {W H : Int} {ps : List Px} {p q kind : Int} : sRE W H ps p q kind = 0 ↔ ROk W H ps p q kind := by
  unfold sRE
  constructor
  · intro h
    by_cases h1 : ichk W H ps = 0
    · rw [if_pos h1] at h
      by_cases h3 : p < 1 ∨ 256 < p ∨ q < 1 ∨ 256 < q ∨ W = 0
      · rw [if_pos h3] at h; cases h
      · rw [if_neg h3] at h
        by_cases h4 : vld kind = true
        · exact ⟨(ichk_iff W H ps).1 h1, by omega, by omega, by omega, h4⟩
        · rw [if_neg h4] at h; cases h
    · rw [if_neg h1] at h; exact absurd h h1
  · intro h
    have h3 := h.p; have h4 := h.q; have h5 := h.w
    rw [if_pos ((ichk_iff W H ps).2 h.i), if_neg (by omega), if_pos h.k]
theorem sRE_path (W H : Int) (ps : List Px) (p q kind : Int) (h : sRE W H ps p q kind ≠ 0) :
    ((ichk W H ps != 0) = true ∧ sRE W H ps p q kind = ichk W H ps) ∨ ((ichk W H ps != 0) = false ∧ (((p < 1 ∨ 256 < p ∨ q < 1 ∨ 256 < q ∨ W = 0) ∧ sRE W H ps p q kind = 15) ∨ (¬ (p < 1 ∨ 256 < p ∨ q < 1 ∨ 256 < q ∨ W = 0) ∧ vld kind = false ∧ sRE W H ps p q kind = 8))) := by
  by_cases h1 : ichk W H ps = 0
  rotate_left
  · exact .inl ⟨by simpa using h1, by unfold sRE; rw [if_neg h1]⟩
  refine .inr ⟨by simp [h1], ?_⟩
  by_cases h3 : p < 1 ∨ 256 < p ∨ q < 1 ∨ 256 < q ∨ W = 0
  · exact .inl ⟨h3, by unfold sRE; rw [if_pos h1, if_pos h3]⟩
  refine .inr ⟨h3, ?_⟩
  by_cases h4 : vld kind = true
  · exfalso; apply h; unfold sRE; rw [if_pos h1, if_neg h3, if_pos h4]
  · exact ⟨by simpa using h4, by unfold sRE; rw [if_pos h1, if_neg h3, if_neg h4]⟩
theorem pos_bd {r W p : Int} (hr : 0 ≤ r ∧ r < 256) (hW : 0 ≤ W ∧ W ≤ 256) (hp : 1 ≤ p) : (0 ≤ (2 * r + 1) * W * 65536 ∧ (2 * r + 1) * W * 65536 ≤ 8606711808) ∧ (0 ≤ rdiv ((2 * r + 1) * W * 65536) (2 * p) ∧ rdiv ((2 * r + 1) * W * 65536) (2 * p) ≤ 8606711808) := by
  have b2 : (2 * r + 1) * W ≤ 513 * 256 := Int.mul_le_mul (by omega) (by omega) (by omega) (by omega)
  have b1 : 0 ≤ (2 * r + 1) * W := Int.mul_nonneg (by omega) (by omega)
  have s := rdiv_spec ((2 * r + 1) * W * 65536) (2 * p) (by omega)
  generalize (2 * r + 1) * W = z at *
  generalize rdiv (z * 65536) (2 * p) = y at *
  refine ⟨by omega, ?_, ?_⟩
  · rcases Int.lt_or_le y 0 with h | h
    · exfalso
      have : 2 * p * y ≤ 2 * p * (-1) := Int.mul_le_mul_of_nonneg_left (by omega) (by omega)
      omega
    · exact h
  · rcases Int.lt_or_le 8606711808 y with h | h
    · exfalso
      have : 2 * p * 8606711809 ≤ 2 * p * y := Int.mul_le_mul_of_nonneg_left (by omega) (by omega)
      omega
    · exact h
theorem pnear_ok {W H : Int} {ps : List Px} (io : IOk W H ps) (x y : Int) : (pnear W H ps x y).ok := pick_ok io _ _
theorem srcP_t (W H : Int) (ps : List Px) : srcP W H ps true = pnear W H ps := by
  funext x y; unfold srcP; rw [if_pos rfl]
theorem sres_any (W H : Int) (A : Option Addr) (c : Nat) (ps : List Px) (p q kind : Int) (w : World) (hp : Pixs w w.heap.size (.slice A ps.length c) ps) :
    Calls Try.prog 19 #[.agg #[.int .i64 W, .int .i64 H, .slice A ps.length c], .int .i64 p, .int .i64 q, .int .i64 kind] w (ImOut (sRE W H ps p q kind) p q (sRpic W H ps p q kind) w) := by
  have TC := fun w' (hb : Below w.heap.size w w') => icheck_any W H A ps.length c ps w' (hp.on hb)
  have TK := fun w => kvalid_any kind w
  by_cases h0 : sRE W H ps p q kind = 0
  rotate_left
  · rw [imOut_err h0]
    exact sres_no W H kind p q _ _ A c ps _ w (sRE_path W H ps p q kind h0) TC TK
  have s := sRE_iff.1 h0
  have io := s.i
  have i0 := io.w0; have i1 := io.w1; have i2 := io.h0; have i3 := io.h1; have i4 := s.w
  have sp := s.p; have sq := s.q
  have hw : ((p.toNat : Nat) : Int) = p := Int.toNat_of_nonneg (by omega)
  have hh : ((q.toNat : Nat) : Int) = q := Int.toNat_of_nonneg (by omega)
  rw [(ichk_iff W H ps).2 io] at TC
  rw [s.k] at TK
  rw [h0, imOut_ok]
  have hN : ∀ n : Nat, n < p.toNat * q.toNat → (0 ≤ (n : Int) % ((p.toNat : Nat) : Int) ∧ (n : Int) % ((p.toNat : Nat) : Int) < 256) ∧ 0 ≤ (n : Int) / ((p.toNat : Nat) : Int) ∧ (n : Int) / ((p.toNat : Nat) : Int) < 256 := fun n hn => by
    have hw0 : (0 : Int) < ((p.toNat : Nat) : Int) := by omega
    have e1 := Int.emod_lt_of_pos (n : Int) hw0
    have e2 : (n : Int) / ((p.toNat : Nat) : Int) < ((q.toNat : Nat) : Int) := Int.ediv_lt_of_lt_mul hw0 (by rw [← Int.natCast_mul, Nat.mul_comm]; omega)
    exact ⟨⟨Int.emod_nonneg _ (by omega), by omega⟩, Int.ediv_nonneg (by omega) (by omega), by omega⟩
  have key := sres_ok W H kind p.toNat q.toNat (p.toNat * q.toNat) A c ps
    (fun n => rdot W H ps ((p.toNat : Nat) : Int) ((q.toNat : Nat) : Int) kind ((n : Int) % ((p.toNat : Nat) : Int)) ((n : Int) / ((p.toNat : Nat) : Int)))
    (fun n => rdiv ((2 * ((n : Int) % ((p.toNat : Nat) : Int)) + 1) * W * 65536) (2 * ((p.toNat : Nat) : Int))) (fun n => rdiv ((2 * ((n : Int) / ((p.toNat : Nat) : Int)) + 1) * H * 65536) (2 * ((q.toNat : Nat) : Int))) w
    rfl (by omega) (by omega) (by omega) (by omega) (by omega) (by omega) TC TK
    (fun n hn w => by
      have b := pos_bd (r := (n : Int) % ((p.toNat : Nat) : Int)) (W := W) (p := ((p.toNat : Nat) : Int)) (hN n hn).1 (by omega) (by omega)
      exact div_any _ _ w (by omega) (by omega) (by omega) (by omega))
    (fun n hn w => by
      have b := pos_bd (r := (n : Int) / ((p.toNat : Nat) : Int)) (W := H) (p := ((q.toNat : Nat) : Int)) (hN n hn).2 (by omega) (by omega)
      exact div_any _ _ w (by omega) (by omega) (by omega) (by omega))
    (fun n hn w' g hb hgx => by
      have b := pos_bd (r := (n : Int) % ((p.toNat : Nat) : Int)) (W := W) (p := ((p.toNat : Nat) : Int)) (hN n hn).1 (by omega) (by omega)
      have b2 := pos_bd (r := (n : Int) / ((p.toNat : Nat) : Int)) (W := H) (p := ((q.toNat : Nat) : Int)) (hN n hn).2 (by omega) (by omega)
      exact sat_any _ g kind _ _ (pnear W H ps) w' (by omega) (by omega) s.k ent_ne (pnear_ok io) (fun X Y w'' hb2 => ne_any W H A c ps io (by omega) X Y g w'' (hgx.below hb2) ((hp.on hb).on hb2)))
  rw [← gridL_nat p.toNat q.toNat (rdot W H ps ((p.toNat : Nat) : Int) ((q.toNat : Nat) : Int) kind), hw, hh] at key
  exact key
end Go.Proofs.Ytineinmghajmnaa
namespace Go.Proofs.Ytineinmghajmnaa
open Go.RowKit
theorem ex_a1 : sAt 2 1 exI 1 65536 32768 = ⟨32768, 0, 0, 65535⟩ := by decide +kernel
theorem ex_a2 : sAt 2 1 exI 1 0 32768 = ⟨65535, 0, 0, 32768⟩ := by decide +kernel
theorem ex_a3 : sAt 2 1 exI 0 65536 0 = ⟨0, 0, 0, 65535⟩ := by decide +kernel
theorem ex_a4 : sAt 2 1 exI 0 (-1) 0 = ⟨0, 0, 0, 0⟩ := by decide +kernel
theorem ex_d0 : sDE 2 1 exI ⟨131072, 0, 0, 131072, 0, 0⟩ 0 ⟨0, 0, 4, 2⟩ = 0 := by decide +kernel
theorem ex_dw : sW 2 1 exI ⟨131072, 0, 0, 131072, 0, 0⟩ 0 ⟨0, 0, 4, 2⟩ = 4 := by decide +kernel
theorem ex_dh : sH 2 1 exI ⟨131072, 0, 0, 131072, 0, 0⟩ 0 ⟨0, 0, 4, 2⟩ = 2 := by decide +kernel
theorem ex_dl : sL 2 1 exI ⟨131072, 0, 0, 131072, 0, 0⟩ 0 ⟨0, 0, 4, 2⟩ = exD := by decide +kernel
theorem ex_n1 : (sNeed ⟨65536, 0, 0, 65536, 0, 0⟩ 1 ⟨0, 0, 4, 4⟩).2 = 0 := by decide +kernel
theorem ex_n2 : (sNeed ⟨65536, 0, 0, 65536, 0, 0⟩ 1 ⟨0, 0, 4, 4⟩).1 = ⟨-2, -2, 8, 8⟩ := by rfl
theorem ex_r : sRE 2 1 exI 1 1 1 = 0 := by decide +kernel
theorem ex_rl : sRpic 2 1 exI 1 1 1 = exH := by decide +kernel
theorem awake_any (w : World) : Calls Try.prog 11 #[] w fun e w' => e = .returned (.bool true) ∧ Below w.heap.size w w' := by
  refine awake_core w (fun A c w hp => ?_) (fun A c w hp => ?_) (fun A c w hp => ?_) (fun A c w hp => ?_) (fun A c w hp => ?_) (fun w => ?_) (fun A c w hp => ?_)
  · have h := psat_any 2 1 A c exI 1 65536 32768 w hp
    rw [ex_a1] at h; exact h
  · have h := psat_any 2 1 A c exI 1 0 32768 w hp
    rw [ex_a2] at h; exact h
  · have h := psat_any 2 1 A c exI 0 65536 0 w hp
    rw [ex_a3] at h; exact h
  · have h := psat_any 2 1 A c exI 0 (-1) 0 w hp
    rw [ex_a4] at h; exact h
  · have h := sdraw_any 2 1 A c exI ⟨131072, 0, 0, 131072, 0, 0⟩ 0 ⟨0, 0, 4, 2⟩ w hp
    rw [ex_d0, ex_dw, ex_dh, ex_dl] at h; exact h
  · have h := needs_any ⟨65536, 0, 0, 65536, 0, 0⟩ 1 ⟨0, 0, 4, 4⟩ w
    rw [ex_n1, ex_n2] at h; exact h
  · have h := sres_any 2 1 A c exI 1 1 1 w hp
    rw [ex_r, ex_rl, imOut_ok] at h; exact h
end Go.Proofs.Ytineinmghajmnaa
