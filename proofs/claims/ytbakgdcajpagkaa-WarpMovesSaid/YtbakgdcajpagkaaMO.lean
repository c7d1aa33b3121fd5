/- What warp.Needs answers; how far displacements go; which pixels Draw fetches. -/
import Derived.Test.YtbakgdcajpagkaaML
import Derived.Test.YtbakgdcajpagkaaMI
import Derived.Test.YtbakgdcajpagkaaMG
import Derived.Test.YtbakgdcajpagkaaMN
import Derived.Test.YtbakgdcajpagkaaMH
import Derived.Test.YtbakgdcajpagkaaMD
namespace Go.Proofs.Ytbakgdcajpagkaa
open Go.RowKit
/-- The error of Needs. -/
def wNE (C R S : Int) (ks : List (Int × Int)) (kind : Int) (o b : Rk) : Int :=
  if wErr C R S ks = 0 then if vld kind = true then if (rvalid o.x o.y o.w o.h && rvalid b.x b.y b.w b.h && !o.empty && o.within b) = true then 0 else 2 else 8 else wErr C R S ks
def wNR (C R S : Int) (ks : List (Int × Int)) (kind : Int) (o b : Rk) : Rk :=
  if wNE C R S ks kind o b = 0 then (o.grow (wreach C R S ks + spt kind + 1)).meet b else Rk.zero
structure NOk (C R S : Int) (ks : List (Int × Int)) (kind : Int) (o b : Rk) : Prop where
  w : WOk C R S ks
  v : vld kind = true
  eo : o.empty = false
  eb : b.empty = false
  x0 : b.x ≤ o.x
  x1 : o.x + o.w ≤ b.x + b.w
  y0 : b.y ≤ o.y
  y1 : o.y + o.h ≤ b.y + b.h
theorem rvalid_full {x y p q : Int} (h : rempty x y p q = false) : rvalid x y p q = true := by
  unfold rempty at h
  simp only [Bool.or_eq_false_iff, Bool.not_eq_false'] at h
  exact h.1.1
theorem wNE_iff {C R S : Int} {ks : List (Int × Int)} {kind : Int} {o b : Rk} : wNE C R S ks kind o b = 0 ↔ NOk C R S ks kind o b := by
  unfold wNE
  constructor
  · intro h
    by_cases h1 : wErr C R S ks = 0
    · rw [if_pos h1] at h
      by_cases h2 : vld kind = true
      · rw [if_pos h2] at h
        by_cases h3 : (rvalid o.x o.y o.w o.h && rvalid b.x b.y b.w b.h && !o.empty && o.within b) = true
        · simp only [Bool.and_eq_true, Bool.not_eq_true'] at h3
          obtain ⟨⟨⟨-, -⟩, h4⟩, h5⟩ := h3
          unfold Rk.within at h5
          rw [h4] at h5
          simp only [Bool.false_or, Bool.and_eq_true, Bool.not_eq_true', decide_eq_true_eq] at h5
          exact ⟨(wErr_iff C R S ks).1 h1, h2, h4, h5.1, h5.2.1.1.1, h5.2.1.1.2, h5.2.1.2, h5.2.2⟩
        · rw [if_neg h3] at h; cases h
      · rw [if_neg h2] at h; cases h
    · rw [if_neg h1] at h; exact absurd h h1
  · intro h
    rw [if_pos ((wErr_iff C R S ks).2 h.w), if_pos h.v, if_pos]
    have e1 : o.within b = true := by
      unfold Rk.within
      rw [h.eo, h.eb]
      simp only [Bool.false_or, Bool.and_eq_true, decide_eq_true_eq, Bool.not_false]
      exact ⟨trivial, ⟨⟨h.x0, h.x1⟩, h.y0⟩, h.y1⟩
    rw [rvalid_full h.eo, rvalid_full h.eb, h.eo, e1]
    rfl
theorem wreach_bd {C R S : Int} {ks : List (Int × Int)} (h : WOk C R S ks) : (0 ≤ wreach C R S ks ∧ wreach C R S ks ≤ 16) ∧ 0 ≤ wmax ks ∧ wmax ks ≤ wreach C R S ks * 65536 := by
  have hm := wmax_bd h ks.length
  rw [List.take_length] at hm
  unfold wreach
  rw [if_pos ((wErr_iff C R S ks).2 h)]
  omega
theorem wat_bd {C R S : Int} {ks : List (Int × Int)} (h : WOk C R S ks) (x y : Int) : (-(wreach C R S ks * 65536) ≤ (wat C R S ks x y).1 ∧ (wat C R S ks x y).1 ≤ wreach C R S ks * 65536) ∧ -(wreach C R S ks * 65536) ≤ (wat C R S ks x y).2 ∧ (wat C R S ks x y).2 ≤ wreach C R S ks * 65536 := by
  have hr := wreach_bd h
  have hn := wN_eq (x := x) (y := y) h
  have hc : (C.toNat : Int) = C := Int.toNat_of_nonneg (by have := h.c0; omega)
  have hc0 := h.c0
  have hx := (wc_bd (x := x) h.c0 h.c1 h.s0 h.s1).2.2
  have hy := (wc_bd (x := y) h.r0 h.r1 h.s0 h.s1).2.2
  have a0 := wmax_at ks (wN C R S x y) (by omega)
  have a1 := wmax_at ks (wN C R S x y + 1) (by omega)
  have a2 := wmax_at ks (wN C R S x y + C.toNat) (by omega)
  have a3 := wmax_at ks (wN C R S x y + C.toNat + 1) (by omega)
  have ss : 0 < S * S := Int.mul_pos (by have := h.s0; omega) (by have := h.s0; omega)
  have bx := wsum_bd h.s0 h.s1 hx hy a0.1 a1.1 a2.1 a3.1
  have by' := wsum_bd h.s0 h.s1 hx hy a0.2 a1.2 a2.2 a3.2
  rw [← Int.mul_neg] at bx by'
  unfold wat
  rw [if_pos ((wErr_iff C R S ks).2 h)]
  have r1 := rdiv_lo _ _ _ ss bx.1; have r2 := rdiv_hi _ _ _ ss bx.2; have r3 := rdiv_lo _ _ _ ss by'.1; have r4 := rdiv_hi _ _ _ ss by'.2
  unfold watX watY
  dsimp only
  exact ⟨⟨by omega, by omega⟩, by omega, by omega⟩
theorem full_of {x y p q : Int} (h : ((-1048576 ≤ x ∧ x ≤ 1048576) ∧ 1 ≤ p ∧ p ≤ 1048576 - x) ∧ ((-1048576 ≤ y ∧ y ≤ 1048576) ∧ 1 ≤ q ∧ q ≤ 1048576 - y)) : rempty x y p q = false := by
  unfold rempty
  rw [(rvalid_iff x y p q).2 (by omega)]
  have h1 : (p == 0) = false := beq_eq_false_iff_ne.2 (by omega)
  have h2 : (q == 0) = false := beq_eq_false_iff_ne.2 (by omega)
  rw [h1, h2]
  rfl
theorem rkB_full {a b c d : Int} (ha : -1048576 ≤ a) (hb : -1048576 ≤ b) (hc : c ≤ 1048576) (hd : d ≤ 1048576) (h1 : a < c) (h2 : b < d) : rkB a b c d = ⟨a, b, c - a, d - b⟩ := by
  unfold rkB
  rw [if_neg (by omega), show max a (-1048576) = a by omega, show max b (-1048576) = b by omega, show min c 1048576 = c by omega, show min d 1048576 = d by omega]
/-- The rectangle of the needed pixels. -/
theorem need_eq {o b : Rk} {n : Int} (ho : o.empty = false) (hb : b.empty = false) (x0 : b.x ≤ o.x) (x1 : o.x + o.w ≤ b.x + b.w) (y0 : b.y ≤ o.y) (y1 : o.y + o.h ≤ b.y + b.h) (hn : 0 ≤ n ∧ n ≤ 64) :
    (o.grow n).meet b = ⟨max (o.x - n) b.x, max (o.y - n) b.y, min (o.x + o.w + n) (b.x + b.w) - max (o.x - n) b.x, min (o.y + o.h + n) (b.y + b.h) - max (o.y - n) b.y⟩ := by
  have fo := full_bd ho; have fb := full_bd hb
  have l4 : lim4 n = n := by unfold lim4; omega
  have e1 : o.grow n = ⟨max (o.x - n) (-1048576), max (o.y - n) (-1048576), min (o.x + o.w + n) 1048576 - max (o.x - n) (-1048576), min (o.y + o.h + n) 1048576 - max (o.y - n) (-1048576)⟩ := by
    unfold Rk.grow
    rw [ho, l4, if_neg (by simp)]
    unfold rkB
    rw [if_neg (by omega)]
  have e2 : (o.grow n).empty = false := by
    rw [e1]; exact full_of (by dsimp only; omega)
  unfold Rk.meet
  rw [e2, hb, if_neg (by simp), e1]
  dsimp only
  rw [rkB_full (by omega) (by omega) (by omega) (by omega) (by omega) (by omega)]
  congr 1 <;> omega
theorem full_need {o b : Rk} {n : Int} (ho : o.empty = false) (hb : b.empty = false) (x0 : b.x ≤ o.x) (x1 : o.x + o.w ≤ b.x + b.w) (y0 : b.y ≤ o.y) (y1 : o.y + o.h ≤ b.y + b.h) (hn : 0 ≤ n ∧ n ≤ 64) : ((o.grow n).meet b).empty = false := by
  have fo := full_bd ho; have fb := full_bd hb
  rw [need_eq ho hb x0 x1 y0 y1 hn]
  exact full_of (by dsimp only; omega)
set_option maxHeartbeats 1000000 in
theorem needs_any (C R S : Int) (A : Option Addr) (c : Nat) (ks : List (Int × Int)) (kind : Int) (o b : Rk) (w : World) (h : Knots w w.heap.size (.slice A ks.length c) ks) :
    Calls Try.prog 17 #[.agg #[.int .i64 C, .int .i64 R, .int .i64 S, .slice A ks.length c], .int .i64 kind, .agg #[.int .i64 o.x, .int .i64 o.y, .int .i64 o.w, .int .i64 o.h], .agg #[.int .i64 b.x, .int .i64 b.y, .int .i64 b.w, .int .i64 b.h]] w fun e w' => e = .returned (.tuple #[.agg #[.int .i64 (wNR C R S ks kind o b).x, .int .i64 (wNR C R S ks kind o b).y, .int .i64 (wNR C R S ks kind o b).w, .int .i64 (wNR C R S ks kind o b).h], .int .i64 (wNE C R S ks kind o b)]) ∧ Below w.heap.size w w' := by
  have TC := fun w' (hb : Below w.heap.size w w') => wcheck_any C R S A c ks w' (h.on hb)
  have KV := kvalid_any kind
  have VO := valid_any o.x o.y o.w o.h
  have VB := valid_any b.x b.y b.w b.h
  have EO := empty_any o.x o.y o.w o.h
  have WI := within_any o.x o.y o.w o.h b.x b.y b.w b.h
  by_cases hE : wErr C R S ks = 0
  rotate_left
  · have e1 : wNE C R S ks kind o b = wErr C R S ks := by unfold wNE; rw [if_neg hE]
    have e2 : wNR C R S ks kind o b = Rk.zero := by unfold wNR; rw [e1, if_neg hE]
    rw [e1, e2]
    exact needs_e1 C R S _ kind _ _ _ _ _ _ _ _ _ w TC (by simpa using hE)
  rw [hE] at TC
  by_cases hv : vld kind = true
  rotate_left
  · have e1 : wNE C R S ks kind o b = 8 := by unfold wNE; rw [if_pos hE, if_neg hv]
    have e2 : wNR C R S ks kind o b = Rk.zero := by unfold wNR; rw [e1, if_neg (by omega)]
    rw [e1, e2]
    rw [Bool.not_eq_true] at hv
    rw [hv] at KV
    exact needs_e2 C R S _ kind _ _ _ _ _ _ _ _ w TC KV
  by_cases h2 : (rvalid o.x o.y o.w o.h && rvalid b.x b.y b.w b.h && !o.empty && o.within b) = true
  rotate_left
  · have e1 : wNE C R S ks kind o b = 2 := by unfold wNE; rw [if_pos hE, if_pos hv, if_neg h2]
    have e2 : wNR C R S ks kind o b = Rk.zero := by unfold wNR; rw [e1, if_neg (by omega)]
    rw [e1, e2]
    rw [hv] at KV
    refine needs_e3 C R S _ kind _ _ _ _ _ _ _ _ _ _ _ _ w ?_ TC KV VO VB EO WI
    change ¬ (rvalid o.x o.y o.w o.h && rvalid b.x b.y b.w b.h && !(rempty o.x o.y o.w o.h) && Rk.within ⟨o.x, o.y, o.w, o.h⟩ ⟨b.x, b.y, b.w, b.h⟩) = true at h2
    generalize rvalid o.x o.y o.w o.h = p1 at *
    generalize rvalid b.x b.y b.w b.h = p2 at *
    generalize rempty o.x o.y o.w o.h = p3 at *
    generalize Rk.within ⟨o.x, o.y, o.w, o.h⟩ ⟨b.x, b.y, b.w, b.h⟩ = p4 at *
    revert h2
    cases p1 <;> cases p2 <;> cases p3 <;> cases p4 <;> simp
  have e1 : wNE C R S ks kind o b = 0 := by unfold wNE; rw [if_pos hE, if_pos hv, if_pos h2]
  have e2 : wNR C R S ks kind o b = (o.grow (wreach C R S ks + spt kind + 1)).meet b := by unfold wNR; rw [e1, if_pos rfl]
  rw [e1, e2]
  have ok := (wErr_iff C R S ks).1 hE
  have hr := (wreach_bd ok).1
  have hs := spt_le kind
  simp only [Bool.and_eq_true, Bool.not_eq_true'] at h2
  obtain ⟨⟨⟨h3, h4⟩, h5⟩, h6⟩ := h2
  rw [hv] at KV
  rw [h3] at VO; rw [h4] at VB
  rw [show rempty o.x o.y o.w o.h = false from h5] at EO
  rw [show Rk.within ⟨o.x, o.y, o.w, o.h⟩ ⟨b.x, b.y, b.w, b.h⟩ = true from h6] at WI
  exact needs_ok C R S _ kind _ _ _ _ _ _ _ _ (wreach C R S ks) (spt kind) (wreach C R S ks + spt kind) (wreach C R S ks + spt kind + 1) (o.grow (wreach C R S ks + spt kind + 1)).x (o.grow (wreach C R S ks + spt kind + 1)).y (o.grow (wreach C R S ks + spt kind + 1)).w (o.grow (wreach C R S ks + spt kind + 1)).h _ _ _ _ w TC KV VO VB EO WI (fun w' hb => reach_any C R S A c ks w' (h.on hb)) (support_any kind) (wrap_in _ (by omega)) (wrap_in _ (by omega)) (fun w => grow_any o.x o.y o.w o.h _ w) (fun w => meet_any _ _ _ _ b.x b.y b.w b.h w)
end Go.Proofs.Ytbakgdcajpagkaa
namespace Go.Proofs.Ytbakgdcajpagkaa
open Go.RowKit
/-- The pixel that Draw fetches for a place. -/
def wpx (W ax ay : Int) (b : Rk) (ps : List Px) (x y : Int) : Px := pat ps ((bcl b.y b.h y - ay) * W + (bcl b.x b.w x - ax)).toNat
/-- The pixel that Draw puts at a place. -/
def wdot (W ax ay : Int) (b : Rk) (ps : List Px) (C R S : Int) (ks : List (Int × Int)) (kind x y : Int) : Px :=
  wmean (wpre (wpx W ax ay b ps) (tapFirst kind (x * 65536 + 32768 + (wat C R S ks x y).1)) (tapFirst kind (y * 65536 + 32768 + (wat C R S ks x y).2)) (taps kind (x * 65536 + 32768 + (wat C R S ks x y).1)) (taps kind (y * 65536 + 32768 + (wat C R S ks x y).2)) (taps kind (y * 65536 + 32768 + (wat C R S ks x y).2)).length 0)
def wDE (W H ax ay : Int) (ps : List Px) (b : Rk) (C R S : Int) (ks : List (Int × Int)) (kind : Int) (o : Rk) : Int :=
  if ichk W H ps = 0 then if wNE C R S ks kind o b = 0 then if shows W H ax ay (wNR C R S ks kind o b) = true then 0 else 15 else wNE C R S ks kind o b else ichk W H ps
def wpic (W ax ay : Int) (b : Rk) (ps : List Px) (C R S : Int) (ks : List (Int × Int)) (kind : Int) (o : Rk) : List Px :=
  (List.range (o.w.toNat * o.h.toNat)).map fun n : Nat => wdot W ax ay b ps C R S ks kind (o.x + (n : Int) % o.w) (o.y + (n : Int) / o.w)
structure DOk (W H ax ay : Int) (ps : List Px) (b : Rk) (C R S : Int) (ks : List (Int × Int)) (kind : Int) (o : Rk) : Prop where
  i : IOk W H ps
  n : NOk C R S ks kind o b
  s : shows W H ax ay (wNR C R S ks kind o b) = true
theorem wDE_iff {W H ax ay : Int} {ps : List Px} {b : Rk} {C R S : Int} {ks : List (Int × Int)} {kind : Int} {o : Rk} : wDE W H ax ay ps b C R S ks kind o = 0 ↔ DOk W H ax ay ps b C R S ks kind o := by
  unfold wDE
  constructor
  · intro h
    by_cases h1 : ichk W H ps = 0
    · rw [if_pos h1] at h
      by_cases h2 : wNE C R S ks kind o b = 0
      · rw [if_pos h2] at h
        by_cases h3 : shows W H ax ay (wNR C R S ks kind o b) = true
        · exact ⟨(ichk_iff W H ps).1 h1, wNE_iff.1 h2, h3⟩
        · rw [if_neg h3] at h; cases h
      · rw [if_neg h2] at h; exact absurd h h2
    · rw [if_neg h1] at h; exact absurd h h1
  · intro h
    rw [if_pos ((ichk_iff W H ps).2 h.i), if_pos (wNE_iff.2 h.n), if_pos h.s]
/-- What the image shows, in numbers. -/
theorem DOk.eqs {W H ax ay : Int} {ps : List Px} {b : Rk} {C R S : Int} {ks : List (Int × Int)} {kind : Int} {o : Rk} (h : DOk W H ax ay ps b C R S ks kind o) :
    (ax ≤ max (o.x - (wreach C R S ks + spt kind + 1)) b.x ∧ min (o.x + o.w + (wreach C R S ks + spt kind + 1)) (b.x + b.w) ≤ ax + W) ∧ ay ≤ max (o.y - (wreach C R S ks + spt kind + 1)) b.y ∧ min (o.y + o.h + (wreach C R S ks + spt kind + 1)) (b.y + b.h) ≤ ay + H := by
  have hs := h.s
  have hr := (wreach_bd h.n.w).1
  have h2 := spt_le kind
  unfold wNR at hs
  rw [if_pos (wNE_iff.2 h.n), need_eq h.n.eo h.n.eb h.n.x0 h.n.x1 h.n.y0 h.n.y1 (by omega)] at hs
  unfold shows at hs
  simp only [Bool.and_eq_true, decide_eq_true_eq] at hs
  omega
theorem wpx_ok {W H ax ay : Int} {b : Rk} {ps : List Px} (h : IOk W H ps) (x y : Int) : (wpx W ax ay b ps x y).ok := by
  unfold wpx
  rcases Nat.lt_or_ge ((bcl b.y b.h y - ay) * W + (bcl b.x b.w x - ax)).toNat ps.length with c | c
  · exact h.ok _ c
  · unfold pat
    rw [List.getD_eq_getElem?_getD, List.getElem?_eq_none c]
    show Px.zero.ok
    unfold Px.ok Px.zero
    simp
theorem wdraw_any (W H ax ay : Int) (A : Option Addr) (c : Nat) (ps : List Px) (b : Rk) (C R S : Int) (A' : Option Addr) (c' : Nat) (ks : List (Int × Int)) (kind : Int) (o : Rk) (w : World) (hp : Pixs w w.heap.size (.slice A ps.length c) ps) (h : Knots w w.heap.size (.slice A' ks.length c') ks) :
    Calls Try.prog 19 #[.agg #[.int .i64 W, .int .i64 H, .slice A ps.length c], .agg #[.int .i64 ax, .int .i64 ay], .agg #[.int .i64 b.x, .int .i64 b.y, .int .i64 b.w, .int .i64 b.h], .agg #[.int .i64 C, .int .i64 R, .int .i64 S, .slice A' ks.length c'], .int .i64 kind, .agg #[.int .i64 o.x, .int .i64 o.y, .int .i64 o.w, .int .i64 o.h]] w (ImOut (wDE W H ax ay ps b C R S ks kind o) o.w o.h (wpic W ax ay b ps C R S ks kind o) w) := by
  have TC := fun w' (hb : Below w.heap.size w w') => icheck_any W H A ps.length c ps w' (hp.on hb)
  have TN := fun w' (hb : Below w.heap.size w w') => needs_any C R S A' c' ks kind o b w' (h.on hb)
  by_cases h1 : ichk W H ps = 0
  rotate_left
  · have e1 : wDE W H ax ay ps b C R S ks kind o = ichk W H ps := by unfold wDE; rw [if_neg h1]
    rw [e1, imOut_err h1]
    exact wdraw_e1 W H ax ay _ _ _ _ C R S kind _ _ _ _ _ A c ps _ w (by simpa using h1) TC
  rw [h1] at TC
  by_cases h2 : wNE C R S ks kind o b = 0
  rotate_left
  · have e1 : wDE W H ax ay ps b C R S ks kind o = wNE C R S ks kind o b := by unfold wDE; rw [if_pos h1, if_neg h2]
    have e2 : wNR C R S ks kind o b = Rk.zero := by unfold wNR; rw [if_neg h2]
    rw [e1, imOut_err h2]
    rw [e2] at TN
    exact wdraw_e2 W H ax ay _ _ _ _ C R S kind _ _ _ _ _ A c ps _ w (by simpa using h2) TC TN
  have io := (ichk_iff W H ps).1 h1
  have no := wNE_iff.1 h2
  have fo := full_bd no.eo; have fb := full_bd no.eb
  have hr := wreach_bd no.w
  have hsp := spt_le kind
  have hin := io.w0; have hin1 := io.w1; have hin2 := io.h0; have hin3 := io.h1
  have fn : (wNR C R S ks kind o b).empty = false := by
    unfold wNR
    rw [if_pos h2]
    exact full_need no.eo no.eb no.x0 no.x1 no.y0 no.y1 (by omega)
  have fn2 := full_bd fn
  have TS := fun w' => contains_any W H ax ay (wNR C R S ks kind o b).x (wNR C R S ks kind o b).y (wNR C R S ks kind o b).w (wNR C R S ks kind o b).h (.slice A ps.length c) w' (by omega) (by omega) (by omega) (by omega) (by omega) (by omega)
  rw [h2] at TN
  by_cases h3 : shows W H ax ay (wNR C R S ks kind o b) = true
  rotate_left
  · have e1 : wDE W H ax ay ps b C R S ks kind o = 15 := by unfold wDE; rw [if_pos h1, if_pos h2, if_neg h3]
    rw [e1, imOut_err (by omega)]
    rw [Bool.not_eq_true] at h3
    rw [show shows W H ax ay ⟨(wNR C R S ks kind o b).x, (wNR C R S ks kind o b).y, (wNR C R S ks kind o b).w, (wNR C R S ks kind o b).h⟩ = false from h3] at TS
    exact wdraw_e3 W H ax ay _ _ _ _ C R S kind _ _ _ _ _ A c ps _ _ _ _ w TC TN TS
  have ok : DOk W H ax ay ps b C R S ks kind o := ⟨io, no, h3⟩
  have q := ok.eqs
  have x0 := no.x0; have x1 := no.x1; have y0 := no.y0; have y1 := no.y1
  rw [wDE_iff.2 ok, imOut_ok]
  rw [show shows W H ax ay ⟨(wNR C R S ks kind o b).x, (wNR C R S ks kind o b).y, (wNR C R S ks kind o b).w, (wNR C R S ks kind o b).h⟩ = true from h3] at TS
  have hw : ((o.w.toNat : Nat) : Int) = o.w := Int.toNat_of_nonneg (by omega)
  have hh : ((o.h.toNat : Nat) : Int) = o.h := Int.toNat_of_nonneg (by omega)
  have hN : o.w.toNat * o.h.toNat ≤ 1000000 := by
    have : o.w.toNat * o.h.toNat ≤ 256 * 256 := Nat.mul_le_mul (by omega) (by omega)
    omega
  have key := wdraw_ok W H ax ay b.x b.y b.w b.h C R S kind o.x o.y o.w.toNat o.h.toNat (.slice A' ks.length c') A c ps (o.w.toNat * o.h.toNat) _ _ _ _ (wpx W ax ay b ps) (fun n => (wat C R S ks (o.x + (n : Int) % ((o.w.toNat : Nat) : Int)) (o.y + (n : Int) / ((o.w.toNat : Nat) : Int))).1) (fun n => (wat C R S ks (o.x + (n : Int) % ((o.w.toNat : Nat) : Int)) (o.y + (n : Int) / ((o.w.toNat : Nat) : Int))).2) w TC
    (by rw [hw, hh]; exact TN) TS rfl hN (by omega) (by omega) (by omega) (by omega) (wpx_ok io)
    (fun n => by have := wat_bd no.w (o.x + (n : Int) % ((o.w.toNat : Nat) : Int)) (o.y + (n : Int) / ((o.w.toNat : Nat) : Int)); omega) no.v
    (fun n hn w' hb => wat_any C R S A' c' ks _ _ w' (h.on hb))
    (fun n hn j k hj hk w' hf => by
      have hd := wat_bd no.w (o.x + (n : Int) % ((o.w.toNat : Nat) : Int)) (o.y + (n : Int) / ((o.w.toNat : Nat) : Int))
      have hw0 : (0 : Int) < ((o.w.toNat : Nat) : Int) := by omega
      have m0 := Int.emod_nonneg (n : Int) (b := ((o.w.toNat : Nat) : Int)) (by omega)
      have m1 := Int.emod_lt_of_pos (n : Int) hw0
      have d0 : 0 ≤ (n : Int) / ((o.w.toNat : Nat) : Int) := Int.ediv_nonneg (by omega) (by omega)
      have d1 : (n : Int) / ((o.w.toNat : Nat) : Int) < ((o.h.toNat : Nat) : Int) := Int.ediv_lt_of_lt_mul hw0 (by rw [← Int.natCast_mul, Nat.mul_comm]; omega)
      try dsimp only
      have tx := tap_near no.v (x := o.x + (n : Int) % ((o.w.toNat : Nat) : Int)) (by omega) hr.1 hd.1 j hj
      have ty := tap_near no.v (x := o.y + (n : Int) / ((o.w.toNat : Nat) : Int)) (by omega) hr.1 hd.2 k hk
      clear hj hk hd
      generalize tapFirst kind ((o.x + (n : Int) % ((o.w.toNat : Nat) : Int)) * 65536 + 32768 + (wat C R S ks (o.x + (n : Int) % ((o.w.toNat : Nat) : Int)) (o.y + (n : Int) / ((o.w.toNat : Nat) : Int))).1) + (j : Int) = X at *
      generalize tapFirst kind ((o.y + (n : Int) / ((o.w.toNat : Nat) : Int)) * 65536 + 32768 + (wat C R S ks (o.x + (n : Int) % ((o.w.toNat : Nat) : Int)) (o.y + (n : Int) / ((o.w.toNat : Nat) : Int))).2) + (k : Int) = Y at *
      have cx : 0 ≤ bcl b.x b.w X - ax ∧ bcl b.x b.w X - ax < W := by unfold bcl; omega
      have cy : 0 ≤ bcl b.y b.h Y - ay ∧ bcl b.y b.h Y - ay < H := by unfold bcl; omega
      have i0 : 0 ≤ (bcl b.y b.h Y - ay) * W := Int.mul_nonneg cy.1 (by omega)
      have i1 : (bcl b.y b.h Y - ay) * W ≤ (H - 1) * W := Int.mul_le_mul_of_nonneg_right (by omega) (by omega)
      have i2 : (H - 1) * W = W * H - W := by rw [Int.sub_mul, Int.mul_comm, Int.one_mul]
      have i3 := io.n
      exact fetch_any (w.heap.size + 1 + 1) (w.heap.size + 1) w.heap.size W H ax ay b.x b.y b.w b.h X Y A c ps w' hf.1.2.2.1 hf.1.2.1 hf.1.1 (hp.on hf.2) (by omega) (by omega) cx (by omega) _ (Int.toNat_of_nonneg (by omega)).symm (by omega))
  rw [hw, hh] at key
  exact key
end Go.Proofs.Ytbakgdcajpagkaa
namespace Go.Proofs.Ytbakgdcajpagkaa
def exP : List Px := [⟨0, 0, 0, 65535⟩, ⟨100, 0, 0, 65535⟩]
def exZ : List (Int × Int) := [(0, 0), (0, 0), (0, 0), (0, 0)]
def exH : List (Int × Int) := [(32768, 0), (32768, 0), (32768, 0), (32768, 0)]
theorem ex_c0 : wErr 2 2 1 exZ = 0 := by decide +kernel
theorem ex_c1 : wErr 2 2 1 [] = 15 := by decide +kernel
theorem ex_c2 : wErr 2 2 1 [(1048577, 0), (0, 0), (0, 0), (0, 0)] = 2 := by decide +kernel
theorem ex_a1 : wat 2 2 4 [(0, 0), (8, 0), (0, 0), (8, 0)] 1 3 = (2, 0) := by decide +kernel
theorem ex_a2 : wat 2 2 2 [(0, 0), (1, 0), (0, 0), (1, 0)] 1 0 = (1, 0) := by decide +kernel
theorem ex_r : wreach 2 2 1 [(65537, 0), (0, 0), (0, 0), (0, 0)] = 2 := by decide +kernel
theorem ex_ne : wNE 2 2 1 exZ 0 ⟨0, 0, 1, 1⟩ ⟨0, 0, 9, 9⟩ = 0 := by decide +kernel
theorem ex_nr : wNR 2 2 1 exZ 0 ⟨0, 0, 1, 1⟩ ⟨0, 0, 9, 9⟩ = ⟨0, 0, 3, 3⟩ := by decide +kernel
theorem ex_d1 : wDE 2 1 0 0 exP ⟨0, 0, 9, 9⟩ 2 2 1 exZ 0 ⟨0, 0, 1, 1⟩ = 15 := by decide +kernel
theorem ex_d2 : wDE 2 1 0 0 exP ⟨0, 0, 2, 1⟩ 2 2 1 exH 1 ⟨0, 0, 2, 1⟩ = 0 := by decide +kernel
theorem ex_pic : wpic 2 0 0 ⟨0, 0, 2, 1⟩ exP 2 2 1 exH 1 ⟨0, 0, 2, 1⟩ = [⟨50, 0, 0, 65535⟩, ⟨100, 0, 0, 65535⟩] := by rfl
end Go.Proofs.Ytbakgdcajpagkaa
namespace Go.Proofs.Ytbakgdcajpagkaa
open Go.RowKit
set_option maxRecDepth 100000 in
set_option maxHeartbeats 4000000 in
theorem rat_no (C R S E : Int) (v : Value) (x y : Int) (w : World) (hE : (E != 0) = true)
    (TC : ∀ w', Below w.heap.size w w' → Calls Try.prog 11 #[.agg #[.int .i64 C, .int .i64 R, .int .i64 S, v]] w' fun e w'' => e = .returned (.int .i64 E) ∧ Below w'.heap.size w' w'') :
    Calls Try.prog 13 #[.agg #[.int .i64 C, .int .i64 R, .int .i64 S, v], .int .i64 x, .int .i64 y] w (PtPost (0, 0) w) := by
  have HTC := Lib.hid TC; clear TC
  go_enter Try.func13, Try.ntmps13
  go_upto_region 1 with fail
  obtain ⟨hb3, hb6, hB⟩ := two_boxes w #[.int .i64 C, .int .i64 R, .int .i64 S, v] #[.int .i64 0, .int .i64 0] 24 28 _ rfl
  generalize World.alloc (World.alloc w _) _ = w0 at *
  obtain ⟨⟨i1, i2, i3, i4⟩, -⟩ := hb3.four
  go_wp2_with fail
  refine (HTC.out _ hB).mono ?_
  rintro e w1 ⟨rfl, hbb⟩
  replace hb6 := hb6.below hbb; replace hB := bel_trans hB hbb
  clear i1 i2 i3 i4 hbb
  obtain ⟨⟨r1, r2⟩, r3, r4⟩ := hb6.two
  have HB := Lib.hid hB; clear hB
  go_wp2_with fail
  refine bodyPost_ret (v := .agg #[.int .i64 0, .int .i64 0]) (by simp [results, Try.results13, go_sem, *]) rfl ⟨rfl, ?_⟩
  exact (HB.out.setCell (p := ⟨w.heap.size + 1, 0, none⟩) (Nat.le_succ _) _).setCell (p := ⟨w.heap.size + 1, 1, none⟩) (Nat.le_succ _) _
theorem rat_any (C R S : Int) (A : Option Addr) (c : Nat) (ks : List (Int × Int)) (x y : Int) (w : World) (h : Knots w w.heap.size (.slice A ks.length c) ks) :
    Calls Try.prog 13 #[.agg #[.int .i64 C, .int .i64 R, .int .i64 S, .slice A ks.length c], .int .i64 x, .int .i64 y] w (PtPost (wat C R S ks x y) w) := by
  have TC := fun w' (hb : Below w.heap.size w w') => rwcheck_any C R S A c ks w' (h.on hb)
  unfold wat
  by_cases hE : wErr C R S ks = 0
  · rw [if_pos hE]
    rw [hE] at TC
    exact rat_yes C R S A c ks x y w ((wErr_iff C R S ks).1 hE) h TC
  · rw [if_neg hE]
    exact rat_no C R S _ _ x y w (by simp [hE]) TC
/-- Four points of a literal. -/
theorem knots4 {w : World} {g B : Nat} {a b c d : Int} (h : Bx w g 28 #[.int .i64 a, .int .i64 0, .int .i64 b, .int .i64 0, .int .i64 c, .int .i64 0, .int .i64 d, .int .i64 0]) (hg : g < B) : Knots w B (.slice (some ⟨g, 0, none⟩) 4 4) [(a, 0), (b, 0), (c, 0), (d, 0)] := by
  obtain ⟨⟨h0, h1, h2, h3⟩, h4, h5, h6, h7⟩ := h.eight
  refine ⟨_, 4, rfl, by simp, fun i hi => ⟨g, 0, rfl, hg, ?_⟩⟩
  match i, hi with
  | 0, _ => exact ⟨h0, h1⟩
  | 1, _ => exact ⟨h2, h3⟩
  | 2, _ => exact ⟨h4, h5⟩
  | 3, _ => exact ⟨h6, h7⟩
def MePost (s : Int) (ks : List (Int × Int)) (w : World) (e : Ending) (w' : World) : Prop :=
  ∃ g : Nat, e = .returned (.agg #[.int .i64 2, .int .i64 2, .int .i64 s, .slice (some ⟨g, 0, none⟩) ks.length 4]) ∧ Knots w' w'.heap.size (.slice (some ⟨g, 0, none⟩) ks.length 4) ks ∧ Below w.heap.size w w'
set_option maxRecDepth 100000 in
set_option maxHeartbeats 4000000 in
theorem mesh_any (s a b c d : Int) (w : World) : Calls Try.prog 33 #[.int .i64 s, .int .i64 a, .int .i64 b, .int .i64 c, .int .i64 d] w (MePost s [(a, 0), (b, 0), (c, 0), (d, 0)] w) := by
  go_enter Try.func33, Try.ntmps33
  go_upto_region 1 with fail
  have K := Lib.hid (fr_one w #[.int .i64 0, .int .i64 0, .int .i64 0, .slice none 0 0] 24 _ rfl)
  generalize World.alloc w _ = w0 at *
  obtain ⟨⟨i1, i2, i3, i4⟩, f1, f2, f3, f4⟩ := K.out.1.1.four
  have hlt := K.out.1.1.lt
  have hne : w0.heap.size ≠ w.heap.size := by omega
  go_wp2_with fail
  have hB := set4_below (g := w.heap.size) K.out.2 (Nat.le_refl _) 0 1 2 3 (.int .i64 2) (.int .i64 2) (.int .i64 s) (.slice (some ⟨w0.heap.size, 0, none⟩) 4 4)
  have hS : ((((w0.setCell ⟨w.heap.size, 0, none⟩ (.int .i64 2)).setCell ⟨w.heap.size, 1, none⟩ (.int .i64 2)).setCell ⟨w.heap.size, 2, none⟩ (.int .i64 s)).setCell ⟨w.heap.size, 3, none⟩ (.slice (some ⟨w0.heap.size, 0, none⟩) 4 4)).heap.size = w0.heap.size := by simp [World.size_setCell]
  have hne2 : ¬ w.heap.size = w0.heap.size := by omega
  refine bodyPost_ret (v := .agg #[.int .i64 2, .int .i64 2, .int .i64 s, .slice (some ⟨w0.heap.size, 0, none⟩) 4 4]) (by simp [results, Try.results33, go_sem, *]) rfl ?_
  generalize World.setCell (World.setCell (World.setCell (World.setCell w0 _ _) _ _) _ _) _ _ = w1 at *
  have n := Bx.new w1 28 #[.int .i64 a, .int .i64 0, .int .i64 b, .int .i64 0, .int .i64 c, .int .i64 0, .int .i64 d, .int .i64 0]
  rw [hS] at n
  exact ⟨w0.heap.size, rfl, knots4 n (by rw [World.size_alloc]; omega), bel_alloc hB _⟩
end Go.Proofs.Ytbakgdcajpagkaa
namespace Go.Proofs.Ytbakgdcajpagkaa
open Go.RowKit
set_option maxHeartbeats 1000000 in
theorem rneeds_any (C R S : Int) (A : Option Addr) (c : Nat) (ks : List (Int × Int)) (kind : Int) (o b : Rk) (w : World) (h : Knots w w.heap.size (.slice A ks.length c) ks) :
    Calls Try.prog 18 #[.agg #[.int .i64 C, .int .i64 R, .int .i64 S, .slice A ks.length c], .int .i64 kind, .agg #[.int .i64 o.x, .int .i64 o.y, .int .i64 o.w, .int .i64 o.h], .agg #[.int .i64 b.x, .int .i64 b.y, .int .i64 b.w, .int .i64 b.h]] w fun e w' => e = .returned (.tuple #[.agg #[.int .i64 (wNR C R S ks kind o b).x, .int .i64 (wNR C R S ks kind o b).y, .int .i64 (wNR C R S ks kind o b).w, .int .i64 (wNR C R S ks kind o b).h], .int .i64 (wNE C R S ks kind o b)]) ∧ Below w.heap.size w w' := by
  have TC := fun w' (hb : Below w.heap.size w w') => rwcheck_any C R S A c ks w' (h.on hb)
  have KV := rkvalid_any kind
  have VO := rvalid_any o.x o.y o.w o.h
  have VB := rvalid_any b.x b.y b.w b.h
  have EO := rempty_any o.x o.y o.w o.h
  have WI := rwithin_any o.x o.y o.w o.h b.x b.y b.w b.h
  by_cases hE : wErr C R S ks = 0
  rotate_left
  · have e1 : wNE C R S ks kind o b = wErr C R S ks := by unfold wNE; rw [if_neg hE]
    have e2 : wNR C R S ks kind o b = Rk.zero := by unfold wNR; rw [e1, if_neg hE]
    rw [e1, e2]
    exact rneeds_e1 C R S _ kind _ _ _ _ _ _ _ _ _ w TC (by simpa using hE)
  rw [hE] at TC
  by_cases hv : vld kind = true
  rotate_left
  · have e1 : wNE C R S ks kind o b = 8 := by unfold wNE; rw [if_pos hE, if_neg hv]
    have e2 : wNR C R S ks kind o b = Rk.zero := by unfold wNR; rw [e1, if_neg (by omega)]
    rw [e1, e2]
    rw [Bool.not_eq_true] at hv
    rw [hv] at KV
    exact rneeds_e2 C R S _ kind _ _ _ _ _ _ _ _ w TC KV
  by_cases h2 : (rvalid o.x o.y o.w o.h && rvalid b.x b.y b.w b.h && !o.empty && o.within b) = true
  rotate_left
  · have e1 : wNE C R S ks kind o b = 2 := by unfold wNE; rw [if_pos hE, if_pos hv, if_neg h2]
    have e2 : wNR C R S ks kind o b = Rk.zero := by unfold wNR; rw [e1, if_neg (by omega)]
    rw [e1, e2]
    rw [hv] at KV
    refine rneeds_e3 C R S _ kind _ _ _ _ _ _ _ _ _ _ _ _ w ?_ TC KV VO VB EO WI
    change ¬ (rvalid o.x o.y o.w o.h && rvalid b.x b.y b.w b.h && !(rempty o.x o.y o.w o.h) && Rk.within ⟨o.x, o.y, o.w, o.h⟩ ⟨b.x, b.y, b.w, b.h⟩) = true at h2
    generalize rvalid o.x o.y o.w o.h = p1 at *
    generalize rvalid b.x b.y b.w b.h = p2 at *
    generalize rempty o.x o.y o.w o.h = p3 at *
    generalize Rk.within ⟨o.x, o.y, o.w, o.h⟩ ⟨b.x, b.y, b.w, b.h⟩ = p4 at *
    revert h2
    cases p1 <;> cases p2 <;> cases p3 <;> cases p4 <;> simp
  have e1 : wNE C R S ks kind o b = 0 := by unfold wNE; rw [if_pos hE, if_pos hv, if_pos h2]
  have e2 : wNR C R S ks kind o b = (o.grow (wreach C R S ks + spt kind + 1)).meet b := by unfold wNR; rw [e1, if_pos rfl]
  rw [e1, e2]
  have ok := (wErr_iff C R S ks).1 hE
  have hr := (wreach_bd ok).1
  have hs := spt_le kind
  simp only [Bool.and_eq_true, Bool.not_eq_true'] at h2
  obtain ⟨⟨⟨h3, h4⟩, h5⟩, h6⟩ := h2
  rw [hv] at KV
  rw [h3] at VO; rw [h4] at VB
  rw [show rempty o.x o.y o.w o.h = false from h5] at EO
  rw [show Rk.within ⟨o.x, o.y, o.w, o.h⟩ ⟨b.x, b.y, b.w, b.h⟩ = true from h6] at WI
  exact rneeds_ok C R S _ kind _ _ _ _ _ _ _ _ (wreach C R S ks) (spt kind) (wreach C R S ks + spt kind) (wreach C R S ks + spt kind + 1) (o.grow (wreach C R S ks + spt kind + 1)).x (o.grow (wreach C R S ks + spt kind + 1)).y (o.grow (wreach C R S ks + spt kind + 1)).w (o.grow (wreach C R S ks + spt kind + 1)).h _ _ _ _ w TC KV VO VB EO WI (fun w' hb => rreach_any C R S A c ks w' (h.on hb)) (rsupport_any kind) (wrap_in _ (by omega)) (wrap_in _ (by omega)) (fun w => rgrow_any o.x o.y o.w o.h _ w) (fun w => rmeet_any _ _ _ _ b.x b.y b.w b.h w)
end Go.Proofs.Ytbakgdcajpagkaa
