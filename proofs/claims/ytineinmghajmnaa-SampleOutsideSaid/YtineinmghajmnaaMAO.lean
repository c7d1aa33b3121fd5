/- SampleOutside: pixels outside of Needs have no influence (plain law), and the walk. -/
import Derived.Test.YtineinmghajmnaaMAL
import Derived.Test.YtineinmghajmnaaMS
import Derived.Test.YtineinmghajmnaaMAN
import Derived.Test.YtineinmghajmnaaMAD
namespace Go.Proofs.Ytineinmghajmnaa
open Go.RowKit
/-- The pixels about a position lie within the support. -/
theorem tap_near_o {kind x : Int} (hv : vld kind = true) (hx : -1099511627776 ≤ x ∧ x ≤ 1099511627776) {j : Nat} (hj : j < (taps kind x).length) : x / 65536 - spt kind ≤ tapFirst kind x + (j : Int) ∧ tapFirst kind x + (j : Int) ≤ x / 65536 + spt kind := by
  unfold taps at hj
  unfold tapFirst
  rw [if_pos hv, cl_in hx] at *
  rw [fin_length, raw_length] at hj
  have h1 := (kn_le kind x hv).2.2
  have h2 := spt_le kind
  unfold kl at h1
  unfold k1 at *
  omega
theorem wpre_congr {px py : Int → Int → Px} {fx fy : Int} {us vs : List Int} (h : ∀ i j : Nat, i < vs.length → j < us.length → px (fx + (j : Int)) (fy + (i : Int)) = py (fx + (j : Int)) (fy + (i : Int))) : wpre px fx fy us vs vs.length 0 = wpre py fx fy us vs vs.length 0 := by
  unfold wpre
  have hL : ∀ k, k < vs.length → (List.range us.length).map (wcell px fx fy us vs k) = (List.range us.length).map (wcell py fx fy us vs k) := fun k hk => by
    refine List.map_congr_left fun j hj => ?_
    unfold wcell
    rw [h k j hk (List.mem_range.1 hj)]
  have hF : ∀ n, n ≤ vs.length → (List.range n).flatMap (fun k => (List.range us.length).map (wcell px fx fy us vs k)) = (List.range n).flatMap (fun k => (List.range us.length).map (wcell py fx fy us vs k)) := by
    intro n
    induction n with
    | zero => intro _; rfl
    | succ n ih =>
      intro hn
      rw [List.range_succ, List.flatMap_append, List.flatMap_append, ih (by omega)]
      simp [hL n (by omega)]
  rw [hF _ (Nat.le_refl _)]
  rfl
theorem samp_congr {px py : Int → Int → Px} {kind x y : Int} (hv : vld kind = true) (hx : -1099511627776 ≤ x ∧ x ≤ 1099511627776) (hy : -1099511627776 ≤ y ∧ y ≤ 1099511627776)
    (h : ∀ X Y : Int, (x / 65536 - spt kind ≤ X ∧ X ≤ x / 65536 + spt kind) → (y / 65536 - spt kind ≤ Y ∧ Y ≤ y / 65536 + spt kind) → px X Y = py X Y) : samp px kind x y = samp py kind x y := by
  have h2 := spt_le kind
  unfold samp
  by_cases h0 : kind = 0
  · rw [if_pos h0, if_pos h0]
    exact h _ _ (by omega) (by omega)
  · rw [if_neg h0, if_neg h0, wpre_congr fun i j hi hj => h _ _ (tap_near_o hv hx hj) (tap_near_o hv hy hi)]
/-- A quotient of 0 twice: no determinant. -/
theorem flat_no {n1 n2 u v d : Int} (hd : d ≠ 0) (hu : -16777216 ≤ u ∧ u ≤ 16777216) (hv : -16777216 ≤ v ∧ v ≤ 16777216) (hdet : d = u * n1 + v * n2) (h1 : sdiv (n1 * 4294967296) d = 0) (h2 : sdiv (n2 * 4294967296) d = 0) : False := by
  obtain ⟨r1, e1, b1⟩ := sdiv_err (n1 * 4294967296) d hd
  obtain ⟨r2, e2, b2⟩ := sdiv_err (n2 * 4294967296) d hd
  rw [h1, Int.mul_zero] at e1
  rw [h2, Int.mul_zero] at e2
  obtain ⟨m, hm0, hm⟩ : ∃ m : Int, 0 < m ∧ (d = m ∨ d = -m) := by
    rcases Int.lt_or_le 0 d with h | h
    · exact ⟨d, h, .inl rfl⟩
    · exact ⟨-d, by omega, .inr (by omega)⟩
  have c1 := mul_bd (a := u) (b := 8589934592 * n1) (A := 16777216) (B := m) hu (by omega)
  have c2 := mul_bd (a := v) (b := 8589934592 * n2) (A := 16777216) (B := m) hv (by omega)
  have f1 : u * (8589934592 * n1) = 8589934592 * (u * n1) := by grind
  have f2 : v * (8589934592 * n2) = 8589934592 * (v * n2) := by grind
  rw [f1] at c1
  rw [f2] at c2
  omega
theorem min4_le {k a b c d : Int} : min4 a b c d ≤ k ↔ (a ≤ k ∨ b ≤ k ∨ c ≤ k ∨ d ≤ k) := by unfold min4; omega
theorem le_max4 {k a b c d : Int} : k ≤ max4 a b c d ↔ (k ≤ a ∨ k ≤ b ∨ k ≤ c ∨ k ≤ d) := by unfold max4; omega
theorem far_mono {u v : Int} (h : u ≤ v) : far u ≤ far v := by unfold far afcl; omega
theorem far_flat {u k : Int} (h : far u = k) (hk : -1000000000000 ≤ k ∧ k ≤ 1000000000000) : u = k := by unfold far afcl at h; omega
/-- One coordinate of the images of a rectangle. -/
theorem axis {A C E x0 x x1 y0 y y1 : Int} (hx : x0 ≤ x ∧ x ≤ x1) (hy : y0 ≤ y ∧ y ≤ y1) :
    min4 (far (dotZ A x0 C y0 + E)) (far (dotZ A x1 C y0 + E)) (far (dotZ A x0 C y1 + E)) (far (dotZ A x1 C y1 + E)) ≤ far (dotZ A x C y + E) ∧
    far (dotZ A x C y + E) ≤ max4 (far (dotZ A x0 C y0 + E)) (far (dotZ A x1 C y0 + E)) (far (dotZ A x0 C y1 + E)) (far (dotZ A x1 C y1 + E)) := by
  have b := dot_between (A := A) (C := C) hx hy
  rw [min4_le, le_max4] at b
  rw [min4_le, le_max4]
  have m : ∀ {u v : Int}, u ≤ v → far (u + E) ≤ far (v + E) := fun h => far_mono (by omega)
  refine ⟨?_, ?_⟩
  · rcases b.1 with h | h | h | h
    · exact .inl (m h)
    · exact .inr (.inl (m h))
    · exact .inr (.inr (.inl (m h)))
    · exact .inr (.inr (.inr (m h)))
  · rcases b.2 with h | h | h | h
    · exact .inl (m h)
    · exact .inr (.inl (m h))
    · exact .inr (.inr (.inl (m h)))
    · exact .inr (.inr (.inr (m h)))
theorem all_eq {k a b c d : Int} (h1 : k ≤ min4 a b c d) (h2 : max4 a b c d ≤ k) : a = k ∧ b = k ∧ c = k ∧ d = k := by unfold min4 at h1; unfold max4 at h2; omega
theorem dot_move1 (A C x y w : Int) : dotZ A (x + w * 65536) C y = dotZ A x C y + A * w := by
  unfold dotZ
  rw [show A * (x + w * 65536) + C * y = (A * x + C * y) + 65536 * (A * w) by grind, rdiv_add _ _ _ (by omega)]
theorem dot_move2 (A C x y h : Int) : dotZ A x C (y + h * 65536) = dotZ A x C y + C * h := by
  unfold dotZ
  rw [show A * x + C * (y + h * 65536) = (A * x + C * y) + 65536 * (C * h) by grind, rdiv_add _ _ _ (by omega)]
/-- One coordinate: the box is not empty there, and holds the pixels about the image of a position. -/
theorem axis_need {A C E X Y w h x y s t lo hi P : Int} (hnz : ¬ (A = 0 ∧ C = 0)) (hw : 1 ≤ w) (hh : 1 ≤ h) (hs : 0 ≤ s ∧ s ≤ 2)
    (hx : X * 65536 ≤ x ∧ x ≤ (X + w) * 65536) (hy : Y * 65536 ≤ y ∧ y ≤ (Y + h) * 65536)
    (hlo : lo = min4 (far (dotZ A (X * 65536) C (Y * 65536) + E)) (far (dotZ A ((X + w) * 65536) C (Y * 65536) + E)) (far (dotZ A (X * 65536) C ((Y + h) * 65536) + E)) (far (dotZ A ((X + w) * 65536) C ((Y + h) * 65536) + E)))
    (hhi : hi = max4 (far (dotZ A (X * 65536) C (Y * 65536) + E)) (far (dotZ A ((X + w) * 65536) C (Y * 65536) + E)) (far (dotZ A (X * 65536) C ((Y + h) * 65536) + E)) (far (dotZ A ((X + w) * 65536) C ((Y + h) * 65536) + E)))
    (hP : P = far (dotZ A x C y + E)) (ht : 0 ≤ t ∧ t < 256) (hn : P / 65536 - s ≤ t ∧ t ≤ P / 65536 + s) :
    wn0 lo < wn1 hi ∧ wn0 lo - (s + 1) ≤ t ∧ t < wn1 hi + (s + 1) := by
  have b := axis (A := A) (C := C) (E := E) hx hy
  rw [← hlo, ← hhi, ← hP] at b
  have q1 : wn0 lo ≤ P / 65536 := by unfold wn0; omega
  have q2 : P / 65536 ≤ wn1 hi := by unfold wn1; omega
  refine ⟨?_, by omega, by omega⟩
  rcases Int.lt_or_le (wn0 lo) (wn1 hi) with g | g
  · exact g
  · exfalso
    have z1 : wn0 lo = P / 65536 := by omega
    have z2 : wn1 hi = P / 65536 := by omega
    have y1 : P / 65536 * 65536 ≤ lo := by unfold wn0 at z1; omega
    have y2 : hi ≤ P / 65536 * 65536 := by unfold wn1 at z2; omega
    generalize hk : P / 65536 * 65536 = k at *
    have hk2 : -1000000000000 ≤ k ∧ k ≤ 1000000000000 := by omega
    rw [hlo] at y1
    rw [hhi] at y2
    obtain ⟨e1, e2, e3, -⟩ := all_eq y1 y2
    have f1 := far_flat e1 hk2
    have f2 := far_flat e2 hk2
    have f3 := far_flat e3 hk2
    rw [Int.add_mul X w, dot_move1] at f2
    rw [Int.add_mul Y h, dot_move2] at f3
    have g1 : A * w = 0 := by omega
    have g2 : C * h = 0 := by omega
    rcases Int.mul_eq_zero.1 g1 with g1 | g1 <;> rcases Int.mul_eq_zero.1 g2 with g2 | g2
    · exact hnz ⟨g1, g2⟩
    all_goals omega
/-- What an inverse is. -/
theorem inv_parts {a : Af} (h : a.inv.2 = 0) : a.ok ∧ a.det ≠ 0 ∧ a.inv2.ok ∧ a.inv = (a.inv2, 0) := by
  unfold Af.inv at *
  split at h
  · rename_i h1
    split at h
    · cases h
    · rename_i h2
      split at h
      · rename_i h3
        split at h
        · rename_i h4
          exact ⟨h1, h2, h4, by rw [if_pos h1, if_neg h2, if_pos h3, if_pos h4]⟩
        · cases h
      · cases h
  · cases h
theorem inv_full {a : Af} (h : a.inv.2 = 0) : a.inv.1.ok ∧ ¬ (a.inv.1.a = 0 ∧ a.inv.1.c = 0) ∧ ¬ (a.inv.1.b = 0 ∧ a.inv.1.d = 0) := by
  obtain ⟨h1, h2, h3, h4⟩ := inv_parts h
  obtain ⟨l1, l2, l3, l4, -, -⟩ := h1
  rw [h4]
  refine ⟨h3, fun ⟨z1, z2⟩ => ?_, fun ⟨z1, z2⟩ => ?_⟩
  · exact flat_no (n1 := a.d) (n2 := -a.c) h2 l1 l2 (by unfold Af.det; grind) z1 z2
  · exact flat_no (n1 := -a.b) (n2 := a.a) h2 l3 l4 (by unfold Af.det; grind) z1 z2
theorem rempty_no {x y p q : Int} (h : ((-1048576 ≤ x ∧ x ≤ 1048576) ∧ 1 ≤ p ∧ p ≤ 1048576 - x) ∧ ((-1048576 ≤ y ∧ y ≤ 1048576) ∧ 1 ≤ q ∧ q ≤ 1048576 - y)) : rempty x y p q = false := by
  unfold rempty
  rw [(rvalid_iff x y p q).2 (by omega)]
  simp
  omega
theorem wn_in (lo hi : Int) : -1048576 ≤ wn0 lo ∧ wn1 hi ≤ 1048576 := by unfold wn0 wn1; omega
/-- What Needs answers where Draw draws. -/
theorem need_is {a : Af} {kind : Int} {o : Rk} (hv : rvalid o.x o.y o.w o.h = true) (hk : vld kind = true) (ha : a.inv.2 = 0) : sNeed a kind o = (Rk.grow ⟨(a.inv.1.boxE ⟨o.x, o.y, o.w, o.h⟩).1.x, (a.inv.1.boxE ⟨o.x, o.y, o.w, o.h⟩).1.y, (a.inv.1.boxE ⟨o.x, o.y, o.w, o.h⟩).1.w, (a.inv.1.boxE ⟨o.x, o.y, o.w, o.h⟩).1.h⟩ (spt kind + 1), 0) := by
  unfold sNeed
  rw [if_pos hv, if_pos hk, if_pos ha, if_pos]
  have sv := (rvalid_iff _ _ _ _).1 hv
  unfold Af.boxE
  rw [if_pos (inv_full ha).1, if_pos (show Rc.ok ⟨o.x, o.y, o.w, o.h⟩ from sv)]
  split <;> rfl
theorem grow_valid (r : Rk) (n : Int) : rvalid (r.grow n).x (r.grow n).y (r.grow n).w (r.grow n).h = true := by
  unfold Rk.grow
  split
  · decide
  · rcases rkB_ok (r.x - lim4 n) (r.y - lim4 n) (r.x + r.w + lim4 n) (r.y + r.h + lim4 n) with h | h
    · rw [h]; decide
    · have := full_bd (show rempty _ _ _ _ = false from h)
      exact (rvalid_iff _ _ _ _).2 (by omega)
theorem rect_grow {x0 x1 y0 y1 s X Y : Int} (hx : x0 < x1) (hy : y0 < y1) (bx : -1048576 ≤ x0 ∧ x1 ≤ 1048576) (bY : -1048576 ≤ y0 ∧ y1 ≤ 1048576) (hs : 0 ≤ s ∧ s ≤ 2) (hX : x0 - (s + 1) ≤ X ∧ X < x1 + (s + 1)) (hY : y0 - (s + 1) ≤ Y ∧ Y < y1 + (s + 1)) (iX : 0 ≤ X ∧ X < 256) (iY : 0 ≤ Y ∧ Y < 256) :
    (Rk.grow ⟨(rectOf x0 x1 y0 y1).x, (rectOf x0 x1 y0 y1).y, (rectOf x0 x1 y0 y1).w, (rectOf x0 x1 y0 y1).h⟩ (s + 1)).has X Y = true := by
  have e : rectOf x0 x1 y0 y1 = ⟨x0, y0, x1 - x0, y1 - y0⟩ := by unfold rectOf; rw [if_neg (by omega)]
  rw [e]
  have hm : lim4 (s + 1) = s + 1 := by unfold lim4; omega
  have he : Rk.empty ⟨x0, y0, x1 - x0, y1 - y0⟩ = false := rempty_no (x := x0) (y := y0) (p := x1 - x0) (q := y1 - y0) (by omega)
  unfold Rk.grow
  rw [he, if_neg (by simp), hm]
  unfold rkB
  dsimp only
  rw [if_neg (by omega)]
  unfold Rk.has
  dsimp only
  rw [decide_eq_true_eq]
  omega
/-- Each pixel of the image that counts lies in Needs. -/
theorem need_has {a : Af} {kind : Int} {o : Rk} {X Y tx ty : Int} (hv : rvalid o.x o.y o.w o.h = true) (hk : vld kind = true) (ha : a.inv.2 = 0) (hX : 0 ≤ X ∧ X < o.w) (hY : 0 ≤ Y ∧ Y < o.h) (ix : 0 ≤ tx ∧ tx < 256) (iy : 0 ≤ ty ∧ ty < 256)
    (nx : (a.inv.1.app ((o.x + X) * 65536 + 32768) ((o.y + Y) * 65536 + 32768)).1 / 65536 - spt kind ≤ tx ∧ tx ≤ (a.inv.1.app ((o.x + X) * 65536 + 32768) ((o.y + Y) * 65536 + 32768)).1 / 65536 + spt kind)
    (ny : (a.inv.1.app ((o.x + X) * 65536 + 32768) ((o.y + Y) * 65536 + 32768)).2 / 65536 - spt kind ≤ ty ∧ ty ≤ (a.inv.1.app ((o.x + X) * 65536 + 32768) ((o.y + Y) * 65536 + 32768)).2 / 65536 + spt kind) : (sNeed a kind o).1.has tx ty = true := by
  rw [need_is hv hk ha]
  dsimp only
  have sv := (rvalid_iff _ _ _ _).1 hv
  obtain ⟨io, z1, z2⟩ := inv_full ha
  have hsp := spt_le kind
  unfold Af.boxE
  rw [if_pos io, if_pos (show Rc.ok ⟨o.x, o.y, o.w, o.h⟩ from sv), if_neg (show ¬ (o.w = 0 ∨ o.h = 0) by omega)]
  dsimp only
  rw [Af.app_ok io (by omega) (by omega)] at nx ny
  unfold Af.corners
  dsimp only
  rw [Af.app_ok io (by omega) (by omega), Af.app_ok io (by omega) (by omega), Af.app_ok io (by omega) (by omega), Af.app_ok io (by omega) (by omega)]
  unfold af_box4
  dsimp only
  dsimp only at nx ny
  have k1 := axis_need z1 (show 1 ≤ o.w by omega) (show 1 ≤ o.h by omega) hsp (show o.x * 65536 ≤ (o.x + X) * 65536 + 32768 ∧ (o.x + X) * 65536 + 32768 ≤ (o.x + o.w) * 65536 by omega) (show o.y * 65536 ≤ (o.y + Y) * 65536 + 32768 ∧ (o.y + Y) * 65536 + 32768 ≤ (o.y + o.h) * 65536 by omega) rfl rfl rfl ix nx
  have k2 := axis_need z2 (show 1 ≤ o.w by omega) (show 1 ≤ o.h by omega) hsp (show o.x * 65536 ≤ (o.x + X) * 65536 + 32768 ∧ (o.x + X) * 65536 + 32768 ≤ (o.x + o.w) * 65536 by omega) (show o.y * 65536 ≤ (o.y + Y) * 65536 + 32768 ∧ (o.y + Y) * 65536 + 32768 ≤ (o.y + o.h) * 65536 by omega) rfl rfl rfl iy ny
  exact rect_grow k1.1 k2.1 (wn_in _ _) (wn_in _ _) hsp k1.2 k2.2 ix iy
/-- The image with another pixel outside of a rectangle. -/
def outJ (nr : Rk) (W : Int) (ps : List Px) (p : Px) : List Px := (List.range ps.length).map fun k : Nat => if nr.has ((k : Int) % W) ((k : Int) / W) = true then pat ps k else p
theorem outJ_length (nr : Rk) (W : Int) (ps : List Px) (p : Px) : (outJ nr W ps p).length = ps.length := by simp [outJ]
theorem outJ_pat (nr : Rk) (W : Int) (ps : List Px) (p : Px) {k : Nat} (h : k < ps.length) : pat (outJ nr W ps p) k = if nr.has ((k : Int) % W) ((k : Int) / W) = true then pat ps k else p := by
  simp [pat, outJ, h]
theorem outJ_iok {nr : Rk} {W H : Int} {ps : List Px} {p : Px} (io : IOk W H ps) (hp : p.ok) : IOk W H (outJ nr W ps p) := by
  refine ⟨io.w0, io.w1, io.h0, io.h1, io.z, by rw [outJ_length]; exact io.n, fun i hi => ?_⟩
  rw [outJ_length] at hi
  rw [outJ_pat _ _ _ _ hi]
  split
  · exact io.ok i hi
  · exact hp
theorem outJ_pick {nr : Rk} {W H : Int} {ps : List Px} {p : Px} (io : IOk W H ps) {X Y : Int} (h : (0 ≤ X ∧ X < 256) → (0 ≤ Y ∧ Y < 256) → nr.has X Y = true) : pick W H (outJ nr W ps p) X Y = pick W H ps X Y := by
  by_cases hin : 0 ≤ X ∧ X < W ∧ 0 ≤ Y ∧ Y < H
  · rw [pick_in hin, pick_in hin]
    have hi := idx_lt hin
    have hn := io.n
    have w1 := io.w1; have h1 := io.h1
    have hk : (Y * W + X).toNat < ps.length := by omega
    rw [outJ_pat _ _ _ _ hk, show (((Y * W + X).toNat : Nat) : Int) = Y * W + X by omega, (place_mod (y := Y) ⟨hin.1, hin.2.1⟩).1, (place_mod (y := Y) ⟨hin.1, hin.2.1⟩).2, if_pos (h (by omega) (by omega))]
  · rw [pick_out hin, pick_out hin]
/-- Pixels outside of Needs have no influence. -/
theorem outside_law {W H : Int} {ps : List Px} {a : Af} {kind : Int} {o : Rk} {p : Px} (s : SOk W H ps a kind o) : sPic W H (outJ (sNeed a kind o).1 W ps p) a kind o = sPic W H ps a kind o := by
  have sv := (rvalid_iff _ _ _ _).1 s.v
  unfold sPic
  refine grid_congr (fun X Y x0 x1 y0 y1 => ?_) (by omega)
  unfold sdot
  have b := app_bd a.inv.1 ((o.x + X) * 65536 + 32768) ((o.y + Y) * 65536 + 32768)
  refine samp_congr s.k (by omega) (by omega) fun tx ty nx ny => ?_
  exact outJ_pick s.i fun ix iy => need_has s.v s.k s.a ⟨x0, x1⟩ ⟨y0, y1⟩ ix iy nx ny
/-- An image, with what a slice without an address says. -/
def ImgN (w : World) (v : Value) (x : Int × Int × List Px) : Prop := ∃ A n c, v = .agg #[.int .i64 x.1, .int .i64 x.2.1, .slice A n c] ∧ Pixs w w.heap.size (.slice A n c) x.2.2 ∧ (A = none → c = 0)
theorem walk_soutside (v0 : Value) (x0 : Int × Int × List Px) (v1 : Value) (a : Af) (kind : Int) (v3 : Value) (o : Rk) (v4 : Value) (p : Px) (w : World) (h0 : ImgN w v0 x0) (h1 : AfV v1 a) (h3 : RkV v3 o) (h4 : PxV v4 p) :
    Calls Try.prog 8 #[v0, v1, .int .i64 kind, v3, v4] w fun e w' => e = .returned (.bool true) ∧ Below w.heap.size w w' := by
  obtain ⟨W, H, ps⟩ := x0
  obtain ⟨A0, n0, c0, rfl, hp, hnil⟩ := h0
  obtain rfl := hp.len
  obtain rfl := h1
  obtain ⟨rfl, -⟩ := h3
  obtain ⟨rfl, -⟩ := h4
  have TV := fun w' => pvalid_any p.r p.g p.b p.a w'
  by_cases h : sDE W H ps a kind o = 0 ∧ pxOk p = true
  rotate_left
  · have tt : (sDE W H ps a kind o != 0) = true ∨ ((sDE W H ps a kind o != 0) = false ∧ pxOk p = false) := by
      by_cases h1 : sDE W H ps a kind o = 0
      · refine .inr ⟨by simp [h1], ?_⟩
        cases hq : pxOk p
        · rfl
        · exact absurd ⟨h1, hq⟩ h
      · exact .inl (by simpa using h1)
    exact soutside_e W H kind _ _ _ _ a o p A0 ps.length c0 _ w tt (fun w' hb => sdraw_any W H A0 c0 ps a kind o w' (hp.on hb)) TV awake_any
  obtain ⟨h1, h2⟩ := h
  have s := sDE_iff.1 h1
  have hpo := (pxOk_iff p).1 h2
  have io := s.i
  have i0 := io.w0; have i1 := io.w1; have i2 := io.h0; have i3 := io.h1; have hn := io.n; have hz := io.z
  have hl : ps.length ≤ 65536 := by
    have : W * H ≤ 256 * 256 := Int.mul_le_mul i1 i3 i2 (by omega)
    omega
  have sJ : SOk W H (outJ (sNeed a kind o).1 W ps p) a kind o := ⟨outJ_iok io hpo, s.v, s.w, s.h, s.k, s.a⟩
  have e9 := need_is s.v s.k s.a
  have e8 : (sNeed a kind o).2 = 0 := by rw [e9]
  have hnv : rvalid (sNeed a kind o).1.x (sNeed a kind o).1.y (sNeed a kind o).1.w (sNeed a kind o).1.h = true := by rw [e9]; exact grow_valid _ _
  have TC := fun w' (hb : Below w.heap.size w w') => icheck_any W H A0 ps.length c0 ps w' (hp.on hb)
  rw [(ichk_iff W H ps).2 io] at TC
  have TN := fun w' => needs_any a kind o w'
  rw [e8] at TN
  change ∀ w', Calls _ _ _ w' fun e w'' => e = .returned (.bool (pxOk p)) ∧ Below w'.heap.size w' w'' at TV
  rw [h2] at TV
  obtain ⟨W1, H1, L, k1, k2⟩ : ∃ W1 H1 L, (∀ w', ImPost (sDE W H ps a kind o) (sW W H ps a kind o) (sH W H ps a kind o) (sL W H ps a kind o) w' = ImPost 0 W1 H1 L w') ∧ ∀ w', ImPost (sDE W H (outJ (sNeed a kind o).1 W ps p) a kind o) (sW W H (outJ (sNeed a kind o).1 W ps p) a kind o) (sH W H (outJ (sNeed a kind o).1 W ps p) a kind o) (sL W H (outJ (sNeed a kind o).1 W ps p) a kind o) w' = ImPost 0 W1 H1 L w' := by
    cases ho : o.empty
    · have g1 : sGo W H ps a kind o = true := by unfold sGo; rw [h1, ho]; rfl
      have g2 : sGo W H (outJ (sNeed a kind o).1 W ps p) a kind o = true := by unfold sGo; rw [sDE_iff.2 sJ, ho]; rfl
      exact ⟨_, _, _, fun w' => sGo_yes g1 w', fun w' => by rw [sGo_yes g2 w', outside_law s]⟩
    · have g1 : sGo W H ps a kind o = false := by unfold sGo; rw [ho]; simp
      have g2 : sGo W H (outJ (sNeed a kind o).1 W ps p) a kind o = false := by unfold sGo; rw [ho]; simp
      exact ⟨0, 0, [], fun w' => by rw [sGo_no g1 w', h1], fun w' => by rw [sGo_no g2 w', sDE_iff.2 sJ]⟩
  refine soutside_ok W H kind W1 H1 a o (sNeed a kind o).1 p A0 ps.length c0 ps (outJ (sNeed a kind o).1 W ps p) L w rfl hp hnil hl ?_ hnv (outJ_length _ _ _ _) (fun k hk => outJ_pat _ _ _ _ hk) (fun w' hb => ?_) TV TC TN (fun w' A' n' c' hq => ?_) awake_any
  · rcases Int.lt_or_le 0 W with g | g
    · exact .inr ⟨g, i1⟩
    · left
      have : W = 0 := by omega
      rw [this, Int.zero_mul] at hn
      omega
  · have q := sdraw_any W H A0 c0 ps a kind o w' (hp.on hb)
    rw [k1] at q
    exact q
  · obtain rfl := hq.len
    have q := sdraw_any W H A' c' _ a kind o w' hq
    rw [k2] at q
    exact q
end Go.Proofs.Ytineinmghajmnaa
namespace Go.Proofs.Ytineinmghajmnaa
open Go.ChangeShapes Go.WideShapes Go.RowKit Go.Deep
set_option maxRecDepth 100000 in
theorem open_imgn {H : Type} {enc : TypeId × Value → H} {W : World} {base b0 : Nat} {r : Reach} {v : Value} {d : DataW H} {p : List MemPlace} (hv : Value.okWide Try.prog W r b0 24 v) (h : DataW.Trod enc Try.prog W base (fun _ => true) true 24 v d p) : ∃ x, ImgN W v x := by
  obtain ⟨v0, v1, v2, y0, y1, y2, n, rfl, e1, e2, t0, t1, t2⟩ := Joins.open_agg3 Try.underlying24 (by kernel_rfl) (by kernel_rfl) hv h
  obtain ⟨a, ha, _, wa⟩ := DataW.trod_int Try.underlying3 t0
  obtain ⟨b, hb, _, wb⟩ := DataW.trod_int Try.underlying3 t1
  obtain ⟨A, n', c, ps, rfl, hp⟩ := open_pixs t2
  injection ha with ha _
  injection hb with hb _
  subst ha hb
  refine ⟨(a, b, ps), A, n', c, rfl, hp, ?_⟩
  rcases open_slice Try.underlying22 t2 with ⟨hcs, _⟩ | ⟨a', len, cap, m, n2, D, Pl, hcs, _⟩
  · simp at hcs
    exact fun _ => hcs.2.2
  · simp at hcs
    intro e
    rw [e] at hcs
    exact absurd hcs.1 (by simp)
end Go.Proofs.Ytineinmghajmnaa
