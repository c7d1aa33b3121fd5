/- The weights at the center of a pixel: one pixel alone. No program in sight. -/
import Derived.Test.YtbakgdcajpagkaaML
import Derived.Test.YtbakgdcajpagkaaMR
import Derived.Test.YtbakgdcajpagkaaMD
import Derived.Laws.CopyRow
import Derived.Laws.CopyOwn
import Derived.Test.YtbakgdcajpagkaaMU
namespace Go.Proofs.Ytbakgdcajpagkaa
theorem cl_center {X : Int} (h : -8388608 ≤ X ∧ X ≤ 8388608) : cl (X * 65536 + 32768) = X * 65536 + 32768 := by unfold cl; omega
theorem wt_center (k : Int) (hk : k = 0 ∨ k = 1 ∨ k = 2 ∨ k = 3) : wt k 0 = 65536 := by rcases hk with rfl | rfl | rfl | rfl <;> decide +kernel
/-- A kernel whose support is one pixel. -/
theorem tap_one {kind X : Int} (hk : kind = 0 ∨ kind = 1 ∨ kind = 3) (h : -8388608 ≤ X ∧ X ≤ 8388608) : tapFirst kind (X * 65536 + 32768) = X ∧ taps kind (X * 65536 + 32768) = [65536] := by
  have hv : vld kind = true := by unfold vld; simp; omega
  have hs : spt kind = 1 := by rcases hk with rfl | rfl | rfl <;> rfl
  have e1 : k1 kind (X * 65536 + 32768) = X := by unfold k1; rw [hs]; omega
  have e2 : kn kind (X * 65536 + 32768) = 1 := by unfold kn kl; rw [e1, hs]; omega
  constructor
  · unfold tapFirst; rw [hv, if_pos rfl, cl_center h, e1]
  · unfold taps
    rw [hv, if_pos rfl, cl_center h]
    have e3 : raw kind (X * 65536 + 32768) = [65536] := by
      unfold raw
      rw [e2, e1]
      simp only [List.range_succ, List.range_zero, List.nil_append, List.map_cons, List.map_nil]
      rw [show X * 65536 + 32768 - ((X + ((0 : Nat) : Int)) * 65536 + 32768) = 0 by omega, wt_center kind (by omega)]
    rw [e3]
    decide +kernel
/-- The cubic kernel. -/
theorem tap_two {X : Int} (h : -8388608 ≤ X ∧ X ≤ 8388608) : tapFirst 2 (X * 65536 + 32768) = X - 1 ∧ taps 2 (X * 65536 + 32768) = [0, 65536, 0] := by
  have hv : vld 2 = true := rfl
  have hs : spt 2 = 2 := rfl
  have e1 : k1 2 (X * 65536 + 32768) = X - 1 := by unfold k1; rw [hs]; omega
  have e2 : kn 2 (X * 65536 + 32768) = 3 := by unfold kn kl; rw [e1, hs]; omega
  constructor
  · unfold tapFirst; rw [hv, if_pos rfl, cl_center h, e1]
  · unfold taps
    rw [hv, if_pos rfl, cl_center h]
    have e3 : raw 2 (X * 65536 + 32768) = [0, 65536, 0] := by
      unfold raw
      rw [e2, e1]
      simp only [List.range_succ, List.range_zero, List.nil_append, List.map_cons, List.map_nil, List.cons_append]
      rw [show X * 65536 + 32768 - ((X - 1 + ((0 : Nat) : Int)) * 65536 + 32768) = 65536 by omega, show X * 65536 + 32768 - ((X - 1 + ((0 + 1 : Nat) : Int)) * 65536 + 32768) = 0 by omega, show X * 65536 + 32768 - ((X - 1 + ((0 + 1 + 1 : Nat) : Int)) * 65536 + 32768) = -65536 by omega]
      decide +kernel
    rw [e3]
    decide +kernel
/-- A clear pixel is a zero pixel. -/
def pclr (p : Px) : Px := if p.a = 0 then Px.zero else p
theorem rdiv_mul' (a b : Int) (hb : 0 < b) : rdiv (b * a) b = a := by
  have h1 := rdiv_lo (b * a) b a hb (Int.le_refl _); have h2 := rdiv_hi (b * a) b a hb (Int.le_refl _)
  omega
/-- The mean, where one pixel alone has a weight. -/
theorem blend_one {p : Px} (h : p.ok) : blend (65536 * 65536 * p.a) (65536 * 65536 * p.a * p.r) (65536 * 65536 * p.a * p.g) (65536 * 65536 * p.a * p.b) = pclr p := by
  obtain ⟨h1, h2, h3, h4⟩ := h
  have e : lim16 (rdiv (65536 * 65536 * p.a) 4294967296) = p.a := by
    rw [show (65536 : Int) * 65536 * p.a = 4294967296 * p.a by omega, rdiv_mul' _ _ (by omega)]
    exact lim16_id _ h4
  unfold blend pclr
  rw [e]
  by_cases h0 : p.a = 0
  · rw [if_pos h0, if_pos h0]
  · rw [if_neg h0, if_neg h0]
    have hp : 0 < 65536 * 65536 * p.a := by omega
    rw [rdiv_mul' _ _ hp, rdiv_mul' _ _ hp, rdiv_mul' _ _ hp, lim16_id _ h1, lim16_id _ h2, lim16_id _ h3]
/-- Zero weights count nothing. -/
theorem mean_zero_cons (p : Px) (l : List (Int × Px)) : wmean ((0, p) :: l) = wmean l := by
  unfold wmean bsA bsR bsG bsB
  simp
theorem mean_one (p : Px) (h : p.ok) (l : List (Int × Px)) (hl : ∀ t ∈ l, t.1 = 0) : wmean ((65536 * 65536, p) :: l) = pclr p := by
  have hz : ∀ f : (Int × Px) → Int, (∀ t : Int × Px, t.1 = 0 → f t = 0) → (l.map f).sum = 0 := by
    intro f hf
    induction l with
    | nil => rfl
    | cons t l ih =>
      rw [List.map_cons, List.sum_cons, hf t (hl t (by simp)), ih (fun u hu => hl u (by simp [hu]))]
      rfl
  rw [← blend_one h]
  unfold wmean bsA bsR bsG bsB
  simp only [List.map_cons, List.sum_cons]
  rw [hz _ (fun t ht => by rw [ht]; simp), hz _ (fun t ht => by rw [ht]; simp), hz _ (fun t ht => by rw [ht]; simp), hz _ (fun t ht => by rw [ht]; simp)]
  simp
/-- The pixel of a center: the pixel of that place. -/
theorem center_mean {px : Int → Int → Px} {kind X Y : Int} (hk : kind = 0 ∨ kind = 1 ∨ kind = 2 ∨ kind = 3) (hX : -8388608 ≤ X ∧ X ≤ 8388608) (hY : -8388608 ≤ Y ∧ Y ≤ 8388608) (hp : (px X Y).ok) :
    wmean (wpre px (tapFirst kind (X * 65536 + 32768)) (tapFirst kind (Y * 65536 + 32768)) (taps kind (X * 65536 + 32768)) (taps kind (Y * 65536 + 32768)) (taps kind (Y * 65536 + 32768)).length 0) = pclr (px X Y) := by
  rcases (show kind = 2 ∨ (kind = 0 ∨ kind = 1 ∨ kind = 3) by omega) with rfl | hk
  · rw [(tap_two hX).1, (tap_two hX).2, (tap_two hY).1, (tap_two hY).2]
    have e : wpre px (X - 1) (Y - 1) [0, 65536, 0] [0, 65536, 0] [(0 : Int), 65536, 0].length 0 =
      [(0, px (X - 1 + 0) (Y - 1 + 0)), (0, px (X - 1 + 1) (Y - 1 + 0)), (0, px (X - 1 + 2) (Y - 1 + 0)), (0, px (X - 1 + 0) (Y - 1 + 1)), (65536 * 65536, px (X - 1 + 1) (Y - 1 + 1)), (0, px (X - 1 + 2) (Y - 1 + 1)), (0, px (X - 1 + 0) (Y - 1 + 2)), (0, px (X - 1 + 1) (Y - 1 + 2)), (0, px (X - 1 + 2) (Y - 1 + 2))] := rfl
    rw [e, mean_zero_cons, mean_zero_cons, mean_zero_cons, mean_zero_cons, show X - 1 + 1 = X by omega, show Y - 1 + 1 = Y by omega]
    exact mean_one _ hp _ (fun t ht => by simp at ht; rcases ht with rfl | rfl | rfl | rfl <;> rfl)
  · rw [(tap_one hk hX).1, (tap_one hk hX).2, (tap_one hk hY).1, (tap_one hk hY).2]
    have e : wpre px X Y [65536] [65536] [(65536 : Int)].length 0 = [(65536 * 65536, px (X + 0) (Y + 0))] := rfl
    rw [e, Int.add_zero, Int.add_zero]
    exact mean_one _ hp _ (fun t ht => by cases ht)
end Go.Proofs.Ytbakgdcajpagkaa
namespace Go.Proofs.Ytbakgdcajpagkaa
open Go.RowKit

/-- The error of Crop. -/
def cerr (chk x y p q : Int) : Int := if chk = 0 then (if rvalid x y p q then (if 256 < p ∨ 256 < q then 15 else 0) else 2) else chk
def cside (p q a : Int) : Int := if p = 0 ∨ q = 0 then 0 else a
def cropL (W H : Int) (ps : List Px) (x y p q : Int) : List Px := gridL p q fun a b => pick W H ps (x + a) (y + b)
theorem cropL_nil {W H : Int} {ps : List Px} {x y p q : Int} (h : p = 0 ∨ q = 0) : cropL W H ps x y p q = [] := by
  unfold cropL gridL
  have : p * q = 0 := by rcases h with rfl | rfl <;> simp
  rw [this]; rfl

set_option maxHeartbeats 4000000 in
theorem crop_chk (W H : Int) (A : Option Addr) (c : Nat) (ps : List Px) (x y p q : Int) (w : World) (h : Pixs w w.heap.size (.slice A ps.length c) ps) (hc : ichk W H ps ≠ 0) :
    Calls Try.prog 24 #[.agg #[.int .i64 W, .int .i64 H, .slice A ps.length c], .agg #[.int .i64 x, .int .i64 y, .int .i64 p, .int .i64 q]] w (ImPost (ichk W H ps) 0 0 [] w) := by
  generalize hE : ichk W H ps = ch at *
  have HE := Lib.hid hE; clear hE
  have hne : (ch != 0) = true := by simp [hc]
  have HP := Lib.hid h; clear h
  go_enter Try.func24, Try.ntmps24
  go_upto_region 1 with fail
  obtain ⟨hb1, hb2, hb3, hB, hz0⟩ := three_boxes w #[.int .i64 W, .int .i64 H, .slice A ps.length c] #[.int .i64 x, .int .i64 y, .int .i64 p, .int .i64 q] #[.int .i64 0, .int .i64 0, .slice none 0 0] 40 34 40 _ rfl
  generalize World.alloc (World.alloc (w.alloc _) _) _ = w0 at *
  obtain ⟨⟨i1, i2, i3⟩, _, _, _⟩ := hb1.three
  go_wp2_with fail
  refine (icheck_any W H A ps.length c ps _ (HP.out.on hB)).mono ?_
  rintro e w1 ⟨rfl, hb⟩
  replace hb1 := hb1.below hb; replace hb2 := hb2.below hb; replace hb3 := hb3.below hb; replace hB := bel_trans hB hb
  have hz1 := hb.size
  clear i1 i2 i3 hb
  rw [HE.out]
  obtain ⟨⟨r1, r2, r3⟩, rf1, rf2, rf3⟩ := hb3.three
  go_wp2_with fail
  refine bodyPost_ret (v := .tuple #[.agg #[.int .i64 0, .int .i64 0, .slice none 0 0], .int .i64 ch]) (by simp [results, Try.results24, go_sem, r1, r2, r3]) rfl ?_
  exact ⟨_, _, _, rfl, PRow.nil _ _, set3_below hB (by omega) _ _ _⟩
set_option maxHeartbeats 4000000 in
theorem crop_inv (W H : Int) (A : Option Addr) (c : Nat) (ps : List Px) (x y p q : Int) (w : World) (h : Pixs w w.heap.size (.slice A ps.length c) ps) (hc : ichk W H ps = 0) (hv : rvalid x y p q = false) :
    Calls Try.prog 24 #[.agg #[.int .i64 W, .int .i64 H, .slice A ps.length c], .agg #[.int .i64 x, .int .i64 y, .int .i64 p, .int .i64 q]] w (ImPost 2 0 0 [] w) := by
  have HC := Lib.hid hc; have HV := Lib.hid hv; clear hc hv
  have HP := Lib.hid h; clear h
  go_enter Try.func24, Try.ntmps24
  go_upto_region 1 with fail
  obtain ⟨hb1, hb2, hb3, hB, hz0⟩ := three_boxes w #[.int .i64 W, .int .i64 H, .slice A ps.length c] #[.int .i64 x, .int .i64 y, .int .i64 p, .int .i64 q] #[.int .i64 0, .int .i64 0, .slice none 0 0] 40 34 40 _ rfl
  generalize World.alloc (World.alloc (w.alloc _) _) _ = w0 at *
  obtain ⟨⟨i1, i2, i3⟩, _, _, _⟩ := hb1.three
  go_wp2_with fail
  refine (icheck_any W H A ps.length c ps _ (HP.out.on hB)).mono ?_
  rintro e w1 ⟨rfl, hb⟩
  replace hb1 := hb1.below hb; replace hb2 := hb2.below hb; replace hb3 := hb3.below hb; replace hB := bel_trans hB hb
  have hz1 := hb.size
  clear i1 i2 i3 hb
  rw [HC.out]
  obtain ⟨⟨c1, c2, c3, c4⟩, _, _, _, _⟩ := hb2.four
  go_wp2_with fail
  refine (valid_any x y p q _).mono ?_
  rintro e w2 ⟨rfl, hb⟩
  rw [HV.out]
  replace hb1 := hb1.below hb; replace hb2 := hb2.below hb; replace hb3 := hb3.below hb; replace hB := bel_trans hB hb
  have hz2 := hb.size
  clear c1 c2 c3 c4 hb
  obtain ⟨⟨r1, r2, r3⟩, rf1, rf2, rf3⟩ := hb3.three
  go_wp2_with fail
  refine bodyPost_ret (v := .tuple #[.agg #[.int .i64 0, .int .i64 0, .slice none 0 0], .int .i64 2]) (by simp [results, Try.results24, go_sem, r1, r2, r3]) rfl ?_
  exact ⟨_, _, _, rfl, PRow.nil _ _, set3_below hB (by omega) _ _ _⟩
set_option maxHeartbeats 4000000 in
theorem crop_bigw (W H : Int) (A : Option Addr) (c : Nat) (ps : List Px) (x y p q : Int) (w : World) (h : Pixs w w.heap.size (.slice A ps.length c) ps) (hc : ichk W H ps = 0) (hv : rvalid x y p q = true) (hg : 256 < p) :
    Calls Try.prog 24 #[.agg #[.int .i64 W, .int .i64 H, .slice A ps.length c], .agg #[.int .i64 x, .int .i64 y, .int .i64 p, .int .i64 q]] w (ImPost 15 0 0 [] w) := by
  have HC := Lib.hid hc; have HV := Lib.hid hv; clear hc hv
  have HP := Lib.hid h; clear h
  go_enter Try.func24, Try.ntmps24
  go_upto_region 1 with fail
  obtain ⟨hb1, hb2, hb3, hB, hz0⟩ := three_boxes w #[.int .i64 W, .int .i64 H, .slice A ps.length c] #[.int .i64 x, .int .i64 y, .int .i64 p, .int .i64 q] #[.int .i64 0, .int .i64 0, .slice none 0 0] 40 34 40 _ rfl
  generalize World.alloc (World.alloc (w.alloc _) _) _ = w0 at *
  obtain ⟨⟨i1, i2, i3⟩, _, _, _⟩ := hb1.three
  go_wp2_with fail
  refine (icheck_any W H A ps.length c ps _ (HP.out.on hB)).mono ?_
  rintro e w1 ⟨rfl, hb⟩
  replace hb1 := hb1.below hb; replace hb2 := hb2.below hb; replace hb3 := hb3.below hb; replace hB := bel_trans hB hb
  have hz1 := hb.size
  clear i1 i2 i3 hb
  rw [HC.out]
  obtain ⟨⟨c1, c2, c3, c4⟩, _, _, _, _⟩ := hb2.four
  go_wp2_with fail
  refine (valid_any x y p q _).mono ?_
  rintro e w2 ⟨rfl, hb⟩
  rw [HV.out]
  replace hb1 := hb1.below hb; replace hb2 := hb2.below hb; replace hb3 := hb3.below hb; replace hB := bel_trans hB hb
  have hz2 := hb.size
  clear c1 c2 c3 c4 hb
  obtain ⟨⟨c1, c2, c3, c4⟩, _, _, _, _⟩ := hb2.four
  obtain ⟨⟨r1, r2, r3⟩, rf1, rf2, rf3⟩ := hb3.three
  go_wp2_with fail
  refine bodyPost_ret (v := .tuple #[.agg #[.int .i64 0, .int .i64 0, .slice none 0 0], .int .i64 15]) (by simp [results, Try.results24, go_sem, r1, r2, r3]) rfl ?_
  exact ⟨_, _, _, rfl, PRow.nil _ _, set3_below hB (by omega) _ _ _⟩
set_option maxHeartbeats 4000000 in
theorem crop_bigh (W H : Int) (A : Option Addr) (c : Nat) (ps : List Px) (x y p q : Int) (w : World) (h : Pixs w w.heap.size (.slice A ps.length c) ps) (hc : ichk W H ps = 0) (hv : rvalid x y p q = true) (hg : p ≤ 256 ∧ 256 < q) :
    Calls Try.prog 24 #[.agg #[.int .i64 W, .int .i64 H, .slice A ps.length c], .agg #[.int .i64 x, .int .i64 y, .int .i64 p, .int .i64 q]] w (ImPost 15 0 0 [] w) := by
  have HC := Lib.hid hc; have HV := Lib.hid hv; clear hc hv
  have HP := Lib.hid h; clear h
  go_enter Try.func24, Try.ntmps24
  go_upto_region 1 with fail
  obtain ⟨hb1, hb2, hb3, hB, hz0⟩ := three_boxes w #[.int .i64 W, .int .i64 H, .slice A ps.length c] #[.int .i64 x, .int .i64 y, .int .i64 p, .int .i64 q] #[.int .i64 0, .int .i64 0, .slice none 0 0] 40 34 40 _ rfl
  generalize World.alloc (World.alloc (w.alloc _) _) _ = w0 at *
  obtain ⟨⟨i1, i2, i3⟩, _, _, _⟩ := hb1.three
  go_wp2_with fail
  refine (icheck_any W H A ps.length c ps _ (HP.out.on hB)).mono ?_
  rintro e w1 ⟨rfl, hb⟩
  replace hb1 := hb1.below hb; replace hb2 := hb2.below hb; replace hb3 := hb3.below hb; replace hB := bel_trans hB hb
  have hz1 := hb.size
  clear i1 i2 i3 hb
  rw [HC.out]
  obtain ⟨⟨c1, c2, c3, c4⟩, _, _, _, _⟩ := hb2.four
  go_wp2_with fail
  refine (valid_any x y p q _).mono ?_
  rintro e w2 ⟨rfl, hb⟩
  rw [HV.out]
  replace hb1 := hb1.below hb; replace hb2 := hb2.below hb; replace hb3 := hb3.below hb; replace hB := bel_trans hB hb
  have hz2 := hb.size
  clear c1 c2 c3 c4 hb
  obtain ⟨⟨c1, c2, c3, c4⟩, _, _, _, _⟩ := hb2.four
  obtain ⟨⟨r1, r2, r3⟩, rf1, rf2, rf3⟩ := hb3.three
  go_wp2_with fail
  refine bodyPost_ret (v := .tuple #[.agg #[.int .i64 0, .int .i64 0, .slice none 0 0], .int .i64 15]) (by simp [results, Try.results24, go_sem, r1, r2, r3]) rfl ?_
  exact ⟨_, _, _, rfl, PRow.nil _ _, set3_below hB (by omega) _ _ _⟩
set_option maxHeartbeats 4000000 in
theorem crop_emp (W H : Int) (A : Option Addr) (c : Nat) (ps : List Px) (x y p q : Int) (w : World) (h : Pixs w w.heap.size (.slice A ps.length c) ps) (hc : ichk W H ps = 0) (hv : rvalid x y p q = true) (hg : p ≤ 256 ∧ q ≤ 256) (hm : rempty x y p q = true) :
    Calls Try.prog 24 #[.agg #[.int .i64 W, .int .i64 H, .slice A ps.length c], .agg #[.int .i64 x, .int .i64 y, .int .i64 p, .int .i64 q]] w (ImPost 0 0 0 [] w) := by
  have HC := Lib.hid hc; have HV := Lib.hid hv; have HM := Lib.hid hm; clear hc hv hm
  have HP := Lib.hid h; clear h
  go_enter Try.func24, Try.ntmps24
  go_upto_region 1 with fail
  obtain ⟨hb1, hb2, hb3, hB, hz0⟩ := three_boxes w #[.int .i64 W, .int .i64 H, .slice A ps.length c] #[.int .i64 x, .int .i64 y, .int .i64 p, .int .i64 q] #[.int .i64 0, .int .i64 0, .slice none 0 0] 40 34 40 _ rfl
  generalize World.alloc (World.alloc (w.alloc _) _) _ = w0 at *
  obtain ⟨⟨i1, i2, i3⟩, _, _, _⟩ := hb1.three
  go_wp2_with fail
  refine (icheck_any W H A ps.length c ps _ (HP.out.on hB)).mono ?_
  rintro e w1 ⟨rfl, hb⟩
  replace hb1 := hb1.below hb; replace hb2 := hb2.below hb; replace hb3 := hb3.below hb; replace hB := bel_trans hB hb
  have hz1 := hb.size
  clear i1 i2 i3 hb
  rw [HC.out]
  obtain ⟨⟨c1, c2, c3, c4⟩, _, _, _, _⟩ := hb2.four
  go_wp2_with fail
  refine (valid_any x y p q _).mono ?_
  rintro e w2 ⟨rfl, hb⟩
  rw [HV.out]
  replace hb1 := hb1.below hb; replace hb2 := hb2.below hb; replace hb3 := hb3.below hb; replace hB := bel_trans hB hb
  have hz2 := hb.size
  clear c1 c2 c3 c4 hb
  obtain ⟨⟨c1, c2, c3, c4⟩, _, _, _, _⟩ := hb2.four
  go_wp2_with fail
  refine (empty_any x y p q _).mono ?_
  rintro e w3 ⟨rfl, hb⟩
  rw [HM.out]
  replace hb1 := hb1.below hb; replace hb2 := hb2.below hb; replace hb3 := hb3.below hb; replace hB := bel_trans hB hb
  have hz3 := hb.size
  clear c1 c2 c3 c4 hb
  obtain ⟨⟨r1, r2, r3⟩, rf1, rf2, rf3⟩ := hb3.three
  go_wp2_with fail
  refine bodyPost_ret (v := .tuple #[.agg #[.int .i64 0, .int .i64 0, .slice none 0 0], .int .i64 0]) (by simp [results, Try.results24, go_sem, r1, r2, r3]) rfl ?_
  exact ⟨_, _, _, rfl, PRow.nil _ _, set3_below hB (by omega) _ _ _⟩
set_option maxHeartbeats 4000000 in
theorem crop_yes (W H : Int) (A : Option Addr) (c : Nat) (ps : List Px) (x y p q : Int) (w : World) (h : Pixs w w.heap.size (.slice A ps.length c) ps) (hc : ichk W H ps = 0) (hv : rvalid x y p q = true) (hg : p ≤ 256 ∧ q ≤ 256) (hm : rempty x y p q = false) :
    Calls Try.prog 24 #[.agg #[.int .i64 W, .int .i64 H, .slice A ps.length c], .agg #[.int .i64 x, .int .i64 y, .int .i64 p, .int .i64 q]] w (ImPost 0 p q (cropL W H ps x y p q) w) := by
  have hv2 := (rvalid_iff x y p q).1 hv
  have hp0 : p ≠ 0 ∧ q ≠ 0 := by unfold rempty at hm; rw [hv] at hm; simp at hm; exact hm
  have hiok := (ichk_iff W H ps).1 hc
  have HC := Lib.hid hc; have HV := Lib.hid hv; have HM := Lib.hid hm; clear hc hv hm
  have h1 : 0 ≤ p * q := Int.mul_nonneg (by omega) (by omega)
  have h2 : p * q ≤ 256 * 256 := Int.mul_le_mul hg.1 hg.2 (by omega) (by omega)
  obtain ⟨n, hn⟩ : ∃ n : Nat, p * q = n := ⟨(p * q).toNat, by omega⟩
  have hln : (cropL W H ps x y p q).length = n := by unfold cropL; rw [grid_length]; omega
  have HG := Lib.hid (fun k (hk : k < n) => show pat (cropL W H ps x y p q) k = pick W H ps (x + (k : Int) % p) (y + (k : Int) / p) from grid_pat p q _ k (by omega))
  have HPL := Lib.hid (fun k (hk : k < n) => place_of (w := p) (h := q) (k := k) (by omega) (by omega))
  generalize cropL W H ps x y p q = l at *
  have hpz : (p == 0) = false := by simp [hp0.1]
  have hnl : n ≤ 65536 := by omega
  have HIO := Lib.hid hiok
  have HN := Lib.hid hn
  obtain ⟨⟨⟨v1, v2⟩, v3, v4⟩, ⟨v5, v6⟩, v7, v8⟩ := hv2
  obtain ⟨g1, g2⟩ := hg
  clear hiok hn h1 h2 hp0
  have HP := Lib.hid h; clear h
  go_enter Try.func24, Try.ntmps24
  go_upto_region 1 with fail
  obtain ⟨hb1, hb2, hb3, hB, hz0⟩ := three_boxes w #[.int .i64 W, .int .i64 H, .slice A ps.length c] #[.int .i64 x, .int .i64 y, .int .i64 p, .int .i64 q] #[.int .i64 0, .int .i64 0, .slice none 0 0] 40 34 40 _ rfl
  generalize World.alloc (World.alloc (w.alloc _) _) _ = w0 at *
  obtain ⟨⟨i1, i2, i3⟩, _, _, _⟩ := hb1.three
  go_wp2_with fail
  refine (icheck_any W H A ps.length c ps _ (HP.out.on hB)).mono ?_
  rintro e w1 ⟨rfl, hb⟩
  replace hb1 := hb1.below hb; replace hb2 := hb2.below hb; replace hb3 := hb3.below hb; replace hB := bel_trans hB hb
  have hz1 := hb.size
  clear i1 i2 i3 hb
  rw [HC.out]
  obtain ⟨⟨c1, c2, c3, c4⟩, _, _, _, _⟩ := hb2.four
  go_wp2_with fail
  refine (valid_any x y p q _).mono ?_
  rintro e w2 ⟨rfl, hb⟩
  rw [HV.out]
  replace hb1 := hb1.below hb; replace hb2 := hb2.below hb; replace hb3 := hb3.below hb; replace hB := bel_trans hB hb
  have hz2 := hb.size
  clear c1 c2 c3 c4 hb
  obtain ⟨⟨c1, c2, c3, c4⟩, _, _, _, _⟩ := hb2.four
  go_wp2_with fail
  refine (empty_any x y p q _).mono ?_
  rintro e w3 ⟨rfl, hb⟩
  rw [HM.out]
  replace hb1 := hb1.below hb; replace hb2 := hb2.below hb; replace hb3 := hb3.below hb; replace hB := bel_trans hB hb
  have hz3 := hb.size
  clear c1 c2 c3 c4 hb
  obtain ⟨⟨c1, c2, c3, c4⟩, _, _, _, _⟩ := hb2.four
  go_wp2_with fail
  refine (blank_any _ _ n _ HN.out hnl).mono ?_
  rintro e w4 ⟨g, rfl, hrow, hbb⟩
  have hlo := hrow.lo
  have hz4 := hbb.size
  replace hb1 := hb1.below hbb; replace hb2 := hb2.below hbb; replace hb3 := hb3.below hbb; replace hB := bel_trans hB hbb
  clear c1 c2 c3 c4 hbb
  go_upto_region 12 with fail
  obtain ⟨hb4, hB5, hz5⟩ := one_box w4 #[.int .i64 p, .int .i64 q, .slice (some ⟨g, 0, none⟩) n n] 40 _ rfl
  generalize World.alloc w4 _ = w5 at *
  replace hb1 := hb1.below hB5
  replace hb2 := hb2.below hB5
  replace hb3 := hb3.below hB5
  replace hrow := hrow.below hB5
  replace hB := bel_trans hB hB5
  have HBB := Lib.hid hB
  go_loopg [39] n (FillRel l g w3.heap.size n w5)
  case atStart => exact FillRel.start hln hrow
  case round =>
    obtain ⟨k, hk, rfl, rfl, hrw, hkb⟩ := hrel
    rw [hln] at hk
    have hd1 := hkb.bx hb1 (by omega) (by omega)
    have hd2 := hkb.bx hb2 (by omega) (by omega)
    have hd3 := hkb.bx hb3 (by omega) (by omega)
    have hd4 := hkb.bx hb4 (by omega) (by omega)
    have hkw := hkb.size
    have hlo2 := hrw.lo
    by_cases hlt : k < n
    · obtain ⟨⟨pm1, pm2⟩, pd1, pd2⟩ := HPL.out k hlt
      have hk0 : (0 : Int) ≤ (k : Int) := by omega
      have hk1 : (k : Int) < (n : Int) := by omega
      have hpz2 : ¬ p = 0 := by omega
      have ht1 : (k : Int).tmod p = (k : Int) % p := Int.tmod_eq_emod_of_nonneg hk0
      have hw1 : IntKind.i64.wrap (x + (k : Int) % p) = x + (k : Int) % p := wrap_in _ (by omega)
      have hw2 : IntKind.i64.wrap ((k : Int) / p) = (k : Int) / p := wrap_in _ (by omega)
      have hw3 : IntKind.i64.wrap (y + (k : Int) / p) = y + (k : Int) / p := wrap_in _ (by omega)
      have hpx := (hkb.pixs (HP.out.below HBB.out) (by omega) (by omega)).more (B' := wr.heap.size) (by omega)
      have HGK := Lib.hid (HG.out k hlt)
      have HRW := Lib.hid hrw
      have HKB := Lib.hid hkb
      have HPX := Lib.hid hpx
      have HD1 := Lib.hid hd1; have HD2 := Lib.hid hd2; have HD4 := Lib.hid hd4
      clear hrw hkb hpx hb1 hb2 hb3 hb4 hrow hB hB5 hd3
      obtain ⟨⟨d1, d2, d3⟩, _, _, _⟩ := hd1.three
      obtain ⟨⟨e1, e2, e3, e4⟩, _, _, _, _⟩ := hd2.four
      obtain ⟨⟨m1, m2, m3⟩, _, _, _⟩ := hd4.three
      clear hd1 hd2 hd4
      go_wp2_with fail
      generalize hu : pick W H ps (x + (k : Int) % p) (y + (k : Int) / p) = u at *
      have HAT := Lib.hid (show Calls Try.prog 59 #[.agg #[.int .i64 W, .int .i64 H, .slice A ps.length c], .int .i64 (x + (k : Int) % p), .int .i64 (y + (k : Int) / p)] wr.drew (PxPost u wr.drew) by rw [← hu]; exact at_any W H A ps.length c ps _ _ _ HIO.out HPX.out.drew)
      clear hu
      have hne1 : w4.heap.size ≠ g := by omega
      have hne2 : w.heap.size ≠ g := by omega
      have hne3 : w.heap.size + 1 ≠ g := by omega
      have hS0 : wr.drew.cell? ⟨w4.heap.size, 2, none⟩ = some (.slice (some ⟨g, 0, none⟩) n n) ∧ wr.drew.cell? ⟨w.heap.size, 0, none⟩ = some (.int .i64 W) ∧ wr.drew.cell? ⟨w.heap.size, 1, none⟩ = some (.int .i64 H) ∧ wr.drew.cell? ⟨w.heap.size, 2, none⟩ = some (.slice A ps.length c) ∧ wr.drew.cell? ⟨w.heap.size + 1, 0, none⟩ = some (.int .i64 x) ∧ wr.drew.cell? ⟨w.heap.size + 1, 1, none⟩ = some (.int .i64 y) ∧ wr.drew.cell? ⟨w.heap.size + 1, 2, none⟩ = some (.int .i64 p) := ⟨m3, d1, d2, d3, e1, e2, e3⟩
      have HS4 := Lib.hid (show ∀ w6, Below wr.drew.heap.size wr.drew w6 → w6.cell? ⟨w4.heap.size, 2, none⟩ = some (.slice (some ⟨g, 0, none⟩) n n) ∧ w6.cell? ⟨w.heap.size, 0, none⟩ = some (.int .i64 W) ∧ w6.cell? ⟨w.heap.size, 1, none⟩ = some (.int .i64 H) ∧ w6.cell? ⟨w.heap.size, 2, none⟩ = some (.slice A ps.length c) ∧ w6.cell? ⟨w.heap.size + 1, 0, none⟩ = some (.int .i64 x) ∧ w6.cell? ⟨w.heap.size + 1, 1, none⟩ = some (.int .i64 y) ∧ w6.cell? ⟨w.heap.size + 1, 2, none⟩ = some (.int .i64 p) from fun w6 hb => ⟨((HD4.out.drew.below hb).three).1.2.2, ((HD1.out.drew.below hb).three).1.1, ((HD1.out.drew.below hb).three).1.2.1, ((HD1.out.drew.below hb).three).1.2.2, ((HD2.out.drew.below hb).four).1.1, ((HD2.out.drew.below hb).four).1.2.1, ((HD2.out.drew.below hb).four).1.2.2.1⟩)
      have HS5 := Lib.hid (show ∀ w6, Below wr.drew.heap.size wr.drew w6 → ((((w6.setCell ⟨g, k * 4, none⟩ (.int .i64 u.r)).setCell ⟨g, k * 4 + 1, none⟩ (.int .i64 u.g)).setCell ⟨g, k * 4 + 2, none⟩ (.int .i64 u.b)).setCell ⟨g, k * 4 + 3, none⟩ (.int .i64 u.a)).cell? ⟨w4.heap.size, 2, none⟩ = some (.slice (some ⟨g, 0, none⟩) n n) ∧ ((((w6.setCell ⟨g, k * 4, none⟩ (.int .i64 u.r)).setCell ⟨g, k * 4 + 1, none⟩ (.int .i64 u.g)).setCell ⟨g, k * 4 + 2, none⟩ (.int .i64 u.b)).setCell ⟨g, k * 4 + 3, none⟩ (.int .i64 u.a)).cell? ⟨w.heap.size, 0, none⟩ = some (.int .i64 W) ∧ ((((w6.setCell ⟨g, k * 4, none⟩ (.int .i64 u.r)).setCell ⟨g, k * 4 + 1, none⟩ (.int .i64 u.g)).setCell ⟨g, k * 4 + 2, none⟩ (.int .i64 u.b)).setCell ⟨g, k * 4 + 3, none⟩ (.int .i64 u.a)).cell? ⟨w.heap.size, 1, none⟩ = some (.int .i64 H) ∧ ((((w6.setCell ⟨g, k * 4, none⟩ (.int .i64 u.r)).setCell ⟨g, k * 4 + 1, none⟩ (.int .i64 u.g)).setCell ⟨g, k * 4 + 2, none⟩ (.int .i64 u.b)).setCell ⟨g, k * 4 + 3, none⟩ (.int .i64 u.a)).cell? ⟨w.heap.size, 2, none⟩ = some (.slice A ps.length c) ∧ ((((w6.setCell ⟨g, k * 4, none⟩ (.int .i64 u.r)).setCell ⟨g, k * 4 + 1, none⟩ (.int .i64 u.g)).setCell ⟨g, k * 4 + 2, none⟩ (.int .i64 u.b)).setCell ⟨g, k * 4 + 3, none⟩ (.int .i64 u.a)).cell? ⟨w.heap.size + 1, 0, none⟩ = some (.int .i64 x) ∧ ((((w6.setCell ⟨g, k * 4, none⟩ (.int .i64 u.r)).setCell ⟨g, k * 4 + 1, none⟩ (.int .i64 u.g)).setCell ⟨g, k * 4 + 2, none⟩ (.int .i64 u.b)).setCell ⟨g, k * 4 + 3, none⟩ (.int .i64 u.a)).cell? ⟨w.heap.size + 1, 1, none⟩ = some (.int .i64 y) ∧ ((((w6.setCell ⟨g, k * 4, none⟩ (.int .i64 u.r)).setCell ⟨g, k * 4 + 1, none⟩ (.int .i64 u.g)).setCell ⟨g, k * 4 + 2, none⟩ (.int .i64 u.b)).setCell ⟨g, k * 4 + 3, none⟩ (.int .i64 u.a)).cell? ⟨w.heap.size + 1, 2, none⟩ = some (.int .i64 p) from fun w6 hb => ⟨((HD4.out.drew.below hb).other4 hne1 _ _ _ _ _ _ _ _).three.1.2.2, ((HD1.out.drew.below hb).other4 hne2 _ _ _ _ _ _ _ _).three.1.1, ((HD1.out.drew.below hb).other4 hne2 _ _ _ _ _ _ _ _).three.1.2.1, ((HD1.out.drew.below hb).other4 hne2 _ _ _ _ _ _ _ _).three.1.2.2, ((HD2.out.drew.below hb).other4 hne3 _ _ _ _ _ _ _ _).four.1.1, ((HD2.out.drew.below hb).other4 hne3 _ _ _ _ _ _ _ _).four.1.2.1, ((HD2.out.drew.below hb).other4 hne3 _ _ _ _ _ _ _ _).four.1.2.2.1⟩)
      go_region_held3 (fun w' => w'.cell? ⟨w4.heap.size, 2, none⟩ = some (.slice (some ⟨g, 0, none⟩) n n) ∧ w'.cell? ⟨w.heap.size, 0, none⟩ = some (.int .i64 W) ∧ w'.cell? ⟨w.heap.size, 1, none⟩ = some (.int .i64 H) ∧ w'.cell? ⟨w.heap.size, 2, none⟩ = some (.slice A ps.length c) ∧ w'.cell? ⟨w.heap.size + 1, 0, none⟩ = some (.int .i64 x) ∧ w'.cell? ⟨w.heap.size + 1, 1, none⟩ = some (.int .i64 y) ∧ w'.cell? ⟨w.heap.size + 1, 2, none⟩ = some (.int .i64 p))
        (first | assumption | exact hS0 | exact HS4.out _ hbw6 | exact HS5.out _ hbw6 | go_keep)
        ((go_at_call 59; (with_reducible refine HAT.out.mono ?_); rintro e w6 ⟨rfl, hbw6⟩; have hR6 := (HRW.out.drew).below hbw6; obtain ⟨⟨x1, x2, x3, x4⟩, xf1, xf2, xf3, xf4⟩ := hR6.at4 hlt))
      go_wp2_with fail
      go_roundg (n - (k + 1))
      case measure => omega
      case rel => exact ⟨k + 1, by omega, by rw [hln], by go_num, part_put (by rw [hln]; exact hlt) hln hR6 HGK.out, (HKB.out.drew.below hbw6 (by show w5.heap.size ≤ wr.heap.size; omega)).set4 _ _ _ _ _ _ _ _⟩
    · obtain rfl : k = n := by omega
      obtain ⟨⟨r1, r2, r3⟩, rf1, rf2, rf3⟩ := hd3.three
      obtain ⟨⟨m1, m2, m3⟩, _, _, _⟩ := hd4.three
      have hall := partD_all Px.zero l
      rw [hln] at hall
      rw [hall] at hrw
      have HR := Lib.hid hrw
      have HK := Lib.hid (hkb.toBelow HBB.out (by omega) (by omega))
      clear hrw hkb hd1 hd2 hd3 hd4 hb1 hb2 hb3 hb4 hrow
      go_wp2_with fail
      refine bodyPost_ret (v := .tuple #[.agg #[.int .i64 p, .int .i64 q, .slice (some ⟨g, 0, none⟩) k k], .int .i64 0]) (by simp [results, Try.results24, go_sem, r1, r2, r3]) rfl ?_
      exact ⟨_, _, _, rfl, HR.out.set3 (by omega) (by omega) _ _ _, set3_below HK.out (by omega) _ _ _⟩
end Go.Proofs.Ytbakgdcajpagkaa
namespace Go.Proofs.Ytbakgdcajpagkaa
open Go.RowKit

theorem add_none (g o j : Nat) : (⟨g, o, none⟩ : Addr).add j = ⟨g, o + j, none⟩ := by unfold Addr.add; split <;> simp_all
theorem run_copy4 {P : Program} (w : World) (dT sT ty elem : TypeId) (g n dCap : Nat) (a : Option Addr) (sCap : Nat) (cur : Array Value) (t : TypeId) (cs : List Value)
    (hu : P.underlying dT = some (.slice elem)) (hs : (P.info? elem).map (·.size) = some 4)
    (hg : w.heap[g]? = some (.cells cur t (0, 0))) (hn : cs.length = n * 4)
    (hsrc : 0 < n → ∃ ad, a = some ad ∧ ∀ j v, cs[j]? = some v → w.cell? (ad.add j) = some v) (hfit : cs.length ≤ cur.size) (h1 : ∀ v ∈ cs, v.oneCell' = true) :
    (Builtin.copy_ #[dT, sT] ty #[.slice (some ⟨g, 0, none⟩) n dCap, .slice a n sCap]).run P w = .ok (goInt n) (w.setRow g (cs ++ cur.toList.drop cs.length).toArray) := by
  cases hq : P.info? elem with
  | none => simp [hq] at hs
  | some i =>
    have hi : i.size = 4 := by simpa [hq] using hs
    have hmin : Nat.min n n = n := Nat.min_self n
    rcases Nat.eq_zero_or_pos n with h0 | h0
    · subst h0
      have hc : cs = [] := List.eq_nil_of_length_eq_zero (by omega)
      subst hc
      have hl : ∀ (x : Addr), (loadCells x 0).run P w = .ok #[] w := fun x => by simpa using run_loadCells_list (P := P) w x [] (by simp)
      have hw : w.setRow g cur = w := setRow_self w g cur t (0, 0) hg
      cases a <;> simp [Builtin.copy_, run_underlying hu, Builtin.lenOf, Builtin.firstCells, sizeOf, typeInfo, hq, storeCells, hl, hw]
    · obtain ⟨ad, rfl, hsr⟩ := hsrc h0
      have hl := run_loadCells_list (P := P) w ad cs hsr
      have hst := run_storeCells_at P g 0 t cs 0 cur w hg (by simpa using hfit) h1
      rw [hn] at hl
      simp [Builtin.copy_, run_underlying hu, Builtin.lenOf, Builtin.firstCells, sizeOf, typeInfo, hq, hi, hl, hst]
/-- copy onto zero pixels. -/
theorem pcopy (w : World) {ops : Array Oper} {rest : List Oper} {o : Oper} {a : Act} {Q : Exit → Act → World → Prop} (hgd : o.guard = none) (d s : Operand)
    (ho : o.op = .call { callee := .builtin .copy, args := #[d, s], argTypes := #[38, 38] }) (B g n : Nat) (A : Option Addr) (c : Nat) (ps qs : List Px)
    (hd : a.eval d = .slice (some ⟨g, 0, none⟩) n n) (hs : a.eval s = .slice A n c) (hp : ps.length = n) (hown : PRow w B (.slice (some ⟨g, 0, none⟩) n n) qs) (hpix : Pixs w w.heap.size (.slice A n c) ps)
    (h : ∀ v w', PRow w' B (.slice (some ⟨g, 0, none⟩) n n) ps → KB w.heap.size g w w' → w'.heap.size = w.heap.size → wpList Try.prog ops Q rest (a.put o.dst v) w') : wpList Try.prog ops Q (o :: rest) a w := by
  have hown0 := hown
  obtain ⟨hl, hcase⟩ := hown
  rcases hcase with ⟨hv, _⟩ | ⟨g', cap, cur, hv, hB, hg, hnc, hcm, hcs, ht⟩
  · injection hv with hv _ _; cases hv
  · injection hv with hv1 hv2 hv3
    injection hv1 with hv1
    injection hv1 with hv1 _
    subst hv1
    subst hv3
    have hfl : ((flat4 ps).map (Value.int .i64)).length = n * 4 := by rw [List.length_map, flat4_length, hp]
    have hsrc : 0 < n → ∃ ad, A = some ad ∧ ∀ j v, ((flat4 ps).map (Value.int .i64))[j]? = some v → w.cell? (ad.add j) = some v := by
      intro h0
      obtain ⟨A', c', ev, _, hc⟩ := hpix
      injection ev with ev1 _ ev3
      subst ev1
      obtain ⟨b, o', rfl, _, _⟩ := hc 0 (by omega)
      refine ⟨_, rfl, fun j v hj => ?_⟩
      have hj2 : j < ps.length * 4 := by
        have := (List.getElem?_eq_some_iff.1 hj).1
        rw [hfl] at this; omega
      obtain ⟨b2, o2, e2, _, c1, c2, c3, c4⟩ := hc (j / 4) (by omega)
      injection e2 with e2
      injection e2 with e2 e3
      subst e2; subst e3
      rw [add_none]
      obtain ⟨f1, f2, f3, f4⟩ := flat4_get ps (j / 4) (by omega)
      rw [List.getElem?_map] at hj
      rcases (show j = j / 4 * 4 ∨ j = j / 4 * 4 + 1 ∨ j = j / 4 * 4 + 2 ∨ j = j / 4 * 4 + 3 by omega) with e | e | e | e
      · rw [e, f1] at hj; rw [e]; exact c1.trans hj
      · rw [e, f2] at hj; rw [e]; exact c2.trans hj
      · rw [e, f3] at hj; rw [e]; exact c3.trans hj
      · rw [e, f4] at hj; rw [e]; exact c4.trans hj
    obtain ⟨i0, hi0, hz0, hz1, hz2⟩ := info_parts Try.infoPx
    have hsz : (Try.prog.info? 48).map (·.size) = some 4 := by rw [hi0]; simp [hz1]
    have hone : ∀ v ∈ (flat4 ps).map (Value.int .i64), v.oneCell' = true := by
      intro v hv
      obtain ⟨x, _, rfl⟩ := List.mem_map.1 hv
      rfl
    have hrun := run_copy4 (P := Try.prog) w 38 38 o.type 48 g n n A c cur 48 _ Try.underlying38 hsz hg hfl hsrc (by rw [hfl, hcs]; omega) hone
    refine wpList_plain hgd fun K hK => ?_
    unfold Oper.wp
    simp [execOp, ho, resolve, invoke, builtin, hd, hs, hrun, Result.andThen]
    refine hK _ _ (h _ _ ?_ ?_ ?_)
    · refine ⟨by rw [hfl, hp], .inr ⟨g, n, _, by rw [hp], hB, setRow_heap w g cur _ _ _ hg, Nat.le_of_eq hp, hcm, ?_, ?_⟩⟩
      · simp [flat4_length, hp, hcs]
      · simp [flat4_length, hp]
    · exact ⟨rfl, rfl, rfl, by simp [World.setRow], fun k hk hne => setRow_other w g k _ hne⟩
    · simp [World.setRow]
end Go.Proofs.Ytbakgdcajpagkaa
namespace Go.Proofs.Ytbakgdcajpagkaa
open Go.RowKit

/-- The pixels of the image, when the first k pixels of the part have been put. -/
def putN (W H pw ax ay : Int) (ps qs : List Px) : Nat → List Px
  | 0 => ps
  | k + 1 => if 0 ≤ ax + (k : Int) % pw ∧ ax + (k : Int) % pw < W ∧ 0 ≤ ay + (k : Int) / pw ∧ ay + (k : Int) / pw < H
      then (putN W H pw ax ay ps qs k).set ((ay + (k : Int) / pw) * W + (ax + (k : Int) % pw)).toNat (pat qs k) else putN W H pw ax ay ps qs k
def putF (W H : Int) (ps : List Px) (pw ph : Int) (qs : List Px) (ax ay : Int) (x y : Int) : Px :=
  if 0 ≤ x - ax ∧ x - ax < pw ∧ 0 ≤ y - ay ∧ y - ay < ph then pick pw ph qs (x - ax) (y - ay) else pick W H ps x y
def putL (W H : Int) (ps : List Px) (pw ph : Int) (qs : List Px) (ax ay : Int) : List Px := gridL W H (putF W H ps pw ph qs ax ay)
theorem putN_length (W H pw ax ay : Int) (ps qs : List Px) : ∀ k, (putN W H pw ax ay ps qs k).length = ps.length
  | 0 => rfl
  | k + 1 => by
    unfold putN
    split
    · rw [List.length_set]; exact putN_length W H pw ax ay ps qs k
    · exact putN_length W H pw ax ay ps qs k
theorem pat_set (l : List Px) (i j : Nat) (p : Px) (h : i < l.length) : pat (l.set i p) j = if i = j then p else pat l j := by
  unfold pat
  rw [List.getD_eq_getElem?_getD, List.getD_eq_getElem?_getD, List.getElem?_set]
  split
  · simp
  · rfl
theorem flat_inj {W x y x' y' : Int} (hx : 0 ≤ x ∧ x < W) (hx' : 0 ≤ x' ∧ x' < W) (h : y * W + x = y' * W + x') : x = x' ∧ y = y' := by
  have a := place_mod (w := W) (x := x) (y := y) hx
  have b := place_mod (w := W) (x := x') (y := y') hx'
  rw [h] at a
  exact ⟨a.1.symm.trans b.1, a.2.symm.trans b.2⟩
theorem putN_pat {W H pw ph ax ay : Int} {ps qs : List Px} (i : IOk W H ps) (p : IOk pw ph qs) {x y : Int} (hx : 0 ≤ x ∧ x < W) (hy : 0 ≤ y ∧ y < H) : ∀ k, k ≤ qs.length →
    pat (putN W H pw ax ay ps qs k) (y * W + x).toNat = if 0 ≤ x - ax ∧ x - ax < pw ∧ 0 ≤ y - ay ∧ (y - ay) * pw + (x - ax) < k then pat qs ((y - ay) * pw + (x - ax)).toNat else pat ps (y * W + x).toNat
  | 0, _ => by
    rw [if_neg]
    · rfl
    · rintro ⟨h1, h2, h3, h4⟩
      have := Int.mul_nonneg h3 (show 0 ≤ pw by omega)
      omega
  | k + 1, hk => by
    have ih := putN_pat (ax := ax) (ay := ay) i p hx hy k (by omega)
    have hpl := p.n
    have hkp : k < (pw * ph).toNat := by omega
    have hpw := pos_of hkp p.w0
    have hpp := place_of hkp hpw
    have hkk := Int.mul_ediv_add_emod (k : Int) pw
    rw [Int.mul_comm] at hkk
    have hi := idx_lt (W := W) (H := H) (x := x) (y := y) ⟨hx.1, hx.2, hy.1, hy.2⟩
    have hin := i.n
    unfold putN
    by_cases c : 0 ≤ ax + (k : Int) % pw ∧ ax + (k : Int) % pw < W ∧ 0 ≤ ay + (k : Int) / pw ∧ ay + (k : Int) / pw < H
    · rw [if_pos c]
      have hi2 := idx_lt c
      rw [pat_set _ _ _ _ (by rw [putN_length]; omega)]
      by_cases e : ((ay + (k : Int) / pw) * W + (ax + (k : Int) % pw)).toNat = (y * W + x).toNat
      · rw [if_pos e]
        have e2 := flat_inj (W := W) ⟨c.1, c.2.1⟩ hx (show (ay + (k : Int) / pw) * W + (ax + (k : Int) % pw) = y * W + x by omega)
        have e3 : x - ax = (k : Int) % pw := by omega
        have e4 : y - ay = (k : Int) / pw := by omega
        rw [e3, e4, if_pos ⟨hpp.1.1, hpp.1.2, hpp.2.1, by omega⟩, hkk, Int.toNat_natCast]
      · rw [if_neg e, ih]
        by_cases d : 0 ≤ x - ax ∧ x - ax < pw ∧ 0 ≤ y - ay ∧ (y - ay) * pw + (x - ax) < k
        · rw [if_pos d, if_pos ⟨d.1, d.2.1, d.2.2.1, by omega⟩]
        · rw [if_neg d, if_neg]
          rintro ⟨d1, d2, d3, d4⟩
          have d5 : (y - ay) * pw + (x - ax) = (k : Int) := by omega
          have f := place_mod (w := pw) (x := x - ax) (y := y - ay) ⟨d1, d2⟩
          rw [d5] at f
          exact e (by rw [f.1, f.2, show ay + (y - ay) = y by omega, show ax + (x - ax) = x by omega])
    · rw [if_neg c, ih]
      by_cases d : 0 ≤ x - ax ∧ x - ax < pw ∧ 0 ≤ y - ay ∧ (y - ay) * pw + (x - ax) < k
      · rw [if_pos d, if_pos ⟨d.1, d.2.1, d.2.2.1, by omega⟩]
      · rw [if_neg d, if_neg]
        rintro ⟨d1, d2, d3, d4⟩
        have d5 : (y - ay) * pw + (x - ax) = (k : Int) := by omega
        have f := place_mod (w := pw) (x := x - ax) (y := y - ay) ⟨d1, d2⟩
        rw [d5] at f
        exact c (by rw [f.1, f.2, show ay + (y - ay) = y by omega, show ax + (x - ax) = x by omega]; omega)
theorem put_all {W H pw ph ax ay : Int} {ps qs : List Px} (i : IOk W H ps) (p : IOk pw ph qs) : putN W H pw ax ay ps qs qs.length = putL W H ps pw ph qs ax ay := by
  have hin := i.n
  have hpn := p.n
  refine list_ext_pat (by rw [putN_length, putL, grid_length]; omega) fun k hk => ?_
  rw [putN_length] at hk
  have hkp : k < (W * H).toNat := by omega
  have hW := pos_of hkp i.w0
  have hp := place_of hkp hW
  have hkk := Int.mul_ediv_add_emod (k : Int) W
  rw [Int.mul_comm] at hkk
  have h1 := putN_pat (ax := ax) (ay := ay) i p (x := (k : Int) % W) (y := (k : Int) / W) hp.1 hp.2 qs.length (Nat.le_refl _)
  rw [hkk, Int.toNat_natCast] at h1
  rw [h1, putL, grid_pat _ _ _ _ hkp, putF]
  generalize (k : Int) % W = x at *
  generalize (k : Int) / W = y at *
  have hpick : pick W H ps x y = pat ps k := by rw [pick_in ⟨hp.1.1, hp.1.2, hp.2.1, hp.2.2⟩, hkk, Int.toNat_natCast]
  rw [hpick]
  by_cases d : 0 ≤ x - ax ∧ x - ax < pw ∧ 0 ≤ y - ay ∧ y - ay < ph
  · have := idx_lt d
    rw [if_pos d, if_pos ⟨d.1, d.2.1, d.2.2.1, by omega⟩, pick_in d]
  · rw [if_neg d, if_neg]
    rintro ⟨d1, d2, d3, d4⟩
    apply d
    refine ⟨d1, d2, d3, ?_⟩
    rcases Int.lt_or_le (y - ay) ph with c | c
    · exact c
    · have := Int.mul_le_mul_of_nonneg_right c (show 0 ≤ pw by omega)
      rw [Int.mul_comm] at this
      omega
theorem putF_ok {W H pw ph ax ay : Int} {ps qs : List Px} (i : IOk W H ps) (p : IOk pw ph qs) (x y : Int) : (putF W H ps pw ph qs ax ay x y).ok := by
  unfold putF
  split
  · exact pick_ok p _ _
  · exact pick_ok i _ _
def PutRel (L : Nat → List Px) (m g B n : Nat) (w0 : World) (gh : Nat) (i : Value) (wr : World) : Prop :=
  ∃ k : Nat, k ≤ m ∧ gh = m - k ∧ i = .int .i64 k ∧ PRow wr B (.slice (some ⟨g, 0, none⟩) n n) (L k) ∧ KB w0.heap.size g w0 wr
def clampC (x : Int) : Int := min (max x (-1048576)) 1048576
theorem clampC_bd (x : Int) : -1048576 ≤ clampC x ∧ clampC x ≤ 1048576 := by unfold clampC; omega
theorem four_boxes (w : World) (vs us ts rs : Array Value) (t u v r : TypeId) (w0 : World) (hw : w0 = (((w.alloc (.cells vs t)).alloc (.cells us u)).alloc (.cells ts v)).alloc (.cells rs r)) :
    Bx w0 w.heap.size t vs ∧ Bx w0 (w.heap.size + 1) u us ∧ Bx w0 (w.heap.size + 1 + 1) v ts ∧ Bx w0 (w.heap.size + 1 + 1 + 1) r rs ∧ Below w.heap.size w w0 ∧ w0.heap.size = w.heap.size + 4 := by
  obtain ⟨a, b, c, d, e⟩ := three_boxes w vs us ts t u v _ rfl
  have f := Bx.new (((w.alloc (.cells vs t)).alloc (.cells us u)).alloc (.cells ts v)) r rs
  rw [e] at f
  subst hw
  exact ⟨a.alloc _, b.alloc _, c.alloc _, f, bel_alloc d _, by rw [World.size_alloc, e]⟩
/-- The error of Put. -/
def perr (W H : Int) (ps : List Px) (pw ph : Int) (qs : List Px) : Int := if ichk W H ps = 0 then ichk pw ph qs else ichk W H ps
end Go.Proofs.Ytbakgdcajpagkaa
namespace Go.Proofs.Ytbakgdcajpagkaa
theorem wpre_congr {px px' : Int → Int → Px} {fx fy : Int} {us vs : List Int} (h : ∀ j k : Nat, j < us.length → k < vs.length → px (fx + j) (fy + k) = px' (fx + j) (fy + k)) : wpre px fx fy us vs vs.length 0 = wpre px' fx fy us vs vs.length 0 := by
  unfold wpre
  congr 1
  rw [List.flatMap_def, List.flatMap_def]
  congr 1
  apply List.map_congr_left
  intro k hk
  apply List.map_congr_left
  intro j hj
  unfold wcell
  rw [h j k (List.mem_range.1 hj) (List.mem_range.1 hk)]
section
variable {C R S : Int} {ks : List (Int × Int)} {kind : Int} {o b : Rk}
theorem need_rk (no : NOk C R S ks kind o b) : wNR C R S ks kind o b = ⟨max (o.x - (wreach C R S ks + spt kind + 1)) b.x, max (o.y - (wreach C R S ks + spt kind + 1)) b.y, min (o.x + o.w + (wreach C R S ks + spt kind + 1)) (b.x + b.w) - max (o.x - (wreach C R S ks + spt kind + 1)) b.x, min (o.y + o.h + (wreach C R S ks + spt kind + 1)) (b.y + b.h) - max (o.y - (wreach C R S ks + spt kind + 1)) b.y⟩ := by
  have hr := (wreach_bd no.w).1
  have h2 := spt_le kind
  unfold wNR
  rw [if_pos (wNE_iff.2 no), need_eq no.eo no.eb no.x0 no.x1 no.y0 no.y1 (by omega)]
/-- The needed pixels lie in the bounds, and the result's lie in them. -/
theorem need_in (no : NOk C R S ks kind o b) : (b.x ≤ (wNR C R S ks kind o b).x ∧ (wNR C R S ks kind o b).x + (wNR C R S ks kind o b).w ≤ b.x + b.w) ∧ (b.y ≤ (wNR C R S ks kind o b).y ∧ (wNR C R S ks kind o b).y + (wNR C R S ks kind o b).h ≤ b.y + b.h) ∧
    ((wNR C R S ks kind o b).x ≤ o.x ∧ o.x + o.w ≤ (wNR C R S ks kind o b).x + (wNR C R S ks kind o b).w) ∧ ((wNR C R S ks kind o b).y ≤ o.y ∧ o.y + o.h ≤ (wNR C R S ks kind o b).y + (wNR C R S ks kind o b).h) := by
  have hr := (wreach_bd no.w).1
  have h2 := spt_le kind
  have x0 := no.x0; have x1 := no.x1; have y0 := no.y0; have y1 := no.y1
  have fo := full_bd no.eo
  rw [need_rk no]
  dsimp only
  omega
theorem need_full (no : NOk C R S ks kind o b) : (wNR C R S ks kind o b).empty = false := by
  have hr := (wreach_bd no.w).1
  have h2 := spt_le kind
  unfold wNR
  rw [if_pos (wNE_iff.2 no)]
  exact full_need no.eo no.eb no.x0 no.x1 no.y0 no.y1 (by omega)
/-- A pixel of the result hangs on the needed pixels alone. -/
theorem wdot_congr (no : NOk C R S ks kind o b) {W ax ay : Int} {ps : List Px} {W' ax' ay' : Int} {ps' : List Px}
    (h : ∀ P Q, (wNR C R S ks kind o b).x ≤ bcl b.x b.w P → bcl b.x b.w P < (wNR C R S ks kind o b).x + (wNR C R S ks kind o b).w → (wNR C R S ks kind o b).y ≤ bcl b.y b.h Q → bcl b.y b.h Q < (wNR C R S ks kind o b).y + (wNR C R S ks kind o b).h → wpx W ax ay b ps P Q = wpx W' ax' ay' b ps' P Q)
    {X Y : Int} (hX : 0 ≤ X ∧ X < o.w) (hY : 0 ≤ Y ∧ Y < o.h) : wdot W ax ay b ps C R S ks kind (o.x + X) (o.y + Y) = wdot W' ax' ay' b ps' C R S ks kind (o.x + X) (o.y + Y) := by
  have hr := (wreach_bd no.w).1
  have h2 := spt_le kind
  have x0 := no.x0; have x1 := no.x1; have y0 := no.y0; have y1 := no.y1
  have fo := full_bd no.eo; have fb := full_bd no.eb
  have hd := wat_bd no.w (o.x + X) (o.y + Y)
  unfold wdot
  congr 1
  refine wpre_congr fun j k hj hk => ?_
  have tx := tap_near no.v (x := o.x + X) (by omega) hr hd.1 j hj
  have ty := tap_near no.v (x := o.y + Y) (by omega) hr hd.2 k hk
  clear hj hk hd
  generalize tapFirst kind ((o.x + X) * 65536 + 32768 + (wat C R S ks (o.x + X) (o.y + Y)).1) + (j : Int) = P at *
  generalize tapFirst kind ((o.y + Y) * 65536 + 32768 + (wat C R S ks (o.x + X) (o.y + Y)).2) + (k : Int) = Q at *
  refine h P Q ?_ ?_ ?_ ?_
  all_goals
    rw [need_rk no]
    dsimp only
    unfold bcl
    omega
theorem wpic_congr (no : NOk C R S ks kind o b) {W ax ay : Int} {ps : List Px} {W' ax' ay' : Int} {ps' : List Px}
    (h : ∀ P Q, (wNR C R S ks kind o b).x ≤ bcl b.x b.w P → bcl b.x b.w P < (wNR C R S ks kind o b).x + (wNR C R S ks kind o b).w → (wNR C R S ks kind o b).y ≤ bcl b.y b.h Q → bcl b.y b.h Q < (wNR C R S ks kind o b).y + (wNR C R S ks kind o b).h → wpx W ax ay b ps P Q = wpx W' ax' ay' b ps' P Q) :
    wpic W ax ay b ps C R S ks kind o = wpic W' ax' ay' b ps' C R S ks kind o := by
  have fo := full_bd no.eo
  rw [wpic_grid _ _ _ _ _ _ _ _ _ _ _ (by omega) (by omega), wpic_grid _ _ _ _ _ _ _ _ _ _ _ (by omega) (by omega)]
  exact grid_congr (fun x y hx hx2 hy hy2 => wdot_congr no h ⟨hx, hx2⟩ ⟨hy, hy2⟩) (by omega)
end
theorem wpx_pick {W H ax ay : Int} {b : Rk} {ps : List Px} {P Q : Int} (h : 0 ≤ bcl b.x b.w P - ax ∧ bcl b.x b.w P - ax < W ∧ 0 ≤ bcl b.y b.h Q - ay ∧ bcl b.y b.h Q - ay < H) : wpx W ax ay b ps P Q = pick W H ps (bcl b.x b.w P - ax) (bcl b.y b.h Q - ay) := by
  rw [pick_in h]; rfl
theorem blend_ok (A R G B : Int) : (blend A R G B).ok := by
  unfold blend
  split
  · unfold Px.ok Px.zero; simp
  · exact ⟨lim16_bd _, lim16_bd _, lim16_bd _, lim16_bd _⟩
section
variable {W H : Int} {ps : List Px} {C R S : Int} {ks : List (Int × Int)} {kind : Int} {o : Rk}
/-- An image that is the bounds shows what is needed. -/
theorem whole_ok (io : IOk W H ps) (no : NOk C R S ks kind o ⟨0, 0, W, H⟩) : DOk W H 0 0 ps ⟨0, 0, W, H⟩ C R S ks kind o := by
  refine ⟨io, no, ?_⟩
  have h := need_in no
  dsimp only at h
  unfold shows
  simp only [Bool.and_eq_true, decide_eq_true_eq]
  omega
theorem whole_out (no : NOk C R S ks kind o ⟨0, 0, W, H⟩) : NOk C R S ks kind ⟨0, 0, W, H⟩ ⟨0, 0, W, H⟩ := ⟨no.w, no.v, no.eb, no.eb, Int.le_refl _, Int.le_refl _, Int.le_refl _, Int.le_refl _⟩
theorem wpic_iok (b : Rk) (no : NOk C R S ks kind o b) (hw : o.w ≤ 256) (hh : o.h ≤ 256) (ax ay : Int) : IOk o.w o.h (wpic W ax ay b ps C R S ks kind o) := by
  have fo := full_bd no.eo
  rw [wpic_grid _ _ _ _ _ _ _ _ _ _ _ (by omega) (by omega)]
  exact grid_ok (by omega) hw (by omega) hh (by omega) (fun x y => blend_ok _ _ _ _)
/-- The part of the whole. -/
theorem parts_law (no : NOk C R S ks kind o ⟨0, 0, W, H⟩) : cropL W H (wpic W 0 0 ⟨0, 0, W, H⟩ ps C R S ks kind ⟨0, 0, W, H⟩) o.x o.y o.w o.h = wpic W 0 0 ⟨0, 0, W, H⟩ ps C R S ks kind o := by
  have fo := full_bd no.eo; have fb := full_bd no.eb
  have x0 := no.x0; have x1 := no.x1; have y0 := no.y0; have y1 := no.y1
  dsimp only at fb x0 x1 y0 y1
  rw [wpic_grid _ _ _ _ _ _ _ _ _ _ o (by omega) (by omega), wpic_grid _ _ _ _ _ _ _ _ _ _ _ (by dsimp only; omega) (by dsimp only; omega)]
  unfold cropL
  refine grid_congr (fun x y hx hx2 hy hy2 => ?_) (by omega)
  dsimp only
  rw [pick_grid _ ⟨by omega, by omega⟩ ⟨by omega, by omega⟩]
  rw [Int.zero_add, Int.zero_add]
/-- The needed pixels alone. -/
theorem part_iok (io : IOk W H ps) (no : NOk C R S ks kind o ⟨0, 0, W, H⟩) : IOk (wNR C R S ks kind o ⟨0, 0, W, H⟩).w (wNR C R S ks kind o ⟨0, 0, W, H⟩).h (cropL W H ps (wNR C R S ks kind o ⟨0, 0, W, H⟩).x (wNR C R S ks kind o ⟨0, 0, W, H⟩).y (wNR C R S ks kind o ⟨0, 0, W, H⟩).w (wNR C R S ks kind o ⟨0, 0, W, H⟩).h) := by
  have h := need_in no
  have f := full_bd (need_full no)
  have iw := io.w1; have ih := io.h1
  dsimp only at h
  exact grid_ok (by omega) (by omega) (by omega) (by omega) (by omega) (fun x y => pick_ok io _ _)
theorem part_ok (io : IOk W H ps) (no : NOk C R S ks kind o ⟨0, 0, W, H⟩) : DOk (wNR C R S ks kind o ⟨0, 0, W, H⟩).w (wNR C R S ks kind o ⟨0, 0, W, H⟩).h (wNR C R S ks kind o ⟨0, 0, W, H⟩).x (wNR C R S ks kind o ⟨0, 0, W, H⟩).y (cropL W H ps (wNR C R S ks kind o ⟨0, 0, W, H⟩).x (wNR C R S ks kind o ⟨0, 0, W, H⟩).y (wNR C R S ks kind o ⟨0, 0, W, H⟩).w (wNR C R S ks kind o ⟨0, 0, W, H⟩).h) ⟨0, 0, W, H⟩ C R S ks kind o := by
  refine ⟨part_iok io no, no, ?_⟩
  unfold shows
  simp only [Bool.and_eq_true, decide_eq_true_eq]
  omega
theorem part_law (no : NOk C R S ks kind o ⟨0, 0, W, H⟩) : wpic (wNR C R S ks kind o ⟨0, 0, W, H⟩).w (wNR C R S ks kind o ⟨0, 0, W, H⟩).x (wNR C R S ks kind o ⟨0, 0, W, H⟩).y ⟨0, 0, W, H⟩ (cropL W H ps (wNR C R S ks kind o ⟨0, 0, W, H⟩).x (wNR C R S ks kind o ⟨0, 0, W, H⟩).y (wNR C R S ks kind o ⟨0, 0, W, H⟩).w (wNR C R S ks kind o ⟨0, 0, W, H⟩).h) C R S ks kind o = wpic W 0 0 ⟨0, 0, W, H⟩ ps C R S ks kind o := by
  have h := need_in no
  dsimp only at h
  refine wpic_congr no fun P Q h1 h2 h3 h4 => ?_
  rw [wpx_pick (H := (wNR C R S ks kind o ⟨0, 0, W, H⟩).h) ⟨by omega, by omega, by omega, by omega⟩, wpx_pick (H := H) ⟨by omega, by omega, by omega, by omega⟩]
  unfold cropL
  rw [pick_grid _ ⟨by omega, by omega⟩ ⟨by omega, by omega⟩, Int.sub_zero, Int.sub_zero]
  congr 1 <;> omega
/-- Another image with the same needed pixels. -/
theorem other_law {qs : List Px} (no : NOk C R S ks kind o ⟨0, 0, W, H⟩) :
    wpic W 0 0 ⟨0, 0, W, H⟩ (putL W H qs (wNR C R S ks kind o ⟨0, 0, W, H⟩).w (wNR C R S ks kind o ⟨0, 0, W, H⟩).h (cropL W H ps (wNR C R S ks kind o ⟨0, 0, W, H⟩).x (wNR C R S ks kind o ⟨0, 0, W, H⟩).y (wNR C R S ks kind o ⟨0, 0, W, H⟩).w (wNR C R S ks kind o ⟨0, 0, W, H⟩).h) (wNR C R S ks kind o ⟨0, 0, W, H⟩).x (wNR C R S ks kind o ⟨0, 0, W, H⟩).y) C R S ks kind o = wpic W 0 0 ⟨0, 0, W, H⟩ ps C R S ks kind o := by
  have h := need_in no
  dsimp only at h
  refine wpic_congr no fun P Q h1 h2 h3 h4 => ?_
  rw [wpx_pick (H := H) ⟨by omega, by omega, by omega, by omega⟩, wpx_pick (H := H) ⟨by omega, by omega, by omega, by omega⟩]
  rw [Int.sub_zero, Int.sub_zero]
  unfold putL
  rw [pick_grid _ ⟨by omega, by omega⟩ ⟨by omega, by omega⟩]
  unfold putF
  rw [if_pos ⟨by omega, by omega, by omega, by omega⟩]
  unfold cropL
  rw [pick_grid _ ⟨by omega, by omega⟩ ⟨by omega, by omega⟩]
  congr 1 <;> omega
end
/-! Moves by whole pixels. -/
def mvK (m n : Int) : List (Int × Int) := [(m * 65536, n * 65536), (m * 65536, n * 65536), (m * 65536, n * 65536), (m * 65536, n * 65536)]
theorem mv_ok {m n : Int} (hm : -16 ≤ m ∧ m ≤ 16) (hn : -16 ≤ n ∧ n ≤ 16) : WOk 2 2 3 (mvK m n) := by
  refine ⟨by omega, by omega, by omega, by omega, by omega, by omega, rfl, fun i hi => ?_⟩
  have hi : i < 4 := hi
  match i, hi with
  | 0, _ => simp only [kx, ky, mvK]; simp; omega
  | 1, _ => simp only [kx, ky, mvK]; simp; omega
  | 2, _ => simp only [kx, ky, mvK]; simp; omega
  | 3, _ => simp only [kx, ky, mvK]; simp; omega
theorem mv_at {m n : Int} {i : Nat} (hi : i < 4) : kx (mvK m n) i = m * 65536 ∧ ky (mvK m n) i = n * 65536 := by
  match i, hi with
  | 0, _ => simp [kx, ky, mvK]
  | 1, _ => simp [kx, ky, mvK]
  | 2, _ => simp [kx, ky, mvK]
  | 3, _ => simp [kx, ky, mvK]
theorem mv_wat {m n : Int} (hm : -16 ≤ m ∧ m ≤ 16) (hn : -16 ≤ n ∧ n ≤ 16) (x y : Int) : wat 2 2 3 (mvK m n) x y = (m * 65536, n * 65536) := by
  have ok := mv_ok hm hn
  have hN := wN_eq (x := x) (y := y) ok
  have hl : ((mvK m n).length : Int) = 4 := rfl
  have hx := (wc_bd (x := x) (n := 2) (S := 3) (by omega) (by omega) (by omega) (by omega)).2.2
  have hy := (wc_bd (x := y) (n := 2) (S := 3) (by omega) (by omega) (by omega) (by omega)).2.2
  have hk := (wk_bd (S := 3) (f := wcF x 2 3) (g := wcF y 2 3) (by omega) (by omega) hx hy).2.2.2.2
  have e2 : (2 : Int).toNat = 2 := rfl
  have a0 := mv_at (m := m) (n := n) (i := wN 2 2 3 x y) (by omega)
  have a1 := mv_at (m := m) (n := n) (i := wN 2 2 3 x y + 1) (by omega)
  have a2 := mv_at (m := m) (n := n) (i := wN 2 2 3 x y + 2) (by omega)
  have a3 := mv_at (m := m) (n := n) (i := wN 2 2 3 x y + 2 + 1) (by omega)
  unfold wat
  rw [if_pos ((wErr_iff _ _ _ _).2 ok)]
  unfold watX watY
  rw [e2, a0.1, a1.1, a2.1, a3.1, a0.2, a1.2, a2.2, a3.2]
  have key : ∀ a : Int, rdiv (wsum (wk 3 (wcF x 2 3) (wcF y 2 3)) a a a a) (3 * 3) = a := by
    intro a
    have : wsum (wk 3 (wcF x 2 3) (wcF y 2 3)) a a a a = 3 * 3 * a := by
      unfold wsum
      rw [← hk, Int.add_mul, Int.add_mul, Int.add_mul]
    rw [this]
    exact rdiv_mul' _ _ (by omega)
  rw [key, key]
/-- A pixel of the moved image. -/
theorem mv_dot {m n W H : Int} {ps : List Px} {kind : Int} (io : IOk W H ps) (hm : -16 ≤ m ∧ m ≤ 16) (hn : -16 ≤ n ∧ n ≤ 16) (hk : 0 ≤ kind ∧ kind ≤ 3) {X Y : Int} (hX : 0 ≤ X ∧ X < W) (hY : 0 ≤ Y ∧ Y < H) :
    wdot W 0 0 ⟨0, 0, W, H⟩ ps 2 2 3 (mvK m n) kind X Y = pclr (pick W H ps (min (max (X + m) 0) (W - 1)) (min (max (Y + n) 0) (H - 1))) := by
  have w1 := io.w1; have h1 := io.h1
  unfold wdot
  rw [mv_wat hm hn]
  dsimp only
  rw [show X * 65536 + 32768 + m * 65536 = (X + m) * 65536 + 32768 by omega, show Y * 65536 + 32768 + n * 65536 = (Y + n) * 65536 + 32768 by omega]
  rw [center_mean (by omega) (by omega) (by omega) (wpx_ok io _ _)]
  rw [wpx_pick (H := H) (by unfold bcl; dsimp only; omega)]
  unfold bcl
  dsimp only
  congr 2 <;> omega
end Go.Proofs.Ytbakgdcajpagkaa
