/- ToHsl and its reference. -/
import Derived.Test.YtmbglkholoblaaaDoorME
namespace Go.Proofs.YtmbglkholoblaaaDoor
open Go.RowKit
attribute [local go_sem 2000] run_max2m run_min2m run_max3m run_min3m

theorem Bx.put3 {w : World} {g : Nat} {t : TypeId} {a b c : Value} (h : Bx w g t #[a, b, c]) (a' b' c' : Value) : Bx (((w.setCell ⟨g, 0, none⟩ a').setCell ⟨g, 1, none⟩ b').setCell ⟨g, 2, none⟩ c') g t #[a', b', c'] := by
  have := ((h.set 0 a').set 1 b').set 2 c'
  simpa using this
/-- Three numbers are returned. -/
def TriPost (t : Int × Int × Int) (w : World) (e : Ending) (w' : World) : Prop := e = .returned (.agg #[.int .i64 t.1, .int .i64 t.2.1, .int .i64 t.2.2]) ∧ Below w.heap.size w w'
theorem hsl_zero {R G B : Int} (h : max3 R G B - min3 R G B = 0) : toHsl R G B = (0, 0, rdiv (max3 R G B + min3 R G B) 2) := by unfold toHsl; unfold max3 min3 at h ⊢; rw [if_pos h]
theorem hsl_r {R G B : Int} (h : ¬ max3 R G B - min3 R G B = 0) (h1 : max3 R G B = R) : toHsl R G B = (rdiv (65536 * (G - B)) (6 * (max3 R G B - min3 R G B)) % 65536, rdiv ((max3 R G B - min3 R G B) * 65535) (hslD (max3 R G B) (min3 R G B)), rdiv (max3 R G B + min3 R G B) 2) := by
  unfold toHsl hslK hslE; unfold max3 min3 at *; rw [if_neg h, if_pos h1, if_pos h1, Int.zero_mul, Int.zero_add]
theorem hsl_g {R G B : Int} (h : ¬ max3 R G B - min3 R G B = 0) (h1 : ¬ max3 R G B = R) (h2 : max3 R G B = G) : toHsl R G B = (rdiv (65536 * (2 * (max3 R G B - min3 R G B) + (B - R))) (6 * (max3 R G B - min3 R G B)) % 65536, rdiv ((max3 R G B - min3 R G B) * 65535) (hslD (max3 R G B) (min3 R G B)), rdiv (max3 R G B + min3 R G B) 2) := by
  unfold toHsl hslK hslE; unfold max3 min3 at *; rw [if_neg h, if_neg h1, if_neg h1, if_pos h2, if_pos h2]
theorem hsl_b {R G B : Int} (h : ¬ max3 R G B - min3 R G B = 0) (h1 : ¬ max3 R G B = R) (h2 : ¬ max3 R G B = G) : toHsl R G B = (rdiv (65536 * (4 * (max3 R G B - min3 R G B) + (R - G))) (6 * (max3 R G B - min3 R G B)) % 65536, rdiv ((max3 R G B - min3 R G B) * 65535) (hslD (max3 R G B) (min3 R G B)), rdiv (max3 R G B + min3 R G B) 2) := by
  unfold toHsl hslK hslE; unfold max3 min3 at *; rw [if_neg h, if_neg h1, if_neg h1, if_neg h2, if_neg h2]
theorem hue_bd {c E : Int} (hc : 0 < c) (h0 : -c ≤ E) (h1 : E ≤ 5 * c) : -65536 ≤ rdiv (65536 * E) (6 * c) ∧ rdiv (65536 * E) (6 * c) ≤ 65535 := by
  have h := rdiv_spec (65536 * E) (6 * c) (by omega)
  constructor
  · rcases Int.lt_or_le (rdiv (65536 * E) (6 * c)) (-65536) with d | d
    · have : 6 * c * rdiv (65536 * E) (6 * c) ≤ 6 * c * (-65537) := Int.mul_le_mul_of_nonneg_left (by omega) (by omega)
      omega
    · exact d
  · rcases Int.lt_or_le 65535 (rdiv (65536 * E) (6 * c)) with d | d
    · have : 6 * c * 65536 ≤ 6 * c * rdiv (65536 * E) (6 * c) := Int.mul_le_mul_of_nonneg_left (by omega) (by omega)
      omega
    · exact d

set_option maxHeartbeats 4000000 in
theorem tohsl_z (r g b a R G B A' : Int) (T : Int × Int × Int) (hR : 0 ≤ R ∧ R ≤ 65535) (hG : 0 ≤ G ∧ G ≤ 65535) (hB : 0 ≤ B ∧ B ≤ 65535) (hz : max3 R G B - min3 R G B = 0) (hT : toHsl R G B = T) (w : World)
    (TL : ∀ w', Calls Tryd.prog 33 #[.agg #[.int .i64 r, .int .i64 g, .int .i64 b, .int .i64 a]] w' fun e w'' => e = .returned (.agg #[.int .i64 R, .int .i64 G, .int .i64 B, .int .i64 A']) ∧ Below w'.heap.size w' w'') :
    Calls Tryd.prog 15 #[.agg #[.int .i64 r, .int .i64 g, .int .i64 b, .int .i64 a]] w (TriPost T w) := by
  subst hT
  have E := Lib.hid (hsl_zero hz)
  have hb1 : 0 ≤ min3 R G B ∧ max3 R G B ≤ 65535 := by unfold max3 min3; omega
  have hb2 : R ≤ max3 R G B ∧ G ≤ max3 R G B ∧ B ≤ max3 R G B ∧ min3 R G B ≤ R ∧ min3 R G B ≤ G ∧ min3 R G B ≤ B := by unfold max3 min3; omega
  have HL := Lib.hid TL; clear TL
  generalize hM : max3 R G B = M at *
  generalize hm : min3 R G B = m at *
  have hcc : (M - m == 0) = true := by simp; omega
  clear hz
  go_enter Tryd.func15, Tryd.ntmps15
  go_upto_region 1 with fail
  obtain ⟨hb3, hb4, hB⟩ := two_boxes w #[.int .i64 r, .int .i64 g, .int .i64 b, .int .i64 a] #[.int .i64 0, .int .i64 0, .int .i64 0] 25 31 _ rfl
  generalize World.alloc (World.alloc w _) _ = w0 at *
  obtain ⟨⟨j1, j2, j3, j4⟩, -⟩ := hb3.four
  go_wp2_with fail
  refine (HL.out _).mono ?_
  rintro e w1 ⟨rfl, hbb⟩
  replace hb3 := hb3.below hbb; replace hb4 := hb4.below hbb; replace hB := bel_trans hB hbb; clear hbb j1 j2 j3 j4
  obtain ⟨⟨j1, j2, j3, j4⟩, f1, f2, f3, f4⟩ := hb3.four
  go_upto_region 2 with fail
  clear j1 j2 j3 j4 f1 f2 f3 f4
  have hb5 := hb3.put4 (.int .i64 R) (.int .i64 G) (.int .i64 B) (.int .i64 A')
  have hb6 := hb4.other4 (g' := w.heap.size) (by omega) 0 1 2 3 (.int .i64 R) (.int .i64 G) (.int .i64 B) (.int .i64 A')
  have hB2 := set4_below hB (Nat.le_refl _) 0 1 2 3 (.int .i64 R) (.int .i64 G) (.int .i64 B) (.int .i64 A')
  generalize World.setCell _ _ _ = w2 at *
  clear hb3 hb4 hB
  obtain ⟨⟨j1, j2, j3, j4⟩, -⟩ := hb5.four
  have HB2 := Lib.hid hB2; have HB6 := Lib.hid hb6; clear hb5 hb6 hB2
  go_wp2_with fail
  refine (div_any _ _ _ (by omega) (by omega) (by omega) (by omega)).mono ?_
  rintro e x1 ⟨rfl, rfl⟩
  obtain ⟨⟨r1, r2, r3⟩, f1, f2, f3⟩ := HB6.out.three
  clear j1 j2 j3 j4
  go_wp2_with fail
  refine bodyPost_ret (v := .agg #[.int .i64 0, .int .i64 0, .int .i64 (rdiv (M + m) 2)]) (by simp [results, Tryd.results15, go_sem, r1, r2, r3]) rfl ⟨by rw [E.out], ?_⟩
  refine set3_below ?_ (by omega) _ _ _
  repeat (first | exact HB2.out | refine Below.drewN' ?_ _)

set_option maxHeartbeats 4000000 in
theorem tohsl_r (r g b a R G B A' : Int) (T : Int × Int × Int) (hR : 0 ≤ R ∧ R ≤ 65535) (hG : 0 ≤ G ∧ G ≤ 65535) (hB : 0 ≤ B ∧ B ≤ 65535) (hz : ¬ max3 R G B - min3 R G B = 0) (h1 : max3 R G B = R) (hT : toHsl R G B = T) (w : World)
    (TL : ∀ w', Calls Tryd.prog 33 #[.agg #[.int .i64 r, .int .i64 g, .int .i64 b, .int .i64 a]] w' fun e w'' => e = .returned (.agg #[.int .i64 R, .int .i64 G, .int .i64 B, .int .i64 A']) ∧ Below w'.heap.size w' w'') :
    Calls Tryd.prog 15 #[.agg #[.int .i64 r, .int .i64 g, .int .i64 b, .int .i64 a]] w (TriPost T w) := by
  subst hT
  have E := Lib.hid (hsl_r hz h1)
  have hb1 : 0 ≤ min3 R G B ∧ max3 R G B ≤ 65535 := by unfold max3 min3; omega
  have hb2 : R ≤ max3 R G B ∧ G ≤ max3 R G B ∧ B ≤ max3 R G B ∧ min3 R G B ≤ R ∧ min3 R G B ≤ G ∧ min3 R G B ≤ B := by unfold max3 min3; omega
  have hDD := hslD_bd (M := max3 R G B) (m := min3 R G B) hb1.1 hb1.2
  have hDE : hslD (max3 R G B) (min3 R G B) = 65535 - max (max3 R G B + min3 R G B - 65535) (-(max3 R G B + min3 R G B - 65535)) := rfl
  have HL := Lib.hid TL; clear TL
  have qR : (max3 R G B == R) = true := by simp; omega
  generalize hM : max3 R G B = M at *
  generalize hm : min3 R G B = m at *
  have hcc : (M - m == 0) = false := by simp; omega
  have hc0 : 0 < M - m := by omega
  clear h1
  clear hz
  go_enter Tryd.func15, Tryd.ntmps15
  go_upto_region 1 with fail
  obtain ⟨hb3, hb4, hB⟩ := two_boxes w #[.int .i64 r, .int .i64 g, .int .i64 b, .int .i64 a] #[.int .i64 0, .int .i64 0, .int .i64 0] 25 31 _ rfl
  generalize World.alloc (World.alloc w _) _ = w0 at *
  obtain ⟨⟨j1, j2, j3, j4⟩, -⟩ := hb3.four
  go_wp2_with fail
  refine (HL.out _).mono ?_
  rintro e w1 ⟨rfl, hbb⟩
  replace hb3 := hb3.below hbb; replace hb4 := hb4.below hbb; replace hB := bel_trans hB hbb; clear hbb j1 j2 j3 j4
  obtain ⟨⟨j1, j2, j3, j4⟩, f1, f2, f3, f4⟩ := hb3.four
  go_upto_region 2 with fail
  clear j1 j2 j3 j4 f1 f2 f3 f4
  have hb5 := hb3.put4 (.int .i64 R) (.int .i64 G) (.int .i64 B) (.int .i64 A')
  have hb6 := hb4.other4 (g' := w.heap.size) (by omega) 0 1 2 3 (.int .i64 R) (.int .i64 G) (.int .i64 B) (.int .i64 A')
  have hB2 := set4_below hB (Nat.le_refl _) 0 1 2 3 (.int .i64 R) (.int .i64 G) (.int .i64 B) (.int .i64 A')
  generalize World.setCell _ _ _ = w2 at *
  clear hb3 hb4 hB
  obtain ⟨⟨j1, j2, j3, j4⟩, -⟩ := hb5.four
  have HB2 := Lib.hid hB2; have HB6 := Lib.hid hb6; clear hb5 hb6 hB2
  go_wp2_with fail
  refine (div_any _ _ _ (by omega) (by omega) (by omega) (by omega)).mono ?_
  rintro e x1 ⟨rfl, rfl⟩
  go_wp2_with fail
  go_wp2_with fail
  refine (div_any _ _ _ (by omega) (by omega) (by omega) (by omega)).mono ?_
  rintro e x2 ⟨rfl, rfl⟩
  go_wp2_with fail
  go_quiet (fail)
  go_wp2_with fail
  go_quiet (fail)
  go_wp2_with fail
  have hh := hue_bd (c := M - m) (E := (G - B)) (by omega) (by omega) (by omega)
  generalize hH : rdiv (65536 * (G - B)) (6 * (M - m)) = Hh at *
  have HH := Lib.hid hH; clear hH
  have D3 := Lib.hid (fun (w' : World) => show Calls Tryd.prog 34 #[.int .i64 (65536 * (G - B)), .int .i64 (6 * (M - m))] w' _ from by have := div_any (65536 * (G - B)) (6 * (M - m)) w' (by omega) (by omega) (by omega) (by omega); rw [HH.out] at this; exact this)
  refine (D3.out _).mono ?_
  rintro e x3 ⟨rfl, rfl⟩
  obtain ⟨⟨r1, r2, r3⟩, f1, f2, f3⟩ := HB6.out.three
  clear j1 j2 j3 j4
  go_wp2_with fail
  refine (modulo_any _ _).mono ?_
  rintro e x4 ⟨rfl, rfl⟩
  go_wp2_with fail
  refine bodyPost_ret (v := .agg #[.int .i64 (Hh % 65536), .int .i64 (rdiv ((M - m) * 65535) (hslD M m)), .int .i64 (rdiv (M + m) 2)]) (by simp [results, Tryd.results15, go_sem, r1, r2, r3, hslD]) rfl ⟨by first | rw [E.out, HH.out] | rw [E.out], ?_⟩
  refine set3_below ?_ (by omega) _ _ _
  repeat (first | exact HB2.out | refine Below.drewN' ?_ _)

set_option maxHeartbeats 4000000 in
theorem tohsl_g (r g b a R G B A' : Int) (T : Int × Int × Int) (hR : 0 ≤ R ∧ R ≤ 65535) (hG : 0 ≤ G ∧ G ≤ 65535) (hB : 0 ≤ B ∧ B ≤ 65535) (hz : ¬ max3 R G B - min3 R G B = 0) (h1 : ¬ max3 R G B = R) (h2 : max3 R G B = G) (hT : toHsl R G B = T) (w : World)
    (TL : ∀ w', Calls Tryd.prog 33 #[.agg #[.int .i64 r, .int .i64 g, .int .i64 b, .int .i64 a]] w' fun e w'' => e = .returned (.agg #[.int .i64 R, .int .i64 G, .int .i64 B, .int .i64 A']) ∧ Below w'.heap.size w' w'') :
    Calls Tryd.prog 15 #[.agg #[.int .i64 r, .int .i64 g, .int .i64 b, .int .i64 a]] w (TriPost T w) := by
  subst hT
  have E := Lib.hid (hsl_g hz h1 h2)
  have hb1 : 0 ≤ min3 R G B ∧ max3 R G B ≤ 65535 := by unfold max3 min3; omega
  have hb2 : R ≤ max3 R G B ∧ G ≤ max3 R G B ∧ B ≤ max3 R G B ∧ min3 R G B ≤ R ∧ min3 R G B ≤ G ∧ min3 R G B ≤ B := by unfold max3 min3; omega
  have hDD := hslD_bd (M := max3 R G B) (m := min3 R G B) hb1.1 hb1.2
  have hDE : hslD (max3 R G B) (min3 R G B) = 65535 - max (max3 R G B + min3 R G B - 65535) (-(max3 R G B + min3 R G B - 65535)) := rfl
  have HL := Lib.hid TL; clear TL
  have qR : (max3 R G B == R) = false := by simp; omega
  have qG : (max3 R G B == G) = true := by simp; omega
  generalize hM : max3 R G B = M at *
  generalize hm : min3 R G B = m at *
  have hcc : (M - m == 0) = false := by simp; omega
  have hc0 : 0 < M - m := by omega
  clear h1 h2
  clear hz
  go_enter Tryd.func15, Tryd.ntmps15
  go_upto_region 1 with fail
  obtain ⟨hb3, hb4, hB⟩ := two_boxes w #[.int .i64 r, .int .i64 g, .int .i64 b, .int .i64 a] #[.int .i64 0, .int .i64 0, .int .i64 0] 25 31 _ rfl
  generalize World.alloc (World.alloc w _) _ = w0 at *
  obtain ⟨⟨j1, j2, j3, j4⟩, -⟩ := hb3.four
  go_wp2_with fail
  refine (HL.out _).mono ?_
  rintro e w1 ⟨rfl, hbb⟩
  replace hb3 := hb3.below hbb; replace hb4 := hb4.below hbb; replace hB := bel_trans hB hbb; clear hbb j1 j2 j3 j4
  obtain ⟨⟨j1, j2, j3, j4⟩, f1, f2, f3, f4⟩ := hb3.four
  go_upto_region 2 with fail
  clear j1 j2 j3 j4 f1 f2 f3 f4
  have hb5 := hb3.put4 (.int .i64 R) (.int .i64 G) (.int .i64 B) (.int .i64 A')
  have hb6 := hb4.other4 (g' := w.heap.size) (by omega) 0 1 2 3 (.int .i64 R) (.int .i64 G) (.int .i64 B) (.int .i64 A')
  have hB2 := set4_below hB (Nat.le_refl _) 0 1 2 3 (.int .i64 R) (.int .i64 G) (.int .i64 B) (.int .i64 A')
  generalize World.setCell _ _ _ = w2 at *
  clear hb3 hb4 hB
  obtain ⟨⟨j1, j2, j3, j4⟩, -⟩ := hb5.four
  have HB2 := Lib.hid hB2; have HB6 := Lib.hid hb6; clear hb5 hb6 hB2
  go_wp2_with fail
  refine (div_any _ _ _ (by omega) (by omega) (by omega) (by omega)).mono ?_
  rintro e x1 ⟨rfl, rfl⟩
  go_wp2_with fail
  go_wp2_with fail
  refine (div_any _ _ _ (by omega) (by omega) (by omega) (by omega)).mono ?_
  rintro e x2 ⟨rfl, rfl⟩
  go_wp2_with fail
  go_quiet (fail)
  go_wp2_with fail
  go_quiet (fail)
  go_wp2_with fail
  have hh := hue_bd (c := M - m) (E := (2 * (M - m) + (B - R))) (by omega) (by omega) (by omega)
  generalize hH : rdiv (65536 * (2 * (M - m) + (B - R))) (6 * (M - m)) = Hh at *
  have HH := Lib.hid hH; clear hH
  have D3 := Lib.hid (fun (w' : World) => show Calls Tryd.prog 34 #[.int .i64 (65536 * (2 * (M - m) + (B - R))), .int .i64 (6 * (M - m))] w' _ from by have := div_any (65536 * (2 * (M - m) + (B - R))) (6 * (M - m)) w' (by omega) (by omega) (by omega) (by omega); rw [HH.out] at this; exact this)
  refine (D3.out _).mono ?_
  rintro e x3 ⟨rfl, rfl⟩
  obtain ⟨⟨r1, r2, r3⟩, f1, f2, f3⟩ := HB6.out.three
  clear j1 j2 j3 j4
  go_wp2_with fail
  refine (modulo_any _ _).mono ?_
  rintro e x4 ⟨rfl, rfl⟩
  go_wp2_with fail
  refine bodyPost_ret (v := .agg #[.int .i64 (Hh % 65536), .int .i64 (rdiv ((M - m) * 65535) (hslD M m)), .int .i64 (rdiv (M + m) 2)]) (by simp [results, Tryd.results15, go_sem, r1, r2, r3, hslD]) rfl ⟨by first | rw [E.out, HH.out] | rw [E.out], ?_⟩
  refine set3_below ?_ (by omega) _ _ _
  repeat (first | exact HB2.out | refine Below.drewN' ?_ _)

set_option maxHeartbeats 4000000 in
theorem tohsl_b (r g b a R G B A' : Int) (T : Int × Int × Int) (hR : 0 ≤ R ∧ R ≤ 65535) (hG : 0 ≤ G ∧ G ≤ 65535) (hB : 0 ≤ B ∧ B ≤ 65535) (hz : ¬ max3 R G B - min3 R G B = 0) (h1 : ¬ max3 R G B = R) (h2 : ¬ max3 R G B = G) (hT : toHsl R G B = T) (w : World)
    (TL : ∀ w', Calls Tryd.prog 33 #[.agg #[.int .i64 r, .int .i64 g, .int .i64 b, .int .i64 a]] w' fun e w'' => e = .returned (.agg #[.int .i64 R, .int .i64 G, .int .i64 B, .int .i64 A']) ∧ Below w'.heap.size w' w'') :
    Calls Tryd.prog 15 #[.agg #[.int .i64 r, .int .i64 g, .int .i64 b, .int .i64 a]] w (TriPost T w) := by
  subst hT
  have E := Lib.hid (hsl_b hz h1 h2)
  have hb1 : 0 ≤ min3 R G B ∧ max3 R G B ≤ 65535 := by unfold max3 min3; omega
  have hb2 : R ≤ max3 R G B ∧ G ≤ max3 R G B ∧ B ≤ max3 R G B ∧ min3 R G B ≤ R ∧ min3 R G B ≤ G ∧ min3 R G B ≤ B := by unfold max3 min3; omega
  have hDD := hslD_bd (M := max3 R G B) (m := min3 R G B) hb1.1 hb1.2
  have hDE : hslD (max3 R G B) (min3 R G B) = 65535 - max (max3 R G B + min3 R G B - 65535) (-(max3 R G B + min3 R G B - 65535)) := rfl
  have HL := Lib.hid TL; clear TL
  have qR : (max3 R G B == R) = false := by simp; omega
  have qG : (max3 R G B == G) = false := by simp; omega
  generalize hM : max3 R G B = M at *
  generalize hm : min3 R G B = m at *
  have hcc : (M - m == 0) = false := by simp; omega
  have hc0 : 0 < M - m := by omega
  clear h1 h2
  clear hz
  go_enter Tryd.func15, Tryd.ntmps15
  go_upto_region 1 with fail
  obtain ⟨hb3, hb4, hB⟩ := two_boxes w #[.int .i64 r, .int .i64 g, .int .i64 b, .int .i64 a] #[.int .i64 0, .int .i64 0, .int .i64 0] 25 31 _ rfl
  generalize World.alloc (World.alloc w _) _ = w0 at *
  obtain ⟨⟨j1, j2, j3, j4⟩, -⟩ := hb3.four
  go_wp2_with fail
  refine (HL.out _).mono ?_
  rintro e w1 ⟨rfl, hbb⟩
  replace hb3 := hb3.below hbb; replace hb4 := hb4.below hbb; replace hB := bel_trans hB hbb; clear hbb j1 j2 j3 j4
  obtain ⟨⟨j1, j2, j3, j4⟩, f1, f2, f3, f4⟩ := hb3.four
  go_upto_region 2 with fail
  clear j1 j2 j3 j4 f1 f2 f3 f4
  have hb5 := hb3.put4 (.int .i64 R) (.int .i64 G) (.int .i64 B) (.int .i64 A')
  have hb6 := hb4.other4 (g' := w.heap.size) (by omega) 0 1 2 3 (.int .i64 R) (.int .i64 G) (.int .i64 B) (.int .i64 A')
  have hB2 := set4_below hB (Nat.le_refl _) 0 1 2 3 (.int .i64 R) (.int .i64 G) (.int .i64 B) (.int .i64 A')
  generalize World.setCell _ _ _ = w2 at *
  clear hb3 hb4 hB
  obtain ⟨⟨j1, j2, j3, j4⟩, -⟩ := hb5.four
  have HB2 := Lib.hid hB2; have HB6 := Lib.hid hb6; clear hb5 hb6 hB2
  go_wp2_with fail
  refine (div_any _ _ _ (by omega) (by omega) (by omega) (by omega)).mono ?_
  rintro e x1 ⟨rfl, rfl⟩
  go_wp2_with fail
  go_wp2_with fail
  refine (div_any _ _ _ (by omega) (by omega) (by omega) (by omega)).mono ?_
  rintro e x2 ⟨rfl, rfl⟩
  go_wp2_with fail
  go_quiet (fail)
  go_wp2_with fail
  have hh := hue_bd (c := M - m) (E := (4 * (M - m) + (R - G))) (by omega) (by omega) (by omega)
  generalize hH : rdiv (65536 * (4 * (M - m) + (R - G))) (6 * (M - m)) = Hh at *
  have HH := Lib.hid hH; clear hH
  have D3 := Lib.hid (fun (w' : World) => show Calls Tryd.prog 34 #[.int .i64 (65536 * (4 * (M - m) + (R - G))), .int .i64 (6 * (M - m))] w' _ from by have := div_any (65536 * (4 * (M - m) + (R - G))) (6 * (M - m)) w' (by omega) (by omega) (by omega) (by omega); rw [HH.out] at this; exact this)
  refine (D3.out _).mono ?_
  rintro e x3 ⟨rfl, rfl⟩
  obtain ⟨⟨r1, r2, r3⟩, f1, f2, f3⟩ := HB6.out.three
  clear j1 j2 j3 j4
  go_wp2_with fail
  refine (modulo_any _ _).mono ?_
  rintro e x4 ⟨rfl, rfl⟩
  go_wp2_with fail
  refine bodyPost_ret (v := .agg #[.int .i64 (Hh % 65536), .int .i64 (rdiv ((M - m) * 65535) (hslD M m)), .int .i64 (rdiv (M + m) 2)]) (by simp [results, Tryd.results15, go_sem, r1, r2, r3, hslD]) rfl ⟨by first | rw [E.out, HH.out] | rw [E.out], ?_⟩
  refine set3_below ?_ (by omega) _ _ _
  repeat (first | exact HB2.out | refine Below.drewN' ?_ _)

set_option maxHeartbeats 4000000 in
theorem rtohsl_z (r g b a R G B A' : Int) (T : Int × Int × Int) (hR : 0 ≤ R ∧ R ≤ 65535) (hG : 0 ≤ G ∧ G ≤ 65535) (hB : 0 ≤ B ∧ B ≤ 65535) (hz : max3 R G B - min3 R G B = 0) (hT : toHsl R G B = T) (w : World)
    (TL : ∀ w', Calls Tryd.prog 36 #[.agg #[.int .i64 r, .int .i64 g, .int .i64 b, .int .i64 a]] w' fun e w'' => e = .returned (.agg #[.int .i64 R, .int .i64 G, .int .i64 B, .int .i64 A']) ∧ Below w'.heap.size w' w'') :
    Calls Tryd.prog 16 #[.agg #[.int .i64 r, .int .i64 g, .int .i64 b, .int .i64 a]] w (TriPost T w) := by
  subst hT
  have E := Lib.hid (hsl_zero hz)
  have hb1 : 0 ≤ min3 R G B ∧ max3 R G B ≤ 65535 := by unfold max3 min3; omega
  have hb2 : R ≤ max3 R G B ∧ G ≤ max3 R G B ∧ B ≤ max3 R G B ∧ min3 R G B ≤ R ∧ min3 R G B ≤ G ∧ min3 R G B ≤ B := by unfold max3 min3; omega
  have HL := Lib.hid TL; clear TL
  generalize hM : max3 R G B = M at *
  generalize hm : min3 R G B = m at *
  have hcc : (M - m == 0) = true := by simp; omega
  clear hz
  go_enter Tryd.func16, Tryd.ntmps16
  go_upto_region 1 with fail
  obtain ⟨hb3, hb4, hB⟩ := two_boxes w #[.int .i64 r, .int .i64 g, .int .i64 b, .int .i64 a] #[.int .i64 0, .int .i64 0, .int .i64 0] 25 31 _ rfl
  generalize World.alloc (World.alloc w _) _ = w0 at *
  obtain ⟨⟨j1, j2, j3, j4⟩, -⟩ := hb3.four
  go_wp2_with fail
  refine (HL.out _).mono ?_
  rintro e w1 ⟨rfl, hbb⟩
  replace hb3 := hb3.below hbb; replace hb4 := hb4.below hbb; replace hB := bel_trans hB hbb; clear hbb j1 j2 j3 j4
  go_upto_region 2 with fail
  obtain ⟨hb5, hbb, -⟩ := one_box w1 #[.int .i64 R, .int .i64 G, .int .i64 B, .int .i64 A'] 25 _ rfl
  generalize World.alloc w1 _ = w2 at *
  have hb6 := hb4.below hbb; have hB2 := bel_trans hB hbb; clear hb3 hb4 hB hbb
  obtain ⟨⟨j1, j2, j3, j4⟩, -⟩ := hb5.four
  have HB2 := Lib.hid hB2; have HB6 := Lib.hid hb6; clear hb5 hb6 hB2
  go_wp2_with fail
  refine (rdiv_any _ _ _ (by omega) (by omega) (by omega) (by omega)).mono ?_
  rintro e x1 ⟨rfl, n1, rfl⟩
  obtain ⟨⟨r1, r2, r3⟩, f1, f2, f3⟩ := HB6.out.three
  clear j1 j2 j3 j4
  go_wp2_with fail
  refine bodyPost_ret (v := .agg #[.int .i64 0, .int .i64 0, .int .i64 (rdiv (M + m) 2)]) (by simp [results, Tryd.results16, go_sem, r1, r2, r3]) rfl ⟨by rw [E.out], ?_⟩
  refine set3_below ?_ (by omega) _ _ _
  repeat (first | exact HB2.out | refine Below.drewN' ?_ _)

set_option maxHeartbeats 4000000 in
theorem rtohsl_r (r g b a R G B A' : Int) (T : Int × Int × Int) (hR : 0 ≤ R ∧ R ≤ 65535) (hG : 0 ≤ G ∧ G ≤ 65535) (hB : 0 ≤ B ∧ B ≤ 65535) (hz : ¬ max3 R G B - min3 R G B = 0) (h1 : max3 R G B = R) (hT : toHsl R G B = T) (w : World)
    (TL : ∀ w', Calls Tryd.prog 36 #[.agg #[.int .i64 r, .int .i64 g, .int .i64 b, .int .i64 a]] w' fun e w'' => e = .returned (.agg #[.int .i64 R, .int .i64 G, .int .i64 B, .int .i64 A']) ∧ Below w'.heap.size w' w'') :
    Calls Tryd.prog 16 #[.agg #[.int .i64 r, .int .i64 g, .int .i64 b, .int .i64 a]] w (TriPost T w) := by
  subst hT
  have E := Lib.hid (hsl_r hz h1)
  have hb1 : 0 ≤ min3 R G B ∧ max3 R G B ≤ 65535 := by unfold max3 min3; omega
  have hb2 : R ≤ max3 R G B ∧ G ≤ max3 R G B ∧ B ≤ max3 R G B ∧ min3 R G B ≤ R ∧ min3 R G B ≤ G ∧ min3 R G B ≤ B := by unfold max3 min3; omega
  have hDD := hslD_bd (M := max3 R G B) (m := min3 R G B) hb1.1 hb1.2
  have hDE : hslD (max3 R G B) (min3 R G B) = 65535 - max (max3 R G B + min3 R G B - 65535) (-(max3 R G B + min3 R G B - 65535)) := rfl
  have HL := Lib.hid TL; clear TL
  have qR : (R == max3 R G B) = true := by simp; omega
  generalize hM : max3 R G B = M at *
  generalize hm : min3 R G B = m at *
  have hcc : (M - m == 0) = false := by simp; omega
  have hc0 : 0 < M - m := by omega
  clear h1
  clear hz
  go_enter Tryd.func16, Tryd.ntmps16
  go_upto_region 1 with fail
  obtain ⟨hb3, hb4, hB⟩ := two_boxes w #[.int .i64 r, .int .i64 g, .int .i64 b, .int .i64 a] #[.int .i64 0, .int .i64 0, .int .i64 0] 25 31 _ rfl
  generalize World.alloc (World.alloc w _) _ = w0 at *
  obtain ⟨⟨j1, j2, j3, j4⟩, -⟩ := hb3.four
  go_wp2_with fail
  refine (HL.out _).mono ?_
  rintro e w1 ⟨rfl, hbb⟩
  replace hb3 := hb3.below hbb; replace hb4 := hb4.below hbb; replace hB := bel_trans hB hbb; clear hbb j1 j2 j3 j4
  go_upto_region 2 with fail
  obtain ⟨hb5, hbb, -⟩ := one_box w1 #[.int .i64 R, .int .i64 G, .int .i64 B, .int .i64 A'] 25 _ rfl
  generalize World.alloc w1 _ = w2 at *
  have hb6 := hb4.below hbb; have hB2 := bel_trans hB hbb; clear hb3 hb4 hB hbb
  obtain ⟨⟨j1, j2, j3, j4⟩, -⟩ := hb5.four
  have HB2 := Lib.hid hB2; have HB6 := Lib.hid hb6; clear hb5 hb6 hB2
  go_wp2_with fail
  refine (rdiv_any _ _ _ (by omega) (by omega) (by omega) (by omega)).mono ?_
  rintro e x1 ⟨rfl, n1, rfl⟩
  go_wp2_with fail
  refine (r17abs_any _ (by omega) _).mono ?_
  rintro e y1 ⟨rfl, rfl⟩
  go_wp2_with fail
  refine (rdiv_any _ _ _ (by omega) (by omega) (by omega) (by omega)).mono ?_
  rintro e x2 ⟨rfl, n2, rfl⟩
  go_wp2_with fail
  have hh := hue_bd (c := M - m) (E := (G - B)) (by omega) (by omega) (by omega)
  generalize hH : rdiv (65536 * (G - B)) (6 * (M - m)) = Hh at *
  have HH := Lib.hid hH; clear hH
  have D3 := Lib.hid (fun (w' : World) => show Calls Tryd.prog 37 #[.int .i64 (65536 * (G - B)), .int .i64 (6 * (M - m))] w' _ from by have := rdiv_any (65536 * (G - B)) (6 * (M - m)) w' (by omega) (by omega) (by omega) (by omega); rw [HH.out] at this; exact this)
  refine (D3.out _).mono ?_
  rintro e x3 ⟨rfl, n3, rfl⟩
  obtain ⟨⟨r1, r2, r3⟩, f1, f2, f3⟩ := HB6.out.three
  clear j1 j2 j3 j4
  have ht : (Hh + 65536).tmod 65536 = Hh % 65536 := by rw [Int.tmod_eq_emod_of_nonneg (by omega)]; omega
  go_wp2_with fail
  refine bodyPost_ret (v := .agg #[.int .i64 (Hh % 65536), .int .i64 (rdiv ((M - m) * 65535) (hslD M m)), .int .i64 (rdiv (M + m) 2)]) (by simp [results, Tryd.results16, go_sem, r1, r2, r3, hslD]) rfl ⟨by first | rw [E.out, HH.out] | rw [E.out], ?_⟩
  refine set3_below ?_ (by omega) _ _ _
  repeat (first | exact HB2.out | refine Below.drewN' ?_ _)

set_option maxHeartbeats 4000000 in
theorem rtohsl_g (r g b a R G B A' : Int) (T : Int × Int × Int) (hR : 0 ≤ R ∧ R ≤ 65535) (hG : 0 ≤ G ∧ G ≤ 65535) (hB : 0 ≤ B ∧ B ≤ 65535) (hz : ¬ max3 R G B - min3 R G B = 0) (h1 : ¬ max3 R G B = R) (h2 : max3 R G B = G) (hT : toHsl R G B = T) (w : World)
    (TL : ∀ w', Calls Tryd.prog 36 #[.agg #[.int .i64 r, .int .i64 g, .int .i64 b, .int .i64 a]] w' fun e w'' => e = .returned (.agg #[.int .i64 R, .int .i64 G, .int .i64 B, .int .i64 A']) ∧ Below w'.heap.size w' w'') :
    Calls Tryd.prog 16 #[.agg #[.int .i64 r, .int .i64 g, .int .i64 b, .int .i64 a]] w (TriPost T w) := by
  subst hT
  have E := Lib.hid (hsl_g hz h1 h2)
  have hb1 : 0 ≤ min3 R G B ∧ max3 R G B ≤ 65535 := by unfold max3 min3; omega
  have hb2 : R ≤ max3 R G B ∧ G ≤ max3 R G B ∧ B ≤ max3 R G B ∧ min3 R G B ≤ R ∧ min3 R G B ≤ G ∧ min3 R G B ≤ B := by unfold max3 min3; omega
  have hDD := hslD_bd (M := max3 R G B) (m := min3 R G B) hb1.1 hb1.2
  have hDE : hslD (max3 R G B) (min3 R G B) = 65535 - max (max3 R G B + min3 R G B - 65535) (-(max3 R G B + min3 R G B - 65535)) := rfl
  have HL := Lib.hid TL; clear TL
  have qR : (R == max3 R G B) = false := by simp; omega
  have qG : (G == max3 R G B) = true := by simp; omega
  generalize hM : max3 R G B = M at *
  generalize hm : min3 R G B = m at *
  have hcc : (M - m == 0) = false := by simp; omega
  have hc0 : 0 < M - m := by omega
  clear h1 h2
  clear hz
  go_enter Tryd.func16, Tryd.ntmps16
  go_upto_region 1 with fail
  obtain ⟨hb3, hb4, hB⟩ := two_boxes w #[.int .i64 r, .int .i64 g, .int .i64 b, .int .i64 a] #[.int .i64 0, .int .i64 0, .int .i64 0] 25 31 _ rfl
  generalize World.alloc (World.alloc w _) _ = w0 at *
  obtain ⟨⟨j1, j2, j3, j4⟩, -⟩ := hb3.four
  go_wp2_with fail
  refine (HL.out _).mono ?_
  rintro e w1 ⟨rfl, hbb⟩
  replace hb3 := hb3.below hbb; replace hb4 := hb4.below hbb; replace hB := bel_trans hB hbb; clear hbb j1 j2 j3 j4
  go_upto_region 2 with fail
  obtain ⟨hb5, hbb, -⟩ := one_box w1 #[.int .i64 R, .int .i64 G, .int .i64 B, .int .i64 A'] 25 _ rfl
  generalize World.alloc w1 _ = w2 at *
  have hb6 := hb4.below hbb; have hB2 := bel_trans hB hbb; clear hb3 hb4 hB hbb
  obtain ⟨⟨j1, j2, j3, j4⟩, -⟩ := hb5.four
  have HB2 := Lib.hid hB2; have HB6 := Lib.hid hb6; clear hb5 hb6 hB2
  go_wp2_with fail
  refine (rdiv_any _ _ _ (by omega) (by omega) (by omega) (by omega)).mono ?_
  rintro e x1 ⟨rfl, n1, rfl⟩
  go_wp2_with fail
  refine (r17abs_any _ (by omega) _).mono ?_
  rintro e y1 ⟨rfl, rfl⟩
  go_wp2_with fail
  refine (rdiv_any _ _ _ (by omega) (by omega) (by omega) (by omega)).mono ?_
  rintro e x2 ⟨rfl, n2, rfl⟩
  go_wp2_with fail
  have hh := hue_bd (c := M - m) (E := (2 * (M - m) + (B - R))) (by omega) (by omega) (by omega)
  generalize hH : rdiv (65536 * (2 * (M - m) + (B - R))) (6 * (M - m)) = Hh at *
  have HH := Lib.hid hH; clear hH
  have D3 := Lib.hid (fun (w' : World) => show Calls Tryd.prog 37 #[.int .i64 (65536 * (2 * (M - m) + (B - R))), .int .i64 (6 * (M - m))] w' _ from by have := rdiv_any (65536 * (2 * (M - m) + (B - R))) (6 * (M - m)) w' (by omega) (by omega) (by omega) (by omega); rw [HH.out] at this; exact this)
  refine (D3.out _).mono ?_
  rintro e x3 ⟨rfl, n3, rfl⟩
  obtain ⟨⟨r1, r2, r3⟩, f1, f2, f3⟩ := HB6.out.three
  clear j1 j2 j3 j4
  have ht : (Hh + 65536).tmod 65536 = Hh % 65536 := by rw [Int.tmod_eq_emod_of_nonneg (by omega)]; omega
  go_wp2_with fail
  refine bodyPost_ret (v := .agg #[.int .i64 (Hh % 65536), .int .i64 (rdiv ((M - m) * 65535) (hslD M m)), .int .i64 (rdiv (M + m) 2)]) (by simp [results, Tryd.results16, go_sem, r1, r2, r3, hslD]) rfl ⟨by first | rw [E.out, HH.out] | rw [E.out], ?_⟩
  refine set3_below ?_ (by omega) _ _ _
  repeat (first | exact HB2.out | refine Below.drewN' ?_ _)

set_option maxHeartbeats 4000000 in
theorem rtohsl_b (r g b a R G B A' : Int) (T : Int × Int × Int) (hR : 0 ≤ R ∧ R ≤ 65535) (hG : 0 ≤ G ∧ G ≤ 65535) (hB : 0 ≤ B ∧ B ≤ 65535) (hz : ¬ max3 R G B - min3 R G B = 0) (h1 : ¬ max3 R G B = R) (h2 : ¬ max3 R G B = G) (hT : toHsl R G B = T) (w : World)
    (TL : ∀ w', Calls Tryd.prog 36 #[.agg #[.int .i64 r, .int .i64 g, .int .i64 b, .int .i64 a]] w' fun e w'' => e = .returned (.agg #[.int .i64 R, .int .i64 G, .int .i64 B, .int .i64 A']) ∧ Below w'.heap.size w' w'') :
    Calls Tryd.prog 16 #[.agg #[.int .i64 r, .int .i64 g, .int .i64 b, .int .i64 a]] w (TriPost T w) := by
  subst hT
  have E := Lib.hid (hsl_b hz h1 h2)
  have hb1 : 0 ≤ min3 R G B ∧ max3 R G B ≤ 65535 := by unfold max3 min3; omega
  have hb2 : R ≤ max3 R G B ∧ G ≤ max3 R G B ∧ B ≤ max3 R G B ∧ min3 R G B ≤ R ∧ min3 R G B ≤ G ∧ min3 R G B ≤ B := by unfold max3 min3; omega
  have hDD := hslD_bd (M := max3 R G B) (m := min3 R G B) hb1.1 hb1.2
  have hDE : hslD (max3 R G B) (min3 R G B) = 65535 - max (max3 R G B + min3 R G B - 65535) (-(max3 R G B + min3 R G B - 65535)) := rfl
  have HL := Lib.hid TL; clear TL
  have qR : (R == max3 R G B) = false := by simp; omega
  have qG : (G == max3 R G B) = false := by simp; omega
  generalize hM : max3 R G B = M at *
  generalize hm : min3 R G B = m at *
  have hcc : (M - m == 0) = false := by simp; omega
  have hc0 : 0 < M - m := by omega
  clear h1 h2
  clear hz
  go_enter Tryd.func16, Tryd.ntmps16
  go_upto_region 1 with fail
  obtain ⟨hb3, hb4, hB⟩ := two_boxes w #[.int .i64 r, .int .i64 g, .int .i64 b, .int .i64 a] #[.int .i64 0, .int .i64 0, .int .i64 0] 25 31 _ rfl
  generalize World.alloc (World.alloc w _) _ = w0 at *
  obtain ⟨⟨j1, j2, j3, j4⟩, -⟩ := hb3.four
  go_wp2_with fail
  refine (HL.out _).mono ?_
  rintro e w1 ⟨rfl, hbb⟩
  replace hb3 := hb3.below hbb; replace hb4 := hb4.below hbb; replace hB := bel_trans hB hbb; clear hbb j1 j2 j3 j4
  go_upto_region 2 with fail
  obtain ⟨hb5, hbb, -⟩ := one_box w1 #[.int .i64 R, .int .i64 G, .int .i64 B, .int .i64 A'] 25 _ rfl
  generalize World.alloc w1 _ = w2 at *
  have hb6 := hb4.below hbb; have hB2 := bel_trans hB hbb; clear hb3 hb4 hB hbb
  obtain ⟨⟨j1, j2, j3, j4⟩, -⟩ := hb5.four
  have HB2 := Lib.hid hB2; have HB6 := Lib.hid hb6; clear hb5 hb6 hB2
  go_wp2_with fail
  refine (rdiv_any _ _ _ (by omega) (by omega) (by omega) (by omega)).mono ?_
  rintro e x1 ⟨rfl, n1, rfl⟩
  go_wp2_with fail
  refine (r17abs_any _ (by omega) _).mono ?_
  rintro e y1 ⟨rfl, rfl⟩
  go_wp2_with fail
  refine (rdiv_any _ _ _ (by omega) (by omega) (by omega) (by omega)).mono ?_
  rintro e x2 ⟨rfl, n2, rfl⟩
  go_wp2_with fail
  have hh := hue_bd (c := M - m) (E := (4 * (M - m) + (R - G))) (by omega) (by omega) (by omega)
  generalize hH : rdiv (65536 * (4 * (M - m) + (R - G))) (6 * (M - m)) = Hh at *
  have HH := Lib.hid hH; clear hH
  have D3 := Lib.hid (fun (w' : World) => show Calls Tryd.prog 37 #[.int .i64 (65536 * (4 * (M - m) + (R - G))), .int .i64 (6 * (M - m))] w' _ from by have := rdiv_any (65536 * (4 * (M - m) + (R - G))) (6 * (M - m)) w' (by omega) (by omega) (by omega) (by omega); rw [HH.out] at this; exact this)
  refine (D3.out _).mono ?_
  rintro e x3 ⟨rfl, n3, rfl⟩
  obtain ⟨⟨r1, r2, r3⟩, f1, f2, f3⟩ := HB6.out.three
  clear j1 j2 j3 j4
  have ht : (Hh + 65536).tmod 65536 = Hh % 65536 := by rw [Int.tmod_eq_emod_of_nonneg (by omega)]; omega
  go_wp2_with fail
  refine bodyPost_ret (v := .agg #[.int .i64 (Hh % 65536), .int .i64 (rdiv ((M - m) * 65535) (hslD M m)), .int .i64 (rdiv (M + m) 2)]) (by simp [results, Tryd.results16, go_sem, r1, r2, r3, hslD]) rfl ⟨by first | rw [E.out, HH.out] | rw [E.out], ?_⟩
  refine set3_below ?_ (by omega) _ _ _
  repeat (first | exact HB2.out | refine Below.drewN' ?_ _)

/-- ToHsl and its reference. -/
theorem tohsl_any (p : Px) (w : World) : Calls Tryd.prog 15 #[.agg #[.int .i64 p.r, .int .i64 p.g, .int .i64 p.b, .int .i64 p.a]] w (TriPost (toH p) w) := by
  have hR := lim16_bd p.r; have hG := lim16_bd p.g; have hB := lim16_bd p.b
  have L : ∀ w', _ := fun w' => limit_any p.r p.g p.b p.a w'
  by_cases hz : max3 (lim16 p.r) (lim16 p.g) (lim16 p.b) - min3 (lim16 p.r) (lim16 p.g) (lim16 p.b) = 0
  · exact tohsl_z _ _ _ _ _ _ _ _ _ hR hG hB hz rfl w L
  · by_cases h1 : max3 (lim16 p.r) (lim16 p.g) (lim16 p.b) = lim16 p.r
    · exact tohsl_r _ _ _ _ _ _ _ _ _ hR hG hB hz h1 rfl w L
    · by_cases h2 : max3 (lim16 p.r) (lim16 p.g) (lim16 p.b) = lim16 p.g
      · exact tohsl_g _ _ _ _ _ _ _ _ _ hR hG hB hz h1 h2 rfl w L
      · exact tohsl_b _ _ _ _ _ _ _ _ _ hR hG hB hz h1 h2 rfl w L
theorem rtohsl_any (p : Px) (w : World) : Calls Tryd.prog 16 #[.agg #[.int .i64 p.r, .int .i64 p.g, .int .i64 p.b, .int .i64 p.a]] w (TriPost (toH p) w) := by
  have hR := lim16_bd p.r; have hG := lim16_bd p.g; have hB := lim16_bd p.b
  have L : ∀ w', _ := fun w' => rlimit_any p.r p.g p.b p.a w'
  by_cases hz : max3 (lim16 p.r) (lim16 p.g) (lim16 p.b) - min3 (lim16 p.r) (lim16 p.g) (lim16 p.b) = 0
  · exact rtohsl_z _ _ _ _ _ _ _ _ _ hR hG hB hz rfl w L
  · by_cases h1 : max3 (lim16 p.r) (lim16 p.g) (lim16 p.b) = lim16 p.r
    · exact rtohsl_r _ _ _ _ _ _ _ _ _ hR hG hB hz h1 rfl w L
    · by_cases h2 : max3 (lim16 p.r) (lim16 p.g) (lim16 p.b) = lim16 p.g
      · exact rtohsl_g _ _ _ _ _ _ _ _ _ hR hG hB hz h1 h2 rfl w L
      · exact rtohsl_b _ _ _ _ _ _ _ _ _ hR hG hB hz h1 h2 rfl w L
end Go.Proofs.YtmbglkholoblaaaDoor
