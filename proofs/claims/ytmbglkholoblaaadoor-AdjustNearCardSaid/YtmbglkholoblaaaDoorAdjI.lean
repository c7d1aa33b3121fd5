/- turned, gray: the color functions of adjust that work on a whole pixel. -/
import Derived.Test.YtmbglkholoblaaaDoorAdjD
import Derived.Test.YtmbglkholoblaaaDoorAdjLaw
import Derived.Test.YtmbglkholoblaaaDoorAdjE
namespace Go.Proofs.YtmbglkholoblaaaDoor
open Go.RowKit

theorem toHsl_bd {r g b : Int} (hr : 0 ≤ r ∧ r ≤ 65535) (hg : 0 ≤ g ∧ g ≤ 65535) (hb : 0 ≤ b ∧ b ≤ 65535) : (0 ≤ (toHsl r g b).1 ∧ (toHsl r g b).1 ≤ 65535) ∧ (0 ≤ (toHsl r g b).2.1 ∧ (toHsl r g b).2.1 ≤ 65535) ∧ 0 ≤ (toHsl r g b).2.2 ∧ (toHsl r g b).2.2 ≤ 65535 := by
  unfold toHsl
  by_cases hc : max (max r g) b - min (min r g) b = 0
  · rw [if_pos hc]
    have h := rdiv_spec (max (max r g) b + min (min r g) b) 2 (by omega)
    dsimp only
    omega
  · rw [if_neg hc]
    obtain ⟨h1, h2, _⟩ := chroma_back (M := max (max r g) b) (m := min (min r g) b) (by omega) (by omega) (by omega)
    dsimp only
    refine ⟨?_, h1, ?_⟩
    · generalize rdiv (65536 * (hslK r g b * (max (max r g) b - min (min r g) b) + hslE r g b)) (6 * (max (max r g) b - min (min r g) b)) = z
      omega
    · omega
theorem toH_bd (p : Px) : (0 ≤ (toH p).1 ∧ (toH p).1 ≤ 65535) ∧ (0 ≤ (toH p).2.1 ∧ (toH p).2.1 ≤ 65535) ∧ 0 ≤ (toH p).2.2 ∧ (toH p).2.2 ≤ 65535 := toHsl_bd (lim16_bd _) (lim16_bd _) (lim16_bd _)
theorem hueL_up {l2 v : Int} (h : 0 ≤ l2) : hueL l2 v = v + rdiv ((65535 - v) * l2) 65535 := by unfold hueL; rw [if_pos h]
theorem hueL_dn {l2 v : Int} (h : l2 < 0) : hueL l2 v = v - rdiv (v * (-l2)) 65535 := by unfold hueL; rw [if_neg (by omega)]
theorem mul_in {a b : Int} (ha : 0 ≤ a ∧ a ≤ 65535) (hb : 0 ≤ b ∧ b ≤ 65535) : 0 ≤ rdiv (a * b) 65535 ∧ rdiv (a * b) 65535 ≤ 65535 := by
  have h := mul_bd ha hb
  have := rdiv_spec (a * b) 65535 (by omega)
  omega
theorem full_bd {s p1 : Int} (hs : 0 ≤ s ∧ s ≤ 65535) (h1 : -65535 ≤ p1 ∧ p1 ≤ 65535) : 0 ≤ s * (65535 + p1) ∧ s * (65535 + p1) ≤ 8589672450 := by
  have e1 := Int.mul_nonneg hs.1 (show 0 ≤ 65535 + p1 by omega)
  have e2 : s * (65535 + p1) ≤ 65535 * 131070 := Int.mul_le_mul hs.2 (by omega) (by omega) (by omega)
  omega
/-- A pixel whose alpha has no meaning. -/
def ColPost (t : Int × Int × Int) (w : World) (e : Ending) (w' : World) : Prop := ∃ a : Int, e = .returned (.agg #[.int .i64 t.1, .int .i64 t.2.1, .int .i64 t.2.2, .int .i64 a]) ∧ Below w.heap.size w w'
theorem agray_any (c : Int) (w : World) : Calls Tryd.prog 52 #[.int .i64 c] w fun e w' => e = .returned (.agg #[.int .i64 c, .int .i64 c, .int .i64 c, .int .i64 0]) ∧ Below w.heap.size w w' := by
  go_enter Tryd.func52, Tryd.ntmps52
  go_upto_region 1 with fail
  obtain ⟨hb1, hB, -⟩ := one_box w #[.int .i64 0, .int .i64 0, .int .i64 0, .int .i64 0] 25 _ rfl
  generalize World.alloc w _ = w0 at *
  obtain ⟨⟨r1, r2, r3, r4⟩, f1, f2, f3, f4⟩ := hb1.four
  go_wp2_with fail
  refine bodyPost_ret (v := .agg #[.int .i64 c, .int .i64 c, .int .i64 c, .int .i64 0]) (by simp [results, Tryd.results52, go_sem, r1, r2, r3, r4]) rfl ⟨rfl, ?_⟩
  exact set4_below hB (Nat.le_refl _) _ _ _ _ _ _ _ _

set_option maxRecDepth 100000 in
set_option maxHeartbeats 4000000 in
theorem turned_core (b o c : Nat) (p0 p1 p2 : Int) (p m : Px) (h s l lt fl : Int) (w : World) (hh : 0 ≤ h ∧ h ≤ 65535) (hs : 0 ≤ s ∧ s ≤ 65535) (hl : 0 ≤ l ∧ l ≤ 65535) (h0 : -32768 ≤ p0 ∧ p0 ≤ 32768) (h1 : -65535 ≤ p1 ∧ p1 ≤ 65535) (h2 : -65535 ≤ p2 ∧ p2 ≤ 65535) (hb : b < w.heap.size)
    (c0 : w.cell? ⟨b, o, none⟩ = some (.int .i64 p0)) (c1 : w.cell? ⟨b, o + 1, none⟩ = some (.int .i64 p1)) (c2 : w.cell? ⟨b, o + 2, none⟩ = some (.int .i64 p2))
    (TH : ∀ w', Calls Tryd.prog 15 #[.agg #[.int .i64 p.r, .int .i64 p.g, .int .i64 p.b, .int .i64 p.a]] w' (TriPost (h, s, l) w'))
    (hm : (decide (0 ≤ p2) = true ∧ ∃ d, l + d = lt ∧ (0 ≤ d ∧ d ≤ 65535) ∧ ∀ w', Calls Tryd.prog 72 #[.int .i64 (65535 - l), .int .i64 p2] w' fun e w'' => e = .returned (.int .i64 d) ∧ w' = w'') ∨
      (decide (0 ≤ p2) = false ∧ ∃ d, l - d = lt ∧ (0 ≤ d ∧ d ≤ 65535) ∧ ∀ w', Calls Tryd.prog 72 #[.int .i64 l, .int .i64 (-p2)] w' fun e w'' => e = .returned (.int .i64 d) ∧ w' = w''))
    (TD : ∃ d, (∀ w', Calls Tryd.prog 34 #[.int .i64 (s * (65535 + p1)), .int .i64 65535] w' fun e w'' => e = .returned (.int .i64 d) ∧ w' = w'') ∧ ∀ w', Calls Tryd.prog 39 #[.int .i64 d] w' fun e w'' => e = .returned (.int .i64 fl) ∧ w' = w'')
    (TF : ∀ w', Calls Tryd.prog 17 #[.agg #[.int .i64 (h + p0), .int .i64 fl, .int .i64 lt], .int .i64 p.a] w' (PxPost m w')) :
    Calls Tryd.prog 49 #[.slice (some ⟨b, o, none⟩) 3 c, .agg #[.int .i64 p.r, .int .i64 p.g, .int .i64 p.b, .int .i64 p.a]] w (PxPost m w) := by
  have hfb := full_bd hs h1
  have HTH := Lib.hid TH; have HTF := Lib.hid TF
  obtain ⟨df, TD1, TD2⟩ := TD
  have HD1 := Lib.hid TD1; have HD2 := Lib.hid TD2
  clear TH TF TD1 TD2
  go_enter Tryd.func49, Tryd.ntmps49
  go_upto_region 1 with fail
  obtain ⟨hb1, hb2, hB⟩ := two_boxes w #[.int .i64 p.r, .int .i64 p.g, .int .i64 p.b, .int .i64 p.a] #[.int .i64 0, .int .i64 0, .int .i64 0, .int .i64 0] 25 25 _ rfl
  generalize World.alloc (World.alloc w _) _ = w0 at *
  obtain ⟨⟨i1, i2, i3, i4⟩, -⟩ := hb1.four
  go_wp2_with fail
  refine (HTH.out _).mono ?_
  rintro e w1 ⟨rfl, hbb⟩
  replace hb1 := hb1.below hbb; replace hb2 := hb2.below hbb; replace hB := bel_trans hB hbb
  clear hbb i1 i2 i3 i4
  go_upto_region 2 with fail
  obtain ⟨hb5, hbb, -⟩ := one_box w1 #[.int .i64 h, .int .i64 s, .int .i64 l] 31 _ rfl
  generalize World.alloc w1 _ = w2 at *
  replace hb1 := hb1.below hbb; replace hb2 := hb2.below hbb; replace hB := bel_trans hB hbb
  clear hbb
  obtain ⟨⟨i1, i2, i3, i4⟩, -⟩ := hb1.four
  obtain ⟨⟨j1, j2, j3⟩, -⟩ := hb5.three
  replace c0 := (hB.cell (p := ⟨b, o, none⟩) hb).trans c0
  replace c1 := (hB.cell (p := ⟨b, o + 1, none⟩) hb).trans c1
  replace c2 := (hB.cell (p := ⟨b, o + 2, none⟩) hb).trans c2
  have HB := Lib.hid hB; have HB2 := Lib.hid hb2
  clear hB hb1 hb2 hb5
  rcases hm with ⟨hp, d, hd, hd0, TM⟩ | ⟨hp, d, hd, hd0, TM⟩
  all_goals
    have HTM := Lib.hid TM; clear TM
    go_wp2_with fail
    refine (HTM.out _).mono ?_
    rintro e w3 ⟨rfl, rfl⟩
    go_wp2_with fail
    go_quiet (first | (go_at_call 34; exact quiet_tol (HD1.out _) ⟨_, rfl⟩) | (go_at_call 39; exact quiet_tol (HD2.out _) ⟨_, rfl⟩))
    replace c0 : (w2.drewN nq).cell? ⟨b, o, none⟩ = some (.int .i64 p0) := c0
    replace j1 : (w2.drewN nq).cell? ⟨w1.heap.size, 0, none⟩ = some (.int .i64 h) := j1
    replace i4 : (w2.drewN nq).cell? ⟨w.heap.size, 3, none⟩ = some (.int .i64 p.a) := i4
    replace HB := Lib.hid (Below.drewN' HB.out nq); replace HB2 := Lib.hid (HB2.out.drewN nq)
    clear c1 c2 j2 j3 i1 i2 i3
    generalize World.drewN w2 nq = w4 at *
    go_wp2_with fail
    have hwh : IntKind.i64.wrap (h + p0) = h + p0 := wrap_in _ (by omega)
    go_still_tail 11, (by kernel_rfl)
    change wpList _ _ _ _ _ w4.drew
    replace HB := Lib.hid HB.out.drew; replace HB2 := Lib.hid HB2.out.drew
    clear c0 j1 i4
    generalize w4.drew = w5 at *
    go_wp2_with fail
    refine (HTF.out _).mono ?_
    rintro e w6 ⟨rfl, hbb⟩
    obtain ⟨⟨r1, r2, r3, r4⟩, f1, f2, f3, f4⟩ := (HB2.out.below hbb).four
    have HBF := Lib.hid (bel_trans HB.out hbb)
    clear hbb
    go_wp2_with fail
    refine bodyPost_ret (v := .agg #[.int .i64 m.r, .int .i64 m.g, .int .i64 m.b, .int .i64 m.a]) (by simp [results, Tryd.results49, go_sem, r1, r2, r3, r4]) rfl ⟨rfl, ?_⟩
    exact set4_below HBF.out (by omega) _ _ _ _ _ _ _ _
/-- turned. -/
theorem turned_any (b o c : Nat) (l : List Int) (ss : List (Int × Px)) (a : AdjOk 5 l ss) (p : Px) (w : World) (hb : b < w.heap.size) (c0 : w.cell? ⟨b, o, none⟩ = some (.int .i64 (prm l 0))) (c1 : w.cell? ⟨b, o + 1, none⟩ = some (.int .i64 (prm l 1))) (c2 : w.cell? ⟨b, o + 2, none⟩ = some (.int .i64 (prm l 2))) :
    Calls Tryd.prog 49 #[.slice (some ⟨b, o, none⟩) 3 c, .agg #[.int .i64 p.r, .int .i64 p.g, .int .i64 p.b, .int .i64 p.a]] w (PxPost (hueF l p) w) := by
  obtain ⟨h0, h1, h2⟩ := a.p5
  obtain ⟨b1, b2, b3⟩ := toH_bd p
  have hfb := full_bd b2 h1
  refine turned_core b o c _ _ _ p (hueF l p) (toH p).1 (toH p).2.1 (toH p).2.2 (hueL (prm l 2) (toH p).2.2) (lim16 (rdiv ((toH p).2.1 * (65535 + prm l 1)) 65535)) w b1 b2 b3 h0 h1 h2 hb c0 c1 c2 (fun w' => tohsl_any p w') ?_
    ⟨_, fun w' => div_any _ _ w' (by omega) (by omega) (by omega) (by omega), fun w' => aunit_any _ w'⟩ (fun w' => fromhsl_any _ _ _ _ w')
  by_cases hp : 0 ≤ prm l 2
  · refine .inl ⟨by simp [hp], rdiv ((65535 - (toH p).2.2) * prm l 2) 65535, (hueL_up hp).symm, mul_in (by omega) (by omega), fun w' => ?_⟩
    have := nmul_any (65535 - (toH p).2.2) (prm l 2) w'
    rw [lim16_id _ (by omega), lim16_id (prm l 2) (by omega)] at this
    exact this
  · refine .inr ⟨by simp; omega, rdiv ((toH p).2.2 * (-(prm l 2))) 65535, (hueL_dn (by omega)).symm, mul_in (by omega) (by omega), fun w' => ?_⟩
    have := nmul_any (toH p).2.2 (-(prm l 2)) w'
    rw [lim16_id _ (by omega), lim16_id (-(prm l 2)) (by omega)] at this
    exact this
end Go.Proofs.YtmbglkholoblaaaDoor
