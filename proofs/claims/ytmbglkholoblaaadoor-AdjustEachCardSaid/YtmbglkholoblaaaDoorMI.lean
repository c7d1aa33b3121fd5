/- Mix and its reference. -/
import Derived.Test.YtmbglkholoblaaaDoorMH
import Derived.Test.YtmbglkholoblaaaDoorMD
import Derived.Deep.RegionHeld3
import Derived.Deep.DeepCutAuto
namespace Go.Proofs.YtmbglkholoblaaaDoor
open Go.RowKit

/-- Behind the first statement: both boxes hold limited pixels. -/
def MixMid (p q : Px) (t : Int) (w : World) (v : Value) (wx : World) : Prop :=
  v = .int .i64 (lim16 t) ∧ Bx wx w.heap.size 25 #[.int .i64 (lim16 p.r), .int .i64 (lim16 p.g), .int .i64 (lim16 p.b), .int .i64 (lim16 p.a)] ∧ Bx wx (w.heap.size + 1) 25 #[.int .i64 (lim16 q.r), .int .i64 (lim16 q.g), .int .i64 (lim16 q.b), .int .i64 (lim16 q.a)] ∧
    Bx wx (w.heap.size + 1 + 1) 25 #[.int .i64 0, .int .i64 0, .int .i64 0, .int .i64 0] ∧ Below w.heap.size w wx
theorem mixMid_of {p q : Px} {t : Int} {w w4 : World} {a b c d a' b' c' d' : Value} (h1 : Bx w4 w.heap.size 25 #[a, b, c, d]) (h2 : Bx w4 (w.heap.size + 1) 25 #[a', b', c', d']) (h3 : Bx w4 (w.heap.size + 1 + 1) 25 #[.int .i64 0, .int .i64 0, .int .i64 0, .int .i64 0]) (hB : Below w.heap.size w w4) :
    MixMid p q t w (.int .i64 (lim16 t)) ((((((((w4.setCell ⟨w.heap.size, 0, none⟩ (.int .i64 (lim16 p.r))).setCell ⟨w.heap.size, 1, none⟩ (.int .i64 (lim16 p.g))).setCell ⟨w.heap.size, 2, none⟩ (.int .i64 (lim16 p.b))).setCell ⟨w.heap.size, 3, none⟩ (.int .i64 (lim16 p.a))).setCell ⟨w.heap.size + 1, 0, none⟩ (.int .i64 (lim16 q.r))).setCell ⟨w.heap.size + 1, 1, none⟩ (.int .i64 (lim16 q.g))).setCell ⟨w.heap.size + 1, 2, none⟩ (.int .i64 (lim16 q.b))).setCell ⟨w.heap.size + 1, 3, none⟩ (.int .i64 (lim16 q.a))) :=
  ⟨rfl, (h1.put4 _ _ _ _).other4 (by omega) _ _ _ _ _ _ _ _, (h2.other4 (by omega) _ _ _ _ _ _ _ _).put4 _ _ _ _, (h3.other4 (by omega) _ _ _ _ _ _ _ _).other4 (by omega) _ _ _ _ _ _ _ _, set4_below (set4_below hB (Nat.le_refl _) _ _ _ _ _ _ _ _) (by omega) _ _ _ _ _ _ _ _⟩
theorem mix_bd {a b t : Int} (ha : 0 ≤ a ∧ a ≤ 65535) (hb : 0 ≤ b ∧ b ≤ 65535) (ht : 0 ≤ t ∧ t ≤ 65535) : (0 ≤ a * (65535 - t) ∧ a * (65535 - t) ≤ 4294836225) ∧ (0 ≤ b * t ∧ b * t ≤ 4294836225) ∧ a * (65535 - t) + b * t ≤ 4294836225 := by
  have h1 := mul_bd ha (b := 65535 - t) (by omega); have h2 := mul_bd hb ht
  have f1 : a * (65535 - t) ≤ 65535 * (65535 - t) := Int.mul_le_mul_of_nonneg_right ha.2 (by omega)
  have f2 : b * t ≤ 65535 * t := Int.mul_le_mul_of_nonneg_right hb.2 ht.1
  exact ⟨h1, h2, by omega⟩
theorem mix_sum {x y u v : Int} (hx : 0 ≤ x ∧ x ≤ 65535) (hy : 0 ≤ y ∧ y ≤ 65535) (hu : 0 ≤ u ∧ u ≤ 4294836225) (hv : 0 ≤ v ∧ v ≤ 4294836225) : (0 ≤ x * u ∧ x * u ≤ 281462092005375) ∧ 0 ≤ y * v ∧ y * v ≤ 281462092005375 := by
  have h1 := Int.mul_nonneg hx.1 hu.1; have h2 := Int.mul_nonneg hy.1 hv.1
  have f1 : x * u ≤ 65535 * 4294836225 := Int.mul_le_mul hx.2 hu.2 hu.1 (by omega)
  have f2 : y * v ≤ 65535 * 4294836225 := Int.mul_le_mul hy.2 hv.2 hv.1 (by omega)
  omega
set_option maxRecDepth 100000 in
set_option maxHeartbeats 4000000 in
theorem mix_any (p q : Px) (t : Int) (w : World) : Calls Tryd.prog 74 #[.agg #[.int .i64 p.r, .int .i64 p.g, .int .i64 p.b, .int .i64 p.a], .agg #[.int .i64 q.r, .int .i64 q.g, .int .i64 q.b, .int .i64 q.a], .int .i64 t] w (PxPost (mixP p q t) w) := by
  go_enter Tryd.func74, Tryd.ntmps74
  go_upto_region 1 with fail
  obtain ⟨hb1, hb2, hb3, hB, -⟩ := three_boxes w #[.int .i64 p.r, .int .i64 p.g, .int .i64 p.b, .int .i64 p.a] #[.int .i64 q.r, .int .i64 q.g, .int .i64 q.b, .int .i64 q.a] #[.int .i64 0, .int .i64 0, .int .i64 0, .int .i64 0] 25 25 25 _ rfl
  generalize World.alloc (World.alloc (World.alloc w _) _) _ = w0 at *
  go_cut [2] (MixMid p q t w)
  case first =>
    replace hb1 := hb1.drew; replace hb2 := hb2.drew; replace hb3 := hb3.drew; replace hB := hB.drew
    obtain ⟨⟨i1, i2, i3, i4⟩, if1, if2, if3, if4⟩ := hb1.four
    obtain ⟨⟨j1, j2, j3, j4⟩, jf1, jf2, jf3, jf4⟩ := hb2.four
    go_region_with (first | (go_at_call 33; refine (limit_any _ _ _ _ _).mono ?_; rintro e w4 ⟨rfl, hbw4⟩; have hb1 := hb1.below hbw4; have hb2 := hb2.below hbw4; have hb3 := hb3.below hbw4; have hB := bel_trans hB hbw4; obtain ⟨⟨i1, i2, i3, i4⟩, if1, if2, if3, if4⟩ := hb1.four; obtain ⟨⟨j1, j2, j3, j4⟩, jf1, jf2, jf3, jf4⟩ := hb2.four) | (go_at_call 64; refine (punit_any _ _).mono ?_; rintro e w5 ⟨rfl, rfl⟩))
    all_goals (try go_wp2_with fail)
    all_goals go_meet
    all_goals exact mixMid_of hb1 hb2 hb3 hB
  case rest =>
    obtain ⟨rfl, hb1, hb2, hb3, hB⟩ := hcut
    have E := Lib.hid (show mixP p q t = if rdiv (lim16 p.a * (65535 - lim16 t) + lim16 q.a * lim16 t) 65535 = 0 then Px.zero else ⟨rdiv (lim16 p.r * (lim16 p.a * (65535 - lim16 t)) + lim16 q.r * (lim16 q.a * lim16 t)) (lim16 p.a * (65535 - lim16 t) + lim16 q.a * lim16 t), rdiv (lim16 p.g * (lim16 p.a * (65535 - lim16 t)) + lim16 q.g * (lim16 q.a * lim16 t)) (lim16 p.a * (65535 - lim16 t) + lim16 q.a * lim16 t), rdiv (lim16 p.b * (lim16 p.a * (65535 - lim16 t)) + lim16 q.b * (lim16 q.a * lim16 t)) (lim16 p.a * (65535 - lim16 t) + lim16 q.a * lim16 t), rdiv (lim16 p.a * (65535 - lim16 t) + lim16 q.a * lim16 t) 65535⟩ from rfl)
    have hR := lim16_bd p.r; have hG := lim16_bd p.g; have hBb := lim16_bd p.b; have hA := lim16_bd p.a
    have hR' := lim16_bd q.r; have hG' := lim16_bd q.g; have hB' := lim16_bd q.b; have hA' := lim16_bd q.a
    have hT := lim16_bd t
    generalize mixP p q t = m at *
    generalize lim16 p.r = R at *; generalize lim16 p.g = G at *; generalize lim16 p.b = B at *; generalize lim16 p.a = A at *
    generalize lim16 q.r = R' at *; generalize lim16 q.g = G' at *; generalize lim16 q.b = B' at *; generalize lim16 q.a = A' at *
    generalize lim16 t = T at *
    obtain ⟨hu, hv, huv⟩ := mix_bd hA hA' hT
    obtain ⟨⟨i1, i2, i3, i4⟩, -⟩ := hb1.four
    obtain ⟨⟨j1, j2, j3, j4⟩, -⟩ := hb2.four
    have HB1 := Lib.hid hb1; have HB2 := Lib.hid hb2; have HB3 := Lib.hid hb3; have HB := Lib.hid hB
    clear hb1 hb2 hb3 hB
    go_wp2_with fail
    go_quiet (fail)
    replace HB1 := Lib.hid (HB1.out.drewN nq); replace HB2 := Lib.hid (HB2.out.drewN nq); replace HB3 := Lib.hid (HB3.out.drewN nq); replace HB := Lib.hid (Below.drewN' HB.out nq)
    clear i1 i2 i3 i4 j1 j2 j3 j4
    generalize hu0 : A * (65535 - T) = u at *
    generalize hv0 : A' * T = v at *
    clear hu0 hv0
    generalize World.drewN wc nq = wd at *
    obtain ⟨hr1, hr2⟩ := mix_sum hR hR' hu hv; obtain ⟨hg1, hg2⟩ := mix_sum hG hG' hu hv; obtain ⟨hbb1, hbb2⟩ := mix_sum hBb hB' hu hv
    go_wp2_with fail
    refine (div_any _ _ _ (by omega) (by omega) (by omega) (by omega)).mono ?_
    rintro e wf ⟨rfl, rfl⟩
    have hal := rdiv_spec (u + v) 65535 (by omega)
    by_cases hα : rdiv (u + v) 65535 = 0
    · rw [hα]
      rw [if_pos hα] at E
      clear hα hal
      obtain ⟨⟨r1, r2, r3, r4⟩, f1, f2, f3, f4⟩ := HB3.out.four
      go_wp2_with fail
      refine bodyPost_ret (v := .agg #[.int .i64 0, .int .i64 0, .int .i64 0, .int .i64 0]) (by simp [results, Tryd.results74, go_sem, r1, r2, r3, r4]) rfl ⟨by rw [E.out]; rfl, ?_⟩
      exact set4_below HB.out (by omega) _ _ _ _ _ _ _ _
    · rw [if_neg hα] at E
      have huv0 : 0 < u + v := by omega
      have ha0 : (rdiv (u + v) 65535 == 0) = false := by simp; omega
      generalize rdiv (u + v) 65535 = α at *
      clear hα hal
      obtain ⟨⟨i1, i2, i3, i4⟩, -⟩ := HB1.out.four
      obtain ⟨⟨j1, j2, j3, j4⟩, -⟩ := HB2.out.four
      have q1 : IntKind.i64.wrap (R * u) = R * u := wrap_in _ (by omega)
      have q2 : IntKind.i64.wrap (R' * v) = R' * v := wrap_in _ (by omega)
      have q3 : IntKind.i64.wrap (R * u + R' * v) = R * u + R' * v := wrap_in _ (by omega)
      have q4 : IntKind.i64.wrap (G * u) = G * u := wrap_in _ (by omega)
      have q5 : IntKind.i64.wrap (G' * v) = G' * v := wrap_in _ (by omega)
      have q6 : IntKind.i64.wrap (G * u + G' * v) = G * u + G' * v := wrap_in _ (by omega)
      have q7 : IntKind.i64.wrap (B * u) = B * u := wrap_in _ (by omega)
      have q8 : IntKind.i64.wrap (B' * v) = B' * v := wrap_in _ (by omega)
      have q9 : IntKind.i64.wrap (B * u + B' * v) = B * u + B' * v := wrap_in _ (by omega)
      have D1 := Lib.hid (fun w' => div_any (R * u + R' * v) (u + v) w' (by omega) (by omega) (by omega) (by omega))
      have D2 := Lib.hid (fun w' => div_any (G * u + G' * v) (u + v) w' (by omega) (by omega) (by omega) (by omega))
      have D3 := Lib.hid (fun w' => div_any (B * u + B' * v) (u + v) w' (by omega) (by omega) (by omega) (by omega))
      generalize rdiv (R * u + R' * v) (u + v) = qr at *
      generalize rdiv (G * u + G' * v) (u + v) = qg at *
      generalize rdiv (B * u + B' * v) (u + v) = qb at *
      go_wp2_with fail
      go_still_tail 35, (by kernel_rfl)
      still_call (still_of (D1.out wd.drew))
      repeat still_step
      still_call (still_of (D2.out wd.drew))
      repeat still_step
      still_call (still_of (D3.out wd.drew))
      repeat still_step
      refine wpStill_nil ?_
      change wpList _ _ _ _ _ wd.drew
      have hB := HB.out.drew; have hb3 := HB3.out.drew
      clear i1 i2 i3 i4 j1 j2 j3 j4 HB HB1 HB2 HB3
      generalize wd.drew = w8 at *
      obtain ⟨⟨r1, r2, r3, r4⟩, f1, f2, f3, f4⟩ := hb3.four
      have HB := Lib.hid hB; clear hB hb3
      go_wp2_with fail
      refine bodyPost_ret (v := .agg #[.int .i64 qr, .int .i64 qg, .int .i64 qb, .int .i64 α]) (by simp [results, Tryd.results74, go_sem, r1, r2, r3, r4]) rfl ⟨by rw [E.out], ?_⟩
      exact set4_below HB.out (by omega) _ _ _ _ _ _ _ _

end Go.Proofs.YtmbglkholoblaaaDoor
