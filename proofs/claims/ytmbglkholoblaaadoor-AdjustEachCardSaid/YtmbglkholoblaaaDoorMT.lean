/- The reference's single, apply and Pixel as they are called; the walk of AdjustPixels. -/
import Derived.Test.YtmbglkholoblaaaDoorMS
import Derived.Test.YtmbglkholoblaaaDoorMN
import Derived.Test.YtmbglkholoblaaaDoorMO
namespace Go.Proofs.YtmbglkholoblaaaDoor
open Go.RowKit

theorem expD_bd {x p0 : Int} (hx : 0 ≤ x ∧ x ≤ 65535) (h0 : -128 ≤ p0 ∧ p0 ≤ 128) : -4611686018427300000 ≤ expD p0 x ∧ expD p0 x ≤ 4611686018427300000 := by
  have hr : (p0 % 16).toNat < 16 := by omega
  have hF := facs_bd _ hr
  have hxf : 0 ≤ x * facs.getD (p0 % 16).toNat 0 ∧ x * facs.getD (p0 % 16).toNat 0 ≤ 8225625525 := ⟨Int.mul_nonneg hx.1 (by omega), by have : x * facs.getD (p0 % 16).toNat 0 ≤ 65535 * 125515 := Int.mul_le_mul hx.2 hF.2 (by omega) (by omega); omega⟩
  unfold expD
  split
  · have h1 := pow_bd (m := (p0 / 16).toNat) (by omega) hxf
    have h2 := rdiv_in (a := x * facs.getD (p0 % 16).toNat 0 * 2 ^ (p0 / 16).toNat) (b := 65536) (q := 2105760134400) (by omega) h1.1 (by omega)
    omega
  · have hp : (0 : Int) < 2 ^ (-(p0 / 16)).toNat := Int.pow_pos (by omega)
    have h2 := rdiv_in (a := x * facs.getD (p0 % 16).toNat 0) (b := 65536 * 2 ^ (-(p0 / 16)).toNat) (q := 8225625525) (by omega) hxf.1 (by
      have : (1 : Int) * 8225625525 ≤ (65536 * 2 ^ (-(p0 / 16)).toNat) * 8225625525 := Int.mul_le_mul_of_nonneg_right (by omega) (by omega)
      omega)
    omega
section
variable {l : List Int} {ss : List (Int × Px)}
theorem rsingle_any (k : Int) (hk : k = 1 ∨ k = 2 ∨ k = 3 ∨ k = 4 ∨ k = 7 ∨ k = 11) (a : AdjOk k l ss) (A : Option Addr) (c : Nat) (x : Int) (w : World) (hx : 0 ≤ x ∧ x ≤ 65535) (h : Ints w w.heap.size (.slice A l.length c) l) :
    Calls Tryd.prog 63 #[.int .i64 k, .slice A l.length c, .int .i64 x] w (InPost (sing k l x) w) := by
  rcases hk with rfl | rfl | rfl | rfl | rfl | rfl
  · exact rsing_1 A _ c x w hx
  · have hn := a.len.1 rfl
    obtain ⟨b, o, c1, ev, hb, hc⟩ := ints_at h (by omega)
    injection ev with u1 u2 u3
    subst u1 u3
    obtain ⟨h0, h2, h3, h4⟩ := a.p2
    have c0 := hc 0 (by omega)
    rw [Nat.add_zero] at c0
    rw [hn]
    exact rsing_2 b o c _ _ _ _ _ x w hx h0 h2 h3 h4 c0 (hc 1 (by omega)) (hc 2 (by omega)) (hc 3 (by omega)) (hc 4 (by omega))
  · have hcn := a.cnt
    have hcn' := cnt_3 hcn rfl
    have hcl := cnt_le hcn
    obtain ⟨b, o, c1, ev, hb, hc⟩ := ints_at h (by omega)
    injection ev with u1 u2 u3
    subst u1 u3
    exact rsing_3 b o c l x w hcn'.2 hcl hb hc
  · have hn := a.len.2.1 rfl
    obtain ⟨b, o, c1, ev, hb, hc⟩ := ints_at h (by omega)
    injection ev with u1 u2 u3
    subst u1 u3
    obtain ⟨h0, h1⟩ := a.p4
    have c0 := hc 0 (by omega)
    rw [Nat.add_zero] at c0
    rw [hn]
    exact rsing_4 b o c _ _ x w hx h0 h1 c0 (hc 1 (by omega))
  · have hn := a.len.2.2.2.2.2.2.1 rfl
    obtain ⟨b, o, c1, ev, hb, hc⟩ := ints_at h (by omega)
    injection ev with u1 u2 u3
    subst u1 u3
    have h0 := a.p7
    have c0 := hc 0 (by omega)
    rw [Nat.add_zero] at c0
    rw [hn]
    exact rsing_7 b o c _ (prm l 0 - 1) x w hx (by omega) (by omega) c0
  · have hn := a.len.2.2.1 rfl
    obtain ⟨b, o, c1, ev, hb, hc⟩ := ints_at h (by omega)
    injection ev with u1 u2 u3
    subst u1 u3
    obtain ⟨h0, h1⟩ := a.p11
    have c0 := hc 0 (by omega)
    rw [Nat.add_zero] at c0
    rw [hn]
    exact rsing_11 b o c _ _ x (expD (prm l 0) x) w h1 (expD_bd hx h0) hb c0 (hc 1 (by omega)) (fun w' => rexpose_any x (prm l 0) w' hx h0)
theorem hue_a {p : Px} (hp : p.ok) (ha : p.a ≠ 0) : (⟨(hueF l p).r, (hueF l p).g, (hueF l p).b, p.a⟩ : Px) = hueF l p := by
  have e := lim16_id p.a hp.2.2.2
  have : (hueF l p).a = p.a := by
    unfold hueF fromH
    rw [e, if_neg ha]
    rfl
  rw [← this]
theorem rapply_any (k : Int) (a : AdjOk k l ss) (A : Option Addr) (c : Nat) (A' : Option Addr) (c' : Nat) (p : Px) (hp : p.ok) (w : World) (h : Ints w w.heap.size (.slice A l.length c) l) (hs : Stps w w.heap.size (.slice A' ss.length c') ss) :
    Calls Tryd.prog 30 #[.int .i64 k, .slice A l.length c, .slice A' ss.length c', .agg #[.int .i64 p.r, .int .i64 p.g, .int .i64 p.b, .int .i64 p.a]] w (PxPost (appF k l ss p) w) := by
  unfold appF
  by_cases ha : p.a = 0
  · rw [if_pos ha]; exact rapply_zero k A _ c A' _ c' p w ha
  rw [if_neg ha]
  have sg : (k = 1 ∨ k = 2 ∨ k = 3 ∨ k = 4 ∨ k = 7 ∨ k = 11) → Calls Tryd.prog 30 #[.int .i64 k, .slice A l.length c, .slice A' ss.length c', .agg #[.int .i64 p.r, .int .i64 p.g, .int .i64 p.b, .int .i64 p.a]] w (PxPost ⟨sing k l p.r, sing k l p.g, sing k l p.b, p.a⟩ w) := fun hk =>
    rapply_sing k hk A _ c A' _ c' p _ _ _ w ha (fun w' hb => rsingle_any k hk a A c p.r w' hp.1 ((h.below hb).more hb.size)) (fun w' hb => rsingle_any k hk a A c p.g w' hp.2.1 ((h.below hb).more hb.size)) (fun w' hb => rsingle_any k hk a A c p.b w' hp.2.2.1 ((h.below hb).more hb.size))
  have l1 := a.lo; have l2 := a.hi
  rcases kinds l1 l2 with rfl | rfl | rfl | rfl | rfl | rfl | rfl | rfl | rfl | rfl | rfl
  · exact sg (by omega)
  · exact sg (by omega)
  · exact sg (by omega)
  · exact sg (by omega)
  · show Calls _ _ _ _ (PxPost ⟨(hueF l p).r, (hueF l p).g, (hueF l p).b, p.a⟩ w)
    rw [hue_a hp ha]
    have hn := a.len.2.2.2.1 rfl
    obtain ⟨b, o, c1, ev, hb, hc⟩ := ints_at h (by omega)
    injection ev with u1 u2 u3
    subst u1 u3
    have c0 := hc 0 (by omega)
    rw [Nat.add_zero] at c0
    rw [hn]
    obtain ⟨h0, h1, h2⟩ := a.p5
    obtain ⟨b1, b2, b3⟩ := toH_bd p
    have hm := full_bd b2 h1
    refine rapply_5 b o c A' _ c' (prm l 0) (prm l 1) (prm l 2) p (hueF l p) (toH p).1 (toH p).2.1 (toH p).2.2 (rdiv (lim16 (65535 - (toH p).2.2) * lim16 (prm l 2)) 65535) (rdiv (lim16 (toH p).2.2 * lim16 (-(prm l 2))) 65535) (hueL (prm l 2) (toH p).2.2) (rdiv ((toH p).2.1 * (65535 + prm l 1)) 65535) w ha hb h0 h1 h2 b1 b3
      (mul_in (lim16_bd _) (lim16_bd _)) (mul_in (lim16_bd _) (lim16_bd _)) ?_ hm c0 (hc 1 (by omega)) (hc 2 (by omega)) (fun w' => rtohsl_any p w') (fun w' => rmul_any _ _ w') (fun w' => rmul_any _ _ w') (fun w' => bel_div (rdiv_any _ _ w' (by omega) (by omega) (by omega) (by omega))) (fun w' => rfromhsl_any _ _ _ _ w')
    by_cases hl : prm l 2 < 0
    · exact .inl ⟨hl, by rw [hueL_dn hl, lim16_id (toH p).2.2 b3, lim16_id (-(prm l 2)) (by omega)]⟩
    · exact .inr ⟨by omega, by rw [hueL_up (by omega), lim16_id (65535 - (toH p).2.2) (by omega), lim16_id (prm l 2) (by omega)]⟩
  · have hn := a.len.2.2.2.2.2.1 rfl
    obtain ⟨b, o, c1, ev, hb, hc⟩ := ints_at h (by omega)
    injection ev with u1 u2 u3
    subst u1 u3
    have c0 := hc 0 (by omega)
    rw [Nat.add_zero] at c0
    rw [hn]
    refine rapply_6 b o c A' _ c' (prm l 0) p (luma p) (thrF l p) w ha hb ?_ c0 (fun w' => rluma_any p w')
    unfold thrF
    by_cases hl : prm l 0 ≤ luma p
    · exact .inl ⟨hl, by rw [if_pos hl]⟩
    · exact .inr ⟨by omega, by rw [if_neg hl]⟩
  · exact sg (by omega)
  · have hn := a.len.2.2.2.2.2.2.2 rfl
    obtain ⟨b, o, c1, ev, hb, hc⟩ := ints_at h (by omega)
    injection ev with u1 u2 u3
    subst u1 u3
    rw [hn]
    exact rapply_8 b o c l A' _ c' p w ha hp hb a.p8 (fun i hi => hc i (by omega))
  · have hn := a.len.2.2.2.2.1 rfl
    obtain ⟨b, o, c1, ev, hb, hc⟩ := ints_at h (by omega)
    injection ev with u1 u2 u3
    subst u1 u3
    have c0 := hc 0 (by omega)
    rw [Nat.add_zero] at c0
    rw [hn]
    obtain ⟨h0, h1, h2, h3⟩ := a.p9
    exact rapply_9 b o c A' _ c' _ _ _ p _ w ha hp hb h0 h1 h2 h3 rfl c0 (hc 1 (by omega)) (hc 2 (by omega))
  · have ht := (luma_in hp).2
    exact rapply_10 A _ c A' _ c' p (mapF ss (luma p)) (luma p) w ha (fun w' => rluma_any p w') (fun w' hb => rmapped_any ss a.stops _ (luma p) w' (hs.on hb) ht)
  · exact sg (by omega)
end
set_option maxRecDepth 100000 in
set_option maxHeartbeats 4000000 in
theorem rpixel_no (k : Int) (A : Option Addr) (n c : Nat) (A' : Option Addr) (n' c' : Nat) (p : Px) (w : World) (E E2 : Int)
    (hE : (E ≠ 0 ∧ E2 = E) ∨ (E = 0 ∧ E2 = 2 ∧ pxOk p = false))
    (TC : ∀ w', Below w.heap.size w w' → Calls Tryd.prog 23 #[.int .i64 k, .slice A n c, .slice A' n' c'] w' fun e w'' => e = .returned (.int .i64 E) ∧ Below w'.heap.size w' w'') :
    Calls Tryd.prog 13 #[.int .i64 k, .slice A n c, .slice A' n' c', .agg #[.int .i64 p.r, .int .i64 p.g, .int .i64 p.b, .int .i64 p.a]] w (PePost Px.zero E2 w) := by
  have HTC := Lib.hid TC; clear TC
  go_enter Tryd.func13, Tryd.ntmps13
  go_upto_region 1 with fail
  obtain ⟨hb7, hb8, hB⟩ := two_boxes w #[.int .i64 p.r, .int .i64 p.g, .int .i64 p.b, .int .i64 p.a] #[.int .i64 0, .int .i64 0, .int .i64 0, .int .i64 0] 25 25 _ rfl
  generalize World.alloc (World.alloc w _) _ = w0 at *
  go_wp2_with fail
  refine (HTC.out _ hB).mono ?_
  rintro e w1 ⟨rfl, hbb⟩
  replace hb7 := hb7.below hbb; replace hb8 := hb8.below hbb; replace hB := bel_trans hB hbb
  clear hbb
  rcases hE with ⟨hE, rfl⟩ | ⟨rfl, rfl, hp⟩
  · have hne : (E2 != 0) = true := by simp [hE]
    clear hE
    obtain ⟨⟨r1, r2, r3, r4⟩, f1, f2, f3, f4⟩ := hb8.four
    clear hb7 hb8
    go_wp2_with fail
    refine bodyPost_ret (v := .tuple #[.agg #[.int .i64 0, .int .i64 0, .int .i64 0, .int .i64 0], .int .i64 E2]) (by simp [results, Tryd.results13, go_sem, r1, r2, r3, r4]) rfl ⟨rfl, ?_⟩
    exact set4_below hB (by omega) _ _ _ _ _ _ _ _
  · have HP := Lib.hid (show pxOk ⟨p.r, p.g, p.b, p.a⟩ = false from hp); clear hp
    obtain ⟨⟨i1, i2, i3, i4⟩, -⟩ := hb7.four
    go_wp2_with fail
    refine (rpvalid_any _ _ _ _ _).mono ?_
    rintro e w2 ⟨rfl, hbb⟩
    rw [HP.out]
    replace hB := bel_trans hB hbb
    obtain ⟨⟨r1, r2, r3, r4⟩, f1, f2, f3, f4⟩ := (hb8.below hbb).four
    clear hb7 hb8 i1 i2 i3 i4 hbb
    go_wp2_with fail
    refine bodyPost_ret (v := .tuple #[.agg #[.int .i64 0, .int .i64 0, .int .i64 0, .int .i64 0], .int .i64 2]) (by simp [results, Tryd.results13, go_sem, r1, r2, r3, r4]) rfl ⟨rfl, ?_⟩
    exact set4_below hB (by omega) _ _ _ _ _ _ _ _
set_option maxRecDepth 100000 in
set_option maxHeartbeats 4000000 in
theorem rpixel_yes (k : Int) (A : Option Addr) (n c : Nat) (A' : Option Addr) (n' c' : Nat) (p m : Px) (w : World) (hp : pxOk p = true)
    (TC : ∀ w', Below w.heap.size w w' → Calls Tryd.prog 23 #[.int .i64 k, .slice A n c, .slice A' n' c'] w' fun e w'' => e = .returned (.int .i64 0) ∧ Below w'.heap.size w' w'')
    (TA : ∀ w', Below w.heap.size w w' → Calls Tryd.prog 30 #[.int .i64 k, .slice A n c, .slice A' n' c', .agg #[.int .i64 p.r, .int .i64 p.g, .int .i64 p.b, .int .i64 p.a]] w' (PxPost m w')) :
    Calls Tryd.prog 13 #[.int .i64 k, .slice A n c, .slice A' n' c', .agg #[.int .i64 p.r, .int .i64 p.g, .int .i64 p.b, .int .i64 p.a]] w (PePost m 0 w) := by
  have HTC := Lib.hid TC; have HTA := Lib.hid TA; clear TC TA
  have HP := Lib.hid (show pxOk ⟨p.r, p.g, p.b, p.a⟩ = true from hp); clear hp
  go_enter Tryd.func13, Tryd.ntmps13
  go_upto_region 1 with fail
  obtain ⟨hb7, hb8, hB⟩ := two_boxes w #[.int .i64 p.r, .int .i64 p.g, .int .i64 p.b, .int .i64 p.a] #[.int .i64 0, .int .i64 0, .int .i64 0, .int .i64 0] 25 25 _ rfl
  generalize World.alloc (World.alloc w _) _ = w0 at *
  go_wp2_with fail
  refine (HTC.out _ hB).mono ?_
  rintro e w1 ⟨rfl, hbb⟩
  replace hb7 := hb7.below hbb; replace hb8 := hb8.below hbb; replace hB := bel_trans hB hbb
  clear hbb
  obtain ⟨⟨i1, i2, i3, i4⟩, -⟩ := hb7.four
  go_wp2_with fail
  refine (rpvalid_any _ _ _ _ _).mono ?_
  rintro e w2 ⟨rfl, hbb⟩
  rw [HP.out]
  replace hb7 := hb7.below hbb; replace hb8 := hb8.below hbb; replace hB := bel_trans hB hbb
  clear hbb i1 i2 i3 i4
  obtain ⟨⟨i1, i2, i3, i4⟩, -⟩ := hb7.four
  go_wp2_with fail
  refine (HTA.out _ hB).mono ?_
  rintro e w3 ⟨rfl, hbb⟩
  replace hB := bel_trans hB hbb
  obtain ⟨⟨r1, r2, r3, r4⟩, f1, f2, f3, f4⟩ := (hb8.below hbb).four
  clear hbb i1 i2 i3 i4 hb7 hb8
  go_wp2_with fail
  refine bodyPost_ret (v := .tuple #[.agg #[.int .i64 m.r, .int .i64 m.g, .int .i64 m.b, .int .i64 m.a], .int .i64 0]) (by simp [results, Tryd.results13, go_sem, r1, r2, r3, r4]) rfl ⟨rfl, ?_⟩
  exact set4_below hB (by omega) _ _ _ _ _ _ _ _
/-- The reference's Pixel. -/
theorem rpixel_any (k : Int) (l : List Int) (ss : List (Int × Px)) (A : Option Addr) (c : Nat) (A' : Option Addr) (c' : Nat) (p : Px) (w : World) (h : Ints w w.heap.size (.slice A l.length c) l) (hs : Stps w w.heap.size (.slice A' ss.length c') ss) :
    Calls Tryd.prog 13 #[.int .i64 k, .slice A l.length c, .slice A' ss.length c', .agg #[.int .i64 p.r, .int .i64 p.g, .int .i64 p.b, .int .i64 p.a]] w (PePost (pixF k l ss p) (perr k l ss p) w) := by
  have TC := fun w' (hb : Below w.heap.size w w') => r17check_any k l ss A c A' c' w' ((h.below hb).more hb.size) (hs.on hb)
  by_cases hE : achk k l ss = 0
  · rw [hE] at TC
    cases hp : pxOk p
    · have e : perr k l ss p = 2 := by unfold perr; rw [if_pos hE, hp]; rfl
      have e2 : pixF k l ss p = Px.zero := by unfold pixF; rw [e]; rfl
      rw [e, e2]
      exact rpixel_no k A _ c A' _ c' p w 0 2 (.inr ⟨rfl, rfl, hp⟩) TC
    · have e : perr k l ss p = 0 := by unfold perr; rw [if_pos hE, hp]; rfl
      have e2 : pixF k l ss p = appF k l ss p := by unfold pixF; rw [e]; rfl
      rw [e, e2]
      exact rpixel_yes k A _ c A' _ c' p _ w hp TC (fun w' hb => rapply_any k ((achk_iff k l ss).1 hE) A c A' c' p ((pxOk_iff p).1 hp) w' ((h.below hb).more hb.size) (hs.on hb))
  · have e : perr k l ss p = achk k l ss := by unfold perr; rw [if_neg hE]
    have e2 : pixF k l ss p = Px.zero := by unfold pixF; rw [e, if_neg hE]
    rw [e, e2]
    exact rpixel_no k A _ c A' _ c' p w _ _ (.inl ⟨hE, rfl⟩) TC
set_option maxRecDepth 100000 in
set_option maxHeartbeats 4000000 in
theorem pixels_core (k : Int) (A : Option Addr) (n c : Nat) (A' : Option Addr) (n' c' : Nat) (p m : Px) (E : Int) (w : World)
    (T0 : ∀ w', Below w.heap.size w w' → Calls Tryd.prog 14 #[] w' fun e w'' => e = .returned (.bool true) ∧ Below w'.heap.size w' w'')
    (T1 : ∀ w', Below w.heap.size w w' → Calls Tryd.prog 12 #[.int .i64 k, .slice A n c, .slice A' n' c', .agg #[.int .i64 p.r, .int .i64 p.g, .int .i64 p.b, .int .i64 p.a]] w' (PePost m E w'))
    (T2 : ∀ w', Below w.heap.size w w' → Calls Tryd.prog 13 #[.int .i64 k, .slice A n c, .slice A' n' c', .agg #[.int .i64 p.r, .int .i64 p.g, .int .i64 p.b, .int .i64 p.a]] w' (PePost m E w')) :
    Calls Tryd.prog 3 #[.int .i64 k, .slice A n c, .slice A' n' c', .agg #[.int .i64 p.r, .int .i64 p.g, .int .i64 p.b, .int .i64 p.a]] w fun e w' => e = .returned (.bool true) ∧ Below w.heap.size w w' := by
  have HT0 := Lib.hid T0; have HT1 := Lib.hid T1; have HT2 := Lib.hid T2
  clear T0 T1 T2
  go_enter Tryd.func3, Tryd.ntmps3
  go_upto_region 1 with fail
  obtain ⟨hb7, hB, -⟩ := one_box w #[.int .i64 p.r, .int .i64 p.g, .int .i64 p.b, .int .i64 p.a] 25 _ rfl
  generalize World.alloc w _ = w0 at *
  obtain ⟨⟨i1, i2, i3, i4⟩, -⟩ := hb7.four
  go_wp2_with fail
  refine (HT1.out _ hB).mono ?_
  rintro e w1 ⟨rfl, hbb⟩
  replace hb7 := hb7.below hbb; replace hB := bel_trans hB hbb
  clear hbb i1 i2 i3 i4
  go_upto_region 2 with fail
  obtain ⟨hb9, hbb, -⟩ := one_box w1 #[.int .i64 m.r, .int .i64 m.g, .int .i64 m.b, .int .i64 m.a] 25 _ rfl
  generalize World.alloc w1 _ = w2 at *
  replace hb7 := hb7.below hbb; replace hB := bel_trans hB hbb
  clear hbb
  obtain ⟨⟨i1, i2, i3, i4⟩, -⟩ := hb7.four
  go_wp2_with fail
  refine (HT2.out _ hB).mono ?_
  rintro e w3 ⟨rfl, hbb⟩
  replace hb9 := hb9.below hbb; replace hB := bel_trans hB hbb
  clear hbb i1 i2 i3 i4 hb7
  go_upto_region 3 with fail
  obtain ⟨hb11, hbb, -⟩ := one_box w3 #[.int .i64 m.r, .int .i64 m.g, .int .i64 m.b, .int .i64 m.a] 25 _ rfl
  generalize World.alloc w3 _ = w4 at *
  replace hb9 := hb9.below hbb; replace hB := bel_trans hB hbb
  clear hbb
  go_wp2_with fail
  refine (HT0.out _ hB).mono ?_
  rintro e w5 ⟨rfl, hbb⟩
  replace hb9 := hb9.below hbb; replace hb11 := hb11.below hbb; replace hB := bel_trans hB hbb
  obtain ⟨⟨i1, i2, i3, i4⟩, -⟩ := hb9.four
  obtain ⟨⟨j1, j2, j3, j4⟩, -⟩ := hb11.four
  clear hb9 hb11 hbb
  go_wp2_with fail
  go_ret
  exact ⟨by simp, hB⟩
theorem walk_pixels (k : Int) (v1 : Value) (l : List Int) (v2 : Value) (ss : List (Int × Px)) (v3 : Value) (p : Px) (w : World) (hT : Tab w) (_ : in64 k) (h1 : IntsV w v1 l) (h2 : StpsV w v2 ss) (h3 : PxV v3 p) :
    Calls Tryd.prog 3 #[.int .i64 k, v1, v2, v3] w fun e w' => e = .returned (.bool true) ∧ Below w.heap.size w w' := by
  obtain ⟨A, c, rfl, hi⟩ := h1
  obtain ⟨A', c', rfl, hs⟩ := h2
  obtain ⟨rfl, _⟩ := h3
  exact pixels_core k A _ c A' _ c' p (pixF k l ss p) (perr k l ss p) w (fun w' hb => awake_any w' (hT.below hb))
    (fun w' hb => apixel_any k l ss A c A' c' p w' (hT.below hb) ((hi.below hb).more hb.size) (hs.on hb)) (fun w' hb => rpixel_any k l ss A c A' c' p w' ((hi.below hb).more hb.size) (hs.on hb))
end Go.Proofs.YtmbglkholoblaaaDoor
