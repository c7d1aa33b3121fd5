/- FromHsl's reference, by parts of the wheel. -/
import Derived.Test.YtmbglkholoblaaaDoorMG
namespace Go.Proofs.YtmbglkholoblaaaDoor
open Go.RowKit
attribute [local go_sem 2000] run_max2m run_min2m run_max3m run_min3m

set_option maxHeartbeats 4000000 in
set_option maxRecDepth 100000 in
theorem rfrom_y3 (h s' l' a hu s l α C X n : Int) (p : Px) (w : World) (hα : 0 < α) (hha : 0 < a) (hhm : h % 65536 = hu) (hhu : 0 ≤ hu ∧ hu ≤ 65535) (hs : 0 ≤ s ∧ s ≤ 65535) (hl : 0 ≤ l ∧ l ≤ 65535) (hk : 6 * hu / 65536 = 3) (hC : 0 ≤ C ∧ C ≤ 65535) (hX : 0 ≤ X ∧ X ≤ 65535) (hn : -65536 ≤ n ∧ n ≤ 65536)
    (TA : ∀ w', Calls Tryd.prog 40 #[.int .i64 a] w' fun e w'' => e = .returned (.int .i64 α) ∧ w' = w'') (TS : ∀ w', Calls Tryd.prog 40 #[.int .i64 s'] w' fun e w'' => e = .returned (.int .i64 s) ∧ w' = w'') (TL : ∀ w', Calls Tryd.prog 40 #[.int .i64 l'] w' fun e w'' => e = .returned (.int .i64 l) ∧ w' = w'')
    (D1 : ∀ w', Calls Tryd.prog 37 #[.int .i64 ((65535 - max (2 * l - 65535) (-(2 * l - 65535))) * s), .int .i64 65535] w' fun e w'' => e = .returned (.int .i64 C) ∧ ∃ nn, w'' = w'.drewN nn)
    (D2 : ∀ w', Calls Tryd.prog 37 #[.int .i64 (C * (6 * hu - 196608)), .int .i64 65536] w' fun e w'' => (∃ y, e = .returned (.int .i64 y)) ∧ ∃ nn, w'' = w'.drewN nn)
    (D3 : ∀ w', Calls Tryd.prog 37 #[.int .i64 (C * (65536 - (6 * hu - 196608))), .int .i64 65536] w' fun e w'' => e = .returned (.int .i64 X) ∧ ∃ nn, w'' = w'.drewN nn)
    (D4 : ∀ w', Calls Tryd.prog 37 #[.int .i64 (2 * l - C), .int .i64 2] w' fun e w'' => e = .returned (.int .i64 n) ∧ ∃ nn, w'' = w'.drewN nn)
    (hp : p = ⟨lim16 n, lim16 (X + n), lim16 (C + n), α⟩) :
    Calls Tryd.prog 18 #[.agg #[.int .i64 h, .int .i64 s', .int .i64 l'], .int .i64 a] w (PxPost p w) := by
  subst hp
  have hb1 := mul_bd (a := 65535 - max (2 * l - 65535) (-(2 * l - 65535))) (b := s) (by omega) hs
  have hb2 := (fr_bd (f := (6 * hu - 196608)) hC (by omega)).1
  have hb3 := (fr_bd (f := (65536 - (6 * hu - 196608))) hC (by omega)).1
  have ht : (6 * hu).tdiv 65536 = 3 := by rw [Int.tdiv_eq_ediv_of_nonneg (by omega), hk]
  have ha0 : (α == 0) = false := by simp; omega
  clear hk
  have HTA := Lib.hid TA; have HTS := Lib.hid TS; have HTL := Lib.hid TL; have HD1 := Lib.hid D1; have HD3 := Lib.hid D3; have HD4 := Lib.hid D4; have HD2 := Lib.hid D2; clear TA TS TL D1 D3 D4 D2
  have hd : decide (a ≤ 0) = false := by simp; omega
  clear hha
  have hm2 : h.tmod 65536 = hu ∨ (h.tmod 65536 = hu - 65536 ∧ decide (hu - 65536 < 0) = true) := by
    rcases Int.lt_or_le h 0 with c | c
    · have e := Int.neg_tmod (-h) 65536; rw [Int.neg_neg] at e
      rw [Int.tmod_eq_emod_of_nonneg (a := -h) (by omega)] at e
      by_cases z : hu = 0
      · left; omega
      · right; exact ⟨by omega, by simp; omega⟩
    · left; rw [Int.tmod_eq_emod_of_nonneg c, hhm]
  have hd2 : decide (hu < 0) = false := by simp; omega
  have hw0 : (0 ≤ hu - 65536 + 65536 ∧ hu - 65536 + 65536 ≤ 65535) ∧ hu - 65536 + 65536 = hu := by omega
  obtain ⟨-, hw1⟩ := hw0
  clear hhm
  go_enter Tryd.func18, Tryd.ntmps18
  go_upto_region 1 with fail
  obtain ⟨hb5, hb6, hB⟩ := two_boxes w #[.int .i64 h, .int .i64 s', .int .i64 l'] #[.int .i64 0, .int .i64 0, .int .i64 0, .int .i64 0] 31 25 _ rfl
  generalize World.alloc (World.alloc w _) _ = w0 at *
  obtain ⟨⟨i1, i2, i3⟩, -⟩ := hb5.three
  have HB := Lib.hid hB; have HB6 := Lib.hid hb6; clear hB hb5 hb6
  rcases hm2 with hm2 | ⟨hm2, hm3⟩
  all_goals
    go_wp2_with fail
    refine (HTS.out _).mono ?_
    rintro e w1 ⟨rfl, rfl⟩
    go_wp2_with fail
    refine (HTL.out _).mono ?_
    rintro e w1 ⟨rfl, rfl⟩
    go_wp2_with fail
    refine (r17abs_any _ (by omega) _).mono ?_
    rintro e y1 ⟨rfl, rfl⟩
    go_wp2_with fail
    refine (HD1.out _).mono ?_
    rintro e w1 ⟨rfl, nn, rfl⟩
    have hB := Below.drewN' HB.out nn; have hb6 := HB6.out.drewN nn
    clear i1 i2 i3
    generalize World.drewN w0 nn = v1 at *
    have HB := Lib.hid hB; have HB6 := Lib.hid hb6; clear hB hb6
    go_wp2_with fail
    refine (HD2.out _).mono ?_
    rintro e w1 ⟨⟨y, rfl⟩, nn, rfl⟩
    have hB := Below.drewN' HB.out nn; have hb6 := HB6.out.drewN nn
    generalize World.drewN v1 nn = v2 at *
    have HB := Lib.hid hB; have HB6 := Lib.hid hb6; clear hB hb6
    go_wp2_with fail
    refine (HD3.out _).mono ?_
    rintro e w1 ⟨rfl, nn, rfl⟩
    have hB := Below.drewN' HB.out nn; have hb6 := HB6.out.drewN nn
    generalize World.drewN v2 nn = v3 at *
    have HB := Lib.hid hB; have HB6 := Lib.hid hb6; clear hB hb6
    go_wp2_with fail
    refine (HD4.out _).mono ?_
    rintro e w1 ⟨rfl, nn, rfl⟩
    have hB := Below.drewN' HB.out nn; have hb6 := HB6.out.drewN nn
    generalize World.drewN v3 nn = v4 at *
    have HB := Lib.hid hB; have HB6 := Lib.hid hb6; clear hB hb6
    go_upto_region 16 with fail
    obtain ⟨hb7, hbb, -⟩ := one_box v4 #[.int .i64 C, .int .i64 X, .int .i64 0, .int .i64 0] 25 _ rfl
    generalize World.alloc v4 _ = w6 at *
    have hb6 := HB6.out.below hbb
    have HB := Lib.hid (bel_trans HB.out hbb)
    have hs6 := HB6.out.lt; have hs7 := hbb.size
    clear hbb
    obtain ⟨⟨p1, p2, p3, p4⟩, f1, f2, f3, f4⟩ := hb7.four
    go_upto_region 22 with fail
    have hb8 := hb7.put4 (.int .i64 0) (.int .i64 X) (.int .i64 C) (.int .i64 0)
    have hb9 := hb6.other4 (g' := v4.heap.size) (by omega) 0 1 2 3 (.int .i64 0) (.int .i64 X) (.int .i64 C) (.int .i64 0)
    have HB := Lib.hid (set4_below HB.out (show w.heap.size ≤ v4.heap.size by omega) 0 1 2 3 (.int .i64 0) (.int .i64 X) (.int .i64 C) (.int .i64 0))
    generalize World.setCell _ _ _ = w7 at *
    clear p1 p2 p3 p4 f1 f2 f3 f4 hb7 hb6
    have HB7 := Lib.hid hb8; have HB6 := Lib.hid hb9; clear hb8 hb9
    go_wp2_with fail
    obtain ⟨⟨p1, p2, p3, p4⟩, -⟩ := HB7.out.four
    go_still_tail 18, (by kernel_rfl)
    still_call (still_of (r17unit_any _ _))
    repeat still_step
    still_call (still_of (r17unit_any _ _))
    repeat still_step
    still_call (still_of (r17unit_any _ _))
    repeat still_step
    still_call (still_of (HTA.out _))
    repeat still_step
    refine wpStill_nil ?_
    change wpList _ _ _ _ _ w7.drew
    have hB := HB.out.drew; have hb6 := HB6.out.drew
    clear p1 p2 p3 p4 HB HB6 HB7
    generalize w7.drew = w8 at *
    obtain ⟨⟨r1, r2, r3, r4⟩, f1, f2, f3, f4⟩ := hb6.four
    have HB := Lib.hid hB; clear hB hb6
    go_wp2_with fail
    refine bodyPost_ret (v := .agg #[.int .i64 (lim16 n), .int .i64 (lim16 (X + n)), .int .i64 (lim16 (C + n)), .int .i64 α]) (by simp [results, Tryd.results18, go_sem, r1, r2, r3, r4]) rfl ⟨rfl, ?_⟩
    exact set4_below HB.out (by omega) _ _ _ _ _ _ _ _

set_option maxHeartbeats 4000000 in
set_option maxRecDepth 100000 in
theorem rfrom_y4 (h s' l' a hu s l α C X n : Int) (p : Px) (w : World) (hα : 0 < α) (hha : 0 < a) (hhm : h % 65536 = hu) (hhu : 0 ≤ hu ∧ hu ≤ 65535) (hs : 0 ≤ s ∧ s ≤ 65535) (hl : 0 ≤ l ∧ l ≤ 65535) (hk : 6 * hu / 65536 = 4) (hC : 0 ≤ C ∧ C ≤ 65535) (hX : 0 ≤ X ∧ X ≤ 65535) (hn : -65536 ≤ n ∧ n ≤ 65536)
    (TA : ∀ w', Calls Tryd.prog 40 #[.int .i64 a] w' fun e w'' => e = .returned (.int .i64 α) ∧ w' = w'') (TS : ∀ w', Calls Tryd.prog 40 #[.int .i64 s'] w' fun e w'' => e = .returned (.int .i64 s) ∧ w' = w'') (TL : ∀ w', Calls Tryd.prog 40 #[.int .i64 l'] w' fun e w'' => e = .returned (.int .i64 l) ∧ w' = w'')
    (D1 : ∀ w', Calls Tryd.prog 37 #[.int .i64 ((65535 - max (2 * l - 65535) (-(2 * l - 65535))) * s), .int .i64 65535] w' fun e w'' => e = .returned (.int .i64 C) ∧ ∃ nn, w'' = w'.drewN nn)
    (D3 : ∀ w', Calls Tryd.prog 37 #[.int .i64 (C * (6 * hu - 262144)), .int .i64 65536] w' fun e w'' => e = .returned (.int .i64 X) ∧ ∃ nn, w'' = w'.drewN nn)
    (D4 : ∀ w', Calls Tryd.prog 37 #[.int .i64 (2 * l - C), .int .i64 2] w' fun e w'' => e = .returned (.int .i64 n) ∧ ∃ nn, w'' = w'.drewN nn)
    (hp : p = ⟨lim16 (X + n), lim16 n, lim16 (C + n), α⟩) :
    Calls Tryd.prog 18 #[.agg #[.int .i64 h, .int .i64 s', .int .i64 l'], .int .i64 a] w (PxPost p w) := by
  subst hp
  have hb1 := mul_bd (a := 65535 - max (2 * l - 65535) (-(2 * l - 65535))) (b := s) (by omega) hs
  have hb2 := (fr_bd (f := (6 * hu - 262144)) hC (by omega)).1
  have ht : (6 * hu).tdiv 65536 = 4 := by rw [Int.tdiv_eq_ediv_of_nonneg (by omega), hk]
  have ha0 : (α == 0) = false := by simp; omega
  clear hk
  have HTA := Lib.hid TA; have HTS := Lib.hid TS; have HTL := Lib.hid TL; have HD1 := Lib.hid D1; have HD3 := Lib.hid D3; have HD4 := Lib.hid D4; clear TA TS TL D1 D3 D4
  have hd : decide (a ≤ 0) = false := by simp; omega
  clear hha
  have hm2 : h.tmod 65536 = hu ∨ (h.tmod 65536 = hu - 65536 ∧ decide (hu - 65536 < 0) = true) := by
    rcases Int.lt_or_le h 0 with c | c
    · have e := Int.neg_tmod (-h) 65536; rw [Int.neg_neg] at e
      rw [Int.tmod_eq_emod_of_nonneg (a := -h) (by omega)] at e
      by_cases z : hu = 0
      · left; omega
      · right; exact ⟨by omega, by simp; omega⟩
    · left; rw [Int.tmod_eq_emod_of_nonneg c, hhm]
  have hd2 : decide (hu < 0) = false := by simp; omega
  have hw0 : (0 ≤ hu - 65536 + 65536 ∧ hu - 65536 + 65536 ≤ 65535) ∧ hu - 65536 + 65536 = hu := by omega
  obtain ⟨-, hw1⟩ := hw0
  clear hhm
  go_enter Tryd.func18, Tryd.ntmps18
  go_upto_region 1 with fail
  obtain ⟨hb5, hb6, hB⟩ := two_boxes w #[.int .i64 h, .int .i64 s', .int .i64 l'] #[.int .i64 0, .int .i64 0, .int .i64 0, .int .i64 0] 31 25 _ rfl
  generalize World.alloc (World.alloc w _) _ = w0 at *
  obtain ⟨⟨i1, i2, i3⟩, -⟩ := hb5.three
  have HB := Lib.hid hB; have HB6 := Lib.hid hb6; clear hB hb5 hb6
  rcases hm2 with hm2 | ⟨hm2, hm3⟩
  all_goals
    go_wp2_with fail
    refine (HTS.out _).mono ?_
    rintro e w1 ⟨rfl, rfl⟩
    go_wp2_with fail
    refine (HTL.out _).mono ?_
    rintro e w1 ⟨rfl, rfl⟩
    go_wp2_with fail
    refine (r17abs_any _ (by omega) _).mono ?_
    rintro e y1 ⟨rfl, rfl⟩
    go_wp2_with fail
    refine (HD1.out _).mono ?_
    rintro e w1 ⟨rfl, nn, rfl⟩
    have hB := Below.drewN' HB.out nn; have hb6 := HB6.out.drewN nn
    clear i1 i2 i3
    generalize World.drewN w0 nn = v1 at *
    have HB := Lib.hid hB; have HB6 := Lib.hid hb6; clear hB hb6
    go_wp2_with fail
    refine (HD3.out _).mono ?_
    rintro e w1 ⟨rfl, nn, rfl⟩
    have hB := Below.drewN' HB.out nn; have hb6 := HB6.out.drewN nn
    generalize World.drewN v1 nn = v2 at *
    have HB := Lib.hid hB; have HB6 := Lib.hid hb6; clear hB hb6
    go_wp2_with fail
    refine (HD4.out _).mono ?_
    rintro e w1 ⟨rfl, nn, rfl⟩
    have hB := Below.drewN' HB.out nn; have hb6 := HB6.out.drewN nn
    generalize World.drewN v2 nn = v3 at *
    have HB := Lib.hid hB; have HB6 := Lib.hid hb6; clear hB hb6
    go_upto_region 16 with fail
    obtain ⟨hb7, hbb, -⟩ := one_box v3 #[.int .i64 C, .int .i64 X, .int .i64 0, .int .i64 0] 25 _ rfl
    generalize World.alloc v3 _ = w6 at *
    have hb6 := HB6.out.below hbb
    have HB := Lib.hid (bel_trans HB.out hbb)
    have hs6 := HB6.out.lt; have hs7 := hbb.size
    clear hbb
    obtain ⟨⟨p1, p2, p3, p4⟩, f1, f2, f3, f4⟩ := hb7.four
    go_upto_region 24 with fail
    have hb8 := hb7.put4 (.int .i64 X) (.int .i64 0) (.int .i64 C) (.int .i64 0)
    have hb9 := hb6.other4 (g' := v3.heap.size) (by omega) 0 1 2 3 (.int .i64 X) (.int .i64 0) (.int .i64 C) (.int .i64 0)
    have HB := Lib.hid (set4_below HB.out (show w.heap.size ≤ v3.heap.size by omega) 0 1 2 3 (.int .i64 X) (.int .i64 0) (.int .i64 C) (.int .i64 0))
    generalize World.setCell _ _ _ = w7 at *
    clear p1 p2 p3 p4 f1 f2 f3 f4 hb7 hb6
    have HB7 := Lib.hid hb8; have HB6 := Lib.hid hb9; clear hb8 hb9
    go_wp2_with fail
    obtain ⟨⟨p1, p2, p3, p4⟩, -⟩ := HB7.out.four
    go_still_tail 18, (by kernel_rfl)
    still_call (still_of (r17unit_any _ _))
    repeat still_step
    still_call (still_of (r17unit_any _ _))
    repeat still_step
    still_call (still_of (r17unit_any _ _))
    repeat still_step
    still_call (still_of (HTA.out _))
    repeat still_step
    refine wpStill_nil ?_
    change wpList _ _ _ _ _ w7.drew
    have hB := HB.out.drew; have hb6 := HB6.out.drew
    clear p1 p2 p3 p4 HB HB6 HB7
    generalize w7.drew = w8 at *
    obtain ⟨⟨r1, r2, r3, r4⟩, f1, f2, f3, f4⟩ := hb6.four
    have HB := Lib.hid hB; clear hB hb6
    go_wp2_with fail
    refine bodyPost_ret (v := .agg #[.int .i64 (lim16 (X + n)), .int .i64 (lim16 n), .int .i64 (lim16 (C + n)), .int .i64 α]) (by simp [results, Tryd.results18, go_sem, r1, r2, r3, r4]) rfl ⟨rfl, ?_⟩
    exact set4_below HB.out (by omega) _ _ _ _ _ _ _ _

set_option maxHeartbeats 4000000 in
set_option maxRecDepth 100000 in
theorem rfrom_y5 (h s' l' a hu s l α C X n : Int) (p : Px) (w : World) (hα : 0 < α) (hha : 0 < a) (hhm : h % 65536 = hu) (hhu : 0 ≤ hu ∧ hu ≤ 65535) (hs : 0 ≤ s ∧ s ≤ 65535) (hl : 0 ≤ l ∧ l ≤ 65535) (hk : 6 * hu / 65536 = 5) (hC : 0 ≤ C ∧ C ≤ 65535) (hX : 0 ≤ X ∧ X ≤ 65535) (hn : -65536 ≤ n ∧ n ≤ 65536)
    (TA : ∀ w', Calls Tryd.prog 40 #[.int .i64 a] w' fun e w'' => e = .returned (.int .i64 α) ∧ w' = w'') (TS : ∀ w', Calls Tryd.prog 40 #[.int .i64 s'] w' fun e w'' => e = .returned (.int .i64 s) ∧ w' = w'') (TL : ∀ w', Calls Tryd.prog 40 #[.int .i64 l'] w' fun e w'' => e = .returned (.int .i64 l) ∧ w' = w'')
    (D1 : ∀ w', Calls Tryd.prog 37 #[.int .i64 ((65535 - max (2 * l - 65535) (-(2 * l - 65535))) * s), .int .i64 65535] w' fun e w'' => e = .returned (.int .i64 C) ∧ ∃ nn, w'' = w'.drewN nn)
    (D2 : ∀ w', Calls Tryd.prog 37 #[.int .i64 (C * (6 * hu - 327680)), .int .i64 65536] w' fun e w'' => (∃ y, e = .returned (.int .i64 y)) ∧ ∃ nn, w'' = w'.drewN nn)
    (D3 : ∀ w', Calls Tryd.prog 37 #[.int .i64 (C * (65536 - (6 * hu - 327680))), .int .i64 65536] w' fun e w'' => e = .returned (.int .i64 X) ∧ ∃ nn, w'' = w'.drewN nn)
    (D4 : ∀ w', Calls Tryd.prog 37 #[.int .i64 (2 * l - C), .int .i64 2] w' fun e w'' => e = .returned (.int .i64 n) ∧ ∃ nn, w'' = w'.drewN nn)
    (hp : p = ⟨lim16 (C + n), lim16 n, lim16 (X + n), α⟩) :
    Calls Tryd.prog 18 #[.agg #[.int .i64 h, .int .i64 s', .int .i64 l'], .int .i64 a] w (PxPost p w) := by
  subst hp
  have hb1 := mul_bd (a := 65535 - max (2 * l - 65535) (-(2 * l - 65535))) (b := s) (by omega) hs
  have hb2 := (fr_bd (f := (6 * hu - 327680)) hC (by omega)).1
  have hb3 := (fr_bd (f := (65536 - (6 * hu - 327680))) hC (by omega)).1
  have ht : (6 * hu).tdiv 65536 = 5 := by rw [Int.tdiv_eq_ediv_of_nonneg (by omega), hk]
  have ha0 : (α == 0) = false := by simp; omega
  clear hk
  have HTA := Lib.hid TA; have HTS := Lib.hid TS; have HTL := Lib.hid TL; have HD1 := Lib.hid D1; have HD3 := Lib.hid D3; have HD4 := Lib.hid D4; have HD2 := Lib.hid D2; clear TA TS TL D1 D3 D4 D2
  have hd : decide (a ≤ 0) = false := by simp; omega
  clear hha
  have hm2 : h.tmod 65536 = hu ∨ (h.tmod 65536 = hu - 65536 ∧ decide (hu - 65536 < 0) = true) := by
    rcases Int.lt_or_le h 0 with c | c
    · have e := Int.neg_tmod (-h) 65536; rw [Int.neg_neg] at e
      rw [Int.tmod_eq_emod_of_nonneg (a := -h) (by omega)] at e
      by_cases z : hu = 0
      · left; omega
      · right; exact ⟨by omega, by simp; omega⟩
    · left; rw [Int.tmod_eq_emod_of_nonneg c, hhm]
  have hd2 : decide (hu < 0) = false := by simp; omega
  have hw0 : (0 ≤ hu - 65536 + 65536 ∧ hu - 65536 + 65536 ≤ 65535) ∧ hu - 65536 + 65536 = hu := by omega
  obtain ⟨-, hw1⟩ := hw0
  clear hhm
  go_enter Tryd.func18, Tryd.ntmps18
  go_upto_region 1 with fail
  obtain ⟨hb5, hb6, hB⟩ := two_boxes w #[.int .i64 h, .int .i64 s', .int .i64 l'] #[.int .i64 0, .int .i64 0, .int .i64 0, .int .i64 0] 31 25 _ rfl
  generalize World.alloc (World.alloc w _) _ = w0 at *
  obtain ⟨⟨i1, i2, i3⟩, -⟩ := hb5.three
  have HB := Lib.hid hB; have HB6 := Lib.hid hb6; clear hB hb5 hb6
  rcases hm2 with hm2 | ⟨hm2, hm3⟩
  all_goals
    go_wp2_with fail
    refine (HTS.out _).mono ?_
    rintro e w1 ⟨rfl, rfl⟩
    go_wp2_with fail
    refine (HTL.out _).mono ?_
    rintro e w1 ⟨rfl, rfl⟩
    go_wp2_with fail
    refine (r17abs_any _ (by omega) _).mono ?_
    rintro e y1 ⟨rfl, rfl⟩
    go_wp2_with fail
    refine (HD1.out _).mono ?_
    rintro e w1 ⟨rfl, nn, rfl⟩
    have hB := Below.drewN' HB.out nn; have hb6 := HB6.out.drewN nn
    clear i1 i2 i3
    generalize World.drewN w0 nn = v1 at *
    have HB := Lib.hid hB; have HB6 := Lib.hid hb6; clear hB hb6
    go_wp2_with fail
    refine (HD2.out _).mono ?_
    rintro e w1 ⟨⟨y, rfl⟩, nn, rfl⟩
    have hB := Below.drewN' HB.out nn; have hb6 := HB6.out.drewN nn
    generalize World.drewN v1 nn = v2 at *
    have HB := Lib.hid hB; have HB6 := Lib.hid hb6; clear hB hb6
    go_wp2_with fail
    refine (HD3.out _).mono ?_
    rintro e w1 ⟨rfl, nn, rfl⟩
    have hB := Below.drewN' HB.out nn; have hb6 := HB6.out.drewN nn
    generalize World.drewN v2 nn = v3 at *
    have HB := Lib.hid hB; have HB6 := Lib.hid hb6; clear hB hb6
    go_wp2_with fail
    refine (HD4.out _).mono ?_
    rintro e w1 ⟨rfl, nn, rfl⟩
    have hB := Below.drewN' HB.out nn; have hb6 := HB6.out.drewN nn
    generalize World.drewN v3 nn = v4 at *
    have HB := Lib.hid hB; have HB6 := Lib.hid hb6; clear hB hb6
    go_upto_region 16 with fail
    obtain ⟨hb7, hbb, -⟩ := one_box v4 #[.int .i64 C, .int .i64 X, .int .i64 0, .int .i64 0] 25 _ rfl
    generalize World.alloc v4 _ = w6 at *
    have hb6 := HB6.out.below hbb
    have HB := Lib.hid (bel_trans HB.out hbb)
    have hs6 := HB6.out.lt; have hs7 := hbb.size
    clear hbb
    obtain ⟨⟨p1, p2, p3, p4⟩, f1, f2, f3, f4⟩ := hb7.four
    go_upto_region 26 with fail
    have hb8 := hb7.put4 (.int .i64 C) (.int .i64 0) (.int .i64 X) (.int .i64 0)
    have hb9 := hb6.other4 (g' := v4.heap.size) (by omega) 0 1 2 3 (.int .i64 C) (.int .i64 0) (.int .i64 X) (.int .i64 0)
    have HB := Lib.hid (set4_below HB.out (show w.heap.size ≤ v4.heap.size by omega) 0 1 2 3 (.int .i64 C) (.int .i64 0) (.int .i64 X) (.int .i64 0))
    generalize World.setCell _ _ _ = w7 at *
    clear p1 p2 p3 p4 f1 f2 f3 f4 hb7 hb6
    have HB7 := Lib.hid hb8; have HB6 := Lib.hid hb9; clear hb8 hb9
    go_wp2_with fail
    obtain ⟨⟨p1, p2, p3, p4⟩, -⟩ := HB7.out.four
    go_still_tail 18, (by kernel_rfl)
    still_call (still_of (r17unit_any _ _))
    repeat still_step
    still_call (still_of (r17unit_any _ _))
    repeat still_step
    still_call (still_of (r17unit_any _ _))
    repeat still_step
    still_call (still_of (HTA.out _))
    repeat still_step
    refine wpStill_nil ?_
    change wpList _ _ _ _ _ w7.drew
    have hB := HB.out.drew; have hb6 := HB6.out.drew
    clear p1 p2 p3 p4 HB HB6 HB7
    generalize w7.drew = w8 at *
    obtain ⟨⟨r1, r2, r3, r4⟩, f1, f2, f3, f4⟩ := hb6.four
    have HB := Lib.hid hB; clear hB hb6
    go_wp2_with fail
    refine bodyPost_ret (v := .agg #[.int .i64 (lim16 (C + n)), .int .i64 (lim16 n), .int .i64 (lim16 (X + n)), .int .i64 α]) (by simp [results, Tryd.results18, go_sem, r1, r2, r3, r4]) rfl ⟨rfl, ?_⟩
    exact set4_below HB.out (by omega) _ _ _ _ _ _ _ _

end Go.Proofs.YtmbglkholoblaaaDoor
