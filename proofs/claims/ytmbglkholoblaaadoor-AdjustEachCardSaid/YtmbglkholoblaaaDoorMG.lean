/- FromHsl and its reference. -/
import Derived.Test.YtmbglkholoblaaaDoorMF
import Derived.StillTailTactics
namespace Go.Proofs.YtmbglkholoblaaaDoor
open Go.RowKit
attribute [local go_sem 2000] run_max2m run_min2m run_max3m run_min3m

theorem hslC_bd {s l : Int} (hs : 0 ≤ s ∧ s ≤ 65535) (hl : 0 ≤ l ∧ l ≤ 65535) : (0 ≤ (65535 - max (2 * l - 65535) (-(2 * l - 65535))) * s ∧ (65535 - max (2 * l - 65535) (-(2 * l - 65535))) * s ≤ 4294836225) ∧ 0 ≤ hslC s l ∧ hslC s l ≤ 65535 := by
  have h := mul_bd (a := 65535 - max (2 * l - 65535) (-(2 * l - 65535))) (b := s) (by omega) hs
  refine ⟨h, ?_⟩
  unfold hslC
  have h2 := rdiv_spec ((65535 - max (2 * l - 65535) (-(2 * l - 65535))) * s) 65535 (by omega)
  omega
/-- A call that keeps the world, inside a region of such operations. -/
theorem still_of {P : Program} {f : FuncId} {args : Array Value} {W : World} {v : Value} (h : Calls P f args W fun e w' => e = .returned v ∧ W = w') : Calls P f args W fun e w'' => e = .returned v ∧ w'' = W := h.mono fun _ _ ⟨a, b⟩ => ⟨a, b.symm⟩
theorem fr_bd {C f : Int} (hC : 0 ≤ C ∧ C ≤ 65535) (hf : 0 ≤ f ∧ f ≤ 65536) : (0 ≤ C * f ∧ C * f ≤ 4294901760) ∧ 0 ≤ rdiv (C * f) 65536 ∧ rdiv (C * f) 65536 ≤ 65535 := by
  have h0 := Int.mul_nonneg hC.1 hf.1
  have h1 : C * f ≤ C * 65536 := Int.mul_le_mul_of_nonneg_left hf.2 hC.1
  have h2 := rdiv_spec (C * f) 65536 (by omega)
  refine ⟨⟨h0, by omega⟩, by omega, by omega⟩

theorem from_0 {hu s l α C X n : Int} (hk : 6 * hu / 65536 = 0) (hC : hslC s l = C) (hX : rdiv (C * (6 * hu)) 65536 = X) (hn : rdiv (2 * l - C) 2 = n) : fromHsl hu s l α = ⟨lim16 (C + n), lim16 (X + n), lim16 n, α⟩ := by
  unfold fromHsl
  simp [hk, hC, hslPick, hslX, hX, hn]
theorem from_1 {hu s l α C X n : Int} (hk : 6 * hu / 65536 = 1) (hC : hslC s l = C) (hX : rdiv (C * (65536 - (6 * hu - 65536))) 65536 = X) (hn : rdiv (2 * l - C) 2 = n) : fromHsl hu s l α = ⟨lim16 (X + n), lim16 (C + n), lim16 n, α⟩ := by
  unfold fromHsl
  simp [hk, hC, hslPick, hslX, hX, hn]
theorem from_2 {hu s l α C X n : Int} (hk : 6 * hu / 65536 = 2) (hC : hslC s l = C) (hX : rdiv (C * (6 * hu - 131072)) 65536 = X) (hn : rdiv (2 * l - C) 2 = n) : fromHsl hu s l α = ⟨lim16 n, lim16 (C + n), lim16 (X + n), α⟩ := by
  unfold fromHsl
  simp [hk, hC, hslPick, hslX, hX, hn]
theorem from_3 {hu s l α C X n : Int} (hk : 6 * hu / 65536 = 3) (hC : hslC s l = C) (hX : rdiv (C * (65536 - (6 * hu - 196608))) 65536 = X) (hn : rdiv (2 * l - C) 2 = n) : fromHsl hu s l α = ⟨lim16 n, lim16 (X + n), lim16 (C + n), α⟩ := by
  unfold fromHsl
  simp [hk, hC, hslPick, hslX, hX, hn]
theorem from_4 {hu s l α C X n : Int} (hk : 6 * hu / 65536 = 4) (hC : hslC s l = C) (hX : rdiv (C * (6 * hu - 262144)) 65536 = X) (hn : rdiv (2 * l - C) 2 = n) : fromHsl hu s l α = ⟨lim16 (X + n), lim16 n, lim16 (C + n), α⟩ := by
  unfold fromHsl
  simp [hk, hC, hslPick, hslX, hX, hn]
theorem from_5 {hu s l α C X n : Int} (hk : 6 * hu / 65536 = 5) (hC : hslC s l = C) (hX : rdiv (C * (65536 - (6 * hu - 327680))) 65536 = X) (hn : rdiv (2 * l - C) 2 = n) : fromHsl hu s l α = ⟨lim16 (C + n), lim16 n, lim16 (X + n), α⟩ := by
  unfold fromHsl
  simp [hk, hC, hslPick, hslX, hX, hn]
set_option maxHeartbeats 2000000 in
theorem from_z (h s l a : Int) (ha : lim16 a = 0) (w : World) : Calls Tryd.prog 17 #[.agg #[.int .i64 h, .int .i64 s, .int .i64 l], .int .i64 a] w (PxPost (fromH h s l a) w) := by
  have E := Lib.hid (show fromH h s l a = Px.zero by unfold fromH; rw [if_pos (by exact ha)])
  have U := Lib.hid (fun (w' : World) => show Calls Tryd.prog 39 #[.int .i64 a] w' fun e w'' => e = .returned (.int .i64 0) ∧ w' = w'' by have := aunit_any a w'; rw [ha] at this; exact this)
  clear ha
  go_enter Tryd.func17, Tryd.ntmps17
  go_upto_region 1 with fail
  obtain ⟨hb3, hb4, hB⟩ := two_boxes w #[.int .i64 h, .int .i64 s, .int .i64 l] #[.int .i64 0, .int .i64 0, .int .i64 0, .int .i64 0] 31 25 _ rfl
  generalize World.alloc (World.alloc w _) _ = w0 at *
  obtain ⟨⟨r1, r2, r3, r4⟩, f1, f2, f3, f4⟩ := hb4.four
  have HB := Lib.hid hB; clear hB hb3 hb4
  go_wp2_with (go_at_call 39; refine (U.out _).mono ?_; rintro e w1 ⟨rfl, rfl⟩)
  refine bodyPost_ret (v := .agg #[.int .i64 0, .int .i64 0, .int .i64 0, .int .i64 0]) (by simp [results, Tryd.results17, go_sem, r1, r2, r3, r4]) rfl ⟨by rw [E.out]; rfl, ?_⟩
  exact set4_below HB.out (by omega) _ _ _ _ _ _ _ _

set_option maxHeartbeats 2000000 in
theorem rfrom_z (h s l a : Int) (ha : a ≤ 0) (w : World) : Calls Tryd.prog 18 #[.agg #[.int .i64 h, .int .i64 s, .int .i64 l], .int .i64 a] w (PxPost (fromH h s l a) w) := by
  have E := Lib.hid (show fromH h s l a = Px.zero by unfold fromH; rw [if_pos (by unfold lim16; omega)])
  have hd : decide (a ≤ 0) = true := by simp; exact ha
  clear ha
  go_enter Tryd.func18, Tryd.ntmps18
  go_upto_region 1 with fail
  obtain ⟨hb3, hb4, hB⟩ := two_boxes w #[.int .i64 h, .int .i64 s, .int .i64 l] #[.int .i64 0, .int .i64 0, .int .i64 0, .int .i64 0] 31 25 _ rfl
  generalize World.alloc (World.alloc w _) _ = w0 at *
  obtain ⟨⟨r1, r2, r3, r4⟩, f1, f2, f3, f4⟩ := hb4.four
  have HB := Lib.hid hB; clear hB hb3 hb4
  go_wp2_with fail
  refine bodyPost_ret (v := .agg #[.int .i64 0, .int .i64 0, .int .i64 0, .int .i64 0]) (by simp [results, Tryd.results18, go_sem, r1, r2, r3, r4]) rfl ⟨by rw [E.out]; rfl, ?_⟩
  exact set4_below HB.out (by omega) _ _ _ _ _ _ _ _

set_option maxHeartbeats 4000000 in
set_option maxRecDepth 100000 in
theorem from_y0 (h s' l' a hu s l α C X n : Int) (p : Px) (w : World) (hα : 0 < α)  (hhu : 0 ≤ hu ∧ hu ≤ 65535) (hs : 0 ≤ s ∧ s ≤ 65535) (hl : 0 ≤ l ∧ l ≤ 65535) (hk : 6 * hu / 65536 = 0) (hC : 0 ≤ C ∧ C ≤ 65535) (hX : 0 ≤ X ∧ X ≤ 65535) (hn : -65536 ≤ n ∧ n ≤ 65536)
    (TM : ∀ w', Calls Tryd.prog 35 #[.int .i64 h] w' fun e w'' => e = .returned (.int .i64 hu) ∧ w' = w'')
    (TA : ∀ w', Calls Tryd.prog 39 #[.int .i64 a] w' fun e w'' => e = .returned (.int .i64 α) ∧ w' = w'') (TS : ∀ w', Calls Tryd.prog 39 #[.int .i64 s'] w' fun e w'' => e = .returned (.int .i64 s) ∧ w' = w'') (TL : ∀ w', Calls Tryd.prog 39 #[.int .i64 l'] w' fun e w'' => e = .returned (.int .i64 l) ∧ w' = w'')
    (D1 : ∀ w', Calls Tryd.prog 34 #[.int .i64 ((65535 - max (2 * l - 65535) (-(2 * l - 65535))) * s), .int .i64 65535] w' fun e w'' => e = .returned (.int .i64 C) ∧ w' = w'')
    (D3 : ∀ w', Calls Tryd.prog 34 #[.int .i64 (C * (6 * hu)), .int .i64 65536] w' fun e w'' => e = .returned (.int .i64 X) ∧ w' = w'')
    (D4 : ∀ w', Calls Tryd.prog 34 #[.int .i64 (2 * l - C), .int .i64 2] w' fun e w'' => e = .returned (.int .i64 n) ∧ w' = w'')
    (hp : p = ⟨lim16 (C + n), lim16 (X + n), lim16 n, α⟩) :
    Calls Tryd.prog 17 #[.agg #[.int .i64 h, .int .i64 s', .int .i64 l'], .int .i64 a] w (PxPost p w) := by
  subst hp
  have hb1 := mul_bd (a := 65535 - max (2 * l - 65535) (-(2 * l - 65535))) (b := s) (by omega) hs
  have hb2 := (fr_bd (f := (6 * hu)) hC (by omega)).1
  have ht : (6 * hu).tdiv 65536 = 0 := by rw [Int.tdiv_eq_ediv_of_nonneg (by omega), hk]
  have ha0 : (α == 0) = false := by simp; omega
  clear hk
  have HTA := Lib.hid TA; have HTS := Lib.hid TS; have HTL := Lib.hid TL; have HD1 := Lib.hid D1; have HD3 := Lib.hid D3; have HD4 := Lib.hid D4; have HTM := Lib.hid TM; clear TA TS TL D1 D3 D4 TM
  go_enter Tryd.func17, Tryd.ntmps17
  go_upto_region 1 with fail
  obtain ⟨hb5, hb6, hB⟩ := two_boxes w #[.int .i64 h, .int .i64 s', .int .i64 l'] #[.int .i64 0, .int .i64 0, .int .i64 0, .int .i64 0] 31 25 _ rfl
  generalize World.alloc (World.alloc w _) _ = w0 at *
  obtain ⟨⟨i1, i2, i3⟩, -⟩ := hb5.three
  have HB := Lib.hid hB; have HB6 := Lib.hid hb6; clear hB hb5 hb6
  go_wp2_with fail
  refine (HTA.out _).mono ?_
  rintro e w1 ⟨rfl, rfl⟩
  go_wp2_with fail
  go_quiet (first | (go_at_call 35; exact quiet_tol (HTM.out _) ⟨_, rfl⟩) | (go_at_call 39; exact quiet_tol (HTS.out _) ⟨_, rfl⟩) | (go_at_call 39; exact quiet_tol (HTL.out _) ⟨_, rfl⟩))
  go_wp2_with fail
  refine (HD1.out _).mono ?_
  rintro e w1 ⟨rfl, rfl⟩
  go_wp2_with fail
  refine (HD3.out _).mono ?_
  rintro e w1 ⟨rfl, rfl⟩
  go_wp2_with fail
  refine (HD4.out _).mono ?_
  rintro e w1 ⟨rfl, rfl⟩
  clear i1 i2 i3
  obtain ⟨⟨r1, r2, r3, r4⟩, f1, f2, f3, f4⟩ := HB6.out.four
  go_wp2_with fail
  refine (aunit_any _ _).mono ?_
  rintro e w1 ⟨rfl, rfl⟩
  go_wp2_with fail
  refine (aunit_any _ _).mono ?_
  rintro e w1 ⟨rfl, rfl⟩
  go_wp2_with fail
  refine (aunit_any _ _).mono ?_
  rintro e w1 ⟨rfl, rfl⟩
  go_wp2_with fail
  refine bodyPost_ret (v := .agg #[.int .i64 (lim16 (C + n)), .int .i64 (lim16 (X + n)), .int .i64 (lim16 n), .int .i64 α]) (by simp [results, Tryd.results17, go_sem, r1, r2, r3, r4]) rfl ⟨rfl, ?_⟩
  refine set4_below ?_ (by omega) _ _ _ _ _ _ _ _
  repeat (first | exact HB.out | refine Below.drewN' ?_ _)

set_option maxHeartbeats 4000000 in
set_option maxRecDepth 100000 in
theorem from_y1 (h s' l' a hu s l α C X n : Int) (p : Px) (w : World) (hα : 0 < α)  (hhu : 0 ≤ hu ∧ hu ≤ 65535) (hs : 0 ≤ s ∧ s ≤ 65535) (hl : 0 ≤ l ∧ l ≤ 65535) (hk : 6 * hu / 65536 = 1) (hC : 0 ≤ C ∧ C ≤ 65535) (hX : 0 ≤ X ∧ X ≤ 65535) (hn : -65536 ≤ n ∧ n ≤ 65536)
    (TM : ∀ w', Calls Tryd.prog 35 #[.int .i64 h] w' fun e w'' => e = .returned (.int .i64 hu) ∧ w' = w'')
    (TA : ∀ w', Calls Tryd.prog 39 #[.int .i64 a] w' fun e w'' => e = .returned (.int .i64 α) ∧ w' = w'') (TS : ∀ w', Calls Tryd.prog 39 #[.int .i64 s'] w' fun e w'' => e = .returned (.int .i64 s) ∧ w' = w'') (TL : ∀ w', Calls Tryd.prog 39 #[.int .i64 l'] w' fun e w'' => e = .returned (.int .i64 l) ∧ w' = w'')
    (D1 : ∀ w', Calls Tryd.prog 34 #[.int .i64 ((65535 - max (2 * l - 65535) (-(2 * l - 65535))) * s), .int .i64 65535] w' fun e w'' => e = .returned (.int .i64 C) ∧ w' = w'')
    (D2 : ∀ w', Calls Tryd.prog 34 #[.int .i64 (C * (6 * hu - 65536)), .int .i64 65536] w' fun e w'' => (∃ y, e = .returned (.int .i64 y)) ∧ w' = w'')
    (D3 : ∀ w', Calls Tryd.prog 34 #[.int .i64 (C * (65536 - (6 * hu - 65536))), .int .i64 65536] w' fun e w'' => e = .returned (.int .i64 X) ∧ w' = w'')
    (D4 : ∀ w', Calls Tryd.prog 34 #[.int .i64 (2 * l - C), .int .i64 2] w' fun e w'' => e = .returned (.int .i64 n) ∧ w' = w'')
    (hp : p = ⟨lim16 (X + n), lim16 (C + n), lim16 n, α⟩) :
    Calls Tryd.prog 17 #[.agg #[.int .i64 h, .int .i64 s', .int .i64 l'], .int .i64 a] w (PxPost p w) := by
  subst hp
  have hb1 := mul_bd (a := 65535 - max (2 * l - 65535) (-(2 * l - 65535))) (b := s) (by omega) hs
  have hb2 := (fr_bd (f := (6 * hu - 65536)) hC (by omega)).1
  have hb3 := (fr_bd (f := (65536 - (6 * hu - 65536))) hC (by omega)).1
  have ht : (6 * hu).tdiv 65536 = 1 := by rw [Int.tdiv_eq_ediv_of_nonneg (by omega), hk]
  have ha0 : (α == 0) = false := by simp; omega
  clear hk
  have HTA := Lib.hid TA; have HTS := Lib.hid TS; have HTL := Lib.hid TL; have HD1 := Lib.hid D1; have HD3 := Lib.hid D3; have HD4 := Lib.hid D4; have HD2 := Lib.hid D2; have HTM := Lib.hid TM; clear TA TS TL D1 D3 D4 D2 TM
  go_enter Tryd.func17, Tryd.ntmps17
  go_upto_region 1 with fail
  obtain ⟨hb5, hb6, hB⟩ := two_boxes w #[.int .i64 h, .int .i64 s', .int .i64 l'] #[.int .i64 0, .int .i64 0, .int .i64 0, .int .i64 0] 31 25 _ rfl
  generalize World.alloc (World.alloc w _) _ = w0 at *
  obtain ⟨⟨i1, i2, i3⟩, -⟩ := hb5.three
  have HB := Lib.hid hB; have HB6 := Lib.hid hb6; clear hB hb5 hb6
  go_wp2_with fail
  refine (HTA.out _).mono ?_
  rintro e w1 ⟨rfl, rfl⟩
  go_wp2_with fail
  go_quiet (first | (go_at_call 35; exact quiet_tol (HTM.out _) ⟨_, rfl⟩) | (go_at_call 39; exact quiet_tol (HTS.out _) ⟨_, rfl⟩) | (go_at_call 39; exact quiet_tol (HTL.out _) ⟨_, rfl⟩))
  go_wp2_with fail
  refine (HD1.out _).mono ?_
  rintro e w1 ⟨rfl, rfl⟩
  go_wp2_with fail
  refine (HD2.out _).mono ?_
  rintro e w1 ⟨⟨y, rfl⟩, rfl⟩
  go_wp2_with fail
  refine (HD3.out _).mono ?_
  rintro e w1 ⟨rfl, rfl⟩
  go_wp2_with fail
  refine (HD4.out _).mono ?_
  rintro e w1 ⟨rfl, rfl⟩
  clear i1 i2 i3
  obtain ⟨⟨r1, r2, r3, r4⟩, f1, f2, f3, f4⟩ := HB6.out.four
  go_wp2_with fail
  refine (aunit_any _ _).mono ?_
  rintro e w1 ⟨rfl, rfl⟩
  go_wp2_with fail
  refine (aunit_any _ _).mono ?_
  rintro e w1 ⟨rfl, rfl⟩
  go_wp2_with fail
  refine (aunit_any _ _).mono ?_
  rintro e w1 ⟨rfl, rfl⟩
  go_wp2_with fail
  refine bodyPost_ret (v := .agg #[.int .i64 (lim16 (X + n)), .int .i64 (lim16 (C + n)), .int .i64 (lim16 n), .int .i64 α]) (by simp [results, Tryd.results17, go_sem, r1, r2, r3, r4]) rfl ⟨rfl, ?_⟩
  refine set4_below ?_ (by omega) _ _ _ _ _ _ _ _
  repeat (first | exact HB.out | refine Below.drewN' ?_ _)

set_option maxHeartbeats 4000000 in
set_option maxRecDepth 100000 in
theorem from_y2 (h s' l' a hu s l α C X n : Int) (p : Px) (w : World) (hα : 0 < α)  (hhu : 0 ≤ hu ∧ hu ≤ 65535) (hs : 0 ≤ s ∧ s ≤ 65535) (hl : 0 ≤ l ∧ l ≤ 65535) (hk : 6 * hu / 65536 = 2) (hC : 0 ≤ C ∧ C ≤ 65535) (hX : 0 ≤ X ∧ X ≤ 65535) (hn : -65536 ≤ n ∧ n ≤ 65536)
    (TM : ∀ w', Calls Tryd.prog 35 #[.int .i64 h] w' fun e w'' => e = .returned (.int .i64 hu) ∧ w' = w'')
    (TA : ∀ w', Calls Tryd.prog 39 #[.int .i64 a] w' fun e w'' => e = .returned (.int .i64 α) ∧ w' = w'') (TS : ∀ w', Calls Tryd.prog 39 #[.int .i64 s'] w' fun e w'' => e = .returned (.int .i64 s) ∧ w' = w'') (TL : ∀ w', Calls Tryd.prog 39 #[.int .i64 l'] w' fun e w'' => e = .returned (.int .i64 l) ∧ w' = w'')
    (D1 : ∀ w', Calls Tryd.prog 34 #[.int .i64 ((65535 - max (2 * l - 65535) (-(2 * l - 65535))) * s), .int .i64 65535] w' fun e w'' => e = .returned (.int .i64 C) ∧ w' = w'')
    (D3 : ∀ w', Calls Tryd.prog 34 #[.int .i64 (C * (6 * hu - 131072)), .int .i64 65536] w' fun e w'' => e = .returned (.int .i64 X) ∧ w' = w'')
    (D4 : ∀ w', Calls Tryd.prog 34 #[.int .i64 (2 * l - C), .int .i64 2] w' fun e w'' => e = .returned (.int .i64 n) ∧ w' = w'')
    (hp : p = ⟨lim16 n, lim16 (C + n), lim16 (X + n), α⟩) :
    Calls Tryd.prog 17 #[.agg #[.int .i64 h, .int .i64 s', .int .i64 l'], .int .i64 a] w (PxPost p w) := by
  subst hp
  have hb1 := mul_bd (a := 65535 - max (2 * l - 65535) (-(2 * l - 65535))) (b := s) (by omega) hs
  have hb2 := (fr_bd (f := (6 * hu - 131072)) hC (by omega)).1
  have ht : (6 * hu).tdiv 65536 = 2 := by rw [Int.tdiv_eq_ediv_of_nonneg (by omega), hk]
  have ha0 : (α == 0) = false := by simp; omega
  clear hk
  have HTA := Lib.hid TA; have HTS := Lib.hid TS; have HTL := Lib.hid TL; have HD1 := Lib.hid D1; have HD3 := Lib.hid D3; have HD4 := Lib.hid D4; have HTM := Lib.hid TM; clear TA TS TL D1 D3 D4 TM
  go_enter Tryd.func17, Tryd.ntmps17
  go_upto_region 1 with fail
  obtain ⟨hb5, hb6, hB⟩ := two_boxes w #[.int .i64 h, .int .i64 s', .int .i64 l'] #[.int .i64 0, .int .i64 0, .int .i64 0, .int .i64 0] 31 25 _ rfl
  generalize World.alloc (World.alloc w _) _ = w0 at *
  obtain ⟨⟨i1, i2, i3⟩, -⟩ := hb5.three
  have HB := Lib.hid hB; have HB6 := Lib.hid hb6; clear hB hb5 hb6
  go_wp2_with fail
  refine (HTA.out _).mono ?_
  rintro e w1 ⟨rfl, rfl⟩
  go_wp2_with fail
  go_quiet (first | (go_at_call 35; exact quiet_tol (HTM.out _) ⟨_, rfl⟩) | (go_at_call 39; exact quiet_tol (HTS.out _) ⟨_, rfl⟩) | (go_at_call 39; exact quiet_tol (HTL.out _) ⟨_, rfl⟩))
  go_wp2_with fail
  refine (HD1.out _).mono ?_
  rintro e w1 ⟨rfl, rfl⟩
  go_wp2_with fail
  refine (HD3.out _).mono ?_
  rintro e w1 ⟨rfl, rfl⟩
  go_wp2_with fail
  refine (HD4.out _).mono ?_
  rintro e w1 ⟨rfl, rfl⟩
  clear i1 i2 i3
  obtain ⟨⟨r1, r2, r3, r4⟩, f1, f2, f3, f4⟩ := HB6.out.four
  go_wp2_with fail
  refine (aunit_any _ _).mono ?_
  rintro e w1 ⟨rfl, rfl⟩
  go_wp2_with fail
  refine (aunit_any _ _).mono ?_
  rintro e w1 ⟨rfl, rfl⟩
  go_wp2_with fail
  refine (aunit_any _ _).mono ?_
  rintro e w1 ⟨rfl, rfl⟩
  go_wp2_with fail
  refine bodyPost_ret (v := .agg #[.int .i64 (lim16 n), .int .i64 (lim16 (C + n)), .int .i64 (lim16 (X + n)), .int .i64 α]) (by simp [results, Tryd.results17, go_sem, r1, r2, r3, r4]) rfl ⟨rfl, ?_⟩
  refine set4_below ?_ (by omega) _ _ _ _ _ _ _ _
  repeat (first | exact HB.out | refine Below.drewN' ?_ _)

set_option maxHeartbeats 4000000 in
set_option maxRecDepth 100000 in
theorem from_y3 (h s' l' a hu s l α C X n : Int) (p : Px) (w : World) (hα : 0 < α)  (hhu : 0 ≤ hu ∧ hu ≤ 65535) (hs : 0 ≤ s ∧ s ≤ 65535) (hl : 0 ≤ l ∧ l ≤ 65535) (hk : 6 * hu / 65536 = 3) (hC : 0 ≤ C ∧ C ≤ 65535) (hX : 0 ≤ X ∧ X ≤ 65535) (hn : -65536 ≤ n ∧ n ≤ 65536)
    (TM : ∀ w', Calls Tryd.prog 35 #[.int .i64 h] w' fun e w'' => e = .returned (.int .i64 hu) ∧ w' = w'')
    (TA : ∀ w', Calls Tryd.prog 39 #[.int .i64 a] w' fun e w'' => e = .returned (.int .i64 α) ∧ w' = w'') (TS : ∀ w', Calls Tryd.prog 39 #[.int .i64 s'] w' fun e w'' => e = .returned (.int .i64 s) ∧ w' = w'') (TL : ∀ w', Calls Tryd.prog 39 #[.int .i64 l'] w' fun e w'' => e = .returned (.int .i64 l) ∧ w' = w'')
    (D1 : ∀ w', Calls Tryd.prog 34 #[.int .i64 ((65535 - max (2 * l - 65535) (-(2 * l - 65535))) * s), .int .i64 65535] w' fun e w'' => e = .returned (.int .i64 C) ∧ w' = w'')
    (D2 : ∀ w', Calls Tryd.prog 34 #[.int .i64 (C * (6 * hu - 196608)), .int .i64 65536] w' fun e w'' => (∃ y, e = .returned (.int .i64 y)) ∧ w' = w'')
    (D3 : ∀ w', Calls Tryd.prog 34 #[.int .i64 (C * (65536 - (6 * hu - 196608))), .int .i64 65536] w' fun e w'' => e = .returned (.int .i64 X) ∧ w' = w'')
    (D4 : ∀ w', Calls Tryd.prog 34 #[.int .i64 (2 * l - C), .int .i64 2] w' fun e w'' => e = .returned (.int .i64 n) ∧ w' = w'')
    (hp : p = ⟨lim16 n, lim16 (X + n), lim16 (C + n), α⟩) :
    Calls Tryd.prog 17 #[.agg #[.int .i64 h, .int .i64 s', .int .i64 l'], .int .i64 a] w (PxPost p w) := by
  subst hp
  have hb1 := mul_bd (a := 65535 - max (2 * l - 65535) (-(2 * l - 65535))) (b := s) (by omega) hs
  have hb2 := (fr_bd (f := (6 * hu - 196608)) hC (by omega)).1
  have hb3 := (fr_bd (f := (65536 - (6 * hu - 196608))) hC (by omega)).1
  have ht : (6 * hu).tdiv 65536 = 3 := by rw [Int.tdiv_eq_ediv_of_nonneg (by omega), hk]
  have ha0 : (α == 0) = false := by simp; omega
  clear hk
  have HTA := Lib.hid TA; have HTS := Lib.hid TS; have HTL := Lib.hid TL; have HD1 := Lib.hid D1; have HD3 := Lib.hid D3; have HD4 := Lib.hid D4; have HD2 := Lib.hid D2; have HTM := Lib.hid TM; clear TA TS TL D1 D3 D4 D2 TM
  go_enter Tryd.func17, Tryd.ntmps17
  go_upto_region 1 with fail
  obtain ⟨hb5, hb6, hB⟩ := two_boxes w #[.int .i64 h, .int .i64 s', .int .i64 l'] #[.int .i64 0, .int .i64 0, .int .i64 0, .int .i64 0] 31 25 _ rfl
  generalize World.alloc (World.alloc w _) _ = w0 at *
  obtain ⟨⟨i1, i2, i3⟩, -⟩ := hb5.three
  have HB := Lib.hid hB; have HB6 := Lib.hid hb6; clear hB hb5 hb6
  go_wp2_with fail
  refine (HTA.out _).mono ?_
  rintro e w1 ⟨rfl, rfl⟩
  go_wp2_with fail
  go_quiet (first | (go_at_call 35; exact quiet_tol (HTM.out _) ⟨_, rfl⟩) | (go_at_call 39; exact quiet_tol (HTS.out _) ⟨_, rfl⟩) | (go_at_call 39; exact quiet_tol (HTL.out _) ⟨_, rfl⟩))
  go_wp2_with fail
  refine (HD1.out _).mono ?_
  rintro e w1 ⟨rfl, rfl⟩
  go_wp2_with fail
  refine (HD2.out _).mono ?_
  rintro e w1 ⟨⟨y, rfl⟩, rfl⟩
  go_wp2_with fail
  refine (HD3.out _).mono ?_
  rintro e w1 ⟨rfl, rfl⟩
  go_wp2_with fail
  refine (HD4.out _).mono ?_
  rintro e w1 ⟨rfl, rfl⟩
  clear i1 i2 i3
  obtain ⟨⟨r1, r2, r3, r4⟩, f1, f2, f3, f4⟩ := HB6.out.four
  go_wp2_with fail
  refine (aunit_any _ _).mono ?_
  rintro e w1 ⟨rfl, rfl⟩
  go_wp2_with fail
  refine (aunit_any _ _).mono ?_
  rintro e w1 ⟨rfl, rfl⟩
  go_wp2_with fail
  refine (aunit_any _ _).mono ?_
  rintro e w1 ⟨rfl, rfl⟩
  go_wp2_with fail
  refine bodyPost_ret (v := .agg #[.int .i64 (lim16 n), .int .i64 (lim16 (X + n)), .int .i64 (lim16 (C + n)), .int .i64 α]) (by simp [results, Tryd.results17, go_sem, r1, r2, r3, r4]) rfl ⟨rfl, ?_⟩
  refine set4_below ?_ (by omega) _ _ _ _ _ _ _ _
  repeat (first | exact HB.out | refine Below.drewN' ?_ _)

set_option maxHeartbeats 4000000 in
set_option maxRecDepth 100000 in
theorem from_y4 (h s' l' a hu s l α C X n : Int) (p : Px) (w : World) (hα : 0 < α)  (hhu : 0 ≤ hu ∧ hu ≤ 65535) (hs : 0 ≤ s ∧ s ≤ 65535) (hl : 0 ≤ l ∧ l ≤ 65535) (hk : 6 * hu / 65536 = 4) (hC : 0 ≤ C ∧ C ≤ 65535) (hX : 0 ≤ X ∧ X ≤ 65535) (hn : -65536 ≤ n ∧ n ≤ 65536)
    (TM : ∀ w', Calls Tryd.prog 35 #[.int .i64 h] w' fun e w'' => e = .returned (.int .i64 hu) ∧ w' = w'')
    (TA : ∀ w', Calls Tryd.prog 39 #[.int .i64 a] w' fun e w'' => e = .returned (.int .i64 α) ∧ w' = w'') (TS : ∀ w', Calls Tryd.prog 39 #[.int .i64 s'] w' fun e w'' => e = .returned (.int .i64 s) ∧ w' = w'') (TL : ∀ w', Calls Tryd.prog 39 #[.int .i64 l'] w' fun e w'' => e = .returned (.int .i64 l) ∧ w' = w'')
    (D1 : ∀ w', Calls Tryd.prog 34 #[.int .i64 ((65535 - max (2 * l - 65535) (-(2 * l - 65535))) * s), .int .i64 65535] w' fun e w'' => e = .returned (.int .i64 C) ∧ w' = w'')
    (D3 : ∀ w', Calls Tryd.prog 34 #[.int .i64 (C * (6 * hu - 262144)), .int .i64 65536] w' fun e w'' => e = .returned (.int .i64 X) ∧ w' = w'')
    (D4 : ∀ w', Calls Tryd.prog 34 #[.int .i64 (2 * l - C), .int .i64 2] w' fun e w'' => e = .returned (.int .i64 n) ∧ w' = w'')
    (hp : p = ⟨lim16 (X + n), lim16 n, lim16 (C + n), α⟩) :
    Calls Tryd.prog 17 #[.agg #[.int .i64 h, .int .i64 s', .int .i64 l'], .int .i64 a] w (PxPost p w) := by
  subst hp
  have hb1 := mul_bd (a := 65535 - max (2 * l - 65535) (-(2 * l - 65535))) (b := s) (by omega) hs
  have hb2 := (fr_bd (f := (6 * hu - 262144)) hC (by omega)).1
  have ht : (6 * hu).tdiv 65536 = 4 := by rw [Int.tdiv_eq_ediv_of_nonneg (by omega), hk]
  have ha0 : (α == 0) = false := by simp; omega
  clear hk
  have HTA := Lib.hid TA; have HTS := Lib.hid TS; have HTL := Lib.hid TL; have HD1 := Lib.hid D1; have HD3 := Lib.hid D3; have HD4 := Lib.hid D4; have HTM := Lib.hid TM; clear TA TS TL D1 D3 D4 TM
  go_enter Tryd.func17, Tryd.ntmps17
  go_upto_region 1 with fail
  obtain ⟨hb5, hb6, hB⟩ := two_boxes w #[.int .i64 h, .int .i64 s', .int .i64 l'] #[.int .i64 0, .int .i64 0, .int .i64 0, .int .i64 0] 31 25 _ rfl
  generalize World.alloc (World.alloc w _) _ = w0 at *
  obtain ⟨⟨i1, i2, i3⟩, -⟩ := hb5.three
  have HB := Lib.hid hB; have HB6 := Lib.hid hb6; clear hB hb5 hb6
  go_wp2_with fail
  refine (HTA.out _).mono ?_
  rintro e w1 ⟨rfl, rfl⟩
  go_wp2_with fail
  go_quiet (first | (go_at_call 35; exact quiet_tol (HTM.out _) ⟨_, rfl⟩) | (go_at_call 39; exact quiet_tol (HTS.out _) ⟨_, rfl⟩) | (go_at_call 39; exact quiet_tol (HTL.out _) ⟨_, rfl⟩))
  go_wp2_with fail
  refine (HD1.out _).mono ?_
  rintro e w1 ⟨rfl, rfl⟩
  go_wp2_with fail
  refine (HD3.out _).mono ?_
  rintro e w1 ⟨rfl, rfl⟩
  go_wp2_with fail
  refine (HD4.out _).mono ?_
  rintro e w1 ⟨rfl, rfl⟩
  clear i1 i2 i3
  obtain ⟨⟨r1, r2, r3, r4⟩, f1, f2, f3, f4⟩ := HB6.out.four
  go_wp2_with fail
  refine (aunit_any _ _).mono ?_
  rintro e w1 ⟨rfl, rfl⟩
  go_wp2_with fail
  refine (aunit_any _ _).mono ?_
  rintro e w1 ⟨rfl, rfl⟩
  go_wp2_with fail
  refine (aunit_any _ _).mono ?_
  rintro e w1 ⟨rfl, rfl⟩
  go_wp2_with fail
  refine bodyPost_ret (v := .agg #[.int .i64 (lim16 (X + n)), .int .i64 (lim16 n), .int .i64 (lim16 (C + n)), .int .i64 α]) (by simp [results, Tryd.results17, go_sem, r1, r2, r3, r4]) rfl ⟨rfl, ?_⟩
  refine set4_below ?_ (by omega) _ _ _ _ _ _ _ _
  repeat (first | exact HB.out | refine Below.drewN' ?_ _)

set_option maxHeartbeats 4000000 in
set_option maxRecDepth 100000 in
theorem from_y5 (h s' l' a hu s l α C X n : Int) (p : Px) (w : World) (hα : 0 < α)  (hhu : 0 ≤ hu ∧ hu ≤ 65535) (hs : 0 ≤ s ∧ s ≤ 65535) (hl : 0 ≤ l ∧ l ≤ 65535) (hk : 6 * hu / 65536 = 5) (hC : 0 ≤ C ∧ C ≤ 65535) (hX : 0 ≤ X ∧ X ≤ 65535) (hn : -65536 ≤ n ∧ n ≤ 65536)
    (TM : ∀ w', Calls Tryd.prog 35 #[.int .i64 h] w' fun e w'' => e = .returned (.int .i64 hu) ∧ w' = w'')
    (TA : ∀ w', Calls Tryd.prog 39 #[.int .i64 a] w' fun e w'' => e = .returned (.int .i64 α) ∧ w' = w'') (TS : ∀ w', Calls Tryd.prog 39 #[.int .i64 s'] w' fun e w'' => e = .returned (.int .i64 s) ∧ w' = w'') (TL : ∀ w', Calls Tryd.prog 39 #[.int .i64 l'] w' fun e w'' => e = .returned (.int .i64 l) ∧ w' = w'')
    (D1 : ∀ w', Calls Tryd.prog 34 #[.int .i64 ((65535 - max (2 * l - 65535) (-(2 * l - 65535))) * s), .int .i64 65535] w' fun e w'' => e = .returned (.int .i64 C) ∧ w' = w'')
    (D2 : ∀ w', Calls Tryd.prog 34 #[.int .i64 (C * (6 * hu - 327680)), .int .i64 65536] w' fun e w'' => (∃ y, e = .returned (.int .i64 y)) ∧ w' = w'')
    (D3 : ∀ w', Calls Tryd.prog 34 #[.int .i64 (C * (65536 - (6 * hu - 327680))), .int .i64 65536] w' fun e w'' => e = .returned (.int .i64 X) ∧ w' = w'')
    (D4 : ∀ w', Calls Tryd.prog 34 #[.int .i64 (2 * l - C), .int .i64 2] w' fun e w'' => e = .returned (.int .i64 n) ∧ w' = w'')
    (hp : p = ⟨lim16 (C + n), lim16 n, lim16 (X + n), α⟩) :
    Calls Tryd.prog 17 #[.agg #[.int .i64 h, .int .i64 s', .int .i64 l'], .int .i64 a] w (PxPost p w) := by
  subst hp
  have hb1 := mul_bd (a := 65535 - max (2 * l - 65535) (-(2 * l - 65535))) (b := s) (by omega) hs
  have hb2 := (fr_bd (f := (6 * hu - 327680)) hC (by omega)).1
  have hb3 := (fr_bd (f := (65536 - (6 * hu - 327680))) hC (by omega)).1
  have ht : (6 * hu).tdiv 65536 = 5 := by rw [Int.tdiv_eq_ediv_of_nonneg (by omega), hk]
  have ha0 : (α == 0) = false := by simp; omega
  clear hk
  have HTA := Lib.hid TA; have HTS := Lib.hid TS; have HTL := Lib.hid TL; have HD1 := Lib.hid D1; have HD3 := Lib.hid D3; have HD4 := Lib.hid D4; have HD2 := Lib.hid D2; have HTM := Lib.hid TM; clear TA TS TL D1 D3 D4 D2 TM
  go_enter Tryd.func17, Tryd.ntmps17
  go_upto_region 1 with fail
  obtain ⟨hb5, hb6, hB⟩ := two_boxes w #[.int .i64 h, .int .i64 s', .int .i64 l'] #[.int .i64 0, .int .i64 0, .int .i64 0, .int .i64 0] 31 25 _ rfl
  generalize World.alloc (World.alloc w _) _ = w0 at *
  obtain ⟨⟨i1, i2, i3⟩, -⟩ := hb5.three
  have HB := Lib.hid hB; have HB6 := Lib.hid hb6; clear hB hb5 hb6
  go_wp2_with fail
  refine (HTA.out _).mono ?_
  rintro e w1 ⟨rfl, rfl⟩
  go_wp2_with fail
  go_quiet (first | (go_at_call 35; exact quiet_tol (HTM.out _) ⟨_, rfl⟩) | (go_at_call 39; exact quiet_tol (HTS.out _) ⟨_, rfl⟩) | (go_at_call 39; exact quiet_tol (HTL.out _) ⟨_, rfl⟩))
  go_wp2_with fail
  refine (HD1.out _).mono ?_
  rintro e w1 ⟨rfl, rfl⟩
  go_wp2_with fail
  refine (HD2.out _).mono ?_
  rintro e w1 ⟨⟨y, rfl⟩, rfl⟩
  go_wp2_with fail
  refine (HD3.out _).mono ?_
  rintro e w1 ⟨rfl, rfl⟩
  go_wp2_with fail
  refine (HD4.out _).mono ?_
  rintro e w1 ⟨rfl, rfl⟩
  clear i1 i2 i3
  obtain ⟨⟨r1, r2, r3, r4⟩, f1, f2, f3, f4⟩ := HB6.out.four
  go_wp2_with fail
  refine (aunit_any _ _).mono ?_
  rintro e w1 ⟨rfl, rfl⟩
  go_wp2_with fail
  refine (aunit_any _ _).mono ?_
  rintro e w1 ⟨rfl, rfl⟩
  go_wp2_with fail
  refine (aunit_any _ _).mono ?_
  rintro e w1 ⟨rfl, rfl⟩
  go_wp2_with fail
  refine bodyPost_ret (v := .agg #[.int .i64 (lim16 (C + n)), .int .i64 (lim16 n), .int .i64 (lim16 (X + n)), .int .i64 α]) (by simp [results, Tryd.results17, go_sem, r1, r2, r3, r4]) rfl ⟨rfl, ?_⟩
  refine set4_below ?_ (by omega) _ _ _ _ _ _ _ _
  repeat (first | exact HB.out | refine Below.drewN' ?_ _)

end Go.Proofs.YtmbglkholoblaaaDoor
