/- Default and its reference; the walk of AdjustNothing. -/
import Derived.Test.YtmbglkholoblaaaDoorMN
import Derived.Test.YtmbglkholoblaaaDoorMO
import Derived.Test.YtmbglkholoblaaaDoorMP
namespace Go.Proofs.YtmbglkholoblaaaDoor
open Go.RowKit

def DfPost (l : List Int) (err : Int) (w : World) (e : Ending) (w' : World) : Prop :=
  ∃ A c, e = .returned (.tuple #[.slice A l.length c, .int .i64 err]) ∧ Ints w' w'.heap.size (.slice A l.length c) l ∧ Below w.heap.size w w'
theorem dfPost_nil (err : Int) (w : World) : DfPost [] err w (.returned (.tuple #[.slice none 0 0, .int .i64 err])) w := ⟨none, 0, rfl, Ints.nil _ _, Below.refl _ _⟩
theorem dfPost_new (l : List Int) (err : Int) (w : World) (hl : l.length ≤ 1000000) : DfPost l err w (.returned (.tuple #[.slice (some ⟨w.heap.size, 0, none⟩) l.length l.length, .int .i64 err])) (w.alloc (.cells (l.map (Value.int .i64)).toArray 3)) :=
  ⟨_, _, rfl, made_ints w l hl, bel1 _ _⟩
set_option maxHeartbeats 8000000 in
theorem default_any (k : Int) (w : World) : Calls Tryd.prog 21 #[.int .i64 k] w (DfPost (dfl k) (derr k) w) := by
  by_cases hk : 1 ≤ k ∧ k ≤ 11
  · rcases kinds hk.1 hk.2 with rfl | rfl | rfl | rfl | rfl | rfl | rfl | rfl | rfl | rfl | rfl
    all_goals
      go_enter Tryd.func21, Tryd.ntmps21
      go_wp2
      go_ret2
      first | exact dfPost_nil 0 w | exact dfPost_new (dfl _) 0 w (by decide)
  · have e1 : dfl k = [] := by
      unfold dfl
      repeat rw [if_neg (by omega)]
    have e2 : derr k = 8 := by unfold derr; rw [if_neg hk]
    rw [e1, e2]
    have a1 : (k == 1) = false := by simp; omega
    have a2 : (k == 2) = false := by simp; omega
    have a3 : (k == 3) = false := by simp; omega
    have a4 : (k == 4) = false := by simp; omega
    have a5 : (k == 5) = false := by simp; omega
    have a6 : (k == 6) = false := by simp; omega
    have a7 : (k == 7) = false := by simp; omega
    have a8 : (k == 8) = false := by simp; omega
    have a9 : (k == 9) = false := by simp; omega
    have a10 : (k == 10) = false := by simp; omega
    have a11 : (k == 11) = false := by simp; omega
    clear hk e1 e2
    go_enter Tryd.func21, Tryd.ntmps21
    go_wp2
    go_ret2
    exact dfPost_nil 8 w
set_option maxHeartbeats 8000000 in
theorem rdefault_any (k : Int) (w : World) : Calls Tryd.prog 22 #[.int .i64 k] w (DfPost (dfl k) (derr k) w) := by
  by_cases hk : 1 ≤ k ∧ k ≤ 11
  · rcases kinds hk.1 hk.2 with rfl | rfl | rfl | rfl | rfl | rfl | rfl | rfl | rfl | rfl | rfl
    all_goals
      go_enter Tryd.func22, Tryd.ntmps22
      go_wp2
      go_ret2
      first | exact dfPost_nil 0 w | exact dfPost_new (dfl _) 0 w (by decide)
  · have e1 : dfl k = [] := by
      unfold dfl
      repeat rw [if_neg (by omega)]
    have e2 : derr k = 8 := by unfold derr; rw [if_neg hk]
    rw [e1, e2]
    by_cases h1 : k < 1
    · have d1 : decide (k < 1) = true := by simp; omega
      clear hk e1 e2 h1
      go_enter Tryd.func22, Tryd.ntmps22
      go_wp2
      go_ret2
      exact dfPost_nil 8 w
    · have d1 : decide (k < 1) = false := by simp; omega
      have d2 : decide (11 < k) = true := by simp; omega
      clear hk e1 e2 h1
      go_enter Tryd.func22, Tryd.ntmps22
      go_wp2
      go_ret2
      exact dfPost_nil 8 w

/-- The loop over the kinds. -/
def NoRel (w : World) (gh : Nat) (i : Value) (wr : World) : Prop := ∃ j : Nat, j ≤ 5 ∧ gh = 5 - j ∧ i = .int .i64 j ∧ Below w.heap.size w wr
def noK : List Int := [2, 3, 4, 8, 11]
theorem noK_in (j : Nat) (hj : j < 5) : prm noK j = 2 ∨ prm noK j = 3 ∨ prm noK j = 4 ∨ prm noK j = 8 ∨ prm noK j = 11 := by
  rcases (show j = 0 ∨ j = 1 ∨ j = 2 ∨ j = 3 ∨ j = 4 by omega) with rfl | rfl | rfl | rfl | rfl <;> decide
set_option maxRecDepth 100000 in
set_option maxHeartbeats 4000000 in
theorem nothing_no (p : Px) (w : World) (hp : ¬ (pxOk p = true ∧ 1 ≤ p.a))
    (T0 : ∀ w', Below w.heap.size w w' → Calls Tryd.prog 14 #[] w' fun e w'' => e = .returned (.bool true) ∧ Below w'.heap.size w' w'') :
    Calls Tryd.prog 9 #[.agg #[.int .i64 p.r, .int .i64 p.g, .int .i64 p.b, .int .i64 p.a]] w fun e w' => e = .returned (.bool true) ∧ Below w.heap.size w w' := by
  have HT0 := Lib.hid T0; clear T0
  have hq : (pxOk ⟨p.r, p.g, p.b, p.a⟩ = false) ∨ (pxOk ⟨p.r, p.g, p.b, p.a⟩ = true ∧ decide (p.a < 1) = true) := by
    rcases Bool.eq_false_or_eq_true (pxOk p) with h | h
    rotate_left
    · exact .inl h
    · exact .inr ⟨h, decide_eq_true (Int.not_le.mp fun x => hp ⟨h, x⟩)⟩
  have HQ := Lib.hid hq; clear hq hp
  go_enter Tryd.func9, Tryd.ntmps9
  go_upto_region 1 with fail
  obtain ⟨hb7, hB, -⟩ := one_box w #[.int .i64 p.r, .int .i64 p.g, .int .i64 p.b, .int .i64 p.a] 25 _ rfl
  generalize World.alloc w _ = w0 at *
  go_wp2_with fail
  refine (HT0.out _ hB).mono ?_
  rintro e w1 ⟨rfl, hbb⟩
  replace hb7 := hb7.below hbb; replace hB := bel_trans hB hbb
  clear hbb
  obtain ⟨⟨i1, i2, i3, i4⟩, -⟩ := hb7.four
  go_wp2_with fail
  refine (pvalid_any _ _ _ _ _).mono ?_
  rintro e w2 ⟨rfl, hbb⟩
  replace hb7 := hb7.below hbb; replace hB := bel_trans hB hbb
  clear hbb i1 i2 i3 i4
  rcases HQ.out with h | ⟨h, d1⟩
  · rw [h]
    clear h hb7 HQ
    go_wp2_with fail
    refine (HT0.out _ hB).mono ?_
    rintro e w3 ⟨rfl, hbb⟩
    go_wp2_with fail
    go_ret
    exact ⟨rfl, bel_trans hB hbb⟩
  · rw [h]
    obtain ⟨⟨-, -, -, i4⟩, -⟩ := hb7.four
    clear h hb7 HQ
    go_wp2_with fail
    refine (HT0.out _ hB).mono ?_
    rintro e w3 ⟨rfl, hbb⟩
    go_wp2_with fail
    go_ret
    exact ⟨rfl, bel_trans hB hbb⟩
set_option maxRecDepth 100000 in
set_option maxHeartbeats 8000000 in
theorem nothing_yes (p : Px) (w : World) (hp : pxOk p = true) (ha : 1 ≤ p.a)
    (T0 : ∀ w', Below w.heap.size w w' → Calls Tryd.prog 14 #[] w' fun e w'' => e = .returned (.bool true) ∧ Below w'.heap.size w' w'')
    (T1 : ∀ k w', k = 2 ∨ k = 3 ∨ k = 4 ∨ k = 8 ∨ k = 11 → Calls Tryd.prog 21 #[.int .i64 k] w' (DfPost (dfl k) 0 w'))
    (T2 : ∀ k A c w', k = 2 ∨ k = 3 ∨ k = 4 ∨ k = 8 ∨ k = 11 → Below w.heap.size w w' → Ints w' w'.heap.size (.slice A (dfl k).length c) (dfl k) → Calls Tryd.prog 12 #[.int .i64 k, .slice A (dfl k).length c, .slice none 0 0, .agg #[.int .i64 p.r, .int .i64 p.g, .int .i64 p.b, .int .i64 p.a]] w' (PePost p 0 w')) :
    Calls Tryd.prog 9 #[.agg #[.int .i64 p.r, .int .i64 p.g, .int .i64 p.b, .int .i64 p.a]] w fun e w' => e = .returned (.bool true) ∧ Below w.heap.size w w' := by
  have HT0 := Lib.hid T0; have HT1 := Lib.hid T1; have HT2 := Lib.hid T2; clear T0 T1 T2
  have HP := Lib.hid (show pxOk ⟨p.r, p.g, p.b, p.a⟩ = true from hp)
  have d1 : decide (p.a < 1) = false := by simp; omega
  clear hp ha
  go_enter Tryd.func9, Tryd.ntmps9
  go_upto_region 1 with fail
  obtain ⟨hb7, hB, -⟩ := one_box w #[.int .i64 p.r, .int .i64 p.g, .int .i64 p.b, .int .i64 p.a] 25 _ rfl
  generalize World.alloc w _ = w0 at *
  go_wp2_with fail
  refine (HT0.out _ hB).mono ?_
  rintro e w1 ⟨rfl, hbb⟩
  replace hb7 := hb7.below hbb; replace hB := bel_trans hB hbb
  clear hbb
  obtain ⟨⟨i1, i2, i3, i4⟩, -⟩ := hb7.four
  go_wp2_with fail
  refine (pvalid_any _ _ _ _ _).mono ?_
  rintro e w2 ⟨rfl, hbb⟩
  rw [HP.out]
  replace hb7 := hb7.below hbb; replace hB := bel_trans hB hbb
  clear hbb i1 i2 i3 i4
  obtain ⟨⟨-, -, -, i4⟩, -⟩ := hb7.four
  go_upto_region 4 with fail
  have hI : Ints (w2.alloc (.cells #[.int .i64 2, .int .i64 3, .int .i64 4, .int .i64 8, .int .i64 11] 3)) (w2.alloc (.cells #[.int .i64 2, .int .i64 3, .int .i64 4, .int .i64 8, .int .i64 11] 3)).heap.size (.slice (some ⟨w2.heap.size, 0, none⟩) 5 5) noK := made_ints w2 noK (by decide)
  have hb := bel1 w2 (.cells #[.int .i64 2, .int .i64 3, .int .i64 4, .int .i64 8, .int .i64 11] 3)
  replace hb7 := hb7.below hb; replace hB := bel_trans hB hb
  clear hb i4 d1
  generalize World.alloc w2 _ = wb at *
  have HB7 := Lib.hid hb7; have HB := Lib.hid hB; have HI := Lib.hid hI
  clear hb7 hB hI
  go_loopg [24] 5 (NoRel wb)
  case atStart => exact ⟨0, by omega, rfl, rfl, Below.refl _ _⟩
  case round =>
    obtain ⟨j, hj, rfl, rfl, hbr⟩ := hrel
    have HR := Lib.hid hbr
    by_cases hlt : j < 5
    · obtain ⟨b, o, c1, ev, hb, hc⟩ := ints_at HI.out (by decide)
      injection ev with u1 u2 u3
      injection u1 with u1
      injection u1 with u4 u5 u6
      subst u5
      have y := (hbr.cell (p := ⟨b, 0 + j, none⟩) hb).trans (hc j hlt)
      rw [← u4, Nat.zero_add] at y
      have hk0 : (0 : Int) ≤ (j : Int) := by omega
      have hk1 : (j : Int) < 5 := by omega
      have HK := Lib.hid (noK_in j hlt)
      clear hc u2 u3 u4 hb hbr
      generalize prm noK j = k at *
      go_wp2_with fail
      refine (HT1.out k _ HK.out).mono ?_
      rintro e w3 ⟨A3, c3, rfl, hi3, hb3⟩
      have hB3 := bel_trans HR.out hb3
      obtain ⟨⟨i1, i2, i3, i4⟩, -⟩ := (HB7.out.below hB3).four
      clear y hb3
      have HI3 := Lib.hid hi3; clear hi3
      go_wp2_with fail
      refine (HT2.out k _ _ _ HK.out (bel_trans HB.out hB3) HI3.out).mono ?_
      rintro e w4 ⟨rfl, hb4⟩
      have hB4 := bel_trans hB3 hb4
      clear i1 i2 i3 i4 hb4 hB3 HI3
      go_upto_region 8 with fail
      obtain ⟨hb9, hbb, -⟩ := one_box w4 #[.int .i64 p.r, .int .i64 p.g, .int .i64 p.b, .int .i64 p.a] 25 _ rfl
      generalize World.alloc w4 _ = w5 at *
      have hB5 := bel_trans hB4 hbb
      obtain ⟨⟨i1, i2, i3, i4⟩, -⟩ := (HB7.out.below hB5).four
      obtain ⟨⟨j1, j2, j3, j4⟩, -⟩ := hb9.four
      clear hbb hb9 hB4
      have HB5 := Lib.hid hB5; clear hB5
      go_wp2_with fail
      go_roundg (5 - (j + 1))
      case measure => omega
      case rel => exact ⟨j + 1, by omega, rfl, by go_num, HB5.out⟩
    · obtain rfl : j = 5 := by omega
      go_wp2_with fail
      go_ret
      exact ⟨rfl, bel_trans HB.out HR.out⟩
theorem walk_nothing (v0 : Value) (p : Px) (w : World) (hT : Tab w) (h0 : PxV v0 p) :
    Calls Tryd.prog 9 #[v0] w fun e w' => e = .returned (.bool true) ∧ Below w.heap.size w w' := by
  obtain ⟨rfl, _⟩ := h0
  by_cases h : pxOk p = true ∧ 1 ≤ p.a
  rotate_left
  · exact nothing_no p w h (fun w' hb => awake_any w' (hT.below hb))
  have hok := (pxOk_iff p).1 h.1
  refine nothing_yes p w h.1 h.2 (fun w' hb => awake_any w' (hT.below hb)) (fun k w' hk => ?_) (fun k A c w' hk hb hi => ?_)
  · have := default_any k w'
    rw [show derr k = 0 by unfold derr; rw [if_pos (by omega)]] at this
    exact this
  · have := apixel_any k (dfl k) [] A c none 0 p w' (hT.below hb) hi (Stps.nil _ _)
    have e1 : perr k (dfl k) [] p = 0 := by unfold perr; rw [if_pos (nothing_ok hk), h.1]; rfl
    have e2 : pixF k (dfl k) [] p = p := by unfold pixF; rw [if_pos e1, nothing_same hk hok (by omega)]
    rw [e1, e2] at this
    exact this
end Go.Proofs.YtmbglkholoblaaaDoor
namespace Go.Proofs.YtmbglkholoblaaaDoor
open Go.RowKit

def ChRel (n : Nat) (w : World) (gh : Nat) (i : Value) (wr : World) : Prop := ∃ j : Nat, j ≤ n ∧ gh = n - j ∧ i = .int .i64 j ∧ Below w.heap.size w wr
set_option maxRecDepth 100000 in
set_option maxHeartbeats 8000000 in
theorem checks_core (k : Int) (l : List Int) (er C : Int) (A : Option Addr) (n c : Nat) (A' : Option Addr) (n' c' : Nat) (w : World) (hln : l.length ≤ 1000)
    (T0 : ∀ w', Below w.heap.size w w' → Calls Tryd.prog 14 #[] w' fun e w'' => e = .returned (.bool true) ∧ Below w'.heap.size w' w'')
    (T1 : ∀ w', Calls Tryd.prog 21 #[.int .i64 k] w' (DfPost l er w'))
    (T2 : ∀ w', Calls Tryd.prog 22 #[.int .i64 k] w' (DfPost l er w'))
    (T3 : ∀ w', Below w.heap.size w w' → Calls Tryd.prog 20 #[.int .i64 k, .slice A n c, .slice A' n' c'] w' fun e w'' => e = .returned (.int .i64 C) ∧ Below w'.heap.size w' w'')
    (T4 : ∀ w', Below w.heap.size w w' → Calls Tryd.prog 23 #[.int .i64 k, .slice A n c, .slice A' n' c'] w' fun e w'' => e = .returned (.int .i64 C) ∧ Below w'.heap.size w' w'') :
    Calls Tryd.prog 8 #[.int .i64 k, .slice A n c, .slice A' n' c'] w fun e w' => e = .returned (.bool true) ∧ Below w.heap.size w w' := by
  have HT0 := Lib.hid T0; have HT1 := Lib.hid T1; have HT2 := Lib.hid T2; have HT3 := Lib.hid T3; have HT4 := Lib.hid T4
  clear T0 T1 T2 T3 T4
  go_enter Tryd.func8, Tryd.ntmps8
  go_wp2_with fail
  refine (HT1.out _).mono ?_
  rintro e w1 ⟨A1, c1, rfl, hi1, hB⟩
  go_wp2_with fail
  refine (HT2.out _).mono ?_
  rintro e w2 ⟨A2, c2, rfl, hi2, hbb⟩
  have hi1 := (hi1.below hbb).more hbb.size
  replace hB := bel_trans hB hbb
  clear hbb
  go_wp2_with fail
  refine (HT0.out _ hB).mono ?_
  rintro e w3 ⟨rfl, hbb⟩
  replace hi1 := (hi1.below hbb).more hbb.size; replace hi2 := (hi2.below hbb).more hbb.size; replace hB := bel_trans hB hbb
  clear hbb
  go_wp2_with fail
  refine (HT3.out _ hB).mono ?_
  rintro e w4 ⟨rfl, hbb⟩
  replace hi1 := (hi1.below hbb).more hbb.size; replace hi2 := (hi2.below hbb).more hbb.size; replace hB := bel_trans hB hbb
  clear hbb
  go_wp2_with fail
  refine (HT4.out _ hB).mono ?_
  rintro e w5 ⟨rfl, hbb⟩
  replace hi1 := (hi1.below hbb).more hbb.size; replace hi2 := (hi2.below hbb).more hbb.size; replace hB := bel_trans hB hbb
  have HI1 := Lib.hid hi1; have HI2 := Lib.hid hi2; have HB := Lib.hid hB
  clear hbb hi1 hi2 hB
  go_wp2_with fail
  go_loopg [49] l.length (ChRel l.length w5)
  case atStart => exact ⟨0, Nat.zero_le _, rfl, rfl, Below.refl _ _⟩
  case round =>
    obtain ⟨j, hj, rfl, rfl, hbr⟩ := hrel
    have HR := Lib.hid hbr
    by_cases hlt : j < l.length
    · obtain ⟨A3, c3, ev3, _, hc3⟩ := HI1.out
      obtain ⟨A4, c4, ev4, _, hc4⟩ := HI2.out
      injection ev3 with u1 u2 u3
      injection ev4 with v1 v2 v3
      subst u1 v1
      obtain ⟨b, o, rfl, hb, y⟩ := hc3 j hlt
      obtain ⟨b', o', rfl, hb', y'⟩ := hc4 j hlt
      replace y := (hbr.cell (p := ⟨b, _, none⟩) hb).trans y
      replace y' := (hbr.cell (p := ⟨b', _, none⟩) hb').trans y'
      have hk0 : (0 : Int) ≤ (j : Int) := by omega
      have hk1 : (j : Int) < (l.length : Int) := by omega
      clear hc3 hc4 u2 u3 v2 v3 hb hb' hbr
      generalize l.getD j 0 = X at *
      go_wp2_with fail
      go_quiet (fail)
      go_wp2_with fail
      go_roundg (l.length - (j + 1))
      case measure => omega
      case rel => exact ⟨j + 1, by omega, rfl, by go_num, Below.drewN' HR.out _⟩
    · obtain rfl : j = l.length := by omega
      go_wp2_with fail
      go_ret
      exact ⟨rfl, bel_trans HB.out HR.out⟩
theorem dfl_len (k : Int) : (dfl k).length ≤ 1000 := by
  unfold dfl
  repeat' split
  all_goals decide
theorem walk_checks (k : Int) (v1 : Value) (l : List Int) (v2 : Value) (ss : List (Int × Px)) (w : World) (hT : Tab w) (_ : in64 k) (h1 : IntsV w v1 l) (h2 : StpsV w v2 ss) :
    Calls Tryd.prog 8 #[.int .i64 k, v1, v2] w fun e w' => e = .returned (.bool true) ∧ Below w.heap.size w w' := by
  obtain ⟨A, c, rfl, hi⟩ := h1
  obtain ⟨A', c', rfl, hs⟩ := h2
  exact checks_core k (dfl k) (derr k) (achk k l ss) A _ c A' _ c' w (dfl_len k) (fun w' hb => awake_any w' (hT.below hb)) (fun w' => default_any k w') (fun w' => rdefault_any k w')
    (fun w' hb => acheck_any k l ss A c A' c' w' ((hi.below hb).more hb.size) (hs.on hb)) (fun w' hb => r17check_any k l ss A c A' c' w' ((hi.below hb).more hb.size) (hs.on hb))
end Go.Proofs.YtmbglkholoblaaaDoor
