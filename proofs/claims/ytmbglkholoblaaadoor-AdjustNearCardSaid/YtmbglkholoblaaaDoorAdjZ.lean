/- The walk of AdjustNear. -/
import Derived.Test.YtmbglkholoblaaaDoorAdjV
import Derived.Test.YtmbglkholoblaaaDoorAdjLaid
import Derived.Deep.DeepCutAuto
namespace Go.Proofs.YtmbglkholoblaaaDoor
open Go.RowKit

theorem run_max6m (P : Program) (w : World) (ts : Array TypeId) (t : TypeId) (x y z u v s : Int) : (Builtin.max_ ts t #[.int .i64 x, .int .i64 y, .int .i64 z, .int .i64 u, .int .i64 v, .int .i64 s]).run P w = .ok (.int .i64 (max (max (max (max (max x y) z) u) v) s)) w := by
  simp [Builtin.max_, Builtin.max2]
  (repeat' split) <;> omega
attribute [local go_sem 2000] run_max6m

/-- Behind the statement q := ..: the new box holds m. -/
def NearMid (p m : Px) (g0 : Nat) (w : World) (v : Value) (wx : World) : Prop := ∃ g, v = .pointer (some ⟨g, 0, none⟩) ∧ Bx wx g 25 #[.int .i64 m.r, .int .i64 m.g, .int .i64 m.b, .int .i64 m.a] ∧ Bx wx g0 25 #[.int .i64 p.r, .int .i64 p.g, .int .i64 p.b, .int .i64 p.a] ∧ Below w.heap.size w wx
theorem nearMid_of {p m : Px} {g0 g : Nat} {w wx : World} {a b c d : Value} (hN : Bx wx g 25 #[a, b, c, d]) (hP : Bx wx g0 25 #[.int .i64 p.r, .int .i64 p.g, .int .i64 p.b, .int .i64 p.a]) (hn : g0 < g) (hB : Below w.heap.size w wx) (hg : w.heap.size ≤ g) :
    NearMid p m g0 w (.pointer (some ⟨g, 0, none⟩)) ((((wx.setCell ⟨g, 0, none⟩ (.int .i64 m.r)).setCell ⟨g, 1, none⟩ (.int .i64 m.g)).setCell ⟨g, 2, none⟩ (.int .i64 m.b)).setCell ⟨g, 3, none⟩ (.int .i64 m.a)) :=
  ⟨g, rfl, hN.put4 _ _ _ _, hP.other4 (by omega) _ _ _ _ _ _ _ _, set4_below hB hg _ _ _ _ _ _ _ _⟩
theorem nearMid_last {p m : Px} {g0 : Nat} {w wx : World} (hP : Bx wx g0 25 #[.int .i64 p.r, .int .i64 p.g, .int .i64 p.b, .int .i64 p.a]) (hB : Below w.heap.size w wx) :
    NearMid p m g0 w (.pointer (some ⟨wx.heap.size, 0, none⟩)) (wx.alloc (.cells #[.int .i64 m.r, .int .i64 m.g, .int .i64 m.b, .int .i64 m.a] 25)) :=
  ⟨_, rfl, Bx.new _ _ _, hP.alloc _, bel_alloc hB _⟩
set_option maxRecDepth 100000 in
set_option maxHeartbeats 4000000 in
theorem near_no (p : Px) (w : World) (hp : ¬ (pxOk p = true ∧ 1 ≤ p.a))
    (T0 : ∀ w', Below w.heap.size w w' → Calls Tryd.prog 14 #[] w' fun e w'' => e = .returned (.bool true) ∧ Below w'.heap.size w' w'') :
    Calls Tryd.prog 7 #[.agg #[.int .i64 p.r, .int .i64 p.g, .int .i64 p.b, .int .i64 p.a]] w fun e w' => e = .returned (.bool true) ∧ Below w.heap.size w w' := by
  have HT0 := Lib.hid T0; clear T0
  have hq : (pxOk ⟨p.r, p.g, p.b, p.a⟩ = false) ∨ (pxOk ⟨p.r, p.g, p.b, p.a⟩ = true ∧ decide (p.a < 1) = true) := by
    rcases Bool.eq_false_or_eq_true (pxOk p) with h | h
    rotate_left
    · exact .inl h
    · exact .inr ⟨h, decide_eq_true (Int.not_le.mp fun x => hp ⟨h, x⟩)⟩
  have HQ := Lib.hid hq; clear hq hp
  go_enter Tryd.func7, Tryd.ntmps7
  go_upto_region 1 with fail
  obtain ⟨hb7, hB, -⟩ := one_box w #[.int .i64 p.r, .int .i64 p.g, .int .i64 p.b, .int .i64 p.a] 25 _ rfl
  generalize World.alloc w _ = w0 at *
  go_wp2_with fail
  refine (HT0.out _ hB).mono ?_
  rintro e w1 ⟨rfl, hbb⟩
  replace hb7 := hb7.below hbb; replace hB := bel_trans hB hbb
  clear hbb
  obtain ⟨⟨i1, i2, i3, i4⟩, -⟩ := hb7.four
  go_wp2_with fail
  refine (pvalid_any _ _ _ _ _).mono ?_
  rintro e w2 ⟨rfl, hbb⟩
  replace hb7 := hb7.below hbb; replace hB := bel_trans hB hbb
  clear hbb i1 i2 i3 i4
  rcases HQ.out with h | ⟨h, d1⟩
  · rw [h]
    clear h hb7 HQ
    go_wp2_with fail
    refine (HT0.out _ hB).mono ?_
    rintro e w3 ⟨rfl, hbb⟩
    go_wp2_with fail
    go_ret
    exact ⟨rfl, bel_trans hB hbb⟩
  · rw [h]
    obtain ⟨⟨-, -, -, i4⟩, -⟩ := hb7.four
    clear h hb7 HQ
    go_wp2_with fail
    refine (HT0.out _ hB).mono ?_
    rintro e w3 ⟨rfl, hbb⟩
    go_wp2_with fail
    go_ret
    exact ⟨rfl, bel_trans hB hbb⟩
set_option maxRecDepth 100000 in
set_option maxHeartbeats 8000000 in
theorem near_yes (p m : Px) (t1 t2 t3 : Int) (w : World) (hp : pxOk p = true) (ha : 1 ≤ p.a) (hm : pxOk m = true) (hma : m.a = p.a) (hg : p.r = p.g → p.g = p.b → p = m)
    (hn : ¬ (p.r = p.g ∧ p.g = p.b) → max (max (max (max (max (p.r - m.r) (m.r - p.r)) (p.g - m.g)) (m.g - p.g)) (p.b - m.b)) (m.b - p.b) ≤ 8)
    (T0 : ∀ w', Below w.heap.size w w' → Calls Tryd.prog 14 #[] w' fun e w'' => e = .returned (.bool true) ∧ Below w'.heap.size w' w'')
    (T1 : ∀ w', Calls Tryd.prog 15 #[.agg #[.int .i64 p.r, .int .i64 p.g, .int .i64 p.b, .int .i64 p.a]] w' (TriPost (t1, t2, t3) w'))
    (T3 : ∀ w', Calls Tryd.prog 17 #[.agg #[.int .i64 t1, .int .i64 t2, .int .i64 t3], .int .i64 p.a] w' (PxPost m w')) :
    Calls Tryd.prog 7 #[.agg #[.int .i64 p.r, .int .i64 p.g, .int .i64 p.b, .int .i64 p.a]] w fun e w' => e = .returned (.bool true) ∧ Below w.heap.size w w' := by
  have HT0 := Lib.hid T0; have HT1 := Lib.hid T1; have HT3 := Lib.hid T3; clear T0 T1 T3
  have HP := Lib.hid (show pxOk ⟨p.r, p.g, p.b, p.a⟩ = true from hp); have HM := Lib.hid (show pxOk ⟨m.r, m.g, m.b, m.a⟩ = true from hm)
  have HPO := Lib.hid ((pxOk_iff p).1 hp); have HMO := Lib.hid ((pxOk_iff m).1 hm)
  have d1 : decide (p.a < 1) = false := by simp; omega
  have HMA := Lib.hid (show (m.a == p.a) = true by simp [hma])
  have HG := Lib.hid hg; have HN := Lib.hid hn
  clear hp hm ha hma hg hn
  go_enter Tryd.func7, Tryd.ntmps7
  go_upto_region 1 with fail
  obtain ⟨hb7, hB, -⟩ := one_box w #[.int .i64 p.r, .int .i64 p.g, .int .i64 p.b, .int .i64 p.a] 25 _ rfl
  generalize World.alloc w _ = w0 at *
  go_wp2_with fail
  refine (HT0.out _ hB).mono ?_
  rintro e w1 ⟨rfl, hbb⟩
  replace hb7 := hb7.below hbb; replace hB := bel_trans hB hbb
  clear hbb
  obtain ⟨⟨i1, i2, i3, i4⟩, -⟩ := hb7.four
  go_wp2_with fail
  refine (pvalid_any _ _ _ _ _).mono ?_
  rintro e w2 ⟨rfl, hbb⟩
  rw [HP.out]
  replace hb7 := hb7.below hbb; replace hB := bel_trans hB hbb
  clear hbb i1 i2 i3 i4
  obtain ⟨⟨i1, i2, i3, i4⟩, -⟩ := hb7.four
  go_upto_region 3 with fail
  go_cut [3] (NearMid p m w.heap.size w)
  case first =>
    have hz0 := hb7.lt
    have hB0 := hB
    replace hb7 := hb7.drew; replace hB := hB.drew
    have hz := hb7.lt
    obtain ⟨⟨m1, m2, m3, m4⟩, -⟩ := hb7.four
    obtain ⟨⟨n1, n2, n3, n4⟩, -⟩ := (hb7.alloc (.cells #[.int .i64 0, .int .i64 0, .int .i64 0, .int .i64 0] 25)).four
    replace n1 : ((w2.alloc (.cells #[.int .i64 0, .int .i64 0, .int .i64 0, .int .i64 0] 25)).drew).cell? ⟨w.heap.size, 0, none⟩ = some (.int .i64 p.r) := n1
    replace n2 : ((w2.alloc (.cells #[.int .i64 0, .int .i64 0, .int .i64 0, .int .i64 0] 25)).drew).cell? ⟨w.heap.size, 1, none⟩ = some (.int .i64 p.g) := n2
    replace n3 : ((w2.alloc (.cells #[.int .i64 0, .int .i64 0, .int .i64 0, .int .i64 0] 25)).drew).cell? ⟨w.heap.size, 2, none⟩ = some (.int .i64 p.b) := n3
    replace n4 : ((w2.alloc (.cells #[.int .i64 0, .int .i64 0, .int .i64 0, .int .i64 0] 25)).drew).cell? ⟨w.heap.size, 3, none⟩ = some (.int .i64 p.a) := n4
    go_region_with (first
      | (go_at_call 15; refine (HT1.out _).mono ?_; rintro e w4 ⟨rfl, hbw4⟩; (first | (have hnw := Bx.below (Bx.drew (Bx.new _ _ _)) hbw4) | (have hnw := Bx.below (Bx.new _ _ _) hbw4) | skip); (first | (have hB := bel_trans hB hbw4; have hb7 := hb7.below hbw4) | (have hB := bel_trans (bel_alloc hB _) hbw4; have hb7 := (hb7.alloc _).below hbw4)); have hz := hb7.lt; obtain ⟨⟨i1, i2, i3, i4⟩, -⟩ := hb7.four)
      | (go_at_call 17; refine (HT3.out _).mono ?_; rintro e w5 ⟨rfl, hbw5⟩; (first | (have hnw := Bx.below (Bx.new _ _ _) hbw5) | (have hnw := hnw.below hbw5) | skip); (try obtain ⟨⟨q1, q2, q3, q4⟩, qf1, qf2, qf3, qf4⟩ := hnw.four); (first | (have hB := bel_trans hB hbw5; have hb7 := hb7.below hbw5) | (have hB := bel_trans (bel_alloc hB _) hbw5; have hb7 := (hb7.alloc _).below hbw5)); have hz := hb7.lt; obtain ⟨⟨i1, i2, i3, i4⟩, -⟩ := hb7.four))
    all_goals (try go_wp2_with fail)
    all_goals go_meet
    all_goals first
      | ((with_reducible refine nearMid_last ?_ ?_); exact hb7; exact hB)
      | ((with_reducible refine nearMid_of (a := .int .i64 0) (b := .int .i64 0) (c := .int .i64 0) (d := .int .i64 0) ?_ ?_ ?_ ?_ ?_); exact hnw; exact hb7; (first | exact hz0 | omega); exact hB; (have := hB0.size; omega))
  case rest =>
    clear hb7 hB i1 i2 i3 i4
    obtain ⟨g, rfl, hm, hp, hB⟩ := hcut
    obtain ⟨⟨j1, j2, j3, j4⟩, -⟩ := hm.four
    go_wp2_with fail
    refine (pvalid_any _ _ _ _ _).mono ?_
    rintro e w6 ⟨rfl, hbb⟩
    rw [HM.out]
    replace hm := hm.below hbb; replace hp := hp.below hbb; replace hB := bel_trans hB hbb
    clear hbb j1 j2 j3 j4
    obtain ⟨⟨i1, i2, i3, i4⟩, -⟩ := hp.four
    obtain ⟨⟨j1, j2, j3, j4⟩, -⟩ := hm.four
    have d2 := HMA.out
    go_upto_region 6 with fail
    clear d2
    by_cases e1 : p.r = p.g
    · by_cases e2 : p.g = p.b
      · have hpm := HG.out e1 e2
        subst hpm
        have d3 : (p.r == p.g) = true := by simp [e1]
        have d4 : (p.g == p.b) = true := by simp [e2]
        clear e1 e2
        go_wp2_with fail
        go_ret
        exact ⟨by simp, hB⟩
      · have d3 : (p.r == p.g) = true := by simp [e1]
        have d4 : (p.g == p.b) = false := by simp [e2]
        have HL := Lib.hid (HN.out (fun h => e2 h.2)); clear e1 e2
        obtain ⟨q1, q2, q3, -⟩ := HPO.out; obtain ⟨r1, r2, r3, -⟩ := HMO.out
        go_wp2_with fail
        go_ret
        exact ⟨ret_bool (decide_eq_true (by have := HL.out; omega)), hB⟩
    · have d3 : (p.r == p.g) = false := by simp [e1]
      have HL := Lib.hid (HN.out (fun h => e1 h.1)); clear e1
      obtain ⟨q1, q2, q3, -⟩ := HPO.out; obtain ⟨r1, r2, r3, -⟩ := HMO.out
      go_wp2_with fail
      go_ret
      exact ⟨ret_bool (decide_eq_true (by have := HL.out; omega)), hB⟩
theorem walk_near (v0 : Value) (p : Px) (w : World) (hT : Tab w) (h0 : PxV v0 p) :
    Calls Tryd.prog 7 #[v0] w fun e w' => e = .returned (.bool true) ∧ Below w.heap.size w w' := by
  obtain ⟨rfl, _⟩ := h0
  by_cases h : pxOk p = true ∧ 1 ≤ p.a
  rotate_left
  · exact near_no p w h (fun w' hb => awake_any w' (hT.below hb))
  obtain ⟨hp, ha⟩ := h
  have ok := (pxOk_iff p).1 hp
  obtain ⟨hr, hg, hb, hal⟩ := ok
  have et : toH p = toHsl p.r p.g p.b := by unfold toH; rw [lim16_id _ hr, lim16_id _ hg, lim16_id _ hb]
  have hbd := toHsl_bd hr hg hb
  have em : fromH (toH p).1 (toH p).2.1 (toH p).2.2 p.a = fromHsl (toHsl p.r p.g p.b).1 (toHsl p.r p.g p.b).2.1 (toHsl p.r p.g p.b).2.2 p.a := by
    rw [et]
    unfold fromH
    rw [lim16_id _ hal, if_neg (by omega), lim16_id _ hbd.2.1, lim16_id _ hbd.2.2, Int.emod_eq_of_lt hbd.1.1 (by omega)]
  refine near_yes p (fromH (toH p).1 (toH p).2.1 (toH p).2.2 p.a) (toH p).1 (toH p).2.1 (toH p).2.2 w hp ha ((pxOk_iff _).2 (fromH_ok _ _ _ _)) (by rw [em]; rfl) ?_ ?_ (fun w' hb => awake_any w' (hT.below hb)) (fun w' => tohsl_any p w') (fun w' => fromhsl_any _ _ _ p.a w')
  · intro e1 e2
    rw [em, ← e2, ← e1]
    have := hsl_gray p.a hr
    dsimp only at this
    rw [this]
    cases p
    simp at e1 e2
    simp [e1, e2]
  · intro hne
    rw [em]
    have := hsl_near p.a hr hg hb (by omega)
    dsimp only at this
    omega
end Go.Proofs.YtmbglkholoblaaaDoor
