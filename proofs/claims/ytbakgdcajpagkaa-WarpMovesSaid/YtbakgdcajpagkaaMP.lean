/- The law's examples hold. -/
import Derived.Test.YtbakgdcajpagkaaMO
import Derived.Deep.DeepCutAuto
namespace Go.Proofs.Ytbakgdcajpagkaa
open Go.RowKit
theorem Bx.put3 {w : World} {g : Nat} {t : TypeId} {a b c : Value} (h : Bx w g t #[a, b, c]) (a' b' c' : Value) : Bx (((w.setCell ⟨g, 0, none⟩ a').setCell ⟨g, 1, none⟩ b').setCell ⟨g, 2, none⟩ c') g t #[a', b', c'] := by
  have := ((h.set 0 a').set 1 b').set 2 c'
  simpa using this
/-- The image of the examples, in memory. -/
def ExI (w : World) (g2 : Nat) : Prop := ∃ b : Nat, Bx w g2 40 #[.int .i64 2, .int .i64 1, .slice (some ⟨b, 0, none⟩) 2 2] ∧ Pixs w w.heap.size (.slice (some ⟨b, 0, none⟩) exP.length 2) exP
/-- The result of the first Draw. -/
def DrMid (w0 : World) (v4 v5 : Value) (w' : World) : Prop :=
  ∃ (g n c : Nat) (A : Option Addr), v4 = .pointer (some ⟨g, 0, none⟩) ∧ v5 = .int .i64 0 ∧ Bx w' g 40 #[.int .i64 2, .int .i64 1, .slice A n c] ∧ Pixs w' w'.heap.size (.slice A n c) [⟨50, 0, 0, 65535⟩, ⟨100, 0, 0, 65535⟩] ∧ Below w0.heap.size w0 w'
theorem lit_pixs {w : World} {g : Nat} {t : TypeId} {ps : List Px} (hb : Bx w g t ((flat4 ps).map (Value.int .i64)).toArray) (hl : ps.length ≤ 100) : Pixs w w.heap.size (.slice (some ⟨g, 0, none⟩) ps.length ps.length) ps := by
  refine ⟨_, _, rfl, by omega, fun i hi => ⟨g, 0, rfl, hb.lt, ?_⟩⟩
  obtain ⟨f1, f2, f3, f4⟩ := flat4_get ps i hi
  simp only [Nat.zero_add]
  refine ⟨hb.cell ?_, hb.cell ?_, hb.cell ?_, hb.cell ?_⟩
  · simp [f1]
  · simp [f2]
  · simp [f3]
  · simp [f4]
theorem mesh4 (s a b c d : Int) (w : World) : Calls Try.prog 33 #[.int .i64 s, .int .i64 a, .int .i64 b, .int .i64 c, .int .i64 d] w fun e w' =>
    ∃ g : Nat, e = .returned (.agg #[.int .i64 2, .int .i64 2, .int .i64 s, .slice (some ⟨g, 0, none⟩) 4 4]) ∧ Knots w' w'.heap.size (.slice (some ⟨g, 0, none⟩) 4 4) [(a, 0), (b, 0), (c, 0), (d, 0)] ∧ Below w.heap.size w w' := mesh_any s a b c d w
theorem draw1 (A A' : Option Addr) (c c' : Nat) (w : World) (hp : Pixs w w.heap.size (.slice A 2 c) exP) (hk : Knots w w.heap.size (.slice A' 4 c') exH) :
    Calls Try.prog 19 #[.agg #[.int .i64 2, .int .i64 1, .slice A 2 c], .agg #[.int .i64 0, .int .i64 0], .agg #[.int .i64 0, .int .i64 0, .int .i64 2, .int .i64 1], .agg #[.int .i64 2, .int .i64 2, .int .i64 1, .slice A' 4 c'], .int .i64 1, .agg #[.int .i64 0, .int .i64 0, .int .i64 2, .int .i64 1]] w (ImPost 0 2 1 [⟨50, 0, 0, 65535⟩, ⟨100, 0, 0, 65535⟩] w) := by
  have h := wdraw_any 2 1 0 0 A c exP ⟨0, 0, 2, 1⟩ 2 2 1 A' c' exH 1 ⟨0, 0, 2, 1⟩ w hp hk
  rw [ex_d2, ex_pic, imOut_ok] at h
  exact h
theorem draw2 (A A' : Option Addr) (c c' : Nat) (w : World) (hp : Pixs w w.heap.size (.slice A 2 c) exP) (hk : Knots w w.heap.size (.slice A' 4 c') exZ) :
    Calls Try.prog 19 #[.agg #[.int .i64 2, .int .i64 1, .slice A 2 c], .agg #[.int .i64 0, .int .i64 0], .agg #[.int .i64 0, .int .i64 0, .int .i64 9, .int .i64 9], .agg #[.int .i64 2, .int .i64 2, .int .i64 1, .slice A' 4 c'], .int .i64 0, .agg #[.int .i64 0, .int .i64 0, .int .i64 1, .int .i64 1]] w (ImPost 15 0 0 [] w) := by
  have h := wdraw_any 2 1 0 0 A c exP ⟨0, 0, 9, 9⟩ 2 2 1 A' c' exZ 0 ⟨0, 0, 1, 1⟩ w hp hk
  rw [ex_d1, imOut_err (by decide)] at h
  exact h
theorem needs1 (A' : Option Addr) (c' : Nat) (w : World) (hk : Knots w w.heap.size (.slice A' 4 c') exZ) :
    Calls Try.prog 17 #[.agg #[.int .i64 2, .int .i64 2, .int .i64 1, .slice A' 4 c'], .int .i64 0, .agg #[.int .i64 0, .int .i64 0, .int .i64 1, .int .i64 1], .agg #[.int .i64 0, .int .i64 0, .int .i64 9, .int .i64 9]] w fun e w' => e = .returned (.tuple #[.agg #[.int .i64 0, .int .i64 0, .int .i64 3, .int .i64 3], .int .i64 0]) ∧ Below w.heap.size w w' := by
  have h := needs_any 2 2 1 A' c' exZ 0 ⟨0, 0, 1, 1⟩ ⟨0, 0, 9, 9⟩ w hk
  rw [ex_ne, ex_nr] at h
  exact h
theorem chk0 (A' : Option Addr) (c' : Nat) (w : World) (hk : Knots w w.heap.size (.slice A' 4 c') exZ) : Calls Try.prog 10 #[.agg #[.int .i64 2, .int .i64 2, .int .i64 1, .slice A' 4 c']] w fun e w' => e = .returned (.int .i64 0) ∧ Below w.heap.size w w' := by
  have h := wcheck_any 2 2 1 A' c' exZ w hk
  rw [ex_c0] at h
  exact h
theorem chk1 (w : World) : Calls Try.prog 10 #[.agg #[.int .i64 2, .int .i64 2, .int .i64 1, .slice none 0 0]] w fun e w' => e = .returned (.int .i64 15) ∧ Below w.heap.size w w' := by
  have h := wcheck_any 2 2 1 none 0 [] w (Knots.nil _ _)
  rw [ex_c1] at h
  exact h
theorem chk2 (A' : Option Addr) (c' : Nat) (w : World) (hk : Knots w w.heap.size (.slice A' 4 c') [(1048577, 0), (0, 0), (0, 0), (0, 0)]) : Calls Try.prog 10 #[.agg #[.int .i64 2, .int .i64 2, .int .i64 1, .slice A' 4 c']] w fun e w' => e = .returned (.int .i64 2) ∧ Below w.heap.size w w' := by
  have h := wcheck_any 2 2 1 A' c' [(1048577, 0), (0, 0), (0, 0), (0, 0)] w hk
  rw [ex_c2] at h
  exact h
theorem at1 (A' : Option Addr) (c' : Nat) (w : World) (hk : Knots w w.heap.size (.slice A' 4 c') [(0, 0), (8, 0), (0, 0), (8, 0)]) : Calls Try.prog 12 #[.agg #[.int .i64 2, .int .i64 2, .int .i64 4, .slice A' 4 c'], .int .i64 1, .int .i64 3] w fun e w' => e = .returned (.agg #[.int .i64 2, .int .i64 0]) ∧ Below w.heap.size w w' := by
  have h := wat_any 2 2 4 A' c' [(0, 0), (8, 0), (0, 0), (8, 0)] 1 3 w hk
  rw [ex_a1] at h
  exact h
theorem at2 (A' : Option Addr) (c' : Nat) (w : World) (hk : Knots w w.heap.size (.slice A' 4 c') [(0, 0), (1, 0), (0, 0), (1, 0)]) : Calls Try.prog 12 #[.agg #[.int .i64 2, .int .i64 2, .int .i64 2, .slice A' 4 c'], .int .i64 1, .int .i64 0] w fun e w' => e = .returned (.agg #[.int .i64 1, .int .i64 0]) ∧ Below w.heap.size w w' := by
  have h := wat_any 2 2 2 A' c' [(0, 0), (1, 0), (0, 0), (1, 0)] 1 0 w hk
  rw [ex_a2] at h
  exact h
theorem rea1 (A' : Option Addr) (c' : Nat) (w : World) (hk : Knots w w.heap.size (.slice A' 4 c') [(65537, 0), (0, 0), (0, 0), (0, 0)]) : Calls Try.prog 14 #[.agg #[.int .i64 2, .int .i64 2, .int .i64 1, .slice A' 4 c']] w fun e w' => e = .returned (.int .i64 2) ∧ Below w.heap.size w w' := by
  have h := reach_any 2 2 1 A' c' [(65537, 0), (0, 0), (0, 0), (0, 0)] w hk
  rw [ex_r] at h
  exact h
set_option maxRecDepth 100000 in
set_option maxHeartbeats 8000000 in
theorem awake_any (w : World) : Calls Try.prog 16 #[] w fun e w' => e = .returned (.bool true) ∧ Below w.heap.size w w' := by
  go_enter Try.func16, Try.ntmps16
  go_wp2_with fail
  refine (mesh4 1 0 0 0 0 _).mono ?_
  rintro e w1 ⟨g1, rfl, hk1, hb1⟩
  go_upto_region 4 with fail
  have K := Lib.hid (fr_four w1 #[.int .i64 2, .int .i64 2, .int .i64 1, .slice (some ⟨g1, 0, none⟩) 4 4] #[.int .i64 0, .int .i64 0, .int .i64 0, .int .i64 65535, .int .i64 100, .int .i64 0, .int .i64 0, .int .i64 65535] #[.int .i64 2, .int .i64 1, .slice (some ⟨w1.heap.size + 1, 0, none⟩) 2 2] #[.int .i64 0, .int .i64 0, .int .i64 2, .int .i64 1] 24 48 40 34 _ rfl)
  generalize World.alloc (World.alloc (World.alloc (World.alloc w1 _) _) _) _ = w2 at *
  have HK := Lib.hid (show Knots w2 w2.heap.size (.slice (some ⟨g1, 0, none⟩) 4 4) exZ from hk1.on K.out.2)
  have HP := Lib.hid (show Pixs w2 w2.heap.size (.slice (some ⟨w1.heap.size + 1, 0, none⟩) 2 2) exP from lit_pixs (ps := exP) K.out.1.2.1 (by decide))
  have HB := Lib.hid (bel_trans hb1 K.out.2)
  clear hk1 hb1
  go_cut [4, 5] (DrMid w2)
  case first =>
    have l3 := K.out.1.2.2.1.lt
    have l4 := K.out.1.2.2.2.1.lt
    have HSA := Lib.hid (show ∀ wq, Below w2.heap.size w2 wq → wq.cell? ⟨w1.heap.size + 1 + 1, 0, none⟩ = some (.int .i64 2) ∧ wq.cell? ⟨w1.heap.size + 1 + 1, 1, none⟩ = some (.int .i64 1) ∧ wq.cell? ⟨w1.heap.size + 1 + 1, 2, none⟩ = some (.slice (some ⟨w1.heap.size + 1, 0, none⟩) 2 2) ∧ wq.cell? ⟨w1.heap.size + 1 + 1 + 1, 0, none⟩ = some (.int .i64 0) ∧ wq.cell? ⟨w1.heap.size + 1 + 1 + 1, 1, none⟩ = some (.int .i64 0) ∧ wq.cell? ⟨w1.heap.size + 1 + 1 + 1, 2, none⟩ = some (.int .i64 2) ∧ wq.cell? ⟨w1.heap.size + 1 + 1 + 1, 3, none⟩ = some (.int .i64 1) from fun wq hb => ⟨((K.out.1.2.2.1).below hb).three.1.1, ((K.out.1.2.2.1).below hb).three.1.2.1, ((K.out.1.2.2.1).below hb).three.1.2.2, ((K.out.1.2.2.2.1).below hb).four.1⟩)
    have HPA := Lib.hid (show ∀ wq, Below w2.heap.size w2 wq → Pixs wq wq.heap.size (.slice (some ⟨w1.heap.size + 1, 0, none⟩) 2 2) exP from fun wq hb => HP.out.on hb)
    have hB0 : Below w2.heap.size w2 w2.drew := Below.drew (Below.refl _ _)
    have hS0 := HSA.out _ hB0
    clear K HK HP HB
    go_region_held3 (fun wq => wq.cell? ⟨w1.heap.size + 1 + 1, 0, none⟩ = some (.int .i64 2) ∧ wq.cell? ⟨w1.heap.size + 1 + 1, 1, none⟩ = some (.int .i64 1) ∧ wq.cell? ⟨w1.heap.size + 1 + 1, 2, none⟩ = some (.slice (some ⟨w1.heap.size + 1, 0, none⟩) 2 2) ∧ wq.cell? ⟨w1.heap.size + 1 + 1 + 1, 0, none⟩ = some (.int .i64 0) ∧ wq.cell? ⟨w1.heap.size + 1 + 1 + 1, 1, none⟩ = some (.int .i64 0) ∧ wq.cell? ⟨w1.heap.size + 1 + 1 + 1, 2, none⟩ = some (.int .i64 2) ∧ wq.cell? ⟨w1.heap.size + 1 + 1 + 1, 3, none⟩ = some (.int .i64 1))
      (first | assumption | exact hS0 | exact HSA.out _ hB0 | exact HSA.out _ (bel_alloc hB0 _) | exact HSA.out _ hBm | exact HSA.out _ (bel_alloc hBm _) | exact HSA.out _ hBd | exact HSA.out _ (bel_alloc hBd _) | exact HSA.out _ (set3_below hBd (by omega) _ _ _) | go_keep)
      (first
        | ((with_reducible refine (mesh4 1 32768 32768 32768 32768 _).mono ?_); rintro e wm ⟨gm, rfl, hkm', hbm⟩; have hkm : Knots wm wm.heap.size (.slice (some ⟨gm, 0, none⟩) 4 4) exH := hkm'; clear hkm'; have hBm : Below w2.heap.size w2 wm := bel_trans (by first | exact hB0 | exact bel_alloc hB0 _) hbm; have hzm := hBm.size; (first | (have hNm : Bx wm w2.heap.size 40 #[.int .i64 0, .int .i64 0, .slice none 0 0] := Bx.below (Bx.new w2.drew 40 #[.int .i64 0, .int .i64 0, .slice none 0 0]) hbm; obtain ⟨⟨z1, z2, z3⟩, y1, y2, y3⟩ := hNm.three) | skip))
        | ((with_reducible refine (draw1 _ _ _ _ _ (HPA.out _ (by first | exact hBm | exact bel_alloc hBm _)) (by first | exact hkm | exact hkm.on (bel1 _ _))).mono ?_); rintro e wd ⟨A5, n5, c5, rfl, hrow, hbd⟩; have hBd : Below w2.heap.size w2 wd := bel_trans (by first | exact hBm | exact bel_alloc hBm _) hbd; have hzd := hBd.size; (first | (have hNd := hNm.below hbd; clear z1 z2 z3 y1 y2 y3; obtain ⟨⟨z1, z2, z3⟩, y1, y2, y3⟩ := hNd.three) | (have hNd := Bx.below (Bx.new wm 40 #[.int .i64 0, .int .i64 0, .slice none 0 0]) hbd; obtain ⟨⟨z1, z2, z3⟩, y1, y2, y3⟩ := hNd.three) | skip)))
    all_goals (try go_wp2_with fail)
    all_goals go_meet
    all_goals first
      | (refine ⟨_, _, _, _, rfl, rfl, Bx.new wd 40 #[.int .i64 2, .int .i64 1, .slice A5 n5 c5], hrow.pixs.on (bel1 _ _), bel_alloc hBd _⟩)
      | (refine ⟨_, _, _, _, rfl, rfl, hNd.put3 _ _ _, (hrow.set3 (by first | exact hNm.lt | (rw [World.size_alloc]; exact Nat.lt_succ_self _)) (Nat.le_refl _) _ _ _).pixs, set3_below hBd (by omega) _ _ _⟩)
  case rest =>
  obtain ⟨g4, n5, c5, A5, rfl, rfl, hI, hQ, hB2⟩ := hcut
  have HK3 := Lib.hid (HK.out.on hB2)
  have HP3 := Lib.hid (HP.out.on hB2)
  have KB := Lib.hid (K.out.below hB2)
  have HI := Lib.hid hI; have HQ := Lib.hid hQ
  have HB3 := Lib.hid (bel_trans HB.out hB2)
  clear HK HP HB K hI hQ hB2
  obtain ⟨⟨i1, i2, i3, i4⟩, -⟩ := KB.out.1.1.four
  go_wp2_with fail
  refine (needs1 _ _ _ HK3.out).mono ?_
  rintro e w5 ⟨rfl, hb⟩
  go_upto_region 6 with fail
  have H6 := Lib.hid (Bx.new w5 34 #[.int .i64 0, .int .i64 0, .int .i64 3, .int .i64 3])
  have hb6 := bel_alloc hb (.cells #[.int .i64 0, .int .i64 0, .int .i64 3, .int .i64 3] 34)
  replace HK3 := Lib.hid (HK3.out.on hb6); replace HP3 := Lib.hid (HP3.out.on hb6); replace KB := Lib.hid (KB.out.below hb6); replace HI := Lib.hid (HI.out.below hb6); replace HQ := Lib.hid (HQ.out.on hb6); replace HB3 := Lib.hid (bel_trans HB3.out hb6)
  generalize World.alloc w5 _ = w6 at *
  generalize w5.heap.size = g6 at *
  clear hb hb6 i1 i2 i3 i4
  obtain ⟨⟨i1, i2, i3, i4⟩, -⟩ := KB.out.1.1.four
  obtain ⟨⟨j1, j2, j3⟩, -⟩ := KB.out.1.2.2.1.three
  go_wp2_with fail
  refine (draw2 _ _ _ _ _ HP3.out HK3.out).mono ?_
  rintro e w7 ⟨A7, n7, c7, rfl, hrow7, hb⟩
  clear hrow7
  go_upto_region 7 with fail
  have hb8 := bel_alloc hb (.cells #[.int .i64 0, .int .i64 0, .slice A7 n7 c7] 40)
  replace H6 := Lib.hid (H6.out.below hb8)
  replace HK3 := Lib.hid (HK3.out.on hb8); replace KB := Lib.hid (KB.out.below hb8); replace HI := Lib.hid (HI.out.below hb8); replace HQ := Lib.hid (HQ.out.on hb8); replace HB3 := Lib.hid (bel_trans HB3.out hb8)
  generalize World.alloc w7 _ = w8 at *
  clear hb hb8 HP3 i1 i2 i3 i4 j1 j2 j3
  obtain ⟨⟨i1, i2, i3, i4⟩, -⟩ := KB.out.1.1.four
  go_wp2_with fail
  refine (chk0 _ _ _ HK3.out).mono ?_
  rintro e w9 ⟨rfl, hB⟩
  clear i1 i2 i3 i4 KB HK3
  go_wp2_with fail
  refine (chk1 _).mono ?_
  rintro e w10 ⟨rfl, hb⟩
  replace hB := bel_trans hB hb; clear hb
  go_wp2_with fail
  refine (mesh4 1 1048577 0 0 0 _).mono ?_
  rintro e wm0 ⟨gm0, rfl, hk, hb⟩
  replace hB := bel_trans hB hb; clear hb
  go_wp2_with fail
  refine (chk2 _ _ _ hk).mono ?_
  rintro e wr0 ⟨rfl, hb⟩
  replace hB := bel_trans hB hb; clear hb hk
  go_wp2_with fail
  refine (mesh4 4 0 8 0 8 _).mono ?_
  rintro e wm1 ⟨gm1, rfl, hk, hb⟩
  replace hB := bel_trans hB hb; clear hb
  go_wp2_with fail
  refine (at1 _ _ _ hk).mono ?_
  rintro e wr1 ⟨rfl, hb⟩
  replace hB := bel_trans hB hb; clear hb hk
  go_wp2_with fail
  refine (mesh4 2 0 1 0 1 _).mono ?_
  rintro e wm2 ⟨gm2, rfl, hk, hb⟩
  replace hB := bel_trans hB hb; clear hb
  go_wp2_with fail
  refine (at2 _ _ _ hk).mono ?_
  rintro e wr2 ⟨rfl, hb⟩
  replace hB := bel_trans hB hb; clear hb hk
  go_wp2_with fail
  refine (mesh4 1 65537 0 0 0 _).mono ?_
  rintro e wm3 ⟨gm3, rfl, hk, hb⟩
  replace hB := bel_trans hB hb; clear hb
  go_wp2_with fail
  refine (rea1 _ _ _ hk).mono ?_
  rintro e wr3 ⟨rfl, hb⟩
  replace hB := bel_trans hB hb; clear hb hk
  have hQ := HQ.out.on hB
  obtain ⟨⟨i1, i2, i3, i4⟩, -⟩ := (H6.out.below hB).four
  obtain ⟨⟨j1, j2, j3⟩, -⟩ := (HI.out.below hB).three
  have HB := Lib.hid (bel_trans HB3.out hB)
  clear HQ H6 HI hB HB3
  obtain ⟨A1, c1, ev, hm, hcc⟩ := hQ
  injection ev with u1 u2 u3
  subst u1 u2 u3
  obtain ⟨b, o, rfl, hbl, p1, p2, p3, p4⟩ := hcc 0 (by decide)
  obtain ⟨b', o', e', hbl', q1, q2, q3, q4⟩ := hcc 1 (by decide)
  injection e' with e'
  injection e' with e1 e2
  subst e1 e2
  clear hcc hm
  replace p1 : wr3.cell? ⟨b, o, none⟩ = some (.int .i64 50) := p1; replace p2 : wr3.cell? ⟨b, o + 1, none⟩ = some (.int .i64 0) := p2; replace p3 : wr3.cell? ⟨b, o + 2, none⟩ = some (.int .i64 0) := p3; replace p4 : wr3.cell? ⟨b, o + 3, none⟩ = some (.int .i64 65535) := p4
  replace q1 : wr3.cell? ⟨b, o + 4, none⟩ = some (.int .i64 100) := q1; replace q2 : wr3.cell? ⟨b, o + 4 + 1, none⟩ = some (.int .i64 0) := q2; replace q3 : wr3.cell? ⟨b, o + 4 + 2, none⟩ = some (.int .i64 0) := q3; replace q4 : wr3.cell? ⟨b, o + 4 + 3, none⟩ = some (.int .i64 65535) := q4
  go_wp2_with fail
  go_ret
  exact ⟨rfl, HB.out⟩
end Go.Proofs.Ytbakgdcajpagkaa
