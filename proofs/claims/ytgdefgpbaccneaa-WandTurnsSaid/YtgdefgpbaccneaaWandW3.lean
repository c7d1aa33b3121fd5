/- WandSoftens: the walk. -/
import Derived.Test.YtgdefgpbaccneaaWandW2
namespace Go.Proofs.Ytgdefgpbaccneaa
open Go.RowKit

theorem softV_mid (p q : Px) (t u : Int) (ht : 0 ≤ t ∧ t ≤ 65535) (hu : u ≤ 65535) (h1 : t < dist q p) (h2 : dist q p < u) : 0 < softV p t u q ∧ softV p t u q ≤ 65535 := by
  unfold softV
  rw [if_neg (by omega), if_neg (by omega)]
  have hd := dist_bd q p
  generalize dist q p = d at *
  have hs := rdiv_spec (65535 * (u - d)) (u - t) (by omega)
  generalize rdiv (65535 * (u - d)) (u - t) = q at *
  constructor
  · apply Int.lt_of_not_ge
    intro hq
    have : (u - t) * q ≤ 0 := Int.mul_nonpos_of_nonneg_of_nonpos (by omega) hq
    omega
  · apply Int.le_of_not_gt
    intro hq
    have : (u - t) * 65536 ≤ (u - t) * q := Int.mul_le_mul_of_nonneg_left (by omega) (by omega)
    omega
theorem soft_cases (p q : Px) (t u : Int) (ht : 0 ≤ t ∧ t ≤ 65535) (hu : u ≤ 65535) (htu : t < u) :
    (dist q p ≤ t ∧ softV p t u q = 65535 ∧ simV p t q = 65535) ∨ (t < dist q p ∧ dist q p < u ∧ 0 < softV p t u q ∧ softV p t u q ≤ 65535 ∧ simV p t q = 0) ∨ (u ≤ dist q p ∧ t < dist q p ∧ softV p t u q = 0 ∧ simV p t q = 0) := by
  rcases (show dist q p ≤ t ∨ (t < dist q p ∧ dist q p < u) ∨ u ≤ dist q p by omega) with hd | ⟨hd, hd'⟩ | hd
  · exact .inl ⟨hd, by unfold softV; rw [if_pos hd], by unfold simV; rw [if_pos hd]⟩
  · exact .inr (.inl ⟨hd, hd', (softV_mid p q t u ht hu hd hd').1, (softV_mid p q t u ht hu hd hd').2, by unfold simV; rw [if_neg (by omega)]⟩)
  · exact .inr (.inr ⟨hd, by omega, by unfold softV; rw [if_neg (by omega), if_pos hd], by unfold simV; rw [if_neg (by omega)]⟩)
theorem serr2_ok {chk : Int} {ok : Bool} {t u : Int} (h : serr2 chk ok t u = 0) : chk = 0 ∧ ok = true ∧ t < u := by
  unfold serr2 at h
  split at h
  · rename_i h1
    split at h
    · rename_i h2
      split at h
      · rename_i h3; exact ⟨h1, h2, h3⟩
      · cases h
    · cases h
  · rename_i h1; exact absurd h h1
def SoRel (N : Nat) (wz : World) (g : Nat) (i : Value) (wr : World) : Prop := ∃ k : Nat, k ≤ N ∧ g = N - k ∧ i = .int .i64 k ∧ Below wz.heap.size wz wr

set_option maxRecDepth 100000 in
set_option maxHeartbeats 8000000 in
theorem walk_softens (v0 : Value) (x0 : Int × Int × List Px) (v1 : Value) (p : Px) (t u : Int) (w : World) (h0 : ImgV w v0 x0) (h1 : PxV v1 p) :
    Calls Try.prog 7 #[v0, v1, .int .i64 t, .int .i64 u] w fun e w' => e = .returned (.bool true) ∧ Below w.heap.size w w' := by
  obtain ⟨⟨A, n, c, rfl, hp⟩, _, _⟩ := h0
  obtain ⟨rfl, _⟩ := h1
  obtain ⟨W, H, ps⟩ := x0
  obtain rfl : ps.length = n := hp.len
  have HP := Lib.hid hp; clear hp
  by_cases hE : serr2 (ichk W H ps) (pxOk p && uok t && uok u) t u = 0
  rotate_left
  · have hc : ∀ w', Below w.heap.size w w' → Calls Try.prog 15 #[.agg #[.int .i64 W, .int .i64 H, .slice A ps.length c], .agg #[.int .i64 p.r, .int .i64 p.g, .int .i64 p.b, .int .i64 p.a], .int .i64 t, .int .i64 u] w' (MkPost (serr2 (ichk W H ps) (pxOk p && uok t && uok u) t u) 0 0 [] w') :=
      fun w' hb => (soft_any W H A ps.length c ps p t u w' (HP.out.on hb)).mono fun e w'' h => by rw [mkOut_err hE] at h; exact h
    generalize serr2 (ichk W H ps) (pxOk p && uok t && uok u) t u = er at *
    have HC := Lib.hid hc; clear hc
    have hne : (er != 0) = true := by simp [hE]
    clear hE
    go_enter Try.func7, Try.ntmps7
    go_wp2_with fail
    obtain ⟨hI, hX, hB⟩ := boxIX w W H (.slice A ps.length c) p _ rfl
    generalize World.alloc (w.alloc _) _ = wa at *
    refine (HC.out _ hB).mono ?_
    rintro e w2 ⟨v, rfl, hrow, hb2⟩
    obtain ⟨M1, m1, rfl⟩ := irow_shape_n 0 rfl hrow
    have hB2 := bel_trans hB hb2
    clear hrow hb2 hI hX hB
    go_wp2_with fail
    refine (awake_any _).mono ?_
    rintro e w5 ⟨rfl, hb5⟩
    go_wp2_with fail
    go_ret
    exact ⟨rfl, bel_trans (bel_alloc hB2 _) hb5⟩
  · obtain ⟨e1, e2, htu⟩ := serr2_ok hE
    have hc : ∀ w', Below w.heap.size w w' → Calls Try.prog 15 #[.agg #[.int .i64 W, .int .i64 H, .slice A ps.length c], .agg #[.int .i64 p.r, .int .i64 p.g, .int .i64 p.b, .int .i64 p.a], .int .i64 t, .int .i64 u] w' (MkPost 0 W H (ps.map (softV p t u)) w') :=
      fun w' hb => (soft_any W H A ps.length c ps p t u w' (HP.out.on hb)).mono fun e w'' h => by rw [hE, mkOut_ok] at h; exact h
    have hd : ∀ w', Below w.heap.size w w' → Calls Try.prog 13 #[.agg #[.int .i64 W, .int .i64 H, .slice A ps.length c], .agg #[.int .i64 p.r, .int .i64 p.g, .int .i64 p.b, .int .i64 p.a], .int .i64 t] w' (MkPost 0 W H (ps.map (simV p t)) w') :=
      fun w' hb => (similar_any W H A ps.length c ps p t w' (HP.out.on hb)).mono fun e w'' h => by
        have e3 : serr (ichk W H ps) (pxOk p && uok t) = 0 := by
          simp only [Bool.and_eq_true] at e2
          simp [serr, e1, e2.1.1, e2.1.2]
        rw [e3, mkOut_ok] at h; exact h
    have hl := ichk_len W H ps e1
    have ht : 0 ≤ t ∧ t ≤ 65535 := by simp only [Bool.and_eq_true] at e2; exact (uok_iff t).1 e2.1.2
    have hu : 0 ≤ u ∧ u ≤ 65535 := by simp only [Bool.and_eq_true] at e2; exact (uok_iff u).1 e2.2
    have HC := Lib.hid hc; have HD := Lib.hid hd; have HTU := Lib.hid (And.intro htu (And.intro ht hu))
    clear hc hd hE e1 e2 htu ht hu
    go_enter Try.func7, Try.ntmps7
    go_wp2_with fail
    obtain ⟨hI, hX, hB⟩ := boxIX w W H (.slice A ps.length c) p _ rfl
    generalize World.alloc (w.alloc _) _ = wa at *
    refine (HC.out _ hB).mono ?_
    rintro e w2 ⟨v, rfl, hrow, hb2⟩
    obtain ⟨M1, m1, rfl⟩ := irow_shape_n ps.length (by rw [List.length_map]) hrow
    have HI := Lib.hid (hI.below hb2); have HX := Lib.hid (hX.below hb2); have HB := Lib.hid (bel_trans hB hb2)
    have HN := Lib.hid (Mk.new W H 29 hrow)
    clear hrow hb2 hI hX hB
    obtain ⟨i0, i1, i2, i3⟩ := HI.out
    obtain ⟨z0, z1, z2, z3, z4⟩ := HX.out
    go_wp2_with fail
    refine (HD.out _ (bel_alloc HB.out _)).mono ?_
    rintro e w3 ⟨v, rfl, hrow, hb3⟩
    obtain ⟨M2, m2, rfl⟩ := irow_shape_n ps.length (by rw [List.length_map]) hrow
    have hbb := bel_trans (bel1 _ _) hb3
    have HI := Lib.hid (HI.out.below hbb); have HX := Lib.hid (HX.out.below hbb); have HB := Lib.hid (bel_trans HB.out hbb)
    have HM1 := Lib.hid (HN.out.below hb3)
    have HN := Lib.hid (Mk.new W H 29 hrow)
    have HGA := Lib.hid (ImgAt.new w3 W H (.slice M2 ps.length m2) 29)
    have HQA := Lib.hid hrow.ints
    clear hrow hbb hb3 i0 i1 i2 i3 z0 z1 z2 z3 z4
    obtain ⟨i0, i1, i2, i3⟩ := HI.out
    obtain ⟨u1, g1, q1⟩ := HM1.out
    obtain ⟨A1', c1', rfl, _, _⟩ := q1
    obtain ⟨b0, b1, b2, b3⟩ := g1
    rw [List.length_map] at b3
    have hln : ((ps.length : Int) != ps.length) = false := by simp
    go_wp2_with fail
    have hb9 := bel1 w3 (.cells #[.int .i64 W, .int .i64 H, .slice M2 ps.length m2] 29)
    have HI := Lib.hid (HI.out.below hb9); have HX := Lib.hid (HX.out.below hb9); have HB := Lib.hid (bel_trans HB.out hb9); have HM1 := Lib.hid (HM1.out.below hb9)
    clear hb9 i0 i1 i2 i3 b0 b1 b2 b3 HGA HQA
    generalize World.alloc w3 _ = wz at *
    go_loopg [62] ps.length (SoRel ps.length wz)
    case atStart => exact ⟨0, Nat.zero_le _, rfl, rfl, Below.refl _ _⟩
    case round =>
      obtain ⟨k, hk, rfl, rfl, hbr⟩ := hrel
      have HBR := Lib.hid (bel_trans HB.out hbr)
      by_cases hlt : k < ps.length
      · obtain ⟨i0, i1, i2, i3⟩ := HI.out.below hbr
        obtain ⟨z0, z1, z2, z3, z4⟩ := HX.out.below hbr
        obtain ⟨ua, ga, qa⟩ := HM1.out.below hbr
        obtain ⟨ub, gb, qb⟩ := HN.out.below hbr
        obtain ⟨A', c', ev, _, hcc⟩ := HP.out.on HBR.out
        obtain ⟨b, o, ea, hb, c1, c2, c3, c4⟩ := hcc k hlt
        injection ev with ev1 ev2 ev3
        rw [ea] at ev1
        subst ev1
        clear hcc ev2 ev3 ea
        obtain ⟨Aa, ca, rfl, _, ra⟩ := qa
        obtain ⟨ba, oa, rfl, hba, ya⟩ := ra k (by rw [List.length_map]; exact hlt)
        obtain ⟨Ab, cb, rfl, _, rb⟩ := qb
        obtain ⟨bb, ob, rfl, hbb, yb⟩ := rb k (by rw [List.length_map]; exact hlt)
        obtain ⟨ga0, ga1, ga2, ga3⟩ := ga
        obtain ⟨gb0, gb1, gb2, gb3⟩ := gb
        clear ra rb ga1 ga2 gb1 gb2
        rw [List.length_map] at ga3 gb3
        have es : (ps.map (softV p t u)).getD k 0 = softV p t u (pat ps k) := by simp [pat, hlt]
        have em : (ps.map (simV p t)).getD k 0 = simV p t (pat ps k) := by simp [pat, hlt]
        rw [es] at ya
        rw [em] at yb
        clear es em
        generalize pat ps k = q at *
        have HGA := Lib.hid (And.intro ga0 ga3); have HGB := Lib.hid (And.intro gb0 gb3); have HYA := Lib.hid (And.intro hba ya); have HYB := Lib.hid (And.intro hbb yb)
        clear ga0 ga3 gb0 gb3 hba ya hbb yb
        go_wp2_with fail
        have hkn0 : (0 : Int) ≤ (k : Int) := by omega
        have hkn1 : (k : Int) < (ps.length : Int) := by omega
        have hkn2 : (k : Int).toNat = k := by omega
        have hS0 : wr.drew.cell? ⟨w.heap.size, 2, none⟩ = some (.slice (some ⟨b, o, none⟩) ps.length c) ∧ wr.drew.cell? ⟨b, o + k * 4, none⟩ = some (.int .i64 q.r) ∧ wr.drew.cell? ⟨b, o + k * 4 + 1, none⟩ = some (.int .i64 q.g) ∧ wr.drew.cell? ⟨b, o + k * 4 + 2, none⟩ = some (.int .i64 q.b) ∧ wr.drew.cell? ⟨b, o + k * 4 + 3, none⟩ = some (.int .i64 q.a) ∧ wr.drew.cell? ⟨w.heap.size + 1, 0, none⟩ = some (.int .i64 p.r) ∧ wr.drew.cell? ⟨w.heap.size + 1, 1, none⟩ = some (.int .i64 p.g) ∧ wr.drew.cell? ⟨w.heap.size + 1, 2, none⟩ = some (.int .i64 p.b) ∧ wr.drew.cell? ⟨w.heap.size + 1, 3, none⟩ = some (.int .i64 p.a) := ⟨i3, c1, c2, c3, c4, z1, z2, z3, z4⟩
        have HS4 := Lib.hid (show ∀ w4, Below wr.drew.heap.size wr.drew w4 → w4.cell? ⟨w.heap.size, 2, none⟩ = some (.slice (some ⟨b, o, none⟩) ps.length c) ∧ w4.cell? ⟨b, o + k * 4, none⟩ = some (.int .i64 q.r) ∧ w4.cell? ⟨b, o + k * 4 + 1, none⟩ = some (.int .i64 q.g) ∧ w4.cell? ⟨b, o + k * 4 + 2, none⟩ = some (.int .i64 q.b) ∧ w4.cell? ⟨b, o + k * 4 + 3, none⟩ = some (.int .i64 q.a) ∧ w4.cell? ⟨w.heap.size + 1, 0, none⟩ = some (.int .i64 p.r) ∧ w4.cell? ⟨w.heap.size + 1, 1, none⟩ = some (.int .i64 p.g) ∧ w4.cell? ⟨w.heap.size + 1, 2, none⟩ = some (.int .i64 p.b) ∧ w4.cell? ⟨w.heap.size + 1, 3, none⟩ = some (.int .i64 p.a) from fun w4 hb4 => ⟨(hb4.cell (p := ⟨w.heap.size, 2, none⟩) i0).trans i3, (hb4.cell (p := ⟨b, o + k * 4, none⟩) hb).trans c1, (hb4.cell (p := ⟨b, o + k * 4 + 1, none⟩) hb).trans c2, (hb4.cell (p := ⟨b, o + k * 4 + 2, none⟩) hb).trans c3, (hb4.cell (p := ⟨b, o + k * 4 + 3, none⟩) hb).trans c4, (hb4.cell (p := ⟨w.heap.size + 1, 0, none⟩) z0).trans z1, (hb4.cell (p := ⟨w.heap.size + 1, 1, none⟩) z0).trans z2, (hb4.cell (p := ⟨w.heap.size + 1, 2, none⟩) z0).trans z3, (hb4.cell (p := ⟨w.heap.size + 1, 3, none⟩) z0).trans z4⟩)
        go_region_held3 (fun w' => w'.cell? ⟨w.heap.size, 2, none⟩ = some (.slice (some ⟨b, o, none⟩) ps.length c) ∧ w'.cell? ⟨b, o + k * 4, none⟩ = some (.int .i64 q.r) ∧ w'.cell? ⟨b, o + k * 4 + 1, none⟩ = some (.int .i64 q.g) ∧ w'.cell? ⟨b, o + k * 4 + 2, none⟩ = some (.int .i64 q.b) ∧ w'.cell? ⟨b, o + k * 4 + 3, none⟩ = some (.int .i64 q.a) ∧ w'.cell? ⟨w.heap.size + 1, 0, none⟩ = some (.int .i64 p.r) ∧ w'.cell? ⟨w.heap.size + 1, 1, none⟩ = some (.int .i64 p.g) ∧ w'.cell? ⟨w.heap.size + 1, 2, none⟩ = some (.int .i64 p.b) ∧ w'.cell? ⟨w.heap.size + 1, 3, none⟩ = some (.int .i64 p.a))
          (first | assumption | exact hS0 | exact HS4.out _ hbw4 | go_keep)
          ((go_at_call 20; refine (dist_any _ _ _ _ _ _ _ _ _).mono ?_; rintro e w4 ⟨rfl, hbw4⟩))
        have hZ := bel_trans hbr.drew hbw4
        have ga3 := (hbw4.cell (p := ⟨w2.heap.size, 2, none⟩) HGA.out.1).trans HGA.out.2
        have gb3 := (hbw4.cell (p := ⟨w3.heap.size, 2, none⟩) HGB.out.1).trans HGB.out.2
        have ya := (hbw4.cell (p := ⟨ba, oa + k, none⟩) HYA.out.1).trans HYA.out.2
        have yb := (hbw4.cell (p := ⟨bb, ob + k, none⟩) HYB.out.1).trans HYB.out.2
        have hl1 : w2.heap.size < w4.heap.size := Nat.lt_of_lt_of_le HGA.out.1 hbw4.size
        have hl2 : w3.heap.size < w4.heap.size := Nat.lt_of_lt_of_le HGB.out.1 hbw4.size
        have hl3 : ba < w4.heap.size := Nat.lt_of_lt_of_le HYA.out.1 hbw4.size
        have hl4 : bb < w4.heap.size := Nat.lt_of_lt_of_le HYB.out.1 hbw4.size
        have HZ := Lib.hid hZ
        clear hbw4 hS0 i0 i1 i2 i3 z0 z1 z2 z3 z4 c1 c2 c3 c4 hZ hbr
        have hcs := soft_cases p q t u HTU.out.2.1 HTU.out.2.2.2 HTU.out.1
        have hdd : dist (Px.mk q.r q.g q.b q.a) (Px.mk p.r p.g p.b p.a) = dist q p := rfl
        rw [hdd]
        clear hdd
        generalize softV p t u q = sv at *
        generalize simV p t q = mv at *
        generalize dist q p = d at *
        rcases hcs with ⟨hd, rfl, rfl⟩ | ⟨hd, hd', hs1, hs2, rfl⟩ | ⟨hd, hd', rfl, rfl⟩
        · have t1 : decide (d < u) = true := by have := HTU.out; rw [decide_eq_true_eq]; omega
          have t2 : decide (u ≤ d) = false := by have := HTU.out; rw [decide_eq_false_iff_not]; omega
          have t3 : decide (d ≤ t) = true := by rw [decide_eq_true_eq]; omega
          have t4 : decide (t < d) = false := by rw [decide_eq_false_iff_not]; omega
          clear hd
          go_upto_region 11 with fail
          simp only [List.append_eq, List.cons_append, List.nil_append]
          go_wp2_with fail
          go_roundg (ps.length - (k + 1))
          case measure => omega
          case rel => exact ⟨k + 1, by omega, rfl, by go_num, HZ.out⟩
        · have t1 : decide (d < u) = true := by rw [decide_eq_true_eq]; omega
          have t2 : decide (u ≤ d) = false := by rw [decide_eq_false_iff_not]; omega
          have t3 : decide (d ≤ t) = false := by rw [decide_eq_false_iff_not]; omega
          have t4 : decide (t < d) = true := by rw [decide_eq_true_eq]; omega
          have t5 : decide (sv < 0) = false := by rw [decide_eq_false_iff_not]; omega
          have t6 : decide (65535 < sv) = false := by rw [decide_eq_false_iff_not]; omega
          have t7 : (sv == 0) = false := by simp; omega
          clear hd hd' hs1 hs2
          go_upto_region 11 with fail
          simp only [List.append_eq, List.cons_append, List.nil_append]
          go_wp2_with fail
          go_roundg (ps.length - (k + 1))
          case measure => omega
          case rel => exact ⟨k + 1, by omega, rfl, by go_num, HZ.out⟩
        · have t1 : decide (d < u) = false := by rw [decide_eq_false_iff_not]; omega
          have t2 : decide (u ≤ d) = true := by rw [decide_eq_true_eq]; omega
          have t3 : decide (d ≤ t) = false := by rw [decide_eq_false_iff_not]; omega
          have t4 : decide (t < d) = true := by rw [decide_eq_true_eq]; omega
          clear hd hd'
          go_upto_region 11 with fail
          simp only [List.append_eq, List.cons_append, List.nil_append]
          go_wp2_with fail
          go_roundg (ps.length - (k + 1))
          case measure => omega
          case rel => exact ⟨k + 1, by omega, rfl, by go_num, HZ.out⟩
      · go_wp2_with fail
        refine (awake_any _).mono ?_
        rintro e w5 ⟨rfl, hb5⟩
        go_wp2_with fail
        go_ret
        exact ⟨rfl, bel_trans HBR.out hb5⟩
end Go.Proofs.Ytgdefgpbaccneaa
