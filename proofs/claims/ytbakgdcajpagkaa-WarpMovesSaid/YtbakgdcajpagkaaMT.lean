/- The reference's Draw, where it draws. -/
import Derived.Test.YtbakgdcajpagkaaMS
namespace Go.Proofs.Ytbakgdcajpagkaa
open Go.RowKit
set_option maxRecDepth 100000 in
set_option maxHeartbeats 8000000 in
theorem rdraw_ok (W H ax ay bx by' bw bh C R S kind ox oy : Int) (ow oh : Nat) (sl : Value) (A : Option Addr) (c : Nat) (ps : List Px) (nx ny nw nh : Int) (px : Int → Int → Px) (dX dY : Int → Int → Int) (w : World)
    (TC : ∀ w', Below w.heap.size w w' → Calls Try.prog 53 #[.agg #[.int .i64 W, .int .i64 H, .slice A ps.length c]] w' fun e w'' => e = .returned (.int .i64 0) ∧ Below w'.heap.size w' w'')
    (TN : ∀ w', Below w.heap.size w w' → Calls Try.prog 18 #[.agg #[.int .i64 C, .int .i64 R, .int .i64 S, sl], .int .i64 kind, .agg #[.int .i64 ox, .int .i64 oy, .int .i64 (ow : Int), .int .i64 (oh : Int)], .agg #[.int .i64 bx, .int .i64 by', .int .i64 bw, .int .i64 bh]] w' fun e w'' => e = .returned (.tuple #[.agg #[.int .i64 nx, .int .i64 ny, .int .i64 nw, .int .i64 nh], .int .i64 0]) ∧ Below w'.heap.size w' w'')
    (h1 : ¬ nx < ax) (h2 : ¬ ny < ay) (h3 : ¬ ax < nx + nw - W) (h4 : ¬ ay < ny + nh - H)
    (hW : 0 ≤ W ∧ W ≤ 1000000) (hH : 0 ≤ H ∧ H ≤ 1000000) (hnx : -4194304 ≤ nx ∧ nx ≤ 4194304) (hny : -4194304 ≤ ny ∧ ny ≤ 4194304) (hnw : 0 ≤ nw ∧ nw ≤ 4194304) (hnh : 0 ≤ nh ∧ nh ≤ 4194304)
    (how : 0 < ow) (how2 : ow ≤ 256) (hoh2 : oh ≤ 256) (hox : -2097152 ≤ ox ∧ ox ≤ 2097152) (hoy : -2097152 ≤ oy ∧ oy ≤ 2097152)
    (hbx : -4194304 ≤ bx ∧ bx ≤ 4194304) (hby : -4194304 ≤ by' ∧ by' ≤ 4194304) (hbw : 0 < bw ∧ bw ≤ 4194304) (hbh : 0 < bh ∧ bh ≤ 4194304) (hax : -8388608 ≤ ax ∧ ax ≤ 8388608) (hay : -8388608 ≤ ay ∧ ay ≤ 8388608)
    (hpx : ∀ x y, (px x y).ok) (hdd : ∀ x y, (-1048576 ≤ dX x y ∧ dX x y ≤ 1048576) ∧ -1048576 ≤ dY x y ∧ dY x y ≤ 1048576) (hv : vld kind = true)
    (TA : ∀ x y, ∀ w', Below w.heap.size w w' → Calls Try.prog 13 #[.agg #[.int .i64 C, .int .i64 R, .int .i64 S, sl], .int .i64 x, .int .i64 y] w' fun e w'' => e = .returned (.agg #[.int .i64 (dX x y), .int .i64 (dY x y)]) ∧ Below w'.heap.size w' w'')
    (FE : ∀ X Y : Nat, X < ow → Y < oh → ∀ j k : Nat, j < (taps kind ((ox + X) * 65536 + 32768 + dX (ox + X) (oy + Y))).length → k < (taps kind ((oy + Y) * 65536 + 32768 + dY (ox + X) (oy + Y))).length → ∀ w', Below w.heap.size w w' → Calls Try.prog 55 #[.agg #[.int .i64 W, .int .i64 H, .slice A ps.length c], .int .i64 (min (bx + bw - 1) (max (tapFirst kind ((ox + X) * 65536 + 32768 + dX (ox + X) (oy + Y)) + (j : Int)) bx) - ax), .int .i64 (min (by' + bh - 1) (max (tapFirst kind ((oy + Y) * 65536 + 32768 + dY (ox + X) (oy + Y)) + (k : Int)) by') - ay)] w' (PxPost (px (tapFirst kind ((ox + X) * 65536 + 32768 + dX (ox + X) (oy + Y)) + (j : Int)) (tapFirst kind ((oy + Y) * 65536 + 32768 + dY (ox + X) (oy + Y)) + (k : Int))) w')) :
    Calls Try.prog 20 #[.agg #[.int .i64 W, .int .i64 H, .slice A ps.length c], .agg #[.int .i64 ax, .int .i64 ay], .agg #[.int .i64 bx, .int .i64 by', .int .i64 bw, .int .i64 bh], .agg #[.int .i64 C, .int .i64 R, .int .i64 S, sl], .int .i64 kind, .agg #[.int .i64 ox, .int .i64 oy, .int .i64 (ow : Int), .int .i64 (oh : Int)]] w (ImPost 0 (ow : Int) (oh : Int) (gridL (ow : Int) (oh : Int) (fun X Y => gdot px kind (ox + X) (oy + Y) (dX (ox + X) (oy + Y)) (dY (ox + X) (oy + Y)))) w) := by
  replace TC := Lib.hid TC; replace TN := Lib.hid TN; replace TA := Lib.hid TA; replace FE := Lib.hid FE
  go_enter Try.func20, Try.ntmps20
  go_upto_region 1 with fail
  have K := Lib.hid (fr_six' w #[.int .i64 W, .int .i64 H, .slice A ps.length c] #[.int .i64 ax, .int .i64 ay] #[.int .i64 bx, .int .i64 by', .int .i64 bw, .int .i64 bh] #[.int .i64 C, .int .i64 R, .int .i64 S, sl] #[.int .i64 ox, .int .i64 oy, .int .i64 (ow : Int), .int .i64 (oh : Int)] #[.int .i64 0, .int .i64 0, .slice none 0 0] 40 28 34 24 34 40 _ rfl)
  generalize World.alloc (World.alloc (World.alloc (World.alloc (World.alloc (w.alloc _) _) _) _) _) _ = w0 at *
  obtain ⟨⟨i1, i2, i3⟩, -⟩ := K.out.1.1.three
  go_wp2_with fail
  refine (TC.out _ K.out.2).mono ?_
  rintro e w1 ⟨rfl, hb⟩
  replace K := Lib.hid (K.out.below hb)
  clear hb i1 i2 i3
  obtain ⟨⟨b1, b2, b3, b4⟩, -⟩ := K.out.1.2.2.1.four
  obtain ⟨⟨p1, p2, p3, p4⟩, -⟩ := K.out.1.2.2.2.1.four
  obtain ⟨⟨o1, o2, o3, o4⟩, -⟩ := K.out.1.2.2.2.2.1.four
  go_wp2_with fail
  refine (TN.out _ K.out.2).mono ?_
  rintro e w2 ⟨rfl, hb⟩
  replace K := Lib.hid (K.out.below hb)
  clear hb b1 b2 b3 b4 p1 p2 p3 p4 o1 o2 o3 o4
  go_upto_region 5 with fail
  have K15 := Lib.hid (Bx.new w2 34 #[.int .i64 nx, .int .i64 ny, .int .i64 nw, .int .i64 nh])
  replace K := Lib.hid (K.out.below (bel1 w2 (.cells #[.int .i64 nx, .int .i64 ny, .int .i64 nw, .int .i64 nh] 34)))
  generalize World.alloc w2 _ = w3 at *
  generalize w2.heap.size = g15 at *
  obtain ⟨⟨i1, i2, i3⟩, -⟩ := K.out.1.1.three
  obtain ⟨⟨a1, a2⟩, -⟩ := K.out.1.2.1.two
  obtain ⟨⟨n1, n2, n3, n4⟩, -⟩ := K15.out.four
  have q1 := wrap_in (nx + nw) (by omega); have q2 := wrap_in (nx + nw - W) (by omega); have q3 := wrap_in (ny + nh) (by omega); have q4 := wrap_in (ny + nh - H) (by omega)
  go_upto_region 9 with fail
  clear i1 i2 i3 a1 a2 n1 n2 n3 n4 q1 q2 q3 q4 h1 h2 h3 h4 K15 hW hH hnx hny hnw hnh TC TN
  obtain ⟨⟨o1, o2, o3, o4⟩, -⟩ := K.out.1.2.2.2.2.1.four
  have K12 := Lib.hid K.out.1.2.2.2.2.2.1
  go_upto_region 10 with fail
  have HT0 := Lib.hid (Bx.new w3 40 #[.int .i64 (ow : Int), .int .i64 (oh : Int), .slice none 0 0])
  have HBT := Lib.hid (bel1 w3 (.cells #[.int .i64 (ow : Int), .int .i64 (oh : Int), .slice none 0 0] 40))
  have hlk := K12.out.lt
  have hsz3 := K.out.2.size
  generalize World.alloc w3 _ = w4 at *
  have hL := grid_len_nat ow oh (fun X Y => gdot px kind (ox + X) (oy + Y) (dX (ox + X) (oy + Y)) (dY (ox + X) (oy + Y)))
  have hG := fun x y (hx : x < ow) (hy : y < oh) => grid_nat (a := ow) (b := oh) (fun X Y => gdot px kind (ox + X) (oy + Y) (dX (ox + X) (oy + Y)) (dY (ox + X) (oy + Y))) (x := x) (y := y) hx hy
  have HL := Lib.hid hL; have HG := Lib.hid hG
  clear hL hG
  generalize hLL : gridL (ow : Int) (oh : Int) (fun X Y => gdot px kind (ox + X) (oy + Y) (dX (ox + X) (oy + Y)) (dY (ox + X) (oy + Y))) = L at *
  have HLL := Lib.hid hLL
  clear hLL o1 o2 o3 o4
  have KK := Lib.hid (show ∀ wr, Below w3.heap.size w3 wr → Fr w _ wr from fun wr hb => K.out.below hb)
  obtain ⟨⟨o1, o2, o3, o4⟩, -⟩ := (KK.out _ HBT.out).1.2.2.2.2.1.four
  go_upto_region 11 with fail
  clear o1 o2 o3 o4
  go_loopg [17] oh (WoRel (ow : Int) (oh : Int) L w3.heap.size w3 ow oh oy)
  case atStart => exact ⟨0, Nat.zero_le _, rfl, by simp, by rw [Nat.zero_mul]; exact GridRel.start HT0.out HBT.out⟩
  case round =>
    clear HT0 HBT K
    obtain ⟨Y, hY, rfl, rfl, hgr⟩ := hrel
    obtain ⟨v, hbx', hrw, hbr⟩ := id hgr
    obtain ⟨⟨o1, o2, o3, o4⟩, -⟩ := (KK.out _ hbr).1.2.2.2.2.1.four
    by_cases hlt : Y < oh
    · go_upto_region 14 with fail
      clear o1 o2 o3 o4 hbx' hrw hbr
      go_loopg [18] ow (WiRel (ow : Int) (oh : Int) L w3.heap.size w3 ow Y ox)
      case atStart => exact ⟨0, Nat.zero_le _, rfl, by simp, hgr⟩
      case round =>
        clear hgr
        obtain ⟨X, hX, rfl, rfl, hgr⟩ := hrel
        obtain ⟨v, hbx', hrw, hbr⟩ := id hgr
        obtain ⟨⟨o1, o2, o3, o4⟩, -⟩ := (KK.out _ hbr).1.2.2.2.2.1.four
        by_cases hlt2 : X < ow
        · have HQ := Lib.hid (grid_idx hlt2 hlt)
          have HF := Lib.hid (HG.out X Y hlt2 hlt)
          have FEn := Lib.hid (FE.out X Y hlt2 hlt)
          have TAn := Lib.hid (TA.out (ox + X) (oy + Y))
          have HBX := Lib.hid hbx'; have HRW := Lib.hid hrw; have HBR := Lib.hid hbr
          have KR := Lib.hid (KK.out _ hbr)
          clear hgr hbx' hrw hbr
          have bx1 : -4194304 ≤ ox + (X : Int) ∧ ox + (X : Int) ≤ 4194304 := by omega
          have bx2 : -4194304 ≤ oy + (Y : Int) ∧ oy + (Y : Int) ≤ 4194304 := by omega
          go_upto_region 16 with fail
          clear o1 o2 o3 o4
          have HXN := Lib.hid (show ox + (X : Int) + 1 = ox + ((X + 1 : Nat) : Int) by omega)
          have HXE := Lib.hid (IntWalk.wrap64_in (ox + (X : Int) + 1) (by omega))
          obtain ⟨hdx, hdy⟩ := hdd (ox + (X : Int)) (oy + (Y : Int))
          generalize ox + (X : Int) = xn at *
          generalize oy + (Y : Int) = yn at *
          generalize dX xn yn = dx at *
          generalize dY xn yn = dy at *
          obtain ⟨⟨p1, p2, p3, p4⟩, -⟩ := KR.out.1.2.2.2.1.four
          go_wp2_with fail
          refine (TAn.out _ KR.out.2).mono ?_
          rintro e w5 ⟨rfl, hb⟩
          clear p1 p2 p3 p4 TAn
          go_upto_region 17 with fail
          have H19 := Bx.new w5 28 #[.int .i64 dx, .int .i64 dy]
          have HBW := Lib.hid (bel_alloc hb (.cells #[.int .i64 dx, .int .i64 dy] 28))
          clear hb
          generalize World.alloc w5 _ = w6 at *
          generalize w5.heap.size = g19 at *
          obtain ⟨⟨d1, d2⟩, -⟩ := H19.two
          have m1 := wrap_in (xn * 65536) (by omega); have m2 := wrap_in (xn * 65536 + 32768) (by omega); have m3 := wrap_in (xn * 65536 + 32768 + dx) (by omega)
          go_wp2_with fail
          refine (rtaps_any kind (xn * 65536 + 32768 + dx) _).mono ?_
          rintro e w7 ⟨vu, rfl, hU, hb⟩
          obtain ⟨gu, cu, rfl, hgu, hgu2⟩ := hU.form (taps_pos hv)
          replace HBW := Lib.hid (bel_trans HBW.out hb)
          replace H19 := H19.below hb
          clear hb d1 d2 m1 m2 m3
          obtain ⟨⟨d1, d2⟩, -⟩ := H19.two
          have m1 := wrap_in (yn * 65536) (by omega); have m2 := wrap_in (yn * 65536 + 32768) (by omega); have m3 := wrap_in (yn * 65536 + 32768 + dy) (by omega)
          go_wp2_with fail
          refine (rtaps_any kind (yn * 65536 + 32768 + dy) _).mono ?_
          rintro e w8 ⟨vv, rfl, hV, hb⟩
          obtain ⟨gv, cv', rfl, hgv, hgv2⟩ := hV.form (taps_pos hv)
          replace HBW := Lib.hid (bel_trans HBW.out hb)
          replace hU := hU.below hb
          have hgu3 := Nat.lt_of_lt_of_le hgu2 hb.size
          clear hb d1 d2 m1 m2 m3 H19
          have tu := taps_t kind (xn * 65536 + 32768 + dx); have tv := taps_t kind (yn * 65536 + 32768 + dy)
          have fu := tap_first_bd kind (xn * 65536 + 32768 + dx); have fv := tap_first_bd kind (yn * 65536 + 32768 + dy)
          have pu := taps_pos (kind := kind) (x := xn * 65536 + 32768 + dx) hv; have pv := taps_pos (kind := kind) (x := yn * 65536 + 32768 + dy) hv
          unfold gdot at HF
          generalize tapFirst kind (xn * 65536 + 32768 + dx) = fx at *
          generalize tapFirst kind (yn * 65536 + 32768 + dy) = fy at *
          generalize taps kind (xn * 65536 + 32768 + dx) = us at *
          generalize taps kind (yn * 65536 + 32768 + dy) = vs at *
          have HTU := Lib.hid tu; have HTV := Lib.hid tv; have HFU := Lib.hid fu; have HFV := Lib.hid fv
          have hul : us.length ≤ 4 := tu.1
          have hvl : vs.length ≤ 4 := tv.1
          clear tu tv fu fv hdx hdy bx1 bx2 hgu hgv hgu2
          have HU := Lib.hid (fun j (hj : j < us.length) => hU.cell (get_getD hj))
          have HV := Lib.hid (fun j (hj : j < vs.length) => hV.cell (get_getD hj))
          have K8 := Lib.hid (show ∀ wq, Below w8.heap.size w8 wq → Fr w _ wq from fun wq hb => (KR.out.below HBW.out).below hb)
          have HB8 := Lib.hid (HBR.out.trans (HBW.out.mono (show w3.heap.size ≤ wr.heap.size from HBR.out.size)))
          have HBX8 := Lib.hid (HBX.out.below HBW.out); have HRW8 := Lib.hid (HRW.out.below HBW.out)
          have hlt8 := HBX8.out.lt
          clear hU hV HBX HRW HBR HBW KR
          go_upto_region 22 with fail
          go_loopg [24, 25, 142] vs.length (RoRel px fx fy us vs w8)
          case atStart => exact ⟨0, Nat.zero_le _, rfl, rfl, Two.start _⟩
          case round =>
            obtain ⟨k, hk, rfl, rfl, hT⟩ := hrel
            by_cases hkl : k < vs.length
            · have hk0' : (0 : Int) ≤ (k : Int) := by omega
              have hk1' : (k : Int) < (vs.length : Int) := by omega
              go_upto_region 25 with fail
              go_loopg [24, 25, 147] us.length (RiRel px fx fy us vs k w8)
              case atStart => exact ⟨0, Nat.zero_le _, rfl, rfl, hT⟩
              case round =>
                clear hT
                obtain ⟨j, hj', rfl, rfl, hT⟩ := hrel
                by_cases hjl : j < us.length
                · have hj0 : (0 : Int) ≤ (j : Int) := by omega
                  have hj1 : (j : Int) < (us.length : Int) := by omega
                  have cuj := (hT.b.cell (p := ⟨gu, j, none⟩) hgu3).trans (HU.out j hjl)
                  have cvk := (hT.b.cell (p := ⟨gv, k, none⟩) hgv2).trans (HV.out k hkl)
                  obtain ⟨⟨b1, b2, b3, b4⟩, -⟩ := (K8.out _ hT.b).1.2.2.1.four
                  have FJ := Lib.hid (FEn.out j k hjl hkl)
                  have hw := HTU.out.2 j; have hw2 := HTV.out.2 k
                  have HS := Lib.hid (show wpre px fx fy us vs k (j + 1) = wpre px fx fy us vs k j ++ [(us.getD j 0 * vs.getD k 0, px (fx + j) (fy + k))] from wpre_step k j)
                  have hlen := wpre_length (px := px) (fx := fx) (fy := fy) (us := us) (vs := vs) k j
                  have hlen2 : (wpre px fx fy us vs k j).length ≤ 20 := by
                    have : k * us.length ≤ 4 * 4 := Nat.mul_le_mul (by omega) hul
                    omega
                  generalize wpre px fx fy us vs k j = M at *
                  have m1 := wrap_in (fx + (j : Int)) (by have := HFU.out; omega); have m2 := wrap_in (fy + (k : Int)) (by have := HFV.out; omega)
                  have m4 := wrap_in (bx + bw) (by omega); have m5 := wrap_in (bx + bw - 1) (by omega); have m6 := wrap_in (by' + bh) (by omega); have m7 := wrap_in (by' + bh - 1) (by omega)
                  generalize px (fx + (j : Int)) (fy + (k : Int)) = p at *
                  obtain ⟨qx, hqx⟩ : ∃ qx, min (bx + bw - 1) (max (fx + (j : Int)) bx) = qx := ⟨_, rfl⟩
                  obtain ⟨qy, hqy⟩ : ∃ qy, min (by' + bh - 1) (max (fy + (k : Int)) by') = qy := ⟨_, rfl⟩
                  rw [hqx, hqy] at FJ
                  have m8 := wrap_in (qx - ax) (by omega); have m9 := wrap_in (qy - ay) (by omega)
                  have CX := Lib.hid (show ∀ w', Calls Try.prog 30 #[.int .i64 (fx + (j : Int)), .int .i64 bx, .int .i64 (bx + bw - 1)] w' fun e w'' => e = .returned (.int .i64 qx) ∧ w' = w'' from fun w' => by rw [← hqx]; exact rclamp_any _ _ _ _)
                  have CY := Lib.hid (show ∀ w', Calls Try.prog 30 #[.int .i64 (fy + (k : Int)), .int .i64 by', .int .i64 (by' + bh - 1)] w' fun e w'' => e = .returned (.int .i64 qy) ∧ w' = w'' from fun w' => by rw [← hqy]; exact rclamp_any _ _ _ _)
                  generalize us.getD j 0 = u at *
                  generalize vs.getD k 0 = v2 at *
                  have huv := mul_small (w := u) (v := v2 + 65600) (B := 65600) (M := 131200) (by omega) (by omega) (by omega)
                  have huv2 : -17213440000 ≤ u * v2 ∧ u * v2 ≤ 17213440000 := by rw [Int.mul_add] at huv; omega
                  have m3 := wrap_in (u * v2) (by omega)
                  clear hqx hqy hw hw2 huv huv2 hlen
                  go_wp2_with fail
                  refine (CX.out _).mono ?_
                  rintro e w' ⟨rfl, rfl⟩
                  go_wp2_with fail
                  refine (CY.out _).mono ?_
                  rintro e w' ⟨rfl, rfl⟩
                  go_upto_region 29 with fail
                  have hTd := hT.drew
                  have HSW := Lib.hid (show ∀ wq, Below w8.heap.size w8 wq → wq.cell? ⟨gu, j, none⟩ = some (.int .i64 u) ∧ wq.cell? ⟨gv, k, none⟩ = some (.int .i64 v2) from fun wq hq => ⟨((hq.cell (p := ⟨gu, j, none⟩) hgu3).trans (hT.b.cell (p := ⟨gu, j, none⟩) hgu3).symm).trans cuj, ((hq.cell (p := ⟨gv, k, none⟩) hgv2).trans (hT.b.cell (p := ⟨gv, k, none⟩) hgv2).symm).trans cvk⟩)
                  have hS0 : wr.drew.cell? ⟨gu, j, none⟩ = some (.int .i64 u) ∧ wr.drew.cell? ⟨gv, k, none⟩ = some (.int .i64 v2) := ⟨cuj, cvk⟩
                  have hguz := Nat.lt_of_lt_of_le hgu3 hT.b.size; have hgvz := Nat.lt_of_lt_of_le hgv2 hT.b.size
                  have HM := Lib.hid hlen2
                  clear b1 b2 b3 b4 m1 m2 m4 m5 m6 m7 CX CY hlen2
                  go_region_held3 (fun wq => wq.cell? ⟨gu, j, none⟩ = some (.int .i64 u) ∧ wq.cell? ⟨gv, k, none⟩ = some (.int .i64 v2))
                    (first | assumption | exact hS0 | exact hS9 | go_keep)
                    (first | (refine ipush_at_step _ (by rfl) _ _ (by rfl) w8.heap.size _ _ (by rfl) (hTd.below (bel1 _ _)).x _ (u * v2) (by rfl) (cell_new1 _ _ _) (by rw [List.length_map]; have := HM.out; omega) (Nat.le_trans hTd.b.size (by simp)) ?_; intro v' w9 hx9 hg9 ha9; have hS9 := HSW.out _ ((hTd.below (bel1 _ _)).pushX hx9 hg9 ha9).b))
                  have hT2 := (hTd.below (bel1 _ _)).pushX hx9 hg9 ha9
                  clear hTd hx9 hg9 ha9 hT hS0 cuj cvk hguz hgvz m3
                  obtain ⟨⟨i1, i2, i3⟩, -⟩ := (K8.out _ hT2.b).1.1.three
                  obtain ⟨⟨a1, a2⟩, -⟩ := (K8.out _ hT2.b).1.2.1.two
                  go_wp2_with fail
                  refine (FJ.out _ (K8.out _ hT2.b).2).mono ?_
                  rintro e w10 ⟨rfl, hb⟩
                  replace hT2 := hT2.below hb
                  clear hb i1 i2 i3 a1 a2 FJ
                  go_wp2_with (at_builtin; refine ppush_at _ rfl _ _ rfl w8.heap.size _ _ rfl hT2.p p _ rfl rfl (by rw [List.length_map]; have := HM.out; omega) hT2.b.size ?_; intro v' w11 hx9 hg9 ha9)
                  have HT3 := Lib.hid (hT2.pushP hx9 hg9 ha9)
                  clear hT2 hx9 hg9 ha9
                  go_roundg (us.length - (j + 1))
                  case measure => omega
                  case rel => exact ⟨j + 1, by omega, rfl, by go_num, by rw [HS.out, List.map_append, List.map_append]; exact HT3.out⟩
                · obtain rfl : j = us.length := by omega
                  have HT3 := Lib.hid hT
                  clear hT
                  go_wp2_with fail
                  go_roundg (vs.length - (k + 1))
                  case measure => omega
                  case rel => exact ⟨k + 1, by omega, rfl, by go_num, by rw [← wpre_row]; exact HT3.out⟩
            · obtain rfl : k = vs.length := by omega
              have hM0 := wpre_length (px := px) (fx := fx) (fy := fy) (us := us) (vs := vs) vs.length 0
              have hmem := fun t => @wpre_mem px fx fy us vs vs.length 0 t
              obtain ⟨M, hM⟩ : ∃ M, wpre px fx fy us vs vs.length 0 = M := ⟨_, rfl⟩
              rw [hM] at hM0 hmem hT
              have hlen0 : 0 < M.length := by rw [hM0]; have := Nat.mul_pos pv pu; omega
              have hlen1 : M.length ≤ 16 := by
                rw [hM0]
                have : vs.length * us.length ≤ 4 * 4 := Nat.mul_le_mul hvl hul
                omega
              have hSm : Small M := ⟨hlen1, fun t ht => by
                obtain ⟨k', j', rfl⟩ := hmem t ht
                refine ⟨?_, hpx _ _⟩
                have a := HTU.out.2 j'; have b := HTV.out.2 k'
                show -4303360000 ≤ us.getD j' 0 * vs.getD k' 0 ∧ us.getD j' 0 * vs.getD k' 0 ≤ 4303360000
                generalize us.getD j' 0 = u at *
                generalize vs.getD k' 0 = v at *
                rcases Int.le_total 0 u with c | c
                · have h1 : u * v ≤ u * 65600 := Int.mul_le_mul_of_nonneg_left b.2 c
                  have h2 : u * (-65600) ≤ u * v := Int.mul_le_mul_of_nonneg_left b.1 c
                  omega
                · have h1 : u * 65600 ≤ u * v := Int.mul_le_mul_of_nonpos_left c b.2
                  have h2 : u * v ≤ u * (-65600) := Int.mul_le_mul_of_nonpos_left c b.1
                  omega⟩
              have HAT := Lib.hid (rblend_val M _ _ wr.drew hSm hlen0 hT.x.ints hT.p.pixs)
              rw [hM] at HF
              generalize wmean M = pz at *
              have hbx9 := HBX8.out.below hT.b; have hrw9 := HRW8.out.below hT.b
              have hB9 : Below w3.heap.size w3 wr := HB8.out.trans (hT.b.mono HB8.out.size)
              have hszq : w8.heap.size ≤ wr.heap.size := hT.b.size
              have HBX := Lib.hid hbx9; have HRW := Lib.hid hrw9
              have hlr := hbx9.lt
              have hq := Nat.le_of_lt HQ.out
              rw [← HL.out] at hq
              have hQL : Y * ow + X < L.length := by rw [HL.out]; exact HQ.out
              obtain ⟨A1, cap1, rfl⟩ := hrw9.nshape (take_len hq)
              obtain ⟨⟨t1, t2, t3⟩, _, _, _⟩ := hbx9.three
              have hBr' : Below w3.heap.size w3 wr.drew := hB9.drew
              have hszr : w3.heap.size ≤ wr.drew.heap.size := hB9.size
              clear hT hbx9 hrw9 hM0 hmem hlen0 hlen1 hSm hM HU HV HTU HTV FEn HBX8 HRW8 hB9
              have HQL := Lib.hid hQL
              clear hq hQL
              go_upto_region 33 with fail
              go_region_law (first
                | (refine blend_step _ (by rfl) _ _ (by rfl) pz _ _ (by rfl) (by rfl) HAT.out ?_; intro w16 hb6; have hB6 := hBr'.trans (hb6.mono hszr); have hlt6 := Nat.lt_of_lt_of_le hlr hb6.size; obtain ⟨⟨t4, t5, t6⟩, _, _, _⟩ := (HBX.out.drew.below hb6).three)
                | (refine rppush_step _ (by rfl) _ _ (by rfl) (w3.heap.size + 1) _ _ (by rfl) (HRW.out.drew.below hb6) pz _ (by rfl) (by rfl) (by rw [take_len (Nat.le_of_lt HQL.out), HL.out] at *; exact qbig (Nat.le_of_lt HQ.out) how2 hoh2) (by have := hb6.size; exact Nat.le_trans (show w3.heap.size + 1 ≤ wr.heap.size by omega) this) ?_; intro v' w18 hown8 hb8; have hB9 := hB6.trans (hb8.mono (Nat.le_succ _)); obtain ⟨A5, cap5, rfl⟩ := hown8.nshape (n := Y * ow + X + 1) (by rw [List.length_append, take_len (Nat.le_of_lt HQL.out)]; rfl); have hB8 := (HBX.out.drew.below hb6).low (Nat.lt_succ_self _) hb8; obtain ⟨⟨s1, s2, s3⟩, sf1, sf2, sf3⟩ := hB8.three))
              all_goals
                go_wp2_with fail
                go_roundg (ow - (X + 1))
                case measure => omega
                case rel => exact ⟨X + 1, by omega, rfl, by rw [← HXN.out]; exact congrArg (Value.int .i64) HXE.out, GridRel.step (HBX.out.drew.below hb6) hB6 hown8 hb8 HQL.out HF.out⟩
        · obtain rfl : X = ow := by omega
          have HGR := Lib.hid hgr
          clear hgr hbx' hrw hbr
          go_wp2_with fail
          go_roundg (oh - (Y + 1))
          case measure => omega
          case rel => exact ⟨Y + 1, by omega, rfl, by go_num, by rw [Nat.add_mul, Nat.one_mul]; exact HGR.out⟩
    · obtain rfl : Y = oh := by omega
      have hall : L.take (Y * ow) = L := by rw [Nat.mul_comm, ← HL.out, List.take_length]
      rw [hall] at hrw
      obtain ⟨A1, cap1, rfl⟩ := hrw.shape
      have hc12 := (KK.out _ hbr).1.2.2.2.2.2.1
      obtain ⟨⟨r1, r2, r3⟩, f1, f2, f3⟩ := hc12.three
      obtain ⟨⟨m1, m2, m3⟩, -⟩ := hbx'.three
      have HR := Lib.hid hrw
      have HK := Lib.hid (KK.out _ hbr).2
      clear hrw hbr hc12 hbx' hgr hall
      go_wp2_with fail
      refine bodyPost_ret (v := .tuple #[.agg #[.int .i64 (ow : Int), .int .i64 (Y : Int), .slice A1 L.length cap1], .int .i64 0]) (by simp [results, Try.results20, go_sem, r1, r2, r3]) rfl ?_
      have hg5 : w.heap.size + 1 + 1 + 1 + 1 + 1 < w3.heap.size + 1 := by omega
      have hg6 : w.heap.size ≤ w3.heap.size + 1 := by omega
      have e := HLL.out
      subst e
      refine ⟨A1, _, cap1, rfl, ?_, ?_⟩
      · exact PRow.set3 HR.out hg5 hg6 _ _ _
      · exact set3_below HK.out (by omega) _ _ _
end Go.Proofs.Ytbakgdcajpagkaa
