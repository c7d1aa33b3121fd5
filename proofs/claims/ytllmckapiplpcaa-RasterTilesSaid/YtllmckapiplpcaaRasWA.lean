/- The walk of RasterTiles. -/
import Derived.Test.YtllmckapiplpcaaRasW1
import Derived.Test.YtllmckapiplpcaaTiles
namespace Go.Proofs.Ytllmckapiplpcaa
open Go.RowKit
attribute [local go_sem 2000] run_max2m run_min2m

set_option maxHeartbeats 1000000 in
theorem tiles_no (W H : Int) (A : Option Addr) (c : Nat) (ps : List Px) (ch : Int) (hne : (ch != 0) = true) (w : World) (hp : Pixs w w.heap.size (.slice A ps.length c) ps)
    (K : ∀ w', Pixs w' w'.heap.size (.slice A ps.length c) ps → Calls Try.prog 18 #[.agg #[.int .i64 W, .int .i64 H, .slice A ps.length c]] w' fun e w'' => e = .returned (.int .i64 ch) ∧ Below w'.heap.size w' w'') :
    Calls Try.prog 12 #[.agg #[.int .i64 W, .int .i64 H, .slice A ps.length c]] w fun e w' => e = .returned (.bool true) ∧ Below w.heap.size w w' := by
  have HP := Lib.hid hp; clear hp
  have HK := Lib.hid K; clear K
  go_enter Try.func12, Try.ntmps12
  go_upto_region 1 with fail
  obtain ⟨hb1, hB, -⟩ := one_box w #[.int .i64 W, .int .i64 H, .slice A ps.length c] 24 _ rfl
  generalize World.alloc w _ = w0 at *
  go_wp2_with fail
  refine (awake_any _).mono ?_
  rintro e w1 ⟨rfl, hbb⟩
  replace hb1 := hb1.below hbb; replace hB := bel_trans hB hbb
  clear hbb
  obtain ⟨⟨j1, j2, j3⟩, -⟩ := hb1.three
  go_wp2_with fail
  refine (HK.out _ (HP.out.on hB)).mono ?_
  rintro e w2 ⟨rfl, hbb⟩
  clear j1 j2 j3
  replace hB := bel_trans hB hbb
  go_wp2_with fail
  refine (awake_any _).mono ?_
  rintro e w3 ⟨rfl, hbb⟩
  go_wp2_with fail
  go_ret
  exact ⟨rfl, bel_trans hB hbb⟩
set_option maxHeartbeats 1000000 in
theorem tiles_zero (H : Int) (A : Option Addr) (c : Nat) (ps : List Px) (w : World) (hp : Pixs w w.heap.size (.slice A ps.length c) ps)
    (K : ∀ w', Pixs w' w'.heap.size (.slice A ps.length c) ps → Calls Try.prog 18 #[.agg #[.int .i64 0, .int .i64 H, .slice A ps.length c]] w' fun e w'' => e = .returned (.int .i64 0) ∧ Below w'.heap.size w' w'')
    (FU : ∀ w', Calls Try.prog 37 #[.agg #[.int .i64 0, .int .i64 H, .slice A ps.length c]] w' fun e w'' => e = .returned (.bool true) ∧ Below w'.heap.size w' w'') :
    Calls Try.prog 12 #[.agg #[.int .i64 0, .int .i64 H, .slice A ps.length c]] w fun e w' => e = .returned (.bool true) ∧ Below w.heap.size w w' := by
  have HP := Lib.hid hp; clear hp
  have HK := Lib.hid K; have HFU := Lib.hid FU; clear K FU
  go_enter Try.func12, Try.ntmps12
  go_upto_region 1 with fail
  obtain ⟨hb1, hB, -⟩ := one_box w #[.int .i64 0, .int .i64 H, .slice A ps.length c] 24 _ rfl
  generalize World.alloc w _ = w0 at *
  go_wp2_with fail
  refine (awake_any _).mono ?_
  rintro e w1 ⟨rfl, hbb⟩
  replace hb1 := hb1.below hbb; replace hB := bel_trans hB hbb
  clear hbb
  obtain ⟨⟨j1, j2, j3⟩, -⟩ := hb1.three
  go_wp2_with fail
  refine (HK.out _ (HP.out.on hB)).mono ?_
  rintro e w2 ⟨rfl, hbb⟩
  clear j1 j2 j3
  replace hb1 := hb1.below hbb; replace hB := bel_trans hB hbb
  clear hbb
  obtain ⟨⟨j1, j2, j3⟩, -⟩ := hb1.three
  go_wp2_with fail
  refine (HFU.out _).mono ?_
  rintro e w3 ⟨rfl, hbb⟩
  clear j1 j2 j3
  replace hb1 := hb1.below hbb; replace hB := bel_trans hB hbb
  clear hbb
  obtain ⟨⟨j1, j2, j3⟩, -⟩ := hb1.three
  go_wp2_with fail
  refine (awake_any _).mono ?_
  rintro e w4 ⟨rfl, hbb⟩
  go_wp2_with fail
  go_ret
  exact ⟨rfl, bel_trans hB hbb⟩
set_option maxHeartbeats 4000000 in
theorem tiles_run (W H : Int) (A : Option Addr) (c : Nat) (ps : List Px) (co ro : Nat) (w : World) (hp : Pixs w w.heap.size (.slice A ps.length c) ps) (hW0 : 1 ≤ W) (hW1 : W ≤ 256) (hH0 : 1 ≤ H) (hH1 : H ≤ 256)
    (hco : W ≤ 16 * (co : Int)) (hco1 : ∀ s, s < co → 16 * (s : Int) < W) (hro : H ≤ 16 * (ro : Int)) (hro1 : ∀ r, r < ro → 16 * (r : Int) < H) (hcb : co ≤ 16) (hrb : ro ≤ 16)
    (TI : ∀ r s : Nat, r < ro → s < co → ∀ t : Til, t.W = min 16 (W - 16 * (s : Int)) → t.H = min 16 (H - 16 * (r : Int)) → t.ps = cropL W H ps (16 * (s : Int)) (16 * (r : Int)) (min 16 (W - 16 * (s : Int))) (min 16 (H - 16 * (r : Int))) → TilIs W H ps (r * co + s) t)
    (K : ∀ w', Pixs w' w'.heap.size (.slice A ps.length c) ps → Calls Try.prog 18 #[.agg #[.int .i64 W, .int .i64 H, .slice A ps.length c]] w' fun e w'' => e = .returned (.int .i64 0) ∧ Below w'.heap.size w' w'')
    (FU : ∀ w', Calls Try.prog 37 #[.agg #[.int .i64 W, .int .i64 H, .slice A ps.length c]] w' fun e w'' => e = .returned (.bool true) ∧ Below w'.heap.size w' w'')
    (C : ∀ r s : Nat, r < ro → s < co → ∀ w', Pixs w' w'.heap.size (.slice A ps.length c) ps → Calls Try.prog 27 #[.agg #[.int .i64 W, .int .i64 H, .slice A ps.length c], .agg #[.int .i64 (16 * (s : Int)), .int .i64 (16 * (r : Int)), .int .i64 (min 16 (W - 16 * (s : Int))), .int .i64 (min 16 (H - 16 * (r : Int)))]] w' (ImPost 0 (min 16 (W - 16 * (s : Int))) (min 16 (H - 16 * (r : Int))) (cropL W H ps (16 * (s : Int)) (16 * (r : Int)) (min 16 (W - 16 * (s : Int))) (min 16 (H - 16 * (r : Int)))) w'))
    (J : ∀ w' A' c' ts, ts.length = ro * co → (∀ i, i < ts.length → TilIs W H ps i (tget ts i)) → Imgs w' w'.heap.size (.slice A' ts.length c') ts → Calls Try.prog 35 #[.int .i64 W, .int .i64 H, .slice A' ts.length c'] w' (ImPost 0 W H ps w')) :
    Calls Try.prog 12 #[.agg #[.int .i64 W, .int .i64 H, .slice A ps.length c]] w fun e w' => e = .returned (.bool true) ∧ Below w.heap.size w w' := by
  have HP := Lib.hid hp; clear hp
  have HK := Lib.hid K; have HFU := Lib.hid FU; have HC := Lib.hid C; have HJ := Lib.hid J; have HTI := Lib.hid TI; clear K FU C J TI
  have HC1 := Lib.hid hco1; have HR1 := Lib.hid hro1; clear hco1 hro1
  have hWz : (W == 0) = false := by simp; omega
  go_enter Try.func12, Try.ntmps12
  go_upto_region 1 with fail
  obtain ⟨hb1, hB, -⟩ := one_box w #[.int .i64 W, .int .i64 H, .slice A ps.length c] 24 _ rfl
  generalize World.alloc w _ = w0 at *
  go_wp2_with fail
  refine (awake_any _).mono ?_
  rintro e w1 ⟨rfl, hbb⟩
  replace hb1 := hb1.below hbb; replace hB := bel_trans hB hbb
  clear hbb
  obtain ⟨⟨j1, j2, j3⟩, -⟩ := hb1.three
  go_wp2_with fail
  refine (HK.out _ (HP.out.on hB)).mono ?_
  rintro e w2 ⟨rfl, hbb⟩
  clear j1 j2 j3
  replace hb1 := hb1.below hbb; replace hB := bel_trans hB hbb
  clear hbb
  obtain ⟨⟨j1, j2, j3⟩, -⟩ := hb1.three
  go_wp2_with fail
  refine (HFU.out _).mono ?_
  rintro e w3 ⟨rfl, hbb⟩
  clear j1 j2 j3
  replace hb1 := hb1.below hbb; replace hB := bel_trans hB hbb
  clear hbb
  obtain ⟨⟨j1, j2, j3⟩, -⟩ := hb1.three
  go_upto_region 5 with fail
  clear j1 j2 j3
  go_loopg [3, 4] ro (TilOut W H ps w3.heap.size w3 co ro)
  case atStart => exact ⟨0, Nat.zero_le _, rfl, rfl, by rw [Nat.zero_mul]; exact TilesAt.start W H ps w3⟩
  case round =>
    obtain ⟨r, hr, rfl, rfl, ts, hlen, hti, hrow, htok, hbr⟩ := hrel
    have hd1 := hb1.below hbr
    obtain ⟨⟨j1, j2, j3⟩, -⟩ := hd1.three
    by_cases hlt : r < ro
    · have hy := HR1.out r hlt
      go_upto_region 8 with fail
      clear j1 j2 j3
      go_loopg [3, 5] co (TilIn W H ps w3.heap.size w3 co r)
      case atStart => exact ⟨0, Nat.zero_le _, rfl, rfl, ts, hlen, hti, hrow, htok, hbr⟩
      case round =>
        clear hlen hti hrow htok hbr hd1
        obtain ⟨s, hs, rfl, rfl, ts, hlen, hti, hrow, htok, hbr⟩ := hrel
        have hd1 := hb1.below hbr
        obtain ⟨⟨j1, j2, j3⟩, -⟩ := hd1.three
        have hB' := bel_trans hB hbr
        by_cases hxl : s < co
        · have hx := HC1.out s hxl
          have HCC := Lib.hid (HC.out r s hlt hxl)
          have HTT := Lib.hid (HTI.out r s hlt hxl)
          generalize hl : cropL W H ps (16 * (s : Int)) (16 * (r : Int)) (min 16 (W - 16 * (s : Int))) (min 16 (H - 16 * (r : Int))) = l at *
          clear hl
          generalize hmw : min 16 (W - 16 * (s : Int)) = mw at *
          generalize hmh : min 16 (H - 16 * (r : Int)) = mh at *
          have hql : ts.length ≤ 1000 := by rw [hlen]; have := Nat.mul_le_mul hr hcb; have := Nat.mul_le_mul_right co hrb; omega
          have hlo : w3.heap.size ≤ wr.heap.size := hbr.size
          have HROW := Lib.hid hrow; have HTOK := Lib.hid htok; have HBR := Lib.hid hbr; have HTIS := Lib.hid hti; have HLEN := Lib.hid hlen
          clear hrow htok hbr hti hlen
          go_wp2_with fail
          refine (HCC.out _ (HP.out.on hB')).mono ?_
          rintro e w5 ⟨A5, n5, c5, rfl, hr5, hb5⟩
          obtain rfl := hr5.pixs.len
          clear j1 j2 j3
          go_upto_region 11 with fail
          obtain ⟨hb6, hb7, hz7⟩ := one_box w5 #[.int .i64 mw, .int .i64 mh, .slice A5 l.length c5] 24 _ rfl
          generalize World.alloc w5 _ = w7 at *
          clear hz7
          have HB7 := Lib.hid (bel_trans hb5 hb7)
          have HR7 := Lib.hid (hr5.below hb7)
          have HROW7 := Lib.hid (HROW.out.below HB7.out)
          have hz57 := HB7.out.size
          clear hb5 hb7 hr5
          obtain ⟨⟨j1, j2, j3⟩, -⟩ := hb6.three
          go_wp2_with (at_builtin; refine tpush _ rfl _ _ rfl w3.heap.size _ ts rfl HROW7.out ⟨mw, mh, A5, c5, l⟩ _ rfl rfl hql (by omega) ?_; intro v' w8 hrow8 hb8 hok8)
          go_roundg (co - (s + 1))
          case measure => omega
          case rel =>
            refine ⟨s + 1, by omega, rfl, by go_num, ts ++ [⟨mw, mh, A5, c5, l⟩], ?_, ?_, hrow8, ?_, (HBR.out.trans (HB7.out.mono hlo)).trans hb8⟩
            · rw [List.length_append, HLEN.out]; rfl
            · intro i hi
              rcases Nat.lt_or_ge i (r * co + s) with d | d
              · rw [tget_left (by rw [HLEN.out]; exact d)]; exact HTIS.out i d
              · obtain rfl : i = r * co + s := by omega
                have : tget (ts ++ [⟨mw, mh, A5, c5, l⟩]) (r * co + s) = ⟨mw, mh, A5, c5, l⟩ := by rw [← HLEN.out]; exact tget_last _ _
                rw [this]
                exact HTT.out _ rfl rfl rfl
            · intro i hi
              rcases Nat.lt_or_ge i (r * co + s) with d | d
              · rw [tget_left (by rw [HLEN.out]; exact d)]
                exact hok8 _ ((HTOK.out i d).below HB7.out)
              · obtain rfl : i = r * co + s := by omega
                have : tget (ts ++ [⟨mw, mh, A5, c5, l⟩]) (r * co + s) = ⟨mw, mh, A5, c5, l⟩ := by rw [← HLEN.out]; exact tget_last _ _
                rw [this]
                refine hok8 _ ⟨HR7.out.mono (Nat.zero_le _), fun k hk e => ?_⟩
                have h1 := (World.ownsRow.lt HR7.out k hk).1
                have h2 := (HROW.out.lt e.symm).2
                omega
        · obtain rfl : s = co := by omega
          have hns : ¬ 16 * (s : Int) < W := by omega
          go_wp2_with fail
          go_roundg (ro - (r + 1))
          case measure => omega
          case rel => exact ⟨r + 1, by omega, rfl, by go_num, by rw [Nat.add_mul, Nat.one_mul]; exact ⟨ts, hlen, hti, hrow, htok, hbr⟩⟩
    · obtain rfl : r = ro := by omega
      have hnr : ¬ 16 * (r : Int) < H := by omega
      have hB' := bel_trans hB hbr
      have hql : ts.length ≤ 1000 := by rw [hlen]; have := Nat.mul_le_mul hrb hcb; omega
      have him := hrow.imgs hql (by rw [hlen]; exact htok)
      obtain ⟨A5, c5, rfl⟩ := hrow.shape
      have HIM := Lib.hid him; have HTIS := Lib.hid hti; have HLEN := Lib.hid hlen
      clear him hti hlen hrow htok hbr
      go_wp2_with fail
      refine (HJ.out _ _ _ ts HLEN.out (by rw [HLEN.out]; exact HTIS.out) HIM.out).mono ?_
      rintro e w6 ⟨A6, n6, c6, rfl, hr6, hb6⟩
      clear j1 j2 j3
      replace hd1 := hd1.below hb6; replace hB' := bel_trans hB' hb6
      go_upto_region 15 with fail
      obtain ⟨hb8, hbb, -⟩ := one_box w6 #[.int .i64 W, .int .i64 H, .slice A6 n6 c6] 24 _ rfl
      have hP6 := hr6.pixs.on hbb
      generalize World.alloc w6 _ = w7 at *
      replace hd1 := hd1.below hbb; replace hB' := bel_trans hB' hbb
      clear hbb hb6 hr6
      obtain ⟨⟨j1, j2, j3⟩, -⟩ := hd1.three
      obtain ⟨⟨k1, k2, k3⟩, -⟩ := hb8.three
      go_wp2_with fail
      refine (sm_true _ W H _ _ ps hP6 (HP.out.on hB')).mono ?_
      rintro e w9 ⟨rfl, hbb⟩
      go_wp2_with fail
      go_ret
      exact ⟨rfl, bel_trans hB' hbb⟩
end Go.Proofs.Ytllmckapiplpcaa
