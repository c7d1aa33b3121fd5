/- The walk of RasterOwn. -/
import Derived.Test.YtllmckapiplpcaaOwn
namespace Go.Proofs.Ytllmckapiplpcaa
open Go.RowKit

set_option maxRecDepth 100000 in
set_option maxHeartbeats 4000000 in
theorem own_core (W H : Int) (A : Option Addr) (c : Nat) (ps : List Px) (x y p q : Int) (e1 W1 H1 e2 W2 H2 e3 W3 H3 : Int) (L1 L2 L3 : List Px) (w : World) (hp : Pixs w w.heap.size (.slice A ps.length c) ps) (hnil : A = none → c = 0) (hby : ps.length * 32 ≤ 140737488355328)
    (T1 : ∀ w' A' c', Pixs w' w'.heap.size (.slice A' ps.length c') ps → Calls Try.prog 27 #[.agg #[.int .i64 W, .int .i64 H, .slice A' ps.length c'], .agg #[.int .i64 x, .int .i64 y, .int .i64 p, .int .i64 q]] w' (ImPost e1 W1 H1 L1 w'))
    (T2 : ∀ w', Pixs w' w'.heap.size (.slice A ps.length c) ps → Calls Try.prog 29 #[.agg #[.int .i64 W, .int .i64 H, .slice A ps.length c], .agg #[.int .i64 W, .int .i64 H, .slice A ps.length c], .agg #[.int .i64 0, .int .i64 0]] w' (ImPost e2 W2 H2 L2 w'))
    (T3 : ∀ w', Pixs w' w'.heap.size (.slice A ps.length c) ps → Calls Try.prog 31 #[.agg #[.int .i64 W, .int .i64 H, .slice A ps.length c], .int .i64 2] w' (ImPost e3 W3 H3 L3 w')) :
    Calls Try.prog 14 #[.agg #[.int .i64 W, .int .i64 H, .slice A ps.length c], .agg #[.int .i64 x, .int .i64 y, .int .i64 p, .int .i64 q]] w fun e w' => e = .returned (.bool true) ∧ Below w.heap.size w w' := by
  have HP := Lib.hid hp; have HT1 := Lib.hid T1; have HT2 := Lib.hid T2; have HT3 := Lib.hid T3; have HNI := Lib.hid hnil; clear hp T1 T2 T3 hnil
  go_enter Try.func14, Try.ntmps14
  go_upto_region 1 with fail
  obtain ⟨hb1, hb2, hB⟩ := two_boxes w #[.int .i64 W, .int .i64 H, .slice A ps.length c] #[.int .i64 x, .int .i64 y, .int .i64 p, .int .i64 q] 24 37 _ rfl
  generalize World.alloc (World.alloc w _) _ = w0 at *
  go_wp2_with fail
  refine (awake_any _).mono ?_
  rintro e w1 ⟨rfl, hbb⟩
  replace hb1 := hb1.below hbb; replace hb2 := hb2.below hbb; replace hB := bel_trans hB hbb
  clear hbb
  have s1 := hb2.lt
  obtain ⟨⟨j1, j2, j3⟩, -⟩ := hb1.three
  have HPX := Lib.hid (HP.out.on hB)
  go_upto_region 4 with (at_builtin; refine pappend _ rfl _ _ rfl rfl A ps.length c ps rfl rfl HPX.out HNI.out hby ?_; intro v5 w2 hr5 hbb)
  clear j1 j2 j3 HPX
  obtain ⟨A5, c5, rfl⟩ := hr5.shape
  replace hb1 := hb1.below hbb; replace hb2 := hb2.below hbb; replace hB := bel_trans hB hbb
  have s2 := hbb.size
  have K5 := Lib.hid (fun k (hk : (Value.slice A5 ps.length c5).ownBlock = some k) => row_lt hr5 hk)
  clear hbb
  obtain ⟨⟨j1, j2, j3⟩, -⟩ := hb1.three
  obtain ⟨⟨k1, k2, k3, k4⟩, -⟩ := hb2.four
  go_wp2_with fail
  refine (HT1.out _ _ _ (HP.out.on hB)).mono ?_
  rintro e w3 ⟨Aa, na, ca, rfl, hra, hbb⟩
  obtain rfl := hra.pixs.len
  clear j1 j2 j3 k1 k2 k3 k4
  have Ka := Lib.hid (fun k (hk : (Value.slice Aa L1.length ca).ownBlock = some k) => row_lt hra hk)
  have s3 := hbb.size
  replace hb1 := hb1.below hbb; replace hb2 := hb2.below hbb; replace hr5 := hr5.below hbb; replace hB := bel_trans hB hbb; clear hbb
  go_upto_region 5 with fail
  obtain ⟨hb6, hbb, -⟩ := one_box w3 #[.int .i64 W1, .int .i64 H1, .slice Aa L1.length ca] 24 _ rfl
  generalize World.alloc w3 _ = w4 at *
  have s4 := hb6.lt
  replace hb1 := hb1.below hbb; replace hb2 := hb2.below hbb; replace hr5 := hr5.below hbb; replace hra := hra.below hbb; replace hB := bel_trans hB hbb; clear hbb
  obtain ⟨⟨j1, j2, j3⟩, -⟩ := hb1.three
  go_wp2_with fail
  refine (HT2.out _ (HP.out.on hB)).mono ?_
  rintro e w5 ⟨Ab, nb, cb, rfl, hrb, hbb⟩
  obtain rfl := hrb.pixs.len
  clear j1 j2 j3
  have Kb := Lib.hid (fun k (hk : (Value.slice Ab L2.length cb).ownBlock = some k) => row_lt hrb hk)
  have s5 := hbb.size
  replace hb1 := hb1.below hbb; replace hb2 := hb2.below hbb; replace hb6 := hb6.below hbb; replace hr5 := hr5.below hbb; replace hra := hra.below hbb; replace hB := bel_trans hB hbb; clear hbb
  go_upto_region 6 with fail
  obtain ⟨hb8, hbb, -⟩ := one_box w5 #[.int .i64 W2, .int .i64 H2, .slice Ab L2.length cb] 24 _ rfl
  generalize World.alloc w5 _ = w6 at *
  have s6 := hb8.lt
  replace hb1 := hb1.below hbb; replace hb2 := hb2.below hbb; replace hb6 := hb6.below hbb; replace hr5 := hr5.below hbb; replace hra := hra.below hbb; replace hrb := hrb.below hbb; replace hB := bel_trans hB hbb; clear hbb
  obtain ⟨⟨j1, j2, j3⟩, -⟩ := hb1.three
  go_wp2_with fail
  refine (HT3.out _ (HP.out.on hB)).mono ?_
  rintro e w7 ⟨Ac, nc, cc, rfl, hrc, hbb⟩
  obtain rfl := hrc.pixs.len
  clear j1 j2 j3
  have Kc := Lib.hid (fun k (hk : (Value.slice Ac L3.length cc).ownBlock = some k) => row_lt hrc hk)
  have s7 := hbb.size
  replace hb1 := hb1.below hbb; replace hb2 := hb2.below hbb; replace hb6 := hb6.below hbb; replace hb8 := hb8.below hbb; replace hr5 := hr5.below hbb; replace hra := hra.below hbb; replace hrb := hrb.below hbb; replace hB := bel_trans hB hbb; clear hbb
  go_upto_region 7 with fail
  obtain ⟨hb10, hbb, -⟩ := one_box w7 #[.int .i64 W3, .int .i64 H3, .slice Ac L3.length cc] 24 _ rfl
  generalize World.alloc w7 _ = w8 at *
  have s8 := hb10.lt
  replace hb1 := hb1.below hbb; replace hb2 := hb2.below hbb; replace hb6 := hb6.below hbb; replace hb8 := hb8.below hbb; replace hr5 := hr5.below hbb; replace hra := hra.below hbb; replace hrb := hrb.below hbb; replace hrc := hrc.below hbb; replace hB := bel_trans hB hbb; clear hbb
  obtain ⟨⟨j1, j2, j3⟩, -⟩ := hb1.three
  obtain ⟨⟨k1, k2, k3, k4⟩, -⟩ := hb2.four
  go_wp2_with fail
  refine (HT1.out _ _ _ (HP.out.on hB)).mono ?_
  rintro e w9 ⟨Ad, nd, cd, rfl, hrd, hbb⟩
  obtain rfl := hrd.pixs.len
  clear j1 j2 j3 k1 k2 k3 k4
  have Kd := Lib.hid (fun k (hk : (Value.slice Ad L1.length cd).ownBlock = some k) => row_lt hrd hk)
  have s9 := hbb.size
  replace hb1 := hb1.below hbb; replace hb2 := hb2.below hbb; replace hb6 := hb6.below hbb; replace hb8 := hb8.below hbb; replace hb10 := hb10.below hbb; replace hr5 := hr5.below hbb; replace hra := hra.below hbb; replace hrb := hrb.below hbb; replace hrc := hrc.below hbb; replace hB := bel_trans hB hbb; clear hbb
  go_upto_region 8 with fail
  obtain ⟨hb12, hbb, -⟩ := one_box w9 #[.int .i64 W1, .int .i64 H1, .slice Ad L1.length cd] 24 _ rfl
  generalize World.alloc w9 _ = w10 at *
  have s10 := hb12.lt
  replace hb1 := hb1.below hbb; replace hb2 := hb2.below hbb; replace hb6 := hb6.below hbb; replace hb8 := hb8.below hbb; replace hb10 := hb10.below hbb; replace hr5 := hr5.below hbb; replace hra := hra.below hbb; replace hrb := hrb.below hbb; replace hrc := hrc.below hbb; replace hrd := hrd.below hbb; replace hB := bel_trans hB hbb; clear hbb
  obtain ⟨⟨j1, j2, j3⟩, -⟩ := hb6.three
  go_upto_region 9 with fail
  clear j1 j2 j3
  go_loopg [51] L1.length (OwnRel (Value.slice Aa L1.length ca) L1.length w2.heap.size w10)
  case atStart => exact OwnRel.start rfl hra
  case round =>
    obtain ⟨k, hk, rfl, rfl, hgr, l, hll, hrow⟩ := hrel
    have hdx := grown_bx hgr hb6 (fun e => by have := Ka.out _ e.symm; omega)
    by_cases hlt : k < L1.length
    · have hmx : L1.length ≤ 9223372036854775807 := by have := hrow.pixs.max; omega
      obtain ⟨g, cap, ev, hg1, hg2⟩ := FRow.form hrow (by omega)
      injection ev with ev1 ev2 ev3
      subst ev1 ev3
      obtain ⟨⟨j1, j2, j3⟩, -⟩ := hdx.three
      obtain ⟨⟨x1, x2, x3, x4⟩, xf1, xf2, xf3, xf4⟩ := hrow.at4 hlt
      have HR2 := Lib.hid (hrow.put k hlt ⟨1, 2, 3, 4⟩); have HG2 := Lib.hid hgr; have HLL := Lib.hid hll
      clear hrow hgr hll ev2 hdx
      go_wp2_with fail
      go_roundg (L1.length - (k + 1))
      case measure => omega
      case rel => exact ⟨k + 1, by omega, rfl, by go_num, grown_set (grown_set (grown_set (grown_set HG2.out))), _, by rw [List.length_set]; exact HLL.out, HR2.out⟩
    · obtain rfl : k = L1.length := by omega
      clear hdx hrow hll
      have hhb1 := grown_bx hgr hb1 (fun e => by have := Ka.out _ e.symm; omega)
      have hhb2 := grown_bx hgr hb2 (fun e => by have := Ka.out _ e.symm; omega)
      have hhb6 := grown_bx hgr hb6 (fun e => by have := Ka.out _ e.symm; omega)
      have hhb8 := grown_bx hgr hb8 (fun e => by have := Ka.out _ e.symm; omega)
      have hhb10 := grown_bx hgr hb10 (fun e => by have := Ka.out _ e.symm; omega)
      have hhb12 := grown_bx hgr hb12 (fun e => by have := Ka.out _ e.symm; omega)
      have hhr5 := grown_row hgr hr5 (fun k hk e => by have h1 := K5.out _ hk; have h2 := Ka.out _ e.symm; omega)
      have hhrd := grown_row hgr hrd (fun k hk e => by have h1 := Kd.out _ hk; have h2 := Ka.out _ e.symm; omega)
      have hhrb := grown_row hgr hrb (fun k hk e => by have h1 := Kb.out _ hk; have h2 := Ka.out _ e.symm; omega)
      have hhrc := grown_row hgr hrc (fun k hk e => by have h1 := Kc.out _ hk; have h2 := Ka.out _ e.symm; omega)
      have hhB := grown_below hB hgr hB.size (fun k hk => by have := Ka.out _ hk; omega)
      have hhs := hgr.size
      clear hgr hb1 hb2 hb6 hb8 hb10 hb12 hr5 hrd hrb hrc hra hB
      have hb1 := hhb1; clear hhb1
      have hb2 := hhb2; clear hhb2
      have hb6 := hhb6; clear hhb6
      have hb8 := hhb8; clear hhb8
      have hb10 := hhb10; clear hhb10
      have hb12 := hhb12; clear hhb12
      have hr5 := hhr5; clear hhr5
      have hrd := hhrd; clear hhrd
      have hrb := hhrb; clear hhrb
      have hrc := hhrc; clear hhrc
      have hB := hhB; clear hhB
      generalize wr = w11 at *
      obtain ⟨⟨j1, j2, j3⟩, -⟩ := hb8.three
      go_upto_region 14 with fail
      clear j1 j2 j3
      go_loopg [63] L2.length (OwnRel (Value.slice Ab L2.length cb) L2.length w4.heap.size w11)
      case atStart => exact OwnRel.start rfl hrb
      case round =>
        obtain ⟨k, hk, rfl, rfl, hgr, l, hll, hrow⟩ := hrel
        have hdx := grown_bx hgr hb8 (fun e => by have := Kb.out _ e.symm; omega)
        by_cases hlt : k < L2.length
        · have hmx : L2.length ≤ 9223372036854775807 := by have := hrow.pixs.max; omega
          obtain ⟨g, cap, ev, hg1, hg2⟩ := FRow.form hrow (by omega)
          injection ev with ev1 ev2 ev3
          subst ev1 ev3
          obtain ⟨⟨j1, j2, j3⟩, -⟩ := hdx.three
          obtain ⟨⟨x1, x2, x3, x4⟩, xf1, xf2, xf3, xf4⟩ := hrow.at4 hlt
          have HR2 := Lib.hid (hrow.put k hlt ⟨1, 2, 3, 4⟩); have HG2 := Lib.hid hgr; have HLL := Lib.hid hll
          clear hrow hgr hll ev2 hdx
          go_wp2_with fail
          go_roundg (L2.length - (k + 1))
          case measure => omega
          case rel => exact ⟨k + 1, by omega, rfl, by go_num, grown_set (grown_set (grown_set (grown_set HG2.out))), _, by rw [List.length_set]; exact HLL.out, HR2.out⟩
        · obtain rfl : k = L2.length := by omega
          clear hdx hrow hll
          have hhb1 := grown_bx hgr hb1 (fun e => by have := Kb.out _ e.symm; omega)
          have hhb2 := grown_bx hgr hb2 (fun e => by have := Kb.out _ e.symm; omega)
          have hhb8 := grown_bx hgr hb8 (fun e => by have := Kb.out _ e.symm; omega)
          have hhb10 := grown_bx hgr hb10 (fun e => by have := Kb.out _ e.symm; omega)
          have hhb12 := grown_bx hgr hb12 (fun e => by have := Kb.out _ e.symm; omega)
          have hhr5 := grown_row hgr hr5 (fun k hk e => by have h1 := K5.out _ hk; have h2 := Kb.out _ e.symm; omega)
          have hhrd := grown_row hgr hrd (fun k hk e => by have h1 := Kd.out _ hk; have h2 := Kb.out _ e.symm; omega)
          have hhrc := grown_row hgr hrc (fun k hk e => by have h1 := Kc.out _ hk; have h2 := Kb.out _ e.symm; omega)
          have hhB := grown_below hB hgr hB.size (fun k hk => by have := Kb.out _ hk; omega)
          have hhs := hgr.size
          clear hgr hb1 hb2 hb8 hb10 hb12 hr5 hrd hrb hrc hB
          have hb1 := hhb1; clear hhb1
          have hb2 := hhb2; clear hhb2
          have hb8 := hhb8; clear hhb8
          have hb10 := hhb10; clear hhb10
          have hb12 := hhb12; clear hhb12
          have hr5 := hhr5; clear hhr5
          have hrd := hhrd; clear hhrd
          have hrc := hhrc; clear hhrc
          have hB := hhB; clear hhB
          generalize wr = w12 at *
          obtain ⟨⟨j1, j2, j3⟩, -⟩ := hb10.three
          go_upto_region 19 with fail
          clear j1 j2 j3
          go_loopg [75] L3.length (OwnRel (Value.slice Ac L3.length cc) L3.length w6.heap.size w12)
          case atStart => exact OwnRel.start rfl hrc
          case round =>
            obtain ⟨k, hk, rfl, rfl, hgr, l, hll, hrow⟩ := hrel
            have hdx := grown_bx hgr hb10 (fun e => by have := Kc.out _ e.symm; omega)
            by_cases hlt : k < L3.length
            · have hmx : L3.length ≤ 9223372036854775807 := by have := hrow.pixs.max; omega
              obtain ⟨g, cap, ev, hg1, hg2⟩ := FRow.form hrow (by omega)
              injection ev with ev1 ev2 ev3
              subst ev1 ev3
              obtain ⟨⟨j1, j2, j3⟩, -⟩ := hdx.three
              obtain ⟨⟨x1, x2, x3, x4⟩, xf1, xf2, xf3, xf4⟩ := hrow.at4 hlt
              have HR2 := Lib.hid (hrow.put k hlt ⟨1, 2, 3, 4⟩); have HG2 := Lib.hid hgr; have HLL := Lib.hid hll
              clear hrow hgr hll ev2 hdx
              go_wp2_with fail
              go_roundg (L3.length - (k + 1))
              case measure => omega
              case rel => exact ⟨k + 1, by omega, rfl, by go_num, grown_set (grown_set (grown_set (grown_set HG2.out))), _, by rw [List.length_set]; exact HLL.out, HR2.out⟩
            · obtain rfl : k = L3.length := by omega
              clear hdx hrow hll
              have hhb1 := grown_bx hgr hb1 (fun e => by have := Kc.out _ e.symm; omega)
              have hhb2 := grown_bx hgr hb2 (fun e => by have := Kc.out _ e.symm; omega)
              have hhb10 := grown_bx hgr hb10 (fun e => by have := Kc.out _ e.symm; omega)
              have hhb12 := grown_bx hgr hb12 (fun e => by have := Kc.out _ e.symm; omega)
              have hhr5 := grown_row hgr hr5 (fun k hk e => by have h1 := K5.out _ hk; have h2 := Kc.out _ e.symm; omega)
              have hhrd := grown_row hgr hrd (fun k hk e => by have h1 := Kd.out _ hk; have h2 := Kc.out _ e.symm; omega)
              have hhB := grown_below hB hgr hB.size (fun k hk => by have := Kc.out _ hk; omega)
              have hhs := hgr.size
              clear hgr hb1 hb2 hb10 hb12 hr5 hrd hrc hB
              have hb1 := hhb1; clear hhb1
              have hb2 := hhb2; clear hhb2
              have hb10 := hhb10; clear hhb10
              have hb12 := hhb12; clear hhb12
              have hr5 := hhr5; clear hhr5
              have hrd := hhrd; clear hhrd
              have hB := hhB; clear hhB
              generalize wr = w13 at *
              obtain ⟨⟨j1, j2, j3⟩, -⟩ := hb1.three
              obtain ⟨⟨k1, k2, k3, k4⟩, -⟩ := hb2.four
              go_wp2_with fail
              refine (HT1.out _ _ _ hr5.pixs).mono ?_
              rintro e w14 ⟨Ae, ne, ce, rfl, hre, hbb⟩
              clear j1 j2 j3 k1 k2 k3 k4
              replace hb1 := hb1.below hbb; replace hb12 := hb12.below hbb; replace hr5 := hr5.below hbb; replace hrd := hrd.below hbb; replace hB := bel_trans hB hbb; clear hbb
              go_upto_region 24 with fail
              obtain ⟨hb17, hbb, -⟩ := one_box w14 #[.int .i64 W1, .int .i64 H1, .slice Ae ne ce] 24 _ rfl
              have hPe := hre.pixs.on hbb; clear hre
              generalize World.alloc w14 _ = w15 at *
              replace hb1 := hb1.below hbb; replace hb12 := hb12.below hbb; replace hr5 := hr5.below hbb; replace hrd := hrd.below hbb; replace hB := bel_trans hB hbb; clear hbb
              obtain ⟨⟨j1, j2, j3⟩, -⟩ := hb1.three
              go_wp2_with fail
              refine (sm_true _ W H _ _ ps hr5.pixs (HP.out.on hB)).mono ?_
              rintro e w16 ⟨rfl, hbb⟩
              clear j1 j2 j3
              replace hb12 := hb12.below hbb; replace hb17 := hb17.below hbb; replace hrd := hrd.below hbb; replace hPe := hPe.on hbb; replace hB := bel_trans hB hbb; clear hbb
              obtain ⟨⟨j1, j2, j3⟩, -⟩ := hb12.three
              obtain ⟨⟨k1, k2, k3⟩, -⟩ := hb17.three
              go_wp2_with fail
              refine (sm_true _ W1 H1 _ _ L1 hrd.pixs hPe).mono ?_
              rintro e w17 ⟨rfl, hbb⟩
              go_wp2_with fail
              go_ret
              exact ⟨rfl, bel_trans hB hbb⟩
end Go.Proofs.Ytllmckapiplpcaa
