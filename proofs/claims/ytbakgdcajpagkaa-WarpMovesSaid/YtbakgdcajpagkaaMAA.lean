/- raster.Crop as one contract. -/
import Derived.Test.YtbakgdcajpagkaaMZ
import Derived.BigQuiet
import Derived.Deep.QuietTactic
namespace Go.Proofs.Ytbakgdcajpagkaa
open Go.RowKit
section
variable (W H : Int) (A : Option Addr) (c : Nat) (ps : List Px) (w : World) (h : Pixs w w.heap.size (.slice A ps.length c) ps)
include h
theorem crop_any (x y p q : Int) : Calls Try.prog 24 #[.agg #[.int .i64 W, .int .i64 H, .slice A ps.length c], .agg #[.int .i64 x, .int .i64 y, .int .i64 p, .int .i64 q]] w
    (ImOut (cerr (ichk W H ps) x y p q) (cside p q p) (cside p q q) (cropL W H ps x y p q) w) := by
  unfold cerr
  by_cases hc : ichk W H ps = 0
  · rw [if_pos hc]
    by_cases hv : rvalid x y p q = true
    · rw [if_pos hv]
      by_cases g1 : 256 < p
      · rw [if_pos (.inl g1), imOut_err (by omega)]; exact crop_bigw W H A c ps x y p q w h hc hv g1
      · by_cases g2 : 256 < q
        · rw [if_pos (.inr g2), imOut_err (by omega)]; exact crop_bigh W H A c ps x y p q w h hc hv ⟨by omega, g2⟩
        · rw [if_neg (by omega), imOut_ok]
          cases hm : rempty x y p q
          · have hz : ¬ (p = 0 ∨ q = 0) := by unfold rempty at hm; rw [hv] at hm; simp at hm; omega
            unfold cside
            rw [if_neg hz, if_neg hz]
            exact crop_yes W H A c ps x y p q w h hc hv ⟨by omega, by omega⟩ hm
          · have hz : p = 0 ∨ q = 0 := by unfold rempty at hm; rw [hv] at hm; simp at hm; exact hm
            unfold cside
            rw [if_pos hz, if_pos hz, cropL_nil hz]
            exact crop_emp W H A c ps x y p q w h hc hv ⟨by omega, by omega⟩ hm
    · rw [if_neg hv, imOut_err (by omega)]; exact crop_inv W H A c ps x y p q w h hc (by simpa using hv)
  · rw [if_neg hc, imOut_err hc]; exact crop_chk W H A c ps x y p q w h hc
end
end Go.Proofs.Ytbakgdcajpagkaa
namespace Go.Proofs.Ytbakgdcajpagkaa
open Go.RowKit
attribute [local go_sem 2000] run_max2m run_min2m

set_option maxRecDepth 100000 in
set_option maxHeartbeats 2000000 in
theorem put_chk (W H : Int) (A : Option Addr) (c : Nat) (ps : List Px) (pw ph : Int) (A2 : Option Addr) (c2 : Nat) (qs : List Px) (px py : Int) (w : World) (h : Pixs w w.heap.size (.slice A ps.length c) ps) (hc : ichk W H ps ≠ 0) :
    Calls Try.prog 27 #[.agg #[.int .i64 W, .int .i64 H, .slice A ps.length c], .agg #[.int .i64 pw, .int .i64 ph, .slice A2 qs.length c2], .agg #[.int .i64 px, .int .i64 py]] w (ImPost (ichk W H ps) 0 0 [] w) := by
  generalize hE : ichk W H ps = ch at *
  have HC := Lib.hid hE; clear hE
  have hne : (ch != 0) = true := by simp [hc]
  have HP := Lib.hid h; clear h
  go_enter Try.func27, Try.ntmps27
  go_upto_region 1 with fail
  obtain ⟨hb1, hb2, hb3, hb4, hB, hz0⟩ := four_boxes w #[.int .i64 W, .int .i64 H, .slice A ps.length c] #[.int .i64 pw, .int .i64 ph, .slice A2 qs.length c2] #[.int .i64 px, .int .i64 py] #[.int .i64 0, .int .i64 0, .slice none 0 0] 40 40 28 40 _ rfl
  generalize World.alloc (World.alloc (World.alloc (w.alloc _) _) _) _ = w0 at *
  obtain ⟨⟨i1, i2, i3⟩, _, _, _⟩ := hb1.three
  go_wp2_with fail
  refine (icheck_any W H A ps.length c ps _ (HP.out.on hB)).mono ?_
  rintro e w1 ⟨rfl, hb⟩
  replace hb1 := hb1.below hb; replace hb2 := hb2.below hb; replace hb3 := hb3.below hb; replace hb4 := hb4.below hb; replace hB := bel_trans hB hb
  have hz1 := hb.size
  clear i1 i2 i3 hb
  rw [HC.out]
  obtain ⟨⟨r1, r2, r3⟩, rf1, rf2, rf3⟩ := hb4.three
  go_wp2_with fail
  refine bodyPost_ret (v := .tuple #[.agg #[.int .i64 0, .int .i64 0, .slice none 0 0], .int .i64 ch]) (by simp [results, Try.results27, go_sem, r1, r2, r3]) rfl ?_
  exact ⟨_, _, _, rfl, PRow.nil _ _, set3_below hB (by omega) _ _ _⟩
set_option maxRecDepth 100000 in
set_option maxHeartbeats 2000000 in
theorem put_chk2 (W H : Int) (A : Option Addr) (c : Nat) (ps : List Px) (pw ph : Int) (A2 : Option Addr) (c2 : Nat) (qs : List Px) (px py : Int) (w : World) (h : Pixs w w.heap.size (.slice A ps.length c) ps) (h2 : Pixs w w.heap.size (.slice A2 qs.length c2) qs) (hc : ichk W H ps = 0) (hc2 : ichk pw ph qs ≠ 0) :
    Calls Try.prog 27 #[.agg #[.int .i64 W, .int .i64 H, .slice A ps.length c], .agg #[.int .i64 pw, .int .i64 ph, .slice A2 qs.length c2], .agg #[.int .i64 px, .int .i64 py]] w (ImPost (ichk pw ph qs) 0 0 [] w) := by
  generalize hE : ichk pw ph qs = ch at *
  have HC2 := Lib.hid hE; clear hE
  have HC := Lib.hid hc; clear hc
  have hne : (ch != 0) = true := by simp [hc2]
  have HP := Lib.hid h; have HP2 := Lib.hid h2; clear h h2
  go_enter Try.func27, Try.ntmps27
  go_upto_region 1 with fail
  obtain ⟨hb1, hb2, hb3, hb4, hB, hz0⟩ := four_boxes w #[.int .i64 W, .int .i64 H, .slice A ps.length c] #[.int .i64 pw, .int .i64 ph, .slice A2 qs.length c2] #[.int .i64 px, .int .i64 py] #[.int .i64 0, .int .i64 0, .slice none 0 0] 40 40 28 40 _ rfl
  generalize World.alloc (World.alloc (World.alloc (w.alloc _) _) _) _ = w0 at *
  obtain ⟨⟨i1, i2, i3⟩, _, _, _⟩ := hb1.three
  go_wp2_with fail
  refine (icheck_any W H A ps.length c ps _ (HP.out.on hB)).mono ?_
  rintro e w1 ⟨rfl, hb⟩
  replace hb1 := hb1.below hb; replace hb2 := hb2.below hb; replace hb3 := hb3.below hb; replace hb4 := hb4.below hb; replace hB := bel_trans hB hb
  have hz1 := hb.size
  clear i1 i2 i3 hb
  rw [HC.out]
  obtain ⟨⟨i1, i2, i3⟩, _, _, _⟩ := hb2.three
  go_wp2_with fail
  refine (icheck_any pw ph A2 qs.length c2 qs _ (HP2.out.on hB)).mono ?_
  rintro e w2 ⟨rfl, hb⟩
  replace hb1 := hb1.below hb; replace hb2 := hb2.below hb; replace hb3 := hb3.below hb; replace hb4 := hb4.below hb; replace hB := bel_trans hB hb
  have hz2 := hb.size
  clear i1 i2 i3 hb
  rw [HC2.out]
  obtain ⟨⟨r1, r2, r3⟩, rf1, rf2, rf3⟩ := hb4.three
  go_wp2_with fail
  refine bodyPost_ret (v := .tuple #[.agg #[.int .i64 0, .int .i64 0, .slice none 0 0], .int .i64 ch]) (by simp [results, Try.results27, go_sem, r1, r2, r3]) rfl ?_
  exact ⟨_, _, _, rfl, PRow.nil _ _, set3_below hB (by omega) _ _ _⟩
set_option maxRecDepth 100000 in
set_option maxHeartbeats 4000000 in
theorem put_yes (W H : Int) (A : Option Addr) (c : Nat) (ps : List Px) (pw ph : Int) (A2 : Option Addr) (c2 : Nat) (qs : List Px) (px py : Int) (w : World) (h : Pixs w w.heap.size (.slice A ps.length c) ps) (h2 : Pixs w w.heap.size (.slice A2 qs.length c2) qs) (hc : ichk W H ps = 0) (hc2 : ichk pw ph qs = 0) :
    Calls Try.prog 27 #[.agg #[.int .i64 W, .int .i64 H, .slice A ps.length c], .agg #[.int .i64 pw, .int .i64 ph, .slice A2 qs.length c2], .agg #[.int .i64 px, .int .i64 py]] w (ImPost 0 W H (putL W H ps pw ph qs (clampC px) (clampC py)) w) := by
  have hiok := (ichk_iff W H ps).1 hc
  have hpok := (ichk_iff pw ph qs).1 hc2
  have HC := Lib.hid hc; have HC2 := Lib.hid hc2; clear hc hc2
  have hw0 := hiok.w0; have hw1 := hiok.w1; have hh0 := hiok.h0; have hh1 := hiok.h1
  have pw0 := hpok.w0; have pw1 := hpok.w1; have ph0 := hpok.h0; have ph1 := hpok.h1
  have hn := hiok.n; have hl := iok_len hiok
  have pn := hpok.n; have pl := iok_len hpok
  have HPA := Lib.hid (put_all (ax := clampC px) (ay := clampC py) hiok hpok)
  have hcx := clampC_bd px; have hcy := clampC_bd py
  have hex : min (max px (-1048576)) 1048576 = clampC px := rfl
  have hey : min (max py (-1048576)) 1048576 = clampC py := rfl
  generalize clampC px = ax at *
  generalize clampC py = ay at *
  have HSU := Lib.hid (show ∀ k, putN W H pw ax ay ps qs (k + 1) = if 0 ≤ ax + (k : Int) % pw ∧ ax + (k : Int) % pw < W ∧ 0 ≤ ay + (k : Int) / pw ∧ ay + (k : Int) / pw < H
      then (putN W H pw ax ay ps qs k).set ((ay + (k : Int) / pw) * W + (ax + (k : Int) % pw)).toNat (pat qs k) else putN W H pw ax ay ps qs k from fun _ => rfl)
  have HL0 := Lib.hid (show putN W H pw ax ay ps qs 0 = ps from rfl)
  generalize putN W H pw ax ay ps qs = L at *
  clear hiok
  obtain ⟨n, hnn⟩ : ∃ n, ps.length = n := ⟨_, rfl⟩
  have HN := Lib.hid (show W * H = n by omega)
  have hln : n ≤ 65536 := by omega
  have HNN := Lib.hid hnn
  have HPOK := Lib.hid hpok; clear hpok
  rw [hnn] at h ⊢
  have HP := Lib.hid h; have HP2 := Lib.hid h2; clear h h2
  clear hnn hl hn
  go_enter Try.func27, Try.ntmps27
  go_upto_region 1 with fail
  obtain ⟨hb1, hb2, hb3, hb4, hB, hz0⟩ := four_boxes w #[.int .i64 W, .int .i64 H, .slice A n c] #[.int .i64 pw, .int .i64 ph, .slice A2 qs.length c2] #[.int .i64 px, .int .i64 py] #[.int .i64 0, .int .i64 0, .slice none 0 0] 40 40 28 40 _ rfl
  generalize World.alloc (World.alloc (World.alloc (w.alloc _) _) _) _ = w0 at *
  obtain ⟨⟨i1, i2, i3⟩, _, _, _⟩ := hb1.three
  go_wp2_with fail
  refine (icheck_any W H A n c ps _ (HP.out.on hB)).mono ?_
  rintro e w1 ⟨rfl, hb⟩
  replace hb1 := hb1.below hb; replace hb2 := hb2.below hb; replace hb3 := hb3.below hb; replace hb4 := hb4.below hb; replace hB := bel_trans hB hb
  have hz1 := hb.size
  clear i1 i2 i3 hb
  rw [HC.out]
  obtain ⟨⟨i1, i2, i3⟩, _, _, _⟩ := hb2.three
  go_wp2_with fail
  refine (icheck_any pw ph A2 qs.length c2 qs _ (HP2.out.on hB)).mono ?_
  rintro e w2 ⟨rfl, hb⟩
  replace hb1 := hb1.below hb; replace hb2 := hb2.below hb; replace hb3 := hb3.below hb; replace hb4 := hb4.below hb; replace hB := bel_trans hB hb
  have hz2 := hb.size
  clear i1 i2 i3 hb
  rw [HC2.out]
  obtain ⟨⟨i1, i2, i3⟩, _, _, _⟩ := hb1.three
  obtain ⟨⟨j1, j2⟩, _, _⟩ := hb3.two
  go_wp2_with fail
  refine (blank_any W H n _ HN.out hln).mono ?_
  rintro e w3 ⟨g, rfl, hrow, hb⟩
  replace hb1 := hb1.below hb; replace hb2 := hb2.below hb; replace hb4 := hb4.below hb; replace hB := bel_trans hB hb
  have hz3 := hb.size
  have hlo := hrow.lo
  clear i1 i2 i3 j1 j2 hb hb3
  go_upto_region 10 with fail
  obtain ⟨hb5, hB5, hz5⟩ := one_box w3 #[.int .i64 W, .int .i64 H, .slice (some ⟨g, 0, none⟩) n n] 40 _ rfl
  generalize World.alloc w3 _ = w5 at *
  replace hb1 := hb1.below hB5; replace hb2 := hb2.below hB5; replace hb4 := hb4.below hB5; replace hrow := hrow.below hB5; replace hB := bel_trans hB hB5
  obtain ⟨⟨i1, i2, i3⟩, _, _, _⟩ := hb1.three
  obtain ⟨⟨m1, m2, m3⟩, _, _, _⟩ := hb5.three
  have HRW := Lib.hid hrow; have HPX := Lib.hid (HP.out.on hB)
  go_upto_region 11 with (refine pcopy _ (by rfl) _ _ (by rfl) w2.heap.size g n A c ps _ (by rfl) (by rfl) HNN.out HRW.out HPX.out ?_; intro v6 w6 hrow6 hkb6 hz6)
  clear i1 i2 i3 m1 m2 m3
  replace hb1 := hkb6.bx hb1 (by omega) (by omega); replace hb2 := hkb6.bx hb2 (by omega) (by omega); replace hb4 := hkb6.bx hb4 (by omega) (by omega); replace hb5 := hkb6.bx hb5 (by omega) (by omega)
  replace hB := hkb6.toBelow hB (by omega) (by omega)
  clear hkb6 hrow HRW HPX
  have HBB := Lib.hid hB
  obtain ⟨⟨i1, i2, i3⟩, _, _, _⟩ := hb2.three
  go_upto_region 12 with fail
  clear i1 i2 i3
  go_loopg [50] qs.length (PutRel L qs.length g w2.heap.size n w6)
  case atStart => exact ⟨0, Nat.zero_le _, rfl, rfl, by rw [HL0.out]; exact hrow6, KB.refl _ _ _⟩
  case round =>
    obtain ⟨k, hk, rfl, rfl, hrw, hkb⟩ := hrel
    have hkw := hkb.size
    have hlo2 := hrw.lo
    have hd1 := hkb.bx hb1 (by omega) (by omega)
    have hd2 := hkb.bx hb2 (by omega) (by omega)
    have hd4 := hkb.bx hb4 (by omega) (by omega)
    have hd5 := hkb.bx hb5 (by omega) (by omega)
    by_cases hlt : k < qs.length
    · have hkp : k < (pw * ph).toNat := by omega
      have hpw := pos_of hkp pw0
      obtain ⟨⟨pm1, pm2⟩, pd1, pd2⟩ := place_of hkp hpw
      have hpx := (hkb.pixs (HP2.out.below HBB.out) (by omega) (by omega)).more (B' := wr.heap.size) (by omega)
      obtain ⟨A', c', ev, _, hcs⟩ := hpx
      obtain ⟨bb, oo, rfl, hbb, c1, c2', c3, c4⟩ := hcs k hlt
      injection ev with ev1 _ ev3
      subst ev1
      clear hcs ev3
      have HSK := Lib.hid (HSU.out k)
      generalize pat qs k = p at *
      have HKB := Lib.hid hkb; have HRW := Lib.hid hrw
      clear hkb hrw
      go_upto_region 14 with fail
      clear c1 c2' c3 c4
      obtain ⟨hbp, hB7, hz7⟩ := one_box wr #[.int .i64 p.r, .int .i64 p.g, .int .i64 p.b, .int .i64 p.a] 48 _ rfl
      generalize World.alloc wr _ = w7 at *
      replace hd1 := hd1.below hB7; replace hd2 := hd2.below hB7; replace hd5 := hd5.below hB7
      have hr7 := HRW.out.below hB7
      have hk7 := HKB.out.below hB7 (by omega)
      have hk0 : (0 : Int) ≤ (k : Int) := by omega
      have hpz : ¬ pw = 0 := by omega
      have ht1 : (k : Int).tmod pw = (k : Int) % pw := Int.tmod_eq_emod_of_nonneg hk0
      have wr1 : IntKind.i64.wrap (ax + (k : Int) % pw) = ax + (k : Int) % pw := wrap_in _ (by omega)
      have wr2 : IntKind.i64.wrap ((k : Int) / pw) = (k : Int) / pw := wrap_in _ (by omega)
      have wr3 : IntKind.i64.wrap (ay + (k : Int) / pw) = ay + (k : Int) / pw := wrap_in _ (by omega)
      obtain ⟨⟨i1, i2, i3⟩, _, _, _⟩ := hd1.three
      obtain ⟨⟨e1, e2, e3⟩, _, _, _⟩ := hd2.three
      go_quiet (fail)
      have hbX : -2000000 ≤ ax + (k : Int) % pw ∧ ax + (k : Int) % pw ≤ 2000000 := by omega
      have hbY : -2000000 ≤ ay + (k : Int) / pw ∧ ay + (k : Int) / pw ≤ 2000000 := by omega
      clear ht1 wr1 wr2 wr3 pm1 pm2 pd1 pd2 e1 e2 e3
      generalize ax + (k : Int) % pw = X at *
      generalize ay + (k : Int) / pw = Y at *
      replace hd1 : Bx (w7.drewN nq) w.heap.size _ _ := hd1
      replace hbp : Bx (w7.drewN nq) wr.heap.size _ _ := hbp
      replace hd5 : Bx (w7.drewN nq) w3.heap.size _ _ := hd5
      replace hr7 : PRow (w7.drewN nq) w2.heap.size _ _ := hr7
      replace hk7 : KB _ _ _ (w7.drewN nq) := hk7.drewN nq
      clear i1 i2 i3
      generalize w7.drewN nq = w8 at *
      obtain ⟨⟨i1, i2, i3⟩, _, _, _⟩ := hd1.three
      by_cases hin : 0 ≤ X ∧ X < W ∧ 0 ≤ Y ∧ Y < H
      · rw [if_pos hin] at HSK
        have hr := idx_lt hin
        obtain ⟨m, hm⟩ : ∃ m : Nat, Y * W + X = m := ⟨(Y * W + X).toNat, by omega⟩
        have hml : m < n := by have := HN.out; omega
        rw [hm, Int.toNat_natCast] at HSK
        obtain ⟨⟨q1, q2, q3, q4⟩, _, _, _, _⟩ := hbp.four
        obtain ⟨⟨m1, m2, m3⟩, _, _, _⟩ := hd5.three
        obtain ⟨⟨x1, x2, x3, x4⟩, xf1, xf2, xf3, xf4⟩ := hr7.at4 hml
        have HR8 := Lib.hid (hr7.put m hml p); have HK8 := Lib.hid hk7
        clear hr7 hk7 hbp hd5
        go_wp2_with fail
        go_roundg (qs.length - (k + 1))
        case measure => omega
        case rel => exact ⟨k + 1, by omega, rfl, by go_num, by rw [HSK.out]; exact HR8.out, HK8.out.set4 _ _ _ _ _ _ _ _⟩
      · rw [if_neg hin] at HSK
        have HR8 := Lib.hid hr7; have HK8 := Lib.hid hk7
        clear hr7 hk7 hbp hd5
        by_cases g1 : 0 ≤ X
        · by_cases g2 : X < W
          · by_cases g3 : 0 ≤ Y
            · have g4 : ¬ Y < H := by omega
              clear hin
              go_wp2_with fail
              go_roundg (qs.length - (k + 1))
              case measure => omega
              case rel => exact ⟨k + 1, by omega, rfl, by go_num, by rw [HSK.out]; exact HR8.out, HK8.out⟩
            · clear hin
              go_wp2_with fail
              go_roundg (qs.length - (k + 1))
              case measure => omega
              case rel => exact ⟨k + 1, by omega, rfl, by go_num, by rw [HSK.out]; exact HR8.out, HK8.out⟩
          · clear hin
            go_wp2_with fail
            go_roundg (qs.length - (k + 1))
            case measure => omega
            case rel => exact ⟨k + 1, by omega, rfl, by go_num, by rw [HSK.out]; exact HR8.out, HK8.out⟩
        · clear hin
          go_wp2_with fail
          go_roundg (qs.length - (k + 1))
          case measure => omega
          case rel => exact ⟨k + 1, by omega, rfl, by go_num, by rw [HSK.out]; exact HR8.out, HK8.out⟩
    · obtain rfl : k = qs.length := by omega
      obtain ⟨⟨r1, r2, r3⟩, rf1, rf2, rf3⟩ := hd4.three
      obtain ⟨⟨m1, m2, m3⟩, _, _, _⟩ := hd5.three
      rw [HPA.out] at hrw
      have HR := Lib.hid hrw
      have HK := Lib.hid (hkb.toBelow HBB.out (by omega) (by omega))
      clear hrw hkb hd1 hd2 hd4 hd5 hb1 hb2 hb4 hb5 hrow6
      go_wp2_with fail
      refine bodyPost_ret (v := .tuple #[.agg #[.int .i64 W, .int .i64 H, .slice (some ⟨g, 0, none⟩) n n], .int .i64 0]) (by simp [results, Try.results27, go_sem, r1, r2, r3]) rfl ?_
      exact ⟨_, _, _, rfl, HR.out.set3 (by omega) (by omega) _ _ _, set3_below HK.out (by omega) _ _ _⟩
theorem put_any (W H : Int) (A : Option Addr) (c : Nat) (ps : List Px) (pw ph : Int) (A2 : Option Addr) (c2 : Nat) (qs : List Px) (px py : Int) (w : World) (h : Pixs w w.heap.size (.slice A ps.length c) ps) (h2 : Pixs w w.heap.size (.slice A2 qs.length c2) qs) :
    Calls Try.prog 27 #[.agg #[.int .i64 W, .int .i64 H, .slice A ps.length c], .agg #[.int .i64 pw, .int .i64 ph, .slice A2 qs.length c2], .agg #[.int .i64 px, .int .i64 py]] w (ImOut (perr W H ps pw ph qs) W H (putL W H ps pw ph qs (clampC px) (clampC py)) w) := by
  unfold perr
  by_cases hc : ichk W H ps = 0
  · rw [if_pos hc]
    by_cases hc2 : ichk pw ph qs = 0
    · rw [hc2, imOut_ok]; exact put_yes W H A c ps pw ph A2 c2 qs px py w h h2 hc hc2
    · rw [imOut_err hc2]; exact put_chk2 W H A c ps pw ph A2 c2 qs px py w h h2 hc hc2
  · rw [if_neg hc, imOut_err hc]; exact put_chk W H A c ps pw ph A2 c2 qs px py w h hc
end Go.Proofs.Ytbakgdcajpagkaa
