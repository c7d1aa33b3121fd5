/- sample.at: the sample of a source at a position. -/
import Derived.Test.YtineinmghajmnaaME
import Derived.Test.YtineinmghajmnaaMK
import Derived.Test.YtineinmghajmnaaML
import Derived.Test.YtineinmghajmnaaMM
import Derived.Deep.LoopGhost
namespace Go.Proofs.Ytineinmghajmnaa
open Go.RowKit
/-- The sums of a list of weighted pixels lie in a box. -/
def SumAt (w : World) (g : Nat) (l : List (Int × Px)) : Prop := Tt w g (bsA l) (bsR l) (bsG l) (bsB l)
def OuR (px : Int → Int → Px) (fx fy : Int) (us vs : List Int) (g : Nat) (w0 : World) (gh : Nat) (i : Value) (wr : World) : Prop :=
  ∃ k : Nat, k ≤ vs.length ∧ gh = vs.length - k ∧ i = .int .i64 k ∧ SumAt wr g (wpre px fx fy us vs k 0) ∧ KB w0.heap.size g w0 wr
def InR (px : Int → Int → Px) (fx fy : Int) (us vs : List Int) (g : Nat) (w0 : World) (k : Nat) (gh : Nat) (i : Value) (wr : World) : Prop :=
  ∃ j : Nat, j ≤ us.length ∧ gh = us.length - j ∧ i = .int .i64 j ∧ SumAt wr g (wpre px fx fy us vs k j) ∧ KB w0.heap.size g w0 wr
theorem getD_get {l : List Int} {j : Nat} (h : j < l.length) : l[j]? = some (l.getD j 0) := by rw [List.getD_eq_getElem?_getD, List.getElem?_eq_getElem h]; rfl
/-- The sample of a source. -/
def samp (px : Int → Int → Px) (kind x y : Int) : Px := if kind = 0 then px (x / 65536) (y / 65536) else wmean (wpre px (tapFirst kind x) (tapFirst kind y) (taps kind x) (taps kind y) (taps kind y).length 0)
set_option maxRecDepth 100000 in
set_option maxHeartbeats 4000000 in
theorem sat_near (F g : Nat) (x y fx fy : Int) (u : Px) (w : World) (hent : Ent F)
    (C1 : ∀ w, Calls Try.prog 57 #[.int .i64 x, .int .i64 65536] w fun e w' => e = .returned (.int .i64 fx) ∧ w = w') (C2 : ∀ w, Calls Try.prog 57 #[.int .i64 y, .int .i64 65536] w fun e w' => e = .returned (.int .i64 fy) ∧ w = w')
    (FE : ∀ w', Below w.heap.size w w' → Calls Try.prog F #[.int .i64 fx, .int .i64 fy, .pointer (some ⟨g, 0, none⟩)] w' (PxPost u w')) :
    Calls Try.prog 30 #[.func (.func F) #[] #[.pointer (some ⟨g, 0, none⟩)], .int .i64 0, .int .i64 x, .int .i64 y] w (PxPost u w) := by
  replace C1 := Lib.hid C1; replace C2 := Lib.hid C2; replace FE := Lib.hid FE
  unfold Ent at hent
  go_enter Try.func30, Try.ntmps30
  go_upto_region 1 with fail
  obtain ⟨hb8, hB, -⟩ := one_box w #[.int .i64 0, .int .i64 0, .int .i64 0, .int .i64 0] 27 _ rfl
  have HB := Lib.hid hB; have H8 := Lib.hid hb8
  generalize World.alloc w _ = w0 at *
  clear hb8 hB
  go_wp2_with fail
  refine (C1.out _).mono ?_
  rintro e w1 ⟨rfl, rfl⟩
  go_wp2_with fail
  refine (C2.out _).mono ?_
  rintro e w1 ⟨rfl, rfl⟩
  go_wp2_with fail
  refine (FE.out _ HB.out).mono ?_
  rintro e w2 ⟨rfl, hb⟩
  obtain ⟨⟨r1, r2, r3, r4⟩, f1, f2, f3, f4⟩ := (H8.out.below hb).four
  replace HB := Lib.hid (bel_trans HB.out hb)
  clear hb H8
  go_wp2_with fail
  refine bodyPost_ret (v := .agg #[.int .i64 u.r, .int .i64 u.g, .int .i64 u.b, .int .i64 u.a]) (by simp [results, Try.results30, go_sem, r1, r2, r3, r4]) rfl ⟨rfl, ?_⟩
  exact set4_below HB.out (Nat.le_refl _) _ _ _ _ _ _ _ _
set_option maxRecDepth 100000 in
set_option maxHeartbeats 8000000 in
theorem sat_taps (F g : Nat) (kind x y : Int) (px : Int → Int → Px) (w : World) (hk : (kind == 0) = false) (hv : vld kind = true) (hent : Ent F) (hpx : ∀ x y, (px x y).ok)
    (FE : ∀ X Y w', Below w.heap.size w w' → Calls Try.prog F #[.int .i64 X, .int .i64 Y, .pointer (some ⟨g, 0, none⟩)] w' (PxPost (px X Y) w')) :
    Calls Try.prog 30 #[.func (.func F) #[] #[.pointer (some ⟨g, 0, none⟩)], .int .i64 kind, .int .i64 x, .int .i64 y] w (PxPost (wmean (wpre px (tapFirst kind x) (tapFirst kind y) (taps kind x) (taps kind y) (taps kind y).length 0)) w) := by
  replace FE := Lib.hid FE
  unfold Ent at hent
  go_enter Try.func30, Try.ntmps30
  go_upto_region 1 with fail
  obtain ⟨hb8, hB, -⟩ := one_box w #[.int .i64 0, .int .i64 0, .int .i64 0, .int .i64 0] 27 _ rfl
  have HB := Lib.hid hB; have H8 := Lib.hid hb8
  generalize World.alloc w _ = w0 at *
  clear hb8 hB
  go_wp2_with fail
  refine (taps_any kind x _).mono ?_
  rintro e w1 ⟨v, rfl, hU, hb⟩
  obtain ⟨gu, cu, rfl, hgu, hgu2⟩ := hU.form (taps_pos hv)
  replace HB := Lib.hid (bel_trans HB.out hb); replace H8 := Lib.hid (H8.out.below hb)
  clear hb
  go_wp2_with fail
  refine (taps_any kind y _).mono ?_
  rintro e w2 ⟨v, rfl, hV, hb⟩
  obtain ⟨gv, cv', rfl, hgv, hgv2⟩ := hV.form (taps_pos hv)
  replace HB := Lib.hid (bel_trans HB.out hb); replace H8 := Lib.hid (H8.out.below hb)
  replace hU := hU.below hb
  have hgu3 := Nat.lt_of_lt_of_le hgu2 hb.size
  clear hb
  have tu := taps_t kind x; have tv := taps_t kind y
  have fu := tap_first_bd kind x; have fv := tap_first_bd kind y
  obtain ⟨RES, hRES⟩ : ∃ RES, wmean (wpre px (tapFirst kind x) (tapFirst kind y) (taps kind x) (taps kind y) (taps kind y).length 0) = RES := ⟨_, rfl⟩
  have HRES := Lib.hid hRES
  clear hRES
  generalize tapFirst kind x = fx at *
  generalize tapFirst kind y = fy at *
  generalize taps kind x = us at *
  generalize taps kind y = vs at *
  have HTU := Lib.hid tu; have HTV := Lib.hid tv; have HFU := Lib.hid fu; have HFV := Lib.hid fv
  have hul : us.length ≤ 4 := tu.1
  have hvl : vs.length ≤ 4 := tv.1
  clear tu tv fu fv hgu hgv hgu2
  go_upto_region 6 with fail
  have S0 := Lib.hid (show SumAt (w2.alloc (.cells #[.int .u64 0, .int .u64 0, .int .u64 0, .int .u64 0, .int .u64 0, .int .u64 0, .int .i64 0] 84)) w2.heap.size (wpre px fx fy us vs 0 0) from Bx.new w2 84 #[.int .u64 0, .int .u64 0, .int .u64 0, .int .u64 0, .int .u64 0, .int .u64 0, .int .i64 0])
  have HU := Lib.hid (show ∀ j, j < us.length → (w2.alloc (.cells #[.int .u64 0, .int .u64 0, .int .u64 0, .int .u64 0, .int .u64 0, .int .u64 0, .int .i64 0] 84)).cell? ⟨gu, j, none⟩ = some (.int .i64 (us.getD j 0)) from fun j hj => (hU.alloc _).cell (getD_get hj))
  have HV := Lib.hid (show ∀ j, j < vs.length → (w2.alloc (.cells #[.int .u64 0, .int .u64 0, .int .u64 0, .int .u64 0, .int .u64 0, .int .u64 0, .int .i64 0] 84)).cell? ⟨gv, j, none⟩ = some (.int .i64 (vs.getD j 0)) from fun j hj => (hV.alloc _).cell (getD_get hj))
  replace HB := Lib.hid (bel_alloc HB.out (.cells #[.int .u64 0, .int .u64 0, .int .u64 0, .int .u64 0, .int .u64 0, .int .u64 0, .int .i64 0] 84))
  have hlo8 := H8.out.lt
  have hlw : w.heap.size ≤ w2.heap.size := Nat.le_of_lt hlo8
  replace H8 := Lib.hid (H8.out.alloc (.cells #[.int .u64 0, .int .u64 0, .int .u64 0, .int .u64 0, .int .u64 0, .int .u64 0, .int .i64 0] 84))
  have hsz := World.size_alloc w2 (.cells #[.int .u64 0, .int .u64 0, .int .u64 0, .int .u64 0, .int .u64 0, .int .u64 0, .int .i64 0] 84)
  clear hU hV
  generalize World.alloc w2 _ = w3 at *
  generalize w2.heap.size = gt at *
  have HSZ := Lib.hid (show gu < gt ∧ gv < gt ∧ w.heap.size < gt ∧ w3.heap.size = gt + 1 from ⟨hgu3, hgv2, hlo8, hsz⟩)
  clear hgu3 hgv2 hlo8 hsz hlw
  go_wp2_with fail
  go_loopg [40] vs.length (OuR px fx fy us vs gt w3)
  case atStart => exact ⟨0, Nat.zero_le _, rfl, rfl, S0.out, KB.refl _ _ _⟩
  case round =>
    obtain ⟨k, hk', rfl, rfl, hS, hkb⟩ := hrel
    by_cases hkl : k < vs.length
    · have hk0' : (0 : Int) ≤ (k : Int) := by omega
      have hk1' : (k : Int) < (vs.length : Int) := by omega
      have cvk := (hkb.cell (k := gv) (o := k) (by have := HSZ.out; omega) (by have := HSZ.out; omega)).trans (HV.out k hkl)
      have hw2 := HTV.out.2 k
      obtain ⟨v, hvg⟩ : ∃ v, vs.getD k 0 = v := ⟨_, rfl⟩
      rw [hvg] at cvk hw2
      go_upto_region 10 with fail
      clear cvk
      go_loopg [47] us.length (InR px fx fy us vs gt w3 k)
      case atStart => exact ⟨0, Nat.zero_le _, rfl, rfl, hS, hkb⟩
      case round =>
        clear hS hkb
        obtain ⟨j, hj', rfl, rfl, hS, hkb⟩ := hrel
        by_cases hjl : j < us.length
        · have hj0 : (0 : Int) ≤ (j : Int) := by omega
          have hj1 : (j : Int) < (us.length : Int) := by omega
          have cuj := (hkb.cell (k := gu) (o := j) (by have := HSZ.out; omega) (by have := HSZ.out; omega)).trans (HU.out j hjl)
          have HWB := hkb.toBelow HB.out (by have := HSZ.out; omega) HB.out.size
          have FJ := Lib.hid (FE.out (fx + (j : Int)) (fy + (k : Int)) wr HWB)
          have hw := HTU.out.2 j
          have bd2 := wpre_bd (px := px) (fx := fx) (fy := fy) HTU.out.2 HTV.out.2 hpx hul (k := k) (j := j + 1) (by omega) (by omega)
          rw [wpre_step, bsA_snoc] at bd2
          have hcell : wcell px fx fy us vs k j = (us.getD j 0 * v, px (fx + j) (fy + k)) := by unfold wcell; rw [hvg]
          rw [hcell] at bd2
          dsimp only at bd2
          have ST := Lib.hid (show ∀ w', Tt w' gt (bsA (wpre px fx fy us vs k j) + us.getD j 0 * v * (px (fx + j) (fy + k)).a) (bsR (wpre px fx fy us vs k j) + us.getD j 0 * v * (px (fx + j) (fy + k)).a * (px (fx + j) (fy + k)).r) (bsG (wpre px fx fy us vs k j) + us.getD j 0 * v * (px (fx + j) (fy + k)).a * (px (fx + j) (fy + k)).g) (bsB (wpre px fx fy us vs k j) + us.getD j 0 * v * (px (fx + j) (fy + k)).a * (px (fx + j) (fy + k)).b) → SumAt w' gt (wpre px fx fy us vs k (j + 1)) from
            fun w' h => by rw [wpre_step]; unfold SumAt; rw [bsA_snoc, bsR_snoc, bsG_snoc, bsB_snoc, hcell]; exact h)
          have hok := hpx (fx + j) (fy + k)
          have m1 := wrap_in (fx + (j : Int)) (by have := HFU.out; omega); have m2 := wrap_in (fy + (k : Int)) (by have := HFV.out; omega)
          unfold SumAt at hS
          have hA : -4611686018427387904 ≤ bsA (wpre px fx fy us vs k j) + us.getD j 0 * v * (px (fx + j) (fy + k)).a ∧ bsA (wpre px fx fy us vs k j) + us.getD j 0 * v * (px (fx + j) (fy + k)).a ≤ 4611686018427387904 := by
            have b := bd2.1
            exact ⟨by omega, by omega⟩
          clear bd2 hcell HWB
          generalize bsA (wpre px fx fy us vs k j) = sA at *
          generalize bsR (wpre px fx fy us vs k j) = sR at *
          generalize bsG (wpre px fx fy us vs k j) = sG at *
          generalize bsB (wpre px fx fy us vs k j) = sB at *
          generalize px (fx + (j : Int)) (fy + (k : Int)) = p at *
          generalize us.getD j 0 = u at *
          have huv : -4303360000 ≤ u * v ∧ u * v ≤ 4303360000 := by
            rcases Int.le_total 0 u with c0 | c0
            · have h1 : u * v ≤ u * 65600 := Int.mul_le_mul_of_nonneg_left hw2.2 c0
              have h2 : u * (-65600) ≤ u * v := Int.mul_le_mul_of_nonneg_left hw2.1 c0
              omega
            · have h1 : u * 65600 ≤ u * v := Int.mul_le_mul_of_nonpos_left c0 hw2.2
              have h2 : u * v ≤ u * (-65600) := Int.mul_le_mul_of_nonpos_left c0 hw2.1
              omega
          have m3 := wrap_in (u * v) (by omega)
          have AD := Lib.hid (show ∀ w', Below wr.heap.size wr w' → _ from fun w' hb => add_any gt sA sR sG sB (u * v) p w' hok (by omega) hA (Bx.below hS hb))
          have HKB := Lib.hid hkb
          clear hS hkb hA huv hw hok
          go_wp2_with fail
          refine (FJ.out).mono ?_
          rintro e w8 ⟨rfl, hb10⟩
          go_wp2_with fail
          refine (AD.out _ hb10).mono ?_
          rintro e w9 ⟨rfl, hT, hK⟩
          go_wp2_with fail
          go_roundg (us.length - (j + 1))
          case measure => omega
          case rel => exact ⟨j + 1, by omega, rfl, by go_num, ST.out _ hT, (HKB.out.below hb10 HKB.out.size).trans (hK.less (Nat.le_trans HKB.out.size hb10.size))⟩
        · obtain rfl : j = us.length := by omega
          have HS := Lib.hid hS; have HKB := Lib.hid hkb
          clear hS hkb
          go_wp2_with fail
          go_roundg (vs.length - (k + 1))
          case measure => omega
          case rel => exact ⟨k + 1, by omega, rfl, by go_num, by rw [← wpre_row]; exact HS.out, HKB.out⟩
    · obtain rfl : k = vs.length := by omega
      have hbd := wpre_bd (px := px) (fx := fx) (fy := fy) HTU.out.2 HTV.out.2 hpx hul (k := vs.length) (j := 0) hvl (by omega)
      have CP := Lib.hid (show Calls Try.prog 60 #[.pointer (some ⟨gt, 0, none⟩)] wr (PxPost RES wr) from by
        rw [← HRES.out]
        exact pixel_any gt _ _ _ _ wr hS ⟨by omega, by omega⟩ ⟨by omega, by omega⟩ ⟨by omega, by omega⟩ ⟨by omega, by omega⟩)
      have H8' := Lib.hid (hkb.bx H8.out H8.out.lt (by have := HSZ.out; omega))
      have HWB := Lib.hid (hkb.toBelow HB.out (by have := HSZ.out; omega) HB.out.size)
      clear hS hkb hbd
      go_wp2_with fail
      refine (CP.out).mono ?_
      rintro e w8 ⟨rfl, hb⟩
      obtain ⟨⟨r1, r2, r3, r4⟩, f1, f2, f3, f4⟩ := (H8'.out.below hb).four
      replace HWB := Lib.hid (bel_trans HWB.out hb)
      clear hb H8'
      go_wp2_with fail
      refine bodyPost_ret (v := .agg #[.int .i64 RES.r, .int .i64 RES.g, .int .i64 RES.b, .int .i64 RES.a]) (by simp [results, Try.results30, go_sem, r1, r2, r3, r4]) rfl ⟨?_, ?_⟩
      · rw [HRES.out]
      · exact set4_below HWB.out (Nat.le_refl _) _ _ _ _ _ _ _ _
theorem sat_any (F g : Nat) (kind x y : Int) (px : Int → Int → Px) (w : World) (hx : -4398046511104 ≤ x ∧ x ≤ 4398046511104) (hy : -4398046511104 ≤ y ∧ y ≤ 4398046511104) (hv : vld kind = true) (hent : Ent F) (hpx : ∀ x y, (px x y).ok)
    (FE : ∀ X Y w', Below w.heap.size w w' → Calls Try.prog F #[.int .i64 X, .int .i64 Y, .pointer (some ⟨g, 0, none⟩)] w' (PxPost (px X Y) w')) :
    Calls Try.prog 30 #[.func (.func F) #[] #[.pointer (some ⟨g, 0, none⟩)], .int .i64 kind, .int .i64 x, .int .i64 y] w (PxPost (samp px kind x y) w) := by
  unfold samp
  by_cases hk : kind = 0
  · subst hk
    rw [if_pos rfl]
    exact sat_near F g x y _ _ _ w hent (fun w => floor_any x 65536 w (by omega) (by omega) (by omega) (by omega)) (fun w => floor_any y 65536 w (by omega) (by omega) (by omega) (by omega)) (fun w' hb => FE _ _ w' hb)
  · rw [if_neg hk]
    exact sat_taps F g kind x y px w (by simpa using hk) hv hent hpx FE
end Go.Proofs.Ytineinmghajmnaa
