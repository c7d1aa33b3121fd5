/- The reference's sample. -/
import Derived.Test.YtineinmghajmnaaMU
import Derived.Test.YtineinmghajmnaaMF
import Derived.Test.YtineinmghajmnaaMM
import Derived.Deep.LoopGhost
import Derived.Deep.CutBlock
import Derived.StillTailTactics
import Derived.Deep.RegionHeld3
namespace Go.Proofs.Ytineinmghajmnaa
open Go.RowKit
attribute [local go_sem 2000] run_max2m run_min2m
theorem run_fld3 (w : World) (a b c d : Int) : (Instr.field 27 (.agg #[.int .i64 a, .int .i64 b, .int .i64 c, .int .i64 d]) 3).run Try.prog w = .ok (.int .i64 d) w := by
  simp [Instr.field, asAgg, run_underlying Try.underlying27, go_sem]
attribute [local go_sem 2000] run_fld3
set_option maxRecDepth 100000 in
set_option maxHeartbeats 8000000 in
theorem rsamp_near (W H x y cx cy fx fy : Int) (v : Value) (edge : Bool) (u : Px) (w : World) (ex : min (max x (-1099511627776)) 1099511627776 = cx) (ey : min (max y (-1099511627776)) 1099511627776 = cy)
    (C1 : ∀ w, Calls Try.prog 64 #[.int .i64 cx, .int .i64 65536] w fun e w' => e = .returned (.int .i64 fx) ∧ Below w.heap.size w w') (C2 : ∀ w, Calls Try.prog 64 #[.int .i64 cy, .int .i64 65536] w fun e w' => e = .returned (.int .i64 fy) ∧ Below w.heap.size w w')
    (TP : ∀ w', Below w.heap.size w w' → Calls Try.prog 63 #[.agg #[.int .i64 W, .int .i64 H, v], .int .i64 fx, .int .i64 fy, .bool edge] w' (PxPost u w')) :
    Calls Try.prog 34 #[.agg #[.int .i64 W, .int .i64 H, v], .int .i64 0, .int .i64 x, .int .i64 y, .bool edge] w (PxPost u w) := by
  replace C1 := Lib.hid C1; replace C2 := Lib.hid C2; replace TP := Lib.hid TP
  go_enter Try.func34, Try.ntmps34
  go_upto_region 1 with fail
  have K := Lib.hid (fr_two w #[.int .i64 W, .int .i64 H, v] #[.int .i64 0, .int .i64 0, .int .i64 0, .int .i64 0] 24 27 _ rfl)
  generalize World.alloc (World.alloc w _) _ = w0 at *
  go_upto_region 4 with fail
  clear ex ey
  have hb5 := K.out.1.1; have hb10 := K.out.1.2.1; have hB := K.out.2
  have HSA := Lib.hid (show ∀ wq, RSt 27 (w.heap.size + 1) w0 wq → (wq.cell? ⟨w.heap.size, 0, none⟩ = some (.int .i64 W) ∧ wq.cell? ⟨w.heap.size, 1, none⟩ = some (.int .i64 H) ∧ wq.cell? ⟨w.heap.size, 2, none⟩ = some v) ∧ (wq.cell? ⟨w.heap.size + 1, 0, none⟩ = some (cv wq (w.heap.size + 1) 0) ∧ wq.cell? ⟨w.heap.size + 1, 1, none⟩ = some (cv wq (w.heap.size + 1) 1) ∧ wq.cell? ⟨w.heap.size + 1, 2, none⟩ = some (cv wq (w.heap.size + 1) 2) ∧ wq.cell? ⟨w.heap.size + 1, 3, none⟩ = some (cv wq (w.heap.size + 1) 3)) ∧ wq.frozen? ⟨w.heap.size + 1, 0, none⟩ = false ∧ wq.frozen? ⟨w.heap.size + 1, 1, none⟩ = false ∧ wq.frozen? ⟨w.heap.size + 1, 2, none⟩ = false ∧ wq.frozen? ⟨w.heap.size + 1, 3, none⟩ = false from
    fun wq h => ⟨(h.bx hb5 (by omega)).three.1, h.cvs.1, h.cvs.2⟩)
  have HSP := Lib.hid (fun wq (h : RSt 27 (w.heap.size + 1) w0 wq) a b c d => HSA.out _ (h.put a b c d))
  have HC3 := Lib.hid (show ∀ wq, RSt 27 (w.heap.size + 1) w0 wq → Calls Try.prog 63 #[.agg #[.int .i64 W, .int .i64 H, v], .int .i64 fx, .int .i64 fy, .bool edge] wq (PxPost u wq) from fun wq h => TP.out wq (h.bel hB (by omega)))
  have hBv : RSt 27 (w.heap.size + 1) w0 w0.drew := RSt.start hb10
  have hS0 := HSA.out _ hBv
  have HB := Lib.hid hB
  clear hB hb5 hb10 K
  go_region_held3 (fun wq => (wq.cell? ⟨w.heap.size, 0, none⟩ = some (.int .i64 W) ∧ wq.cell? ⟨w.heap.size, 1, none⟩ = some (.int .i64 H) ∧ wq.cell? ⟨w.heap.size, 2, none⟩ = some v) ∧ (wq.cell? ⟨w.heap.size + 1, 0, none⟩ = some (cv wq (w.heap.size + 1) 0) ∧ wq.cell? ⟨w.heap.size + 1, 1, none⟩ = some (cv wq (w.heap.size + 1) 1) ∧ wq.cell? ⟨w.heap.size + 1, 2, none⟩ = some (cv wq (w.heap.size + 1) 2) ∧ wq.cell? ⟨w.heap.size + 1, 3, none⟩ = some (cv wq (w.heap.size + 1) 3)) ∧ wq.frozen? ⟨w.heap.size + 1, 0, none⟩ = false ∧ wq.frozen? ⟨w.heap.size + 1, 1, none⟩ = false ∧ wq.frozen? ⟨w.heap.size + 1, 2, none⟩ = false ∧ wq.frozen? ⟨w.heap.size + 1, 3, none⟩ = false)
    (first | assumption | exact hS0 | exact HSA.out _ hBv | exact HSP.out _ hBv _ _ _ _ | go_keep)
    (first | ((with_reducible refine (C1.out _).mono ?_); rintro e wv ⟨rfl, hbv⟩; have hBv := RSt.call hBv hbv) | ((with_reducible refine (C2.out _).mono ?_); rintro e wv ⟨rfl, hbv⟩; have hBv := RSt.call hBv hbv) | ((with_reducible refine (HC3.out _ hBv).mono ?_); rintro e wv ⟨rfl, hbv⟩; have hBv := RSt.call hBv hbv))
  obtain ⟨⟨r1, r2, r3, r4⟩, f1, f2, f3, f4⟩ := hBv.cvs
  go_wp2_with fail
  refine bodyPost_ret (v := .agg #[.int .i64 u.r, .int .i64 u.g, .int .i64 u.b, .int .i64 u.a]) (by simp [results, Try.results34, go_sem, r1, r2, r3, r4]) rfl ⟨rfl, ?_⟩
  exact set4_below (hBv.bel HB.out (by omega)) (by omega) _ _ _ _ _ _ _ _
def R1Rel (px : Int → Int → Px) (fx fy : Int) (us vs : List Int) (w0 : World) (gh : Nat) (s i : Value) (wr : World) : Prop := ∃ k : Nat, k ≤ vs.length ∧ gh = vs.length - k ∧ s = .int .i64 (bsA (wpre px fx fy us vs k 0)) ∧ i = .int .i64 k ∧ Below w0.heap.size w0 wr
def R2Rel (px : Int → Int → Px) (fx fy : Int) (us vs : List Int) (k : Nat) (w0 : World) (gh : Nat) (s i : Value) (wr : World) : Prop := ∃ j : Nat, j ≤ us.length ∧ gh = us.length - j ∧ s = .int .i64 (bsA (wpre px fx fy us vs k j)) ∧ i = .int .i64 j ∧ Below w0.heap.size w0 wr
def R3Rel (xs : List Int) (w0 : World) (gh : Nat) (v i : Value) (wr : World) : Prop := ∃ k : Nat, k ≤ 3 ∧ gh = 3 - k ∧ i = .int .i64 k ∧ IRow wr w0.heap.size v (xs.take k) ∧ Below w0.heap.size w0 wr
def R4Rel (vs : List Int) (R : Nat → Int) (w0 : World) (gh : Nat) (p q i : Value) (wr : World) : Prop := ∃ k : Nat, k ≤ vs.length ∧ gh = vs.length - k ∧ p = .int .i64 (wholeS vs R k) ∧ q = .int .i64 (restS vs R k) ∧ i = .int .i64 k ∧ Below w0.heap.size w0 wr
def R5Rel (us : List Int) (f : Nat → Px) (c : Nat) (w0 : World) (gh : Nat) (s i : Value) (wr : World) : Prop := ∃ j : Nat, j ≤ us.length ∧ gh = us.length - j ∧ s = .int .i64 (rowS us f c j) ∧ i = .int .i64 j ∧ Below w0.heap.size w0 wr
theorem uv_bd {u v : Int} (hu : -65600 ≤ u ∧ u ≤ 65600) (hv : -65600 ≤ v ∧ v ≤ 65600) : -4303360000 ≤ u * v ∧ u * v ≤ 4303360000 := by
  have := mul_both hu hv (by omega)
  omega
set_option maxRecDepth 100000 in
set_option maxHeartbeats 16000000 in
theorem rsamp_taps (W H kind x y cx cy : Int) (v : Value) (edge : Bool) (px : Int → Int → Px) (w : World) (ex : min (max x (-1099511627776)) 1099511627776 = cx) (ey : min (max y (-1099511627776)) 1099511627776 = cy)
    (hk : (kind == 0) = false) (hv : vld kind = true) (hpx : ∀ x y, (px x y).ok)
    (TP : ∀ X Y w', Below w.heap.size w w' → Calls Try.prog 63 #[.agg #[.int .i64 W, .int .i64 H, v], .int .i64 X, .int .i64 Y, .bool edge] w' (PxPost (px X Y) w')) :
    Calls Try.prog 34 #[.agg #[.int .i64 W, .int .i64 H, v], .int .i64 kind, .int .i64 x, .int .i64 y, .bool edge] w (PxPost (wmean (wpre px (tapFirst kind cx) (tapFirst kind cy) (taps kind cx) (taps kind cy) (taps kind cy).length 0)) w) := by
  replace TP := Lib.hid TP
  go_enter Try.func34, Try.ntmps34
  go_upto_region 1 with fail
  have K := Lib.hid (fr_two w #[.int .i64 W, .int .i64 H, v] #[.int .i64 0, .int .i64 0, .int .i64 0, .int .i64 0] 24 27 _ rfl)
  generalize World.alloc (World.alloc w _) _ = w0 at *
  go_wp2_with fail
  clear ex ey
  refine (rtaps_any kind cx _).mono ?_
  rintro e w1 ⟨vu, rfl, hU, hb⟩
  obtain ⟨gu, cu, rfl, hgu, hgu2⟩ := hU.form (taps_pos hv)
  replace K := Lib.hid (K.out.below hb)
  clear hb
  go_wp2_with fail
  refine (rtaps_any kind cy _).mono ?_
  rintro e w2 ⟨vv, rfl, hV, hb⟩
  obtain ⟨gv, cv', rfl, hgv, hgv2⟩ := hV.form (taps_pos hv)
  replace K := Lib.hid (K.out.below hb)
  replace hU := hU.below hb
  have hgu3 := Nat.lt_of_lt_of_le hgu2 hb.size
  clear hb
  have tu := taps_t kind cx; have tv := taps_t kind cy
  have fu := tap_first_bd kind cx; have fv := tap_first_bd kind cy
  obtain ⟨RES, hRES⟩ : ∃ RES, wmean (wpre px (tapFirst kind cx) (tapFirst kind cy) (taps kind cx) (taps kind cy) (taps kind cy).length 0) = RES := ⟨_, rfl⟩
  have HRES := Lib.hid hRES
  clear hRES
  generalize tapFirst kind cx = fx at *
  generalize tapFirst kind cy = fy at *
  generalize taps kind cx = us at *
  generalize taps kind cy = vs at *
  have HTU := Lib.hid tu; have HTV := Lib.hid tv; have HFU := Lib.hid fu; have HFV := Lib.hid fv
  have hul : us.length ≤ 4 := tu.1
  have hvl : vs.length ≤ 4 := tv.1
  have HU := Lib.hid (show ∀ wq, Below w2.heap.size w2 wq → ∀ j, j < us.length → wq.cell? ⟨gu, j, none⟩ = some (.int .i64 (us.getD j 0)) from fun wq hq j hj => (hq.cell (p := ⟨gu, j, none⟩) hgu3).trans (hU.cell (getD_get hj)))
  have HV := Lib.hid (show ∀ wq, Below w2.heap.size w2 wq → ∀ j, j < vs.length → wq.cell? ⟨gv, j, none⟩ = some (.int .i64 (vs.getD j 0)) from fun wq hq j hj => (hq.cell (p := ⟨gv, j, none⟩) hgv2).trans (hV.cell (getD_get hj)))
  have KK := Lib.hid (show ∀ wq, Below w2.heap.size w2 wq → Fr w _ wq from fun wq hb => K.out.below hb)
  have hlo := K.out.1.2.1.lt
  clear tu tv fu fv hgu hgv hgu2 hgu3 hgv2 hU hV K
  go_wp2_with fail
  go_loopg [17, 18] vs.length (R1Rel px fx fy us vs w2)
  case atStart => exact ⟨0, Nat.zero_le _, rfl, rfl, rfl, Below.refl _ _⟩
  case round =>
    obtain ⟨k, hk', rfl, rfl, rfl, hbr⟩ := hrel
    by_cases hkl : k < vs.length
    · have hk0' : (0 : Int) ≤ (k : Int) := by omega
      have hk1' : (k : Int) < (vs.length : Int) := by omega
      go_upto_region 12 with fail
      go_loopg [17, 19] us.length (R2Rel px fx fy us vs k w2)
      case atStart => exact ⟨0, Nat.zero_le _, rfl, rfl, rfl, hbr⟩
      case round =>
        clear hbr
        obtain ⟨j, hj', rfl, rfl, rfl, hbr⟩ := hrel
        by_cases hjl : j < us.length
        · have hj0 : (0 : Int) ≤ (j : Int) := by omega
          have hj1 : (j : Int) < (us.length : Int) := by omega
          have hw := HTU.out.2 j; have hw2 := HTV.out.2 k
          have bd1 := (wpre_bd (px := px) (fx := fx) (fy := fy) HTU.out.2 HTV.out.2 hpx hul (k := k) (j := j) (by omega) (by omega)).1
          have hok := hpx (fx + j) (fy + k)
          have HS := Lib.hid (show bsA (wpre px fx fy us vs k (j + 1)) = bsA (wpre px fx fy us vs k j) + us.getD j 0 * vs.getD k 0 * (px (fx + j) (fy + k)).a by rw [wpre_step, bsA_snoc]; rfl)
          have HSA := Lib.hid (show ∀ wq, Below wr.heap.size wr wq → (wq.cell? ⟨gu, j, none⟩ = some (.int .i64 (us.getD j 0)) ∧ wq.cell? ⟨gv, k, none⟩ = some (.int .i64 (vs.getD k 0))) ∧ wq.cell? ⟨w.heap.size, 0, none⟩ = some (.int .i64 W) ∧ wq.cell? ⟨w.heap.size, 1, none⟩ = some (.int .i64 H) ∧ wq.cell? ⟨w.heap.size, 2, none⟩ = some v from
            fun wq hq => ⟨⟨HU.out _ (bel_trans hbr hq) j hjl, HV.out _ (bel_trans hbr hq) k hkl⟩, (KK.out _ (bel_trans hbr hq)).1.1.three.1⟩)
          have FJ := Lib.hid (show ∀ wq, Below wr.heap.size wr wq → Calls Try.prog 63 #[.agg #[.int .i64 W, .int .i64 H, v], .int .i64 (fx + (j : Int)), .int .i64 (fy + (k : Int)), .bool edge] wq (PxPost (px (fx + (j : Int)) (fy + (k : Int))) wq) from fun wq hq => TP.out (fx + (j : Int)) (fy + (k : Int)) wq (KK.out _ (bel_trans hbr hq)).2)
          have m1 := wrap_in (fx + (j : Int)) (by have := HFU.out; omega); have m2 := wrap_in (fy + (k : Int)) (by have := HFV.out; omega)
          have huv := uv_bd hw hw2
          generalize bsA (wpre px fx fy us vs k j) = sA at *
          generalize px (fx + (j : Int)) (fy + (k : Int)) = p at *
          generalize us.getD j 0 = u at *
          generalize vs.getD k 0 = v2 at *
          have huva := mul_small huv hok.2.2.2 (by omega)
          have m3 := wrap_in (u * v2) (by omega); have m4 := wrap_in (u * v2 * p.a) (by omega); have m5 := wrap_in (sA + u * v2 * p.a) (by omega)
          have hBv : Below wr.heap.size wr wr.drew := (Below.refl _ _).drew
          have hS0 := HSA.out _ hBv
          have HBR := Lib.hid hbr
          clear hbr hw hw2 bd1 hok huv huva
          go_upto_region 14 with fail
          go_region_held3 (fun wq => (wq.cell? ⟨gu, j, none⟩ = some (.int .i64 u) ∧ wq.cell? ⟨gv, k, none⟩ = some (.int .i64 v2)) ∧ wq.cell? ⟨w.heap.size, 0, none⟩ = some (.int .i64 W) ∧ wq.cell? ⟨w.heap.size, 1, none⟩ = some (.int .i64 H) ∧ wq.cell? ⟨w.heap.size, 2, none⟩ = some v)
            (first | assumption | exact hS0 | exact HSA.out _ hBv | go_keep)
            (first | ((with_reducible refine (FJ.out _ hBv).mono ?_); rintro e wv ⟨rfl, hbv⟩; have hBv := bel_trans hBv hbv))
          have HBZ := Lib.hid (bel_trans HBR.out hBv)
          clear hBv hS0 m1 m2 m3 m4 m5
          go_wp2_with fail
          go_roundg (us.length - (j + 1))
          case measure => omega
          case rel => exact ⟨j + 1, by omega, rfl, by rw [HS.out], by go_num, HBZ.out⟩
        · obtain rfl : j = us.length := by omega
          have HBZ := Lib.hid hbr
          clear hbr
          go_wp2_with fail
          go_roundg (vs.length - (k + 1))
          case measure => omega
          case rel => exact ⟨k + 1, by omega, rfl, by rw [← wpre_row], by go_num, HBZ.out⟩
    · obtain rfl : k = vs.length := by omega
      have bd1 := (wpre_bd (px := px) (fx := fx) (fy := fy) HTU.out.2 HTV.out.2 hpx hul (k := vs.length) (j := 0) hvl (by omega)).1
      have HALL := Lib.hid (fun c => bsC_all (px := px) (fx := fx) (fy := fy) (us := us) (vs := vs) c vs.length)
      obtain ⟨L, hL⟩ : ∃ L, wpre px fx fy us vs vs.length 0 = L := ⟨_, rfl⟩
      rw [hL] at bd1 HALL
      have HL0 := Lib.hid hL
      rw [hL]
      clear hL
      obtain ⟨T, hT⟩ : ∃ T, bsA L = T := ⟨_, rfl⟩
      rw [hT] at bd1
      rw [hT]
      obtain ⟨al, hal⟩ : ∃ al, lim16 (rdiv T 4294967296) = al := ⟨_, rfl⟩
      have hz : al ≠ 0 → 2147483648 ≤ T := fun h => by
        have hs := rdiv_spec T 4294967296 (by omega)
        rcases Int.lt_or_le T 2147483648 with c | c
        · exfalso; apply h
          rw [← hal]
          have : rdiv T 4294967296 ≤ 0 := by omega
          unfold lim16; omega
        · exact c
      have DV := Lib.hid (fun w' => rdiv_any T 4294967296 w' (by omega) (by omega) (by omega) (by omega))
      have hUU := Lib.hid (show ∀ w', Calls Try.prog 66 #[.int .i64 (rdiv T 4294967296)] w' fun e w'' => e = .returned (.int .i64 al) ∧ w' = w'' from fun w' => by rw [← hal]; exact rlim14_any _ _)
      have HBL := Lib.hid (show RES = if al = 0 then Px.zero else ⟨lim16 (rdiv (bsR L) T), lim16 (rdiv (bsG L) T), lim16 (rdiv (bsB L) T), al⟩ by rw [← HRES.out, HL0.out]; unfold wmean blend; rw [hT, hal])
      generalize rdiv T 4294967296 = R0 at *
      clear hal hT
      go_wp2_with fail
      refine (DV.out _).mono ?_
      rintro e w' ⟨rfl, m2, rfl⟩
      go_wp2_with fail
      refine (hUU.out _).mono ?_
      rintro e w' ⟨rfl, rfl⟩
      replace hbr := Below.drewN' hbr m2
      clear DV hUU
      generalize wr.drewN m2 = w3 at *
      by_cases ha : al = 0
      · have hz2 : (al == 0) = true := by simp [ha]
        replace HBL := Lib.hid (HBL.out.trans (if_pos ha))
        obtain ⟨⟨r1, r2, r3, r4⟩, f1, f2, f3, f4⟩ := (KK.out _ hbr).1.2.1.four
        have HB := Lib.hid (KK.out _ hbr).2
        clear ha hz hbr
        go_wp2_with fail
        refine bodyPost_ret (v := .agg #[.int .i64 0, .int .i64 0, .int .i64 0, .int .i64 0]) (by simp [results, Try.results34, go_sem, r1, r2, r3, r4]) rfl ⟨?_, ?_⟩
        · rw [HRES.out, HBL.out]; rfl
        · exact set4_below HB.out (by omega) _ _ _ _ _ _ _ _
      · have hT1 := hz ha
        have hz2 : (al == 0) = false := by simp [ha]
        replace HBL := Lib.hid (HBL.out.trans (if_neg ha))
        clear hz ha
        obtain ⟨xs, hxs⟩ : ∃ xs : List Int, [lim16 (rdiv (bsR L) T), lim16 (rdiv (bsG L) T), lim16 (rdiv (bsB L) T)] = xs := ⟨_, rfl⟩
        have HX3 := Lib.hid (show xs.length = 3 by rw [← hxs]; rfl)
        have HXK := Lib.hid (show ∀ c, c < 3 → lim16 (rdiv (65536 * wholeS vs (fun k => rowS us (fun j => px (fx + j) (fy + k)) c us.length) vs.length + restS vs (fun k => rowS us (fun j => px (fx + j) (fy + k)) c us.length) vs.length) T) = xs.getD c 0 from fun c hc => by
          rw [← HALL.out c, ← hxs]
          match c, hc with
          | 0, _ => rw [bsC_0]; rfl
          | 1, _ => rw [bsC_1]; rfl
          | 2, _ => rw [bsC_2]; rfl)
        replace HBL := Lib.hid (show RES = ⟨xs.getD 0 0, xs.getD 1 0, xs.getD 2 0, al⟩ by rw [HBL.out, ← hxs]; rfl)
        have HT := Lib.hid (And.intro hT1 bd1)
        clear hxs bd1 HALL hT1
        have HB3 := Lib.hid hbr
        clear hbr
        go_upto_region 20 with fail
        go_loopg [21, 22] 3 (R3Rel xs w3)
        case atStart => exact ⟨0, by omega, rfl, rfl, IRow.nil _ _, Below.refl _ _⟩
        case round =>
          obtain ⟨c, hc, rfl, rfl, hrow, hbc⟩ := hrel
          by_cases hc3 : c < 3
          · have hc0 : (0 : Int) ≤ (c : Int) := by omega
            have hc1 : (c : Int) < 3 := by omega
            have HROW := Lib.hid hrow; have HBC := Lib.hid hbc
            have HB5 := Lib.hid (bel_trans HB3.out hbc)
            clear hrow hbc
            obtain ⟨R, hR⟩ : ∃ R : Nat → Int, (fun k : Nat => rowS us (fun j => px (fx + j) (fy + k)) c us.length) = R := ⟨_, rfl⟩
            have HR := Lib.hid (show ∀ k : Nat, rowS us (fun j => px (fx + j) (fy + k)) c us.length = R k from fun k => by rw [← hR])
            have hRb : ∀ k, -1126966626240000 ≤ R k ∧ R k ≤ 1126966626240000 := fun k => by
              rw [← hR]
              have := (rowS_bd HTU.out.2 (f := fun j => px (fx + j) (fy + k)) (fun j => hpx _ _) c us.length).1
              have hl : ((us.length : Nat) : Int) ≤ 4 := by omega
              dsimp only
              omega
            have HXc := Lib.hid (HXK.out c hc3)
            rw [hR] at HXc
            have HRb := Lib.hid hRb
            clear hR hRb
            go_upto_region 25 with fail
            go_loopg [23, 24, 25] vs.length (R4Rel vs R wr)
            case atStart => exact ⟨0, Nat.zero_le _, rfl, rfl, rfl, rfl, Below.refl _ _⟩
            case round =>
              obtain ⟨k, hk2, rfl, rfl, rfl, rfl, hb4⟩ := hrel
              by_cases hkl : k < vs.length
              · have hk0 : (0 : Int) ≤ (k : Int) := by omega
                have hk1 : (k : Int) < (vs.length : Int) := by omega
                have HB6 := Lib.hid (bel_trans HB5.out hb4)
                have HB4 := Lib.hid hb4
                clear hb4
                go_upto_region 29 with fail
                go_loopg [26, 27] us.length (R5Rel us (fun j => px (fx + j) (fy + k)) c wr)
                case atStart => exact ⟨0, Nat.zero_le _, rfl, rfl, rfl, Below.refl _ _⟩
                case round =>
                  obtain ⟨j, hj2, rfl, rfl, rfl, hb7⟩ := hrel
                  by_cases hjl : j < us.length
                  · have hj0 : (0 : Int) ≤ (j : Int) := by omega
                    have hj1 : (j : Int) < (us.length : Int) := by omega
                    have hb8 := bel_trans HB6.out hb7
                    have hw := HTU.out.2 j
                    have hok := hpx (fx + j) (fy + k)
                    have hrb := rowS_bd HTU.out.2 (f := fun j => px (fx + j) (fy + k)) (fun j => hpx _ _) c j
                    have HS := Lib.hid (show rowS us (fun j => px (fx + j) (fy + k)) c (j + 1) = rowS us (fun j => px (fx + j) (fy + k)) c j + us.getD j 0 * chn c (px (fx + j) (fy + k)) * (px (fx + j) (fy + k)).a from rfl)
                    have FJ := Lib.hid (TP.out (fx + (j : Int)) (fy + (k : Int)) wr (KK.out _ hb8).2)
                    have cuj := HU.out _ hb8 j hjl
                    have HCU := Lib.hid (show ∀ wq, Below w2.heap.size w2 wq → wq.cell? ⟨gu, j, none⟩ = some (.int .i64 (us.getD j 0)) from fun wq hq => HU.out wq hq j hjl)
                    have m1 := wrap_in (fx + (j : Int)) (by have := HFU.out; omega); have m2 := wrap_in (fy + (k : Int)) (by have := HFV.out; omega)
                    obtain ⟨⟨i1, i2, i3⟩, -⟩ := (KK.out _ hb8).1.1.three
                    generalize rowS us (fun j => px (fx + j) (fy + k)) c j = sR at *
                    generalize px (fx + (j : Int)) (fy + (k : Int)) = p at *
                    generalize us.getD j 0 = u at *
                    have HBZ := Lib.hid hb7
                    have hl4 : ((j : Nat) : Int) ≤ 4 := by omega
                    have m3 := wrap_in (u * chn c p) (by omega); have m4 := wrap_in (u * chn c p * p.a) (by omega); have m5 := wrap_in (sR + u * chn c p * p.a) (by omega)
                    have CV := Lib.hid (fun w' => rvalue_any p c hc3 w')
                    generalize chn c p = q at *
                    clear hb7 hb8 hw hok hrb
                    go_wp2_with fail
                    refine (FJ.out).mono ?_
                    rintro e w8 ⟨rfl, hb⟩
                    clear i1 i2 i3 m1 m2 FJ
                    go_upto_region 32 with fail
                    have H28 := Bx.new w8 27 #[.int .i64 p.r, .int .i64 p.g, .int .i64 p.b, .int .i64 p.a]
                    have hb9 := bel_alloc hb (.cells #[.int .i64 p.r, .int .i64 p.g, .int .i64 p.b, .int .i64 p.a] 27)
                    have hBW := bel_trans HBZ.out hb9
                    replace HBZ := Lib.hid hBW
                    clear hb hb9 cuj
                    generalize World.alloc w8 _ = w9 at *
                    generalize w8.heap.size = g28 at *
                    have HSA := Lib.hid (show ∀ wq, Below w9.heap.size w9 wq → wq.cell? ⟨gu, j, none⟩ = some (.int .i64 u) ∧ wq.cell? ⟨g28, 0, none⟩ = some (.int .i64 p.r) ∧ wq.cell? ⟨g28, 1, none⟩ = some (.int .i64 p.g) ∧ wq.cell? ⟨g28, 2, none⟩ = some (.int .i64 p.b) ∧ wq.cell? ⟨g28, 3, none⟩ = some (.int .i64 p.a) from
                      fun wq hq => ⟨HCU.out _ (bel_trans (bel_trans HB6.out hBW) hq), (H28.below hq).four.1⟩)
                    have hBv : Below w9.heap.size w9 w9.drew := (Below.refl _ _).drew
                    have hS0 := HSA.out _ hBv
                    clear H28 hBW HCU
                    go_region_held3 (fun wq => wq.cell? ⟨gu, j, none⟩ = some (.int .i64 u) ∧ wq.cell? ⟨g28, 0, none⟩ = some (.int .i64 p.r) ∧ wq.cell? ⟨g28, 1, none⟩ = some (.int .i64 p.g) ∧ wq.cell? ⟨g28, 2, none⟩ = some (.int .i64 p.b) ∧ wq.cell? ⟨g28, 3, none⟩ = some (.int .i64 p.a))
                      (first | assumption | exact hS0 | exact HSA.out _ hBv | go_keep)
                      (first | ((with_reducible refine (CV.out _).mono ?_); rintro e wv ⟨rfl, hbv⟩; have hBv := bel_trans hBv hbv))
                    have HBY := Lib.hid (bel_trans HBZ.out hBv)
                    clear hBv hS0 m3 m4 m5
                    go_wp2_with fail
                    go_roundg (us.length - (j + 1))
                    case measure => omega
                    case rel => exact ⟨j + 1, by omega, rfl, by rw [HS.out], by go_num, HBY.out⟩
                  · obtain rfl : j = us.length := by omega
                    rw [HR.out k]
                    have hRb := HRb.out k
                    have hwb := wholeS_bd HTV.out.2 HRb.out k
                    have hv2 := HTV.out.2 k
                    have cvk := HV.out _ (bel_trans HB6.out hb7) k hkl
                    have FL := Lib.hid (fun w' => rfloor_any (R k) 65536 w' (by omega) (by omega) (by omega) (by omega))
                    have HW1 := Lib.hid (show wholeS vs R (k + 1) = wholeS vs R k + vs.getD k 0 * (R k / 65536) from rfl)
                    have HW2 := Lib.hid (show restS vs R (k + 1) = restS vs R k + vs.getD k 0 * (R k - R k / 65536 * 65536) from rfl)
                    generalize wholeS vs R k = sW at *
                    generalize restS vs R k = sZ at *
                    generalize vs.getD k 0 = v2 at *
                    generalize R k = r at *
                    have hl4 : ((k : Nat) : Int) ≤ 4 := by omega
                    have m1 := wrap_in (v2 * (r / 65536)) (by omega); have m2 := wrap_in (sW + v2 * (r / 65536)) (by omega)
                    have m3 := wrap_in (r / 65536 * 65536) (by omega); have m4 := wrap_in (r - r / 65536 * 65536) (by omega); have m5 := wrap_in (v2 * (r - r / 65536 * 65536)) (by omega); have m6 := wrap_in (sZ + v2 * (r - r / 65536 * 65536)) (by omega)
                    have HBZ := Lib.hid (bel_trans HB4.out hb7)
                    clear hRb hwb hv2 hb7
                    go_wp2_with fail
                    refine (FL.out _).mono ?_
                    rintro e w8 ⟨rfl, m7, rfl⟩
                    replace cvk : (wr.drewN m7).cell? ⟨gv, k, none⟩ = some (.int .i64 v2) := cvk
                    replace HBZ := Lib.hid (Below.drewN' HBZ.out m7)
                    generalize wr.drewN m7 = w9 at *
                    go_wp2_with fail
                    go_roundg (vs.length - (k + 1))
                    case measure => omega
                    case rel => exact ⟨k + 1, by omega, rfl, by rw [HW1.out], by rw [HW2.out], by go_num, HBZ.out⟩
              · obtain rfl : k = vs.length := by omega
                have hwb := wholeS_bd HTV.out.2 HRb.out vs.length
                have hl4 : ((vs.length : Nat) : Int) ≤ 4 := by omega
                obtain ⟨hT1, hT2⟩ := HT.out
                have QT := Lib.hid (fun w' => rquo14_any (wholeS vs R vs.length) (restS vs R vs.length) T w' (by omega) (by omega) (by omega))
                obtain ⟨z, hz⟩ : ∃ z, xs.getD c 0 = z := ⟨_, rfl⟩
                have HXc2 := HXc.out.trans hz
                generalize rdiv (65536 * wholeS vs R vs.length + restS vs R vs.length) T = z0 at *
                have LM := Lib.hid (show ∀ w', Calls Try.prog 66 #[.int .i64 z0] w' fun e w'' => e = .returned (.int .i64 z) ∧ w' = w'' from fun w' => by rw [← HXc2]; exact rlim14_any _ _)
                have HZZ := Lib.hid hz
                have hrow := HROW.out.below hb4
                have hbb := bel_trans HBC.out hb4
                clear hwb hT1 hT2 HXc2 hz
                go_wp2_with fail
                refine (QT.out _).mono ?_
                rintro e w8 ⟨rfl, m7, rfl⟩
                go_wp2_with fail
                refine (LM.out _).mono ?_
                rintro e w8 ⟨rfl, rfl⟩
                replace hrow := hrow.drewN m7
                replace hbb := Below.drewN' hbb m7
                clear QT LM hb4
                generalize wr.drewN m7 = w9 at *
                have hlt3 : (xs.take c).length ≤ 1000000000000 := by rw [List.length_take]; omega
                go_wp2_with (at_builtin; refine push_newN _ 0 rfl _ _ rfl w3.heap.size _ _ rfl hrow z rfl hlt3 hbb.size ?_; intro v' w10 hown hbw)
                have HOW := Lib.hid hown; have HBB := Lib.hid (hbb.trans hbw)
                obtain ⟨gx, cx3, rfl, -, -⟩ := hown.form (by rw [List.length_append]; simp)
                clear hrow hbb hown hbw hlt3
                have hzz : xs.take c ++ [z] = xs.take (c + 1) := by rw [← HZZ.out]; exact (take_snoc_int xs c (by rw [HX3.out]; omega)).symm
                go_wp2_with fail
                go_roundg (3 - (c + 1))
                case measure => omega
                case rel => exact ⟨c + 1, by omega, rfl, by go_num, by rw [← hzz]; exact HOW.out, HBB.out⟩
          · obtain rfl : c = 3 := by omega
            rw [List.take_of_length_le (by rw [HX3.out]; exact Nat.le_refl 3)] at hrow
            obtain ⟨g21, c21, rfl, -, -⟩ := hrow.form' HX3.out (by omega)
            have c0 := hrow.cell (i := 0) (x := xs.getD 0 0) (getD_get (by rw [HX3.out]; omega)); have c1 := hrow.cell (i := 1) (x := xs.getD 1 0) (getD_get (by rw [HX3.out]; omega)); have c2 := hrow.cell (i := 2) (x := xs.getD 2 0) (getD_get (by rw [HX3.out]; omega))
            obtain ⟨⟨r1, r2, r3, r4⟩, f1, f2, f3, f4⟩ := (KK.out _ (bel_trans HB3.out hbc)).1.2.1.four
            have HPO := Lib.hid (set4_below (KK.out _ (bel_trans HB3.out hbc)).2.drew (show w.heap.size ≤ w.heap.size + 1 by omega) 0 1 2 3 (.int .i64 (xs.getD 0 0)) (.int .i64 (xs.getD 1 0)) (.int .i64 (xs.getD 2 0)) (.int .i64 al))
            have HBL2 := Lib.hid (HRES.out.trans HBL.out)
            generalize xs.getD 0 0 = z0 at *
            generalize xs.getD 1 0 = z1 at *
            generalize xs.getD 2 0 = z2 at *
            clear hrow HXK hbc
            go_wp2_with fail
            go_still_tail 11, (by kernel_rfl)
            change wpList _ _ _ _ _ wr.drew
            replace r1 : wr.drew.cell? ⟨w.heap.size + 1, 0, none⟩ = _ := r1; replace r2 : wr.drew.cell? ⟨w.heap.size + 1, 1, none⟩ = _ := r2; replace r3 : wr.drew.cell? ⟨w.heap.size + 1, 2, none⟩ = _ := r3; replace r4 : wr.drew.cell? ⟨w.heap.size + 1, 3, none⟩ = _ := r4
            replace f1 : wr.drew.frozen? ⟨w.heap.size + 1, 0, none⟩ = false := f1; replace f2 : wr.drew.frozen? ⟨w.heap.size + 1, 1, none⟩ = false := f2; replace f3 : wr.drew.frozen? ⟨w.heap.size + 1, 2, none⟩ = false := f3; replace f4 : wr.drew.frozen? ⟨w.heap.size + 1, 3, none⟩ = false := f4
            generalize wr.drew = wx at *
            go_wp2_with fail
            refine bodyPost_ret (v := .agg #[.int .i64 z0, .int .i64 z1, .int .i64 z2, .int .i64 al]) (by simp [results, Try.results34, go_sem, r1, r2, r3, r4]) rfl ⟨?_, ?_⟩
            · rw [HBL2.out]
            · exact HPO.out
end Go.Proofs.Ytineinmghajmnaa
