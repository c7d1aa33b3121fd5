/- The reference's Flood. -/
import Derived.Test.YtgdefgpbaccneaaReached
import Derived.Test.YtgdefgpbaccneaaWandRef
namespace Go.Proofs.Ytgdefgpbaccneaa
open Go.RowKit

theorem floodIs_congr {N : Nat} {W : Int} {dg : Bool} {sim sim' : Nat → Prop} {s : Nat} {l : List Int} (hs : ∀ b, b < N → (sim b ↔ sim' b)) (h : FloodIs N W dg sim s l) : FloodIs N W dg sim' s l := by
  refine ⟨h.1, fun k hk => ?_⟩
  rcases h.2 k hk with ⟨a, b⟩ | ⟨a, b⟩
  · exact .inl ⟨a, b.mono id fun b hb h => (hs b hb).1 h⟩
  · exact .inr ⟨a, fun r => b (r.mono id fun b hb h => (hs b hb).2 h)⟩
/-- The flags of the similar pixels. -/
def simL (ps : List Px) (t : Int) (p : Px) : List Bool := ps.map fun q => decide (dist q p ≤ t)
theorem simL_len (ps : List Px) (t : Int) (p : Px) : (simL ps t p).length = ps.length := by simp [simL]
theorem simL_take (ps : List Px) (t : Int) (p : Px) (k : Nat) (h : k < ps.length) : (simL ps t p).take (k + 1) = (simL ps t p).take k ++ [decide (dist (pat ps k) p ≤ t)] := by
  rw [List.take_succ_eq_append_getElem (by rw [simL_len]; exact h)]
  simp [pat, h, simL]
theorem simL_at (ps : List Px) (t : Int) (s b : Nat) (h : b < ps.length) : (simL ps t (pat ps s)).getD b false = true ↔ simP ps t s b := by
  simp [simL, simP, pat, h]
def RfRel (sl : List Bool) (w1 : World) (g : Nat) (v i : Value) (wr : World) : Prop :=
  ∃ k : Nat, k ≤ sl.length ∧ g = sl.length - k ∧ i = .int .i64 k ∧ BRow wr w1.heap.size v (sl.take k) ∧ Below w1.heap.size w1 wr
def RefG (W H : Int) (l : List Int) (w3 : World) (g : Nat) (i : Value) (wr : World) : Prop :=
  ∃ (k : Nat) (v : Value), k ≤ l.length ∧ g = l.length - k ∧ i = .int .i64 k ∧ BoxAt wr w3.heap.size W H v ∧ IRow wr (w3.heap.size + 1) v (l.take k) ∧ Below w3.heap.size w3 wr
theorem mkL_take (on : List Bool) (k : Nat) (h : k < on.length) : (mkL on).take (k + 1) = (mkL on).take k ++ [mk1 (on.getD k false)] := by
  rw [List.take_succ_eq_append_getElem (by rw [mkL_len]; exact h)]
  simp [mkL, h]

set_option maxRecDepth 100000 in
set_option maxHeartbeats 8000000 in
theorem rflood_any (W H x y t : Int) (dg : Bool) (A : Option Addr) (n0 c : Nat) (ps : List Px) (w : World) (h : Pixs w w.heap.size (.slice A n0 c) ps) :
    Calls Try.prog 10 #[.agg #[.int .i64 W, .int .i64 H, .slice A n0 c], .agg #[.int .i64 x, .int .i64 y], .int .i64 t, .bool dg] w (FlOut W H x y t dg ps (ichk W H ps) w) := by
  obtain rfl := h.len
  have HP := Lib.hid h; clear h
  have HL := Lib.hid (ichk_len W H ps)
  have HK := Lib.hid (ichk_iff W H ps)
  have HD := Lib.hid (show ichk W H ps = 0 ∨ ichk W H ps ≠ 0 by omega)
  generalize hE : ichk W H ps = ch at *
  have HE := Lib.hid hE; clear hE
  go_enter Try.func10, Try.ntmps10
  go_wp2_with fail
  obtain ⟨hI, hX, hR, hB⟩ := boxesF w W H x y (.slice A ps.length c) _ rfl
  generalize World.alloc _ (.cells #[.int .i64 0, .int .i64 0, .slice none 0 0] 29) = w0 at *
  refine (richeck_any W H A ps.length c ps _ (HP.out.on hB)).mono ?_
  rintro e w1 ⟨rfl, hb1⟩
  rw [HE.out]
  have hB1 := bel_trans hB hb1
  replace hI := hI.below hb1
  replace hX := hX.below hb1
  replace hR := hR.below hb1
  have HI := Lib.hid hI
  have HX := Lib.hid hX
  have HR := Lib.hid hR
  obtain ⟨i0, i1, i2, i3⟩ := hI
  obtain ⟨x0, x1, x2⟩ := hX
  obtain ⟨⟨r0, r1, r2, r3⟩, f0, f1, f2⟩ := hR
  clear hb1 hB
  rcases HD.out with rfl | hc
  rotate_left
  · have hne : (ch != 0) = true := by simp [hc]
    go_wp2_with fail
    refine bodyPost_ret (v := .tuple #[.agg #[.int .i64 0, .int .i64 0, .slice none 0 0], .int .i64 ch]) (by simp [results, Try.results10, go_sem, r1, r2, r3]) rfl ?_
    exact flOut_err (ferr_chk _ _ _ _ _ hc) hc ⟨.slice none 0 0, rfl, IRow.nil _ _, set3 hB1 (by omega)⟩
  have hl := HL.out rfl
  have hok := HK.out.1 rfl
  rcases (show x < 0 ∨ (0 ≤ x ∧ W ≤ x) ∨ (0 ≤ x ∧ x < W ∧ y < 0) ∨ (0 ≤ x ∧ x < W ∧ 0 ≤ y ∧ H ≤ y) ∨ (0 ≤ x ∧ x < W ∧ 0 ≤ y ∧ y < H) by omega) with g | ⟨g, g'⟩ | ⟨g, g', g2⟩ | ⟨g, g', g2, g3⟩ | ⟨g, g', g2, g3⟩
  case inr.inr.inr.inr =>
    have HW := Lib.hid (And.intro hok.w1 hok.h1)
    have HN := Lib.hid hok.n
    clear hok
    have hyW : 0 ≤ y * W ∧ y * W ≤ 65536 := by
      have e1 : 0 ≤ y * W := Int.mul_nonneg g2 (by omega)
      have e2 : y * W ≤ 256 * 256 := Int.mul_le_mul (by have := HW.out.2; omega) HW.out.1 (by omega) (by omega)
      omega
    have hpl := place_bd g g' g2 g3
    obtain ⟨s, hs⟩ : ∃ s : Nat, y * W + x = s := ⟨(y * W + x).toNat, by omega⟩
    have hsN : s < ps.length := by have := HN.out; omega
    have HS := Lib.hid hs; clear hs hpl
    go_wp2_with fail
    refine (runit_any _ _).mono ?_
    rintro e w3 ⟨rfl, rfl⟩
    cases hu : uok t
    · go_wp2_with fail
      refine bodyPost_ret (v := .tuple #[.agg #[.int .i64 0, .int .i64 0, .slice none 0 0], .int .i64 2]) (by simp [results, Try.results10, go_sem, r1, r2, r3]) rfl ?_
      exact flOut_err (ferr_no (by simp [hu])) (by omega) ⟨.slice none 0 0, rfl, IRow.nil _ _, set3 hB1 (by omega)⟩
    have HF := Lib.hid (ferr_ok (W := W) (H := H) ⟨g, g', g2, g3, hu⟩)
    clear hu
    obtain ⟨A', c', ev, _, hcc⟩ := HP.out.on hB1
    obtain ⟨b, o, rfl, hb, _⟩ := hcc s hsN
    injection ev with ev1 _ ev3
    subst ev1
    clear hcc ev3
    have hbw : b < w.heap.size := by
      obtain ⟨A', c', ev, _, hcc⟩ := HP.out
      obtain ⟨b', o', ea, hb', _⟩ := hcc s hsN
      injection ev with ev1 _ _
      rw [ea] at ev1
      injection ev1 with ev1
      injection ev1 with eb _ _
      omega
    have hs := HS.out
    go_wp2_with fail
    clear hs
    generalize hq : pat ps s = p at *
    have HQ := Lib.hid hq; clear hq
    go_loopg [12, 63] ps.length (RfRel (simL ps t p) w1)
    case atStart => exact ⟨0, Nat.zero_le _, by rw [simL_len]; rfl, rfl, BRow.nil _ _, Below.refl _ _⟩
    case round =>
      obtain ⟨k, hk, rfl, rfl, hrow, hbr⟩ := hrel
      rw [simL_len] at hk
      have hszr := hbr.size
      have hBr := bel_trans hB1 hbr
      have HIr := Lib.hid (HI.out.below hbr)
      have HRr := Lib.hid (HR.out.below hbr)
      obtain ⟨A1, cap1, ev1⟩ := hrow.shape
      have hlen : ((simL ps t p).take k).length = k := by rw [List.length_take, simL_len]; omega
      rw [hlen] at ev1
      subst ev1
      have HRW := Lib.hid hrow; clear hrow
      have HLN := Lib.hid hlen; clear hlen
      clear i0 i1 i2 i3 x0 x1 x2 r1 r2 r3 f0 f1 f2
      by_cases hlt : k < ps.length
      · obtain ⟨i0, i1, i2, i3⟩ := HIr.out
        obtain ⟨A', c', ev, _, hcc⟩ := HP.out.on hBr
        obtain ⟨b', o', ea, hb2, c1, c2, c3, c4⟩ := hcc k hlt
        injection ev with ev1 _ ev3
        rw [ea] at ev1
        injection ev1 with ev1
        injection ev1 with eb eo _
        subst eb eo
        obtain ⟨b', o', ea', _, d1, d2, d3, d4⟩ := hcc s hsN
        rw [ea] at ea'
        injection ea' with ev1
        injection ev1 with eb eo _
        subst eb eo
        clear hcc ev3 ea
        rw [HQ.out] at d1 d2 d3 d4
        have HT := Lib.hid (simL_take ps t p k hlt)
        generalize pat ps k = q at *
        go_wp2_with fail
        have hkn0 : (0 : Int) ≤ (k : Int) := by omega
        have hkn1 : (k : Int) < (ps.length : Int) := by omega
        have hsn0 : (0 : Int) ≤ (s : Int) := by omega
        have hsn1 : (s : Int) < (ps.length : Int) := by omega
        have hwl : w.heap.size < w1.heap.size := by omega
        have hS0 : wr.drew.cell? ⟨w.heap.size, 2, none⟩ = some (.slice (some ⟨b, o, none⟩) ps.length c) ∧ wr.drew.cell? ⟨b, o + k * 4, none⟩ = some (.int .i64 q.r) ∧ wr.drew.cell? ⟨b, o + k * 4 + 1, none⟩ = some (.int .i64 q.g) ∧ wr.drew.cell? ⟨b, o + k * 4 + 2, none⟩ = some (.int .i64 q.b) ∧ wr.drew.cell? ⟨b, o + k * 4 + 3, none⟩ = some (.int .i64 q.a) ∧ wr.drew.cell? ⟨b, o + s * 4, none⟩ = some (.int .i64 p.r) ∧ wr.drew.cell? ⟨b, o + s * 4 + 1, none⟩ = some (.int .i64 p.g) ∧ wr.drew.cell? ⟨b, o + s * 4 + 2, none⟩ = some (.int .i64 p.b) ∧ wr.drew.cell? ⟨b, o + s * 4 + 3, none⟩ = some (.int .i64 p.a) := ⟨i3, c1, c2, c3, c4, d1, d2, d3, d4⟩
        have HS4 := Lib.hid (show ∀ w4, Below w1.heap.size wr.drew w4 → w4.cell? ⟨w.heap.size, 2, none⟩ = some (.slice (some ⟨b, o, none⟩) ps.length c) ∧ w4.cell? ⟨b, o + k * 4, none⟩ = some (.int .i64 q.r) ∧ w4.cell? ⟨b, o + k * 4 + 1, none⟩ = some (.int .i64 q.g) ∧ w4.cell? ⟨b, o + k * 4 + 2, none⟩ = some (.int .i64 q.b) ∧ w4.cell? ⟨b, o + k * 4 + 3, none⟩ = some (.int .i64 q.a) ∧ w4.cell? ⟨b, o + s * 4, none⟩ = some (.int .i64 p.r) ∧ w4.cell? ⟨b, o + s * 4 + 1, none⟩ = some (.int .i64 p.g) ∧ w4.cell? ⟨b, o + s * 4 + 2, none⟩ = some (.int .i64 p.b) ∧ w4.cell? ⟨b, o + s * 4 + 3, none⟩ = some (.int .i64 p.a) from fun w4 hb4 => ⟨(hb4.cell (p := ⟨w.heap.size, 2, none⟩) hwl).trans i3, (hb4.cell (p := ⟨b, o + k * 4, none⟩) (Nat.lt_trans hbw hwl)).trans c1, (hb4.cell (p := ⟨b, o + k * 4 + 1, none⟩) (Nat.lt_trans hbw hwl)).trans c2, (hb4.cell (p := ⟨b, o + k * 4 + 2, none⟩) (Nat.lt_trans hbw hwl)).trans c3, (hb4.cell (p := ⟨b, o + k * 4 + 3, none⟩) (Nat.lt_trans hbw hwl)).trans c4, (hb4.cell (p := ⟨b, o + s * 4, none⟩) (Nat.lt_trans hbw hwl)).trans d1, (hb4.cell (p := ⟨b, o + s * 4 + 1, none⟩) (Nat.lt_trans hbw hwl)).trans d2, (hb4.cell (p := ⟨b, o + s * 4 + 2, none⟩) (Nat.lt_trans hbw hwl)).trans d3, (hb4.cell (p := ⟨b, o + s * 4 + 3, none⟩) (Nat.lt_trans hbw hwl)).trans d4⟩)
        go_region_held3 (fun w' => w'.cell? ⟨w.heap.size, 2, none⟩ = some (.slice (some ⟨b, o, none⟩) ps.length c) ∧ w'.cell? ⟨b, o + k * 4, none⟩ = some (.int .i64 q.r) ∧ w'.cell? ⟨b, o + k * 4 + 1, none⟩ = some (.int .i64 q.g) ∧ w'.cell? ⟨b, o + k * 4 + 2, none⟩ = some (.int .i64 q.b) ∧ w'.cell? ⟨b, o + k * 4 + 3, none⟩ = some (.int .i64 q.a) ∧ w'.cell? ⟨b, o + s * 4, none⟩ = some (.int .i64 p.r) ∧ w'.cell? ⟨b, o + s * 4 + 1, none⟩ = some (.int .i64 p.g) ∧ w'.cell? ⟨b, o + s * 4 + 2, none⟩ = some (.int .i64 p.b) ∧ w'.cell? ⟨b, o + s * 4 + 3, none⟩ = some (.int .i64 p.a))
          (first | assumption | exact hS0 | exact HS4.out _ (hbw4.mono hszr) | exact HS4.out _ ((hbw4.mono hszr).alloc (Nat.le_trans hszr hbw4.size) _) | exact HS4.out _ (((hbw4.mono hszr).alloc (Nat.le_trans hszr hbw4.size) _).trans hbw5) | go_keep)
          (first | (go_at_call 26; refine (rdist_any _ _ _ _ _ _ _ _ _).mono ?_; rintro e w4 ⟨rfl, hbw4⟩) | (refine bpush_step _ (by rfl) _ _ (by rfl) w1.heap.size _ _ (by rfl) (((HRW.out.drewN 1).below hbw4).alloc _) w4.heap.size _ (by rfl) (cell_new1 _ _ _) (by rw [HLN.out]; omega) (by have := hbw4.size; simp; exact Nat.le_succ_of_le (Nat.le_trans hszr this)) ?_; intro v' w5 hrow5 hbw5))
        generalize hdq : dist (Px.mk q.r q.g q.b q.a) (Px.mk p.r p.g p.b p.a) = d at *
        go_wp2_with fail
        go_roundg (ps.length - (k + 1))
        case measure => rw [simL_len]; omega
        case rel =>
          refine ⟨k + 1, by rw [simL_len]; omega, by rw [simL_len], by go_num, ?_, ?_⟩
          · rw [HT.out]
            exact hrow5
          · exact ((hbr.drew.trans (hbw4.mono hszr)).alloc (by have := hbw4.size; exact Nat.le_trans hszr this) _).trans hbw5
      · obtain rfl : k = ps.length := by omega
        have hta : (simL ps t p).take ps.length = simL ps t p := by rw [List.take_of_length_le (by rw [simL_len]; omega)]
        have hBo := HRW.out.bools
        rw [hta] at hBo
        have HBO := Lib.hid hBo; clear hBo hta
        obtain ⟨i0, i1, i2, i3⟩ := HIr.out
        go_wp2_with fail
        refine (reached_any W H s ps.length _ (simL ps t p) dg _ ⟨by omega, HW.out.1⟩ ⟨by omega, HW.out.2⟩ HN.out hsN (simL_len _ _ _) HBO.out).mono ?_
        rintro e w3 ⟨vo, on, rfl, hon, hfl, hb3⟩
        have HFL := Lib.hid (show FloodIs ps.length W dg (simP ps t s) s (mkL on) from floodIs_congr (fun b hb => by rw [← HQ.out]; exact simL_at ps t s b hb) hfl)
        obtain ⟨A3, cap3, ev1⟩ := hon.shape
        have honl : on.length = ps.length := by have := hfl.1; rw [mkL_len] at this; exact this
        rw [honl] at ev1
        subst ev1
        have HONL := Lib.hid honl
        have HON := Lib.hid hon
        have hB3 := bel_trans hBr hb3
        have HI3 := Lib.hid (HIr.out.below hb3)
        have HR3 := Lib.hid (HRr.out.below hb3)
        clear hon hfl honl i0 i1 i2 i3
        obtain ⟨i0, i1, i2, i3⟩ := HI3.out
        go_wp2_with fail
        have hM := BoxAt.new w3 W H (.slice none 0 0) 29
        go_loopg [98] ps.length (RefG W H (mkL on) w3)
        case atStart => exact ⟨0, .slice none 0 0, Nat.zero_le _, by rw [mkL_len, HONL.out]; rfl, rfl, hM, IRow.nil _ _, bel1 _ _⟩
        case round =>
          obtain ⟨k, v, hk, rfl, rfl, hbox, hrow, hbr2⟩ := hrel
          rw [mkL_len, HONL.out] at hk
          have hszr2 := hbr2.size
          have HBr2 := Lib.hid (bel_trans hB3 hbr2)
          have HRr2 := Lib.hid (HR3.out.below hbr2)
          have HON2 := Lib.hid (HON.out.bools.below hbr2)
          have HBRR := Lib.hid hbr2
          obtain ⟨A4, cap4, rfl⟩ := irow_shape hrow
          have hlen2 : ((mkL on).take k).length = k := by rw [List.length_take, mkL_len, HONL.out]; omega
          rw [hlen2] at hrow hbox
          have HBX := Lib.hid hbox
          obtain ⟨⟨m0, m1, m2, m3⟩, mf0, mf1, mf2⟩ := hbox
          have HRW2 := Lib.hid hrow
          have HLN2 := Lib.hid hlen2
          clear hM i0 i1 i2 i3 hrow hlen2 hbr2
          by_cases hlt2 : k < ps.length
          · obtain ⟨A', c', ev, hcc⟩ := HON2.out
            obtain ⟨b3, o3, rfl, hb3', c1⟩ := hcc k (by rw [HONL.out]; exact hlt2)
            injection ev with ev1 ev2 ev3
            subst ev1
            clear hcc ev3 ev2
            have hb3w : b3 < wr.heap.size := by omega
            have HT := Lib.hid (mkL_take on k (by rw [HONL.out]; exact hlt2))
            generalize on.getD k false = ob at *
            have hlk : ((mkL on).take k).length ≤ 1000000000000 := by rw [HLN2.out]; omega
            cases ob
            all_goals
              go_wp2_with (at_builtin; refine push_new _ rfl _ _ rfl (w3.heap.size + 1) _ _ rfl HRW2.out _ rfl hlk (by omega) ?_; intro v' w5 hown5 hbw; obtain ⟨A5, cap5, rfl⟩ := irow_shape hown5; have HB5 := Lib.hid (HBX.out.cutBelow hbw (Nat.lt_succ_self _)); obtain ⟨⟨s0, s1, s2, s3⟩, sf0, sf1, sf2⟩ := HB5.out)
              go_roundg (ps.length - (k + 1))
              case measure => rw [mkL_len, HONL.out]; omega
              case rel =>
                refine ⟨k + 1, _, by rw [mkL_len, HONL.out]; omega, by rw [mkL_len, HONL.out], by go_num, HB5.out.setV, ?_, ?_⟩
                · rw [List.length_append, HLN2.out, List.length_singleton] at hown5; rw [HT.out, show min k (mkL on).length = k by rw [mkL_len, HONL.out]; omega]; exact irow_set hown5 (Nat.lt_succ_self _) (Nat.le_refl _)
                · exact (HBRR.out.trans (hbw.mono (Nat.le_succ _))).setCell (p := ⟨w3.heap.size, 2, none⟩) (Nat.le_refl _) _
          · obtain rfl : k = ps.length := by omega
            have hta : (mkL on).take ps.length = mkL on := by rw [List.take_of_length_le (by rw [mkL_len, HONL.out]; omega)]
            have hrow3 := HRW2.out
            rw [hta] at hrow3
            have HRW3 := Lib.hid hrow3; clear hrow3 hta
            obtain ⟨⟨g0, g1', g2', g3'⟩, k0, k1, k2⟩ := HRr2.out
            have hg3 : w.heap.size + 2 < w3.heap.size + 1 := by have := HR3.out.1.1; omega
            go_wp2_with fail
            refine bodyPost_ret (v := .tuple #[.agg #[.int .i64 W, .int .i64 H, .slice A4 ps.length cap4], .int .i64 0]) (by simp [results, Try.results10, go_sem, g1', g2', g3']) rfl ?_
            refine ⟨mkL on, fun _ => ?_, ?_⟩
            · have e : (y * W + x).toNat = s := by rw [HS.out]; rfl
              rw [e]; exact HFL.out
            · rw [HF.out, mkOut_ok]
              exact ⟨_, rfl, irow_set (irow_set (irow_set HRW3.out hg3 (Nat.le_refl _)) hg3 (Nat.le_refl _)) hg3 (by have := hB3.size; omega), set3 HBr2.out (by omega)⟩
  all_goals
    go_wp2_with fail
    refine bodyPost_ret (v := .tuple #[.agg #[.int .i64 0, .int .i64 0, .slice none 0 0], .int .i64 2]) (by simp [results, Try.results10, go_sem, r1, r2, r3]) rfl ?_
    exact flOut_err (ferr_no (by omega)) (by omega) ⟨.slice none 0 0, rfl, IRow.nil _ _, set3 hB1 (by omega)⟩
end Go.Proofs.Ytgdefgpbaccneaa
