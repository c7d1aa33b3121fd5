/- The reference's Opaque. -/
import Derived.Test.YtgdefgpbaccneaaWandRef
import Derived.Deep.RegionLaw
namespace Go.Proofs.Ytgdefgpbaccneaa
open Go.RowKit

theorem boxes2 (w : World) (W H : Int) (v : Value) (w0 : World)
    (hw : w0 = (w.alloc (.cells #[.int .i64 W, .int .i64 H, v] 24)).alloc (.cells #[.int .i64 0, .int .i64 0, .slice none 0 0] 29)) :
    ImgAt w0 w.heap.size W H v ∧ BoxAt w0 (w.heap.size + 1) 0 0 (.slice none 0 0) ∧ Below w.heap.size w w0 := by
  subst hw
  have a := ImgAt.new w W H v 24
  have d := BoxAt.new (w.alloc (.cells #[.int .i64 W, .int .i64 H, v] 24)) 0 0 (.slice none 0 0) 29
  simp only [World.size_alloc] at d
  exact ⟨a.below (bel1 _ _), d, bel_alloc (bel1 _ _) _⟩

theorem ipush_step (w : World) {ops : Array Oper} {o : Oper} {a : Act} {K : Act → World → Prop} {Q : Exit → Act → World → Prop} {F : Prop} (hgd : o.guard = none) (so x : Operand)
    (ho : o.op = .call { callee := .builtin .append, args := #[so, x], argTypes := #[27, 27] }) (B : Nat) (v : Value) (xs : List Int) (hv : a.eval so = v) (hown : IRow w B v xs)
    (g : Nat) (y : Int) (hx : a.eval x = .slice (some ⟨g, 0, none⟩) 1 1) (hc : w.cell? ⟨g, 0, none⟩ = some (.int .i64 y)) (hl : xs.length ≤ 1000000000000) (hB : B ≤ w.heap.size)
    (h : ∀ v' w', IRow w' B v' (xs ++ [y]) → Below B w w' → K (a.put o.dst v') w') : if Region.wanted o (yielded ops a.tmps) = true then Oper.wp Try.prog o a w K Q else F := by
  obtain ⟨i0, hi0, hz0, hz1, hz2⟩ := info_parts Try.infoInt
  refine fpush_step 3 1 27 8 i0 _ Try.underlying27 hi0 hz0 hz1 hz2 rfl (by omega) (by omega) w hgd so x ho B v xs.length xs hv hown g [y] hx rfl ?_ hl hB fun v' w' h1 h2 => h v' w' ?_ h2
  · intro j u hj
    match j, hj with
    | 0, hj => simp at hj; subst hj; exact hc
  · unfold IRow
    rw [List.length_append]
    exact h1

set_option maxHeartbeats 4000000 in
theorem ropaque_any (W H : Int) (A : Option Addr) (n c : Nat) (ps : List Px) (w : World) (h : Pixs w w.heap.size (.slice A n c) ps) :
    Calls Try.prog 18 #[.agg #[.int .i64 W, .int .i64 H, .slice A n c]] w
      (MkOut (ichk W H ps) W H (ps.map Px.a) w) := by
  obtain rfl := h.len
  have HP := Lib.hid h; clear h
  have HL := Lib.hid (ichk_len W H ps)
  have HD := Lib.hid (show ichk W H ps = 0 ∨ ichk W H ps ≠ 0 by omega)
  generalize hE : ichk W H ps = ch at *
  have HE := Lib.hid hE; clear hE
  go_enter Try.func18, Try.ntmps18
  go_wp2_with fail
  obtain ⟨hI, hR, hB⟩ := boxes2 w W H (.slice A ps.length c) _ rfl
  generalize World.alloc _ (.cells #[.int .i64 0, .int .i64 0, .slice none 0 0] 29) = w0 at *
  refine (richeck_any W H A ps.length c ps _ (HP.out.on hB)).mono ?_
  rintro e w1 ⟨rfl, hb1⟩
  rw [HE.out]
  have hB1 := bel_trans hB hb1
  replace hI := hI.below hb1
  replace hR := hR.below hb1
  have HI := Lib.hid hI
  have HR := Lib.hid hR
  obtain ⟨i0, i1, i2, i3⟩ := hI
  obtain ⟨⟨r0, r1, r2, r3⟩, f0, f1, f2⟩ := hR
  clear hb1 hB
  rcases HD.out with rfl | hc
  · have hl := HL.out rfl
    go_wp2_with fail
    have hM := BoxAt.new w1 W H (.slice none 0 0) 29
    go_loopw [21] (RefRel W H (ps.map Px.a) w1) (fun i _ => ps.length - (intOf i).toNat)
    case atStart => exact ⟨0, .slice none 0 0, Nat.zero_le _, rfl, hM, IRow.nil _ _, bel1 _ _⟩
    case round =>
      obtain ⟨k, v, hk, rfl, hbox, hrow, hbr⟩ := hrel
      rw [List.length_map] at hk
      have hszr := hbr.size
      have hBr := bel_trans hB1 hbr
      have HIr := Lib.hid (HI.out.below hbr)
      have HRr := Lib.hid (HR.out.below hbr)
      obtain ⟨A1, cap1, rfl⟩ := irow_shape hrow
      have hlen : ((ps.map Px.a).take k).length = k := by rw [List.length_take, List.length_map]; omega
      rw [hlen] at hrow hbox
      have HBX := Lib.hid hbox
      obtain ⟨⟨m0, m1, m2, m3⟩, mf0, mf1, mf2⟩ := hbox
      clear hM i0 i1 i2 i3 r1 r2 r3 f0 f1 f2
      by_cases hlt : k < ps.length
      · obtain ⟨A', c', ev, _, hcc⟩ := HP.out.on hBr
        obtain ⟨b, o, rfl, hb, c1, c2, c3, c4⟩ := hcc k hlt
        injection ev with ev1 _ ev3
        subst ev1
        clear hcc ev3
        have HT := Lib.hid (take_map_succ (f := Px.a) ps k hlt)
        have HRW := Lib.hid hrow; clear hrow
        obtain ⟨j0, j1, j2, j3⟩ := HIr.out
        generalize pat ps k = q at *
        go_wp2_with fail
        have hkn0 : (0 : Int) ≤ (k : Int) := by omega
        have hkn1 : (k : Int) < (ps.length : Int) := by omega
        go_region_law (refine ipush_step _ (by rfl) _ _ (by rfl) (w1.heap.size + 1) _ _ (by rfl) ((HRW.out.drewN 1).alloc _) wr.heap.size _ (by rfl) (cell_new1 _ _ _) (by omega) (by simp; omega) ?_; intro v' w5 hown5 hbw; obtain ⟨A5, cap5, rfl⟩ := irow_shape hown5; have HB5 := Lib.hid ((HBX.out.drew.below (bel1 _ _)).cutBelow hbw (Nat.lt_succ_self _)); obtain ⟨⟨s0, s1, s2, s3⟩, sf0, sf1, sf2⟩ := HB5.out)
        all_goals
          go_wp2_with fail
          go_roundw
          case rel =>
            refine ⟨k + 1, _, by rw [List.length_map]; omega, by go_num, HB5.out.setV, ?_, ?_⟩
            · rw [List.length_append, hlen, List.length_singleton] at hown5; rw [HT.out]; exact irow_set hown5 (Nat.lt_succ_self _) (Nat.le_refl _)
            · exact ((bel_alloc hbr.drew _).trans (hbw.mono (Nat.le_succ _))).setCell (p := ⟨w1.heap.size, 2, none⟩) (Nat.le_refl _) _
          case measure => simp [intOf]; omega
      · obtain rfl : k = ps.length := by omega
        have hta : (ps.map Px.a).take ps.length = ps.map Px.a := by rw [List.take_of_length_le (by rw [List.length_map]; omega)]
        rw [hta] at hrow
        have HRW := Lib.hid hrow; clear hrow
        obtain ⟨⟨g0, g1, g2, g3⟩, k0, k1, k2⟩ := HRr.out
        obtain ⟨j0, j1, j2, j3⟩ := HIr.out
        go_wp2_with fail
        refine bodyPost_ret (v := .tuple #[.agg #[.int .i64 W, .int .i64 H, .slice A1 ps.length cap1], .int .i64 0]) (by simp [results, Try.results18, go_sem, g1, g2, g3]) rfl ?_
        rw [mkOut_ok]
        exact ⟨_, rfl, irow_set (irow_set (irow_set HRW.out (Nat.lt_succ_of_lt r0) (Nat.le_refl _)) (Nat.lt_succ_of_lt r0) (Nat.le_refl _)) (Nat.lt_succ_of_lt r0) (by have := hB1.size; omega), set3 hBr (by omega)⟩
  · have hne : (ch != 0) = true := by simp [hc]
    go_wp2_with fail
    refine bodyPost_ret (v := .tuple #[.agg #[.int .i64 0, .int .i64 0, .slice none 0 0], .int .i64 ch]) (by simp [results, Try.results18, go_sem, r1, r2, r3]) rfl ?_
    exact mkOut_of hc ⟨.slice none 0 0, rfl, IRow.nil _ _, set3 hB1 (by omega)⟩
end Go.Proofs.Ytgdefgpbaccneaa
