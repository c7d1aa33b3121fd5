/- The examples of the law hold. -/
import Derived.Test.YtgdefgpbaccneaaFloodEx
namespace Go.Proofs.Ytgdefgpbaccneaa
open Go.RowKit

set_option maxRecDepth 100000 in
set_option maxHeartbeats 4000000 in
theorem awake_any (w : World) : Calls Try.prog 12 #[] w fun e w' => e = .returned (.bool true) ∧ Below w.heap.size w w' := by
  go_enter Try.func12, Try.ntmps12
  go_wp2_with fail
  refine (call_r3 _ _ (ints_lit _ [0, 5, 0] _ _ _ rfl rfl rfl (by decide))).mono ?_
  rintro e w1 ⟨A1, n1, c1, rfl, hp1, hb1⟩
  have hB1 := bel_trans (bel1 _ _) hb1
  clear hb1
  go_wp2_with fail
  refine (call_r4 _ _ (ints_lit _ [0, 9, 9, 0] _ _ _ rfl rfl rfl (by decide))).mono ?_
  rintro e w2 ⟨A2, n2, c2, rfl, hp2, hb2⟩
  have hb2' := bel_trans (bel1 _ _) hb2
  have hp1' := hp1.on hb2'
  have hB2 := bel_trans hB1 hb2'
  clear hb2 hb2' hp1 hB1
  have HR := Lib.hid ((Im.new 3 1 24 hp1').below (bel1 _ (.cells #[.int .i64 2, .int .i64 2, .slice A2 n2 c2] 24)))
  have hX := Im.new 2 2 24 (hp2.on (bel1 _ (.cells #[.int .i64 3, .int .i64 1, .slice A1 n1 c1] 24)))
  rw [World.size_alloc] at hX
  have HX := Lib.hid hX
  have HB := Lib.hid (bel_alloc (bel_alloc hB2 (.cells #[.int .i64 3, .int .i64 1, .slice A1 n1 c1] 24)) (.cells #[.int .i64 2, .int .i64 2, .slice A2 n2 c2] 24))
  have hp := (hp1'.on (bel1 _ (.cells #[.int .i64 3, .int .i64 1, .slice A1 n1 c1] 24))).on (bel1 _ (.cells #[.int .i64 2, .int .i64 2, .slice A2 n2 c2] 24))
  clear hX hB2 hp1' hp2
  go_wp2_with fail
  generalize World.alloc (World.alloc w2 _) _ = w3 at *
  refine (call_fa _ _ _ _ hp).mono ?_
  rintro e w4 ⟨v4, rfl, hrow, hb⟩
  obtain ⟨M4, m4, rfl⟩ := irow_shape_n 3 rfl hrow
  clear hp
  have hbb := hb
  have HR := Lib.hid (HR.out.below hbb)
  have HX := Lib.hid (HX.out.below hbb)
  have HB := Lib.hid (bel_trans HB.out hbb)
  clear hb hbb
  have HN := Lib.hid (Mk.new 3 1 29 hrow)
  clear hrow
  obtain ⟨A5, n5, c5, ⟨i0, i1, i2, i3⟩, hp⟩ := HR.out
  go_wp2_with fail
  refine (call_fb _ _ _ _ (hp.on (bel1 _ _))).mono ?_
  rintro e w5 ⟨v5, rfl, hrow, hb⟩
  obtain ⟨M5, m5, rfl⟩ := irow_shape_n 3 rfl hrow
  clear i0 i1 i2 i3 hp
  have hbb := bel_trans (bel1 _ _) hb
  have HR := Lib.hid (HR.out.below hbb)
  have HX := Lib.hid (HX.out.below hbb)
  have HM4 := Lib.hid (HN.out.below hb); clear HN
  have HB := Lib.hid (bel_trans HB.out hbb)
  clear hb hbb
  have HN := Lib.hid (Mk.new 3 1 29 hrow)
  clear hrow
  obtain ⟨A6, n6, c6, ⟨i0, i1, i2, i3⟩, hp⟩ := HX.out
  go_wp2_with fail
  refine (call_fc _ _ _ _ (hp.on (bel1 _ _))).mono ?_
  rintro e w6 ⟨v6, rfl, hrow, hb⟩
  obtain ⟨M6, m6, rfl⟩ := irow_shape_n 4 rfl hrow
  clear i0 i1 i2 i3 hp
  have hbb := bel_trans (bel1 _ _) hb
  have HR := Lib.hid (HR.out.below hbb)
  have HX := Lib.hid (HX.out.below hbb)
  have HM4 := Lib.hid (HM4.out.below hbb)
  have HM5 := Lib.hid (HN.out.below hb); clear HN
  have HB := Lib.hid (bel_trans HB.out hbb)
  clear hb hbb
  have HN := Lib.hid (Mk.new 2 2 29 hrow)
  clear hrow
  obtain ⟨A7, n7, c7, ⟨i0, i1, i2, i3⟩, hp⟩ := HR.out
  go_wp2_with fail
  refine (call_si _ _ _ _ (hp.on (bel1 _ _))).mono ?_
  rintro e w7 ⟨v7, rfl, hrow, hb⟩
  obtain ⟨M7, m7, rfl⟩ := irow_shape_n 3 rfl hrow
  clear i0 i1 i2 i3 hp
  have hbb := bel_trans (bel1 _ _) hb
  have HR := Lib.hid (HR.out.below hbb)
  have HX := Lib.hid (HX.out.below hbb)
  have HM4 := Lib.hid (HM4.out.below hbb)
  have HM5 := Lib.hid (HM5.out.below hbb)
  have HM6 := Lib.hid (HN.out.below hb); clear HN
  have HB := Lib.hid (bel_trans HB.out hbb)
  clear hb hbb
  have HN := Lib.hid (Mk.new 3 1 29 hrow)
  clear hrow
  obtain ⟨A8, n8, c8, ⟨i0, i1, i2, i3⟩, hp⟩ := HR.out
  go_wp2_with fail
  refine (call_so _ _ _ _ (hp.on (bel1 _ _))).mono ?_
  rintro e w8 ⟨v8, rfl, hrow, hb⟩
  obtain ⟨M8, m8, rfl⟩ := irow_shape_n 3 rfl hrow
  clear i0 i1 i2 i3 hp
  have hbb := bel_trans (bel1 _ _) hb
  have HR := Lib.hid (HR.out.below hbb)
  have HX := Lib.hid (HX.out.below hbb)
  have HM4 := Lib.hid (HM4.out.below hbb)
  have HM5 := Lib.hid (HM5.out.below hbb)
  have HM6 := Lib.hid (HM6.out.below hbb)
  have HM7 := Lib.hid (HN.out.below hb); clear HN
  have HB := Lib.hid (bel_trans HB.out hbb)
  clear hb hbb
  have HN := Lib.hid (Mk.new 3 1 29 hrow)
  clear hrow
  obtain ⟨A9, n9, c9, ⟨i0, i1, i2, i3⟩, hp⟩ := HR.out
  go_wp2_with fail
  refine (call_op _ _ _ _ (hp.on (bel1 _ _))).mono ?_
  rintro e w9 ⟨v9, rfl, hrow, hb⟩
  obtain ⟨M9, m9, rfl⟩ := irow_shape_n 3 rfl hrow
  clear i0 i1 i2 i3 hp
  have hbb := bel_trans (bel1 _ _) hb
  have HR := Lib.hid (HR.out.below hbb)
  have HX := Lib.hid (HX.out.below hbb)
  have HM4 := Lib.hid (HM4.out.below hbb)
  have HM5 := Lib.hid (HM5.out.below hbb)
  have HM6 := Lib.hid (HM6.out.below hbb)
  have HM7 := Lib.hid (HM7.out.below hbb)
  have HM8 := Lib.hid (HN.out.below hb); clear HN
  have HB := Lib.hid (bel_trans HB.out hbb)
  clear hb hbb
  have HN := Lib.hid (Mk.new 3 1 29 hrow)
  clear hrow
  obtain ⟨A10, n10, c10, ⟨i0, i1, i2, i3⟩, hp⟩ := HR.out
  go_wp2_with fail
  refine (call_s5 _ _ _ _ (hp.on (bel1 _ _))).mono ?_
  rintro e w10 ⟨v10, rfl, hrow, hb⟩
  obtain ⟨M10, m10, rfl⟩ := irow_shape_n 0 rfl hrow
  clear i0 i1 i2 i3 hp
  have hbb := bel_trans (bel1 _ _) hb
  have HR := Lib.hid (HR.out.below hbb)
  have HX := Lib.hid (HX.out.below hbb)
  have HM4 := Lib.hid (HM4.out.below hbb)
  have HM5 := Lib.hid (HM5.out.below hbb)
  have HM6 := Lib.hid (HM6.out.below hbb)
  have HM7 := Lib.hid (HM7.out.below hbb)
  have HM8 := Lib.hid (HM8.out.below hbb)
  have HM9 := Lib.hid (HN.out.below hb); clear HN
  have HB := Lib.hid (bel_trans HB.out hbb)
  clear hb hbb
  have HN := Lib.hid (Mk.new 0 0 29 hrow)
  clear hrow
  go_wp2_with fail
  refine (call_f0 _).mono ?_
  rintro e w11 ⟨v11, rfl, hrow, hb⟩
  obtain ⟨M11, m11, rfl⟩ := irow_shape_n 0 rfl hrow
  have hbb := bel_trans (bel1 _ _) hb
  have HR := Lib.hid (HR.out.below hbb)
  have HX := Lib.hid (HX.out.below hbb)
  have HM4 := Lib.hid (HM4.out.below hbb)
  have HM5 := Lib.hid (HM5.out.below hbb)
  have HM6 := Lib.hid (HM6.out.below hbb)
  have HM7 := Lib.hid (HM7.out.below hbb)
  have HM8 := Lib.hid (HM8.out.below hbb)
  have HM9 := Lib.hid (HM9.out.below hbb)
  have HM10 := Lib.hid (HN.out.below hb); clear HN
  have HB := Lib.hid (bel_trans HB.out hbb)
  clear hb hbb
  have HN := Lib.hid (Mk.new 0 0 29 hrow)
  clear hrow
  go_wp2_with fail
  refine (call_s0 _).mono ?_
  rintro e w12 ⟨v12, rfl, hrow, hb⟩
  obtain ⟨M12, m12, rfl⟩ := irow_shape_n 0 rfl hrow
  have hbb := bel_trans (bel1 _ _) hb
  have HR := Lib.hid (HR.out.below hbb)
  have HX := Lib.hid (HX.out.below hbb)
  have HM4 := Lib.hid (HM4.out.below hbb)
  have HM5 := Lib.hid (HM5.out.below hbb)
  have HM6 := Lib.hid (HM6.out.below hbb)
  have HM7 := Lib.hid (HM7.out.below hbb)
  have HM8 := Lib.hid (HM8.out.below hbb)
  have HM9 := Lib.hid (HM9.out.below hbb)
  have HM10 := Lib.hid (HM10.out.below hbb)
  have HM11 := Lib.hid (HN.out.below hb); clear HN
  have HB := Lib.hid (bel_trans HB.out hbb)
  clear hb hbb
  have HN := Lib.hid (Mk.new 0 0 29 hrow)
  clear hrow
  go_wp2_with fail
  simp only [List.append_eq, List.cons_append, List.nil_append]
  replace HM4 := Lib.hid (HM4.out.below (bel1 _ (.cells #[.int .i64 0, .int .i64 0, .slice M12 0 m12] 29)))
  replace HM5 := Lib.hid (HM5.out.below (bel1 _ (.cells #[.int .i64 0, .int .i64 0, .slice M12 0 m12] 29)))
  replace HM6 := Lib.hid (HM6.out.below (bel1 _ (.cells #[.int .i64 0, .int .i64 0, .slice M12 0 m12] 29)))
  replace HM7 := Lib.hid (HM7.out.below (bel1 _ (.cells #[.int .i64 0, .int .i64 0, .slice M12 0 m12] 29)))
  replace HM8 := Lib.hid (HM8.out.below (bel1 _ (.cells #[.int .i64 0, .int .i64 0, .slice M12 0 m12] 29)))
  replace HM9 := Lib.hid (HM9.out.below (bel1 _ (.cells #[.int .i64 0, .int .i64 0, .slice M12 0 m12] 29)))
  replace HB := Lib.hid (bel_alloc HB.out (.cells #[.int .i64 0, .int .i64 0, .slice M12 0 m12] 29))
  clear HN HR HX
  generalize World.alloc w12 _ = wb at *
  obtain ⟨u4, g4, hi4⟩ := HM4.out
  have HI4 := Lib.hid (fun w' (hb : Bel wb w') => Bel.ints hi4 hb)
  have HG4 := Lib.hid g4
  obtain ⟨gl4, gx4, gy4, gz4⟩ := g4
  clear hi4 HM4
  obtain ⟨u5, g5, hi5⟩ := HM5.out
  have HI5 := Lib.hid (fun w' (hb : Bel wb w') => Bel.ints hi5 hb)
  have HG5 := Lib.hid g5
  obtain ⟨gl5, gx5, gy5, gz5⟩ := g5
  clear hi5 HM5
  obtain ⟨u6, g6, hi6⟩ := HM6.out
  have HI6 := Lib.hid (fun w' (hb : Bel wb w') => Bel.ints hi6 hb)
  have HG6 := Lib.hid g6
  obtain ⟨gl6, gx6, gy6, gz6⟩ := g6
  clear hi6 HM6
  obtain ⟨u7, g7, hi7⟩ := HM7.out
  have HI7 := Lib.hid (fun w' (hb : Bel wb w') => Bel.ints hi7 hb)
  have HG7 := Lib.hid g7
  obtain ⟨gl7, gx7, gy7, gz7⟩ := g7
  clear hi7 HM7
  obtain ⟨u8, g8, hi8⟩ := HM8.out
  have HI8 := Lib.hid (fun w' (hb : Bel wb w') => Bel.ints hi8 hb)
  have HG8 := Lib.hid g8
  obtain ⟨gl8, gx8, gy8, gz8⟩ := g8
  clear hi8 HM8
  obtain ⟨u9, g9, hi9⟩ := HM9.out
  have HI9 := Lib.hid (fun w' (hb : Bel wb w') => Bel.ints hi9 hb)
  have HG9 := Lib.hid g9
  obtain ⟨gl9, gx9, gy9, gz9⟩ := g9
  clear hi9 HM9
  have hS0 : Bel wb wb.drew ∧ wb.drew.cell? ⟨w4.heap.size, 0, none⟩ = some (.int .i64 3) ∧ wb.drew.cell? ⟨w4.heap.size, 1, none⟩ = some (.int .i64 1) ∧ wb.drew.cell? ⟨w4.heap.size, 2, none⟩ = some (u4) ∧ wb.drew.cell? ⟨w5.heap.size, 0, none⟩ = some (.int .i64 3) ∧ wb.drew.cell? ⟨w5.heap.size, 1, none⟩ = some (.int .i64 1) ∧ wb.drew.cell? ⟨w5.heap.size, 2, none⟩ = some (u5) ∧ wb.drew.cell? ⟨w6.heap.size, 0, none⟩ = some (.int .i64 2) ∧ wb.drew.cell? ⟨w6.heap.size, 1, none⟩ = some (.int .i64 2) ∧ wb.drew.cell? ⟨w6.heap.size, 2, none⟩ = some (u6) ∧ wb.drew.cell? ⟨w7.heap.size, 0, none⟩ = some (.int .i64 3) ∧ wb.drew.cell? ⟨w7.heap.size, 1, none⟩ = some (.int .i64 1) ∧ wb.drew.cell? ⟨w7.heap.size, 2, none⟩ = some (u7) ∧ wb.drew.cell? ⟨w8.heap.size, 0, none⟩ = some (.int .i64 3) ∧ wb.drew.cell? ⟨w8.heap.size, 1, none⟩ = some (.int .i64 1) ∧ wb.drew.cell? ⟨w8.heap.size, 2, none⟩ = some (u8) ∧ wb.drew.cell? ⟨w9.heap.size, 0, none⟩ = some (.int .i64 3) ∧ wb.drew.cell? ⟨w9.heap.size, 1, none⟩ = some (.int .i64 1) ∧ wb.drew.cell? ⟨w9.heap.size, 2, none⟩ = some (u9) := ⟨Below.drew (Below.refl _ _), gx4, gy4, gz4, gx5, gy5, gz5, gx6, gy6, gz6, gx7, gy7, gz7, gx8, gy8, gz8, gx9, gy9, gz9⟩
  have HSA := Lib.hid (show ∀ wq, Bel wb wq → Bel wb wq ∧ wq.cell? ⟨w4.heap.size, 0, none⟩ = some (.int .i64 3) ∧ wq.cell? ⟨w4.heap.size, 1, none⟩ = some (.int .i64 1) ∧ wq.cell? ⟨w4.heap.size, 2, none⟩ = some (u4) ∧ wq.cell? ⟨w5.heap.size, 0, none⟩ = some (.int .i64 3) ∧ wq.cell? ⟨w5.heap.size, 1, none⟩ = some (.int .i64 1) ∧ wq.cell? ⟨w5.heap.size, 2, none⟩ = some (u5) ∧ wq.cell? ⟨w6.heap.size, 0, none⟩ = some (.int .i64 2) ∧ wq.cell? ⟨w6.heap.size, 1, none⟩ = some (.int .i64 2) ∧ wq.cell? ⟨w6.heap.size, 2, none⟩ = some (u6) ∧ wq.cell? ⟨w7.heap.size, 0, none⟩ = some (.int .i64 3) ∧ wq.cell? ⟨w7.heap.size, 1, none⟩ = some (.int .i64 1) ∧ wq.cell? ⟨w7.heap.size, 2, none⟩ = some (u7) ∧ wq.cell? ⟨w8.heap.size, 0, none⟩ = some (.int .i64 3) ∧ wq.cell? ⟨w8.heap.size, 1, none⟩ = some (.int .i64 1) ∧ wq.cell? ⟨w8.heap.size, 2, none⟩ = some (u8) ∧ wq.cell? ⟨w9.heap.size, 0, none⟩ = some (.int .i64 3) ∧ wq.cell? ⟨w9.heap.size, 1, none⟩ = some (.int .i64 1) ∧ wq.cell? ⟨w9.heap.size, 2, none⟩ = some (u9) from fun wq hb => ⟨hb, (Bel.img HG4.out hb).1, (Bel.img HG4.out hb).2.1, (Bel.img HG4.out hb).2.2, (Bel.img HG5.out hb).1, (Bel.img HG5.out hb).2.1, (Bel.img HG5.out hb).2.2, (Bel.img HG6.out hb).1, (Bel.img HG6.out hb).2.1, (Bel.img HG6.out hb).2.2, (Bel.img HG7.out hb).1, (Bel.img HG7.out hb).2.1, (Bel.img HG7.out hb).2.2, (Bel.img HG8.out hb).1, (Bel.img HG8.out hb).2.1, (Bel.img HG8.out hb).2.2, (Bel.img HG9.out hb).1, (Bel.img HG9.out hb).2.1, (Bel.img HG9.out hb).2.2⟩)
  have HB0 : Bel wb wb := Below.refl _ _
  go_region_held3 (fun w' => Bel wb w' ∧ w'.cell? ⟨w4.heap.size, 0, none⟩ = some (.int .i64 3) ∧ w'.cell? ⟨w4.heap.size, 1, none⟩ = some (.int .i64 1) ∧ w'.cell? ⟨w4.heap.size, 2, none⟩ = some (u4) ∧ w'.cell? ⟨w5.heap.size, 0, none⟩ = some (.int .i64 3) ∧ w'.cell? ⟨w5.heap.size, 1, none⟩ = some (.int .i64 1) ∧ w'.cell? ⟨w5.heap.size, 2, none⟩ = some (u5) ∧ w'.cell? ⟨w6.heap.size, 0, none⟩ = some (.int .i64 2) ∧ w'.cell? ⟨w6.heap.size, 1, none⟩ = some (.int .i64 2) ∧ w'.cell? ⟨w6.heap.size, 2, none⟩ = some (u6) ∧ w'.cell? ⟨w7.heap.size, 0, none⟩ = some (.int .i64 3) ∧ w'.cell? ⟨w7.heap.size, 1, none⟩ = some (.int .i64 1) ∧ w'.cell? ⟨w7.heap.size, 2, none⟩ = some (u7) ∧ w'.cell? ⟨w8.heap.size, 0, none⟩ = some (.int .i64 3) ∧ w'.cell? ⟨w8.heap.size, 1, none⟩ = some (.int .i64 1) ∧ w'.cell? ⟨w8.heap.size, 2, none⟩ = some (u8) ∧ w'.cell? ⟨w9.heap.size, 0, none⟩ = some (.int .i64 3) ∧ w'.cell? ⟨w9.heap.size, 1, none⟩ = some (.int .i64 1) ∧ w'.cell? ⟨w9.heap.size, 2, none⟩ = some (u9))
    (first | assumption | exact hS0 | exact HSA.out _ (Bel.drew (Bel.al HB0)) | exact HSA.out _ hBv | exact HSA.out _ (Bel.al hBv) | go_keep)
    (first | ((with_reducible refine (val3D _ _ _ _).mono ?_); rintro e wv ⟨rfl, hLv, hbv⟩; have hBv : Bel wb wv := Bel.call (Bel.drew (Bel.al HB0)) hbv) | ((with_reducible refine (val3 _ _ _ _).mono ?_); rintro e wv ⟨rfl, hLv, hbv⟩; have hBv : Bel wb wv := Bel.call (Bel.al hBv) hbv) | ((with_reducible refine (val4 _ _ _ _ _).mono ?_); rintro e wv ⟨rfl, hLv, hbv⟩; have hBv : Bel wb wv := Bel.call (Bel.al hBv) hbv) | ((with_reducible refine (msame31 _ _ [65535, 0, 0] _ (HI4.out _ hBv) hLv).mono ?_); rintro e wv ⟨rfl, hbv⟩; have hBv : Bel wb wv := Bel.call hBv hbv) | ((with_reducible refine (msame31 _ _ [65535, 65535, 65535] _ (HI5.out _ hBv) hLv).mono ?_); rintro e wv ⟨rfl, hbv⟩; have hBv : Bel wb wv := Bel.call hBv hbv) | ((with_reducible refine (msame22 _ _ [65535, 0, 0, 65535] _ (HI6.out _ hBv) hLv).mono ?_); rintro e wv ⟨rfl, hbv⟩; have hBv : Bel wb wv := Bel.call hBv hbv) | ((with_reducible refine (msame31 _ _ [65535, 0, 65535] _ (HI7.out _ hBv) hLv).mono ?_); rintro e wv ⟨rfl, hbv⟩; have hBv : Bel wb wv := Bel.call hBv hbv) | ((with_reducible refine (msame31 _ _ [65535, 32768, 65535] _ (HI8.out _ hBv) hLv).mono ?_); rintro e wv ⟨rfl, hbv⟩; have hBv : Bel wb wv := Bel.call hBv hbv) | ((with_reducible refine (msame31 _ _ [0, 0, 0] _ (HI9.out _ hBv) hLv).mono ?_); rintro e wv ⟨rfl, hbv⟩; have hBv : Bel wb wv := Bel.call hBv hbv))
  go_wp2_with fail
  go_ret
  exact ⟨rfl, bel_trans HB.out hBv⟩
end Go.Proofs.Ytgdefgpbaccneaa
