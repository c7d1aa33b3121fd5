/- The examples of the law hold. -/
import Derived.Test.YtllmckapiplpcaaAwEx
import Derived.Deep.RegionHeld3
namespace Go.Proofs.Ytllmckapiplpcaa
open Go.RowKit

/-- The boxes of the examples' pixels and image. -/
structure AwS (s : Nat) (wr : World) : Prop where
  b1 : Bx wr s 26 #[.int .i64 1, .int .i64 0, .int .i64 0, .int .i64 9]
  b2 : Bx wr (s + 1) 26 #[.int .i64 0, .int .i64 2, .int .i64 0, .int .i64 8]
  b3 : Bx wr (s + 1 + 1) 26 #[.int .i64 0, .int .i64 0, .int .i64 3, .int .i64 7]
  b4 : Bx wr (s + 1 + 1 + 1) 26 #[.int .i64 1, .int .i64 0, .int .i64 0, .int .i64 9, .int .i64 0, .int .i64 2, .int .i64 0, .int .i64 8]
  b5 : Bx wr (s + 1 + 1 + 1 + 1) 24 #[.int .i64 2, .int .i64 1, .slice (some ⟨s + 1 + 1 + 1, 0, none⟩) 2 2]
theorem AwS.below {s : Nat} {w w' : World} (h : AwS s w) (hb : Below w.heap.size w w') : AwS s w' := ⟨h.b1.below hb, h.b2.below hb, h.b3.below hb, h.b4.below hb, h.b5.below hb⟩
theorem AwS.set3 {s g : Nat} {w : World} (h : AwS s w) (hg : s + 4 < g) (a b c : Value) : AwS s (((w.setCell ⟨g, 0, none⟩ a).setCell ⟨g, 1, none⟩ b).setCell ⟨g, 2, none⟩ c) :=
  ⟨((h.b1.other (by omega) _ _).other (by omega) _ _).other (by omega) _ _, ((h.b2.other (by omega) _ _).other (by omega) _ _).other (by omega) _ _, ((h.b3.other (by omega) _ _).other (by omega) _ _).other (by omega) _ _, ((h.b4.other (by omega) _ _).other (by omega) _ _).other (by omega) _ _, ((h.b5.other (by omega) _ _).other (by omega) _ _).other (by omega) _ _⟩
theorem AwS.pix {s : Nat} {w : World} (h : AwS s w) : Pixs w w.heap.size (.slice (some ⟨s + 1 + 1 + 1, 0, none⟩) 2 2) [pa, pb] := lit_pixs (ps := [pa, pb]) h.b4 (by decide)
theorem aw_start (w w0 : World) (hw : w0 = ((((w.alloc (.cells #[.int .i64 1, .int .i64 0, .int .i64 0, .int .i64 9] 26)).alloc (.cells #[.int .i64 0, .int .i64 2, .int .i64 0, .int .i64 8] 26)).alloc (.cells #[.int .i64 0, .int .i64 0, .int .i64 3, .int .i64 7] 26)).alloc (.cells #[.int .i64 1, .int .i64 0, .int .i64 0, .int .i64 9, .int .i64 0, .int .i64 2, .int .i64 0, .int .i64 8] 26)).alloc (.cells #[.int .i64 2, .int .i64 1, .slice (some ⟨w.heap.size + 1 + 1 + 1, 0, none⟩) 2 2] 24)) : AwS w.heap.size w0 ∧ Below w.heap.size w w0 ∧ w.heap.size + 4 < w0.heap.size := by
  obtain ⟨a, b, c, d, e⟩ := three_boxes w #[.int .i64 1, .int .i64 0, .int .i64 0, .int .i64 9] #[.int .i64 0, .int .i64 2, .int .i64 0, .int .i64 8] #[.int .i64 0, .int .i64 0, .int .i64 3, .int .i64 7] 26 26 26 _ rfl
  have f := Bx.new (((w.alloc (.cells #[.int .i64 1, .int .i64 0, .int .i64 0, .int .i64 9] 26)).alloc (.cells #[.int .i64 0, .int .i64 2, .int .i64 0, .int .i64 8] 26)).alloc (.cells #[.int .i64 0, .int .i64 0, .int .i64 3, .int .i64 7] 26)) 26 #[.int .i64 1, .int .i64 0, .int .i64 0, .int .i64 9, .int .i64 0, .int .i64 2, .int .i64 0, .int .i64 8]
  rw [e] at f
  have g := Bx.new ((((w.alloc (.cells #[.int .i64 1, .int .i64 0, .int .i64 0, .int .i64 9] 26)).alloc (.cells #[.int .i64 0, .int .i64 2, .int .i64 0, .int .i64 8] 26)).alloc (.cells #[.int .i64 0, .int .i64 0, .int .i64 3, .int .i64 7] 26)).alloc (.cells #[.int .i64 1, .int .i64 0, .int .i64 0, .int .i64 9, .int .i64 0, .int .i64 2, .int .i64 0, .int .i64 8] 26)) 24 #[.int .i64 2, .int .i64 1, .slice (some ⟨w.heap.size + 1 + 1 + 1, 0, none⟩) 2 2]
  rw [World.size_alloc, e] at g
  subst hw
  exact ⟨⟨(a.alloc _).alloc _, (b.alloc _).alloc _, (c.alloc _).alloc _, f.alloc _, g⟩, bel_alloc (bel_alloc d _) _, by rw [World.size_alloc, World.size_alloc, e]; omega⟩
/-- A slice of one image that is written out. -/
theorem lit_imgs {w : World} {g : Nat} {t : TypeId} {W H : Int} {A : Option Addr} {c : Nat} {ps : List Px} (hb : Bx w g t #[.int .i64 W, .int .i64 H, .slice A ps.length c]) (hp : Pixs w w.heap.size (.slice A ps.length c) ps) :
    Imgs w w.heap.size (.slice (some ⟨g, 0, none⟩) 1 1) [⟨W, H, A, c, ps⟩] := by
  refine ⟨_, _, rfl, by simp, fun i hi => ?_⟩
  obtain rfl : i = 0 := by simp at hi; exact hi
  exact ⟨g, 0, rfl, hb.lt, hb.cell rfl, hb.cell rfl, hb.cell rfl, hp⟩
def BelA (w w' : World) : Prop := Below w.heap.size w w'
theorem BelA.call {w w1 w2 : World} (h : BelA w w1) (hb : Below w1.heap.size w1 w2) : BelA w w2 := bel_trans h hb
theorem BelA.drew {w w1 : World} (h : BelA w w1) : BelA w w1.drew := Below.drew h

set_option maxRecDepth 100000 in
set_option maxHeartbeats 4000000 in
theorem awake_any (w : World) : Calls Try.prog 17 #[] w fun e w' => e = .returned (.bool true) ∧ Below w.heap.size w w' := by
  go_enter Try.func17, Try.ntmps17
  go_upto_region 3 with fail
  obtain ⟨hA, hB, hz⟩ := aw_start w _ rfl
  generalize World.alloc (World.alloc (World.alloc (World.alloc (World.alloc w _) _) _) _) _ = w0 at *
  obtain ⟨⟨a1, a2, a3, a4⟩, -⟩ := hA.b1.four
  go_wp2_with fail
  refine (ex_new0 _).mono ?_
  rintro e w1 ⟨A1, n1, c1, rfl, -, hb⟩
  clear a1 a2 a3 a4
  replace hA := hA.below hb; replace hB := bel_trans hB hb; replace hz := Nat.lt_of_lt_of_le hz hb.size; clear hb
  go_upto_region 4 with fail
  obtain ⟨-, hb, -⟩ := one_box w1 #[.int .i64 0, .int .i64 0, .slice A1 n1 c1] 24 _ rfl
  generalize World.alloc w1 _ = w2 at *
  replace hA := hA.below hb; replace hB := bel_trans hB hb; replace hz := Nat.lt_of_lt_of_le hz hb.size; clear hb
  obtain ⟨⟨a1, a2, a3, a4⟩, -⟩ := hA.b3.four
  go_wp2_with fail
  refine (ex_new1 _).mono ?_
  rintro e w3 ⟨A3, n3, c3, rfl, hr, hb⟩
  clear a1 a2 a3 a4
  replace hA := hA.below hb; replace hB := bel_trans hB hb; replace hz := Nat.lt_of_lt_of_le hz hb.size; clear hb
  go_upto_region 5 with fail
  obtain ⟨hN, hb, -⟩ := one_box w3 #[.int .i64 2, .int .i64 1, .slice A3 n3 c3] 24 _ rfl
  have hNP := hr.pixs.on hb
  clear hr
  generalize World.alloc w3 _ = w4 at *
  replace hA := hA.below hb; replace hB := bel_trans hB hb; replace hz := Nat.lt_of_lt_of_le hz hb.size; clear hb
  obtain ⟨⟨a1, a2, a3, a4⟩, -⟩ := hA.b3.four
  obtain ⟨⟨n1, n2, n3⟩, -⟩ := hN.three
  obtain ⟨hL, hb, -⟩ := one_box w4 #[.int .i64 0, .int .i64 0, .int .i64 3, .int .i64 7, .int .i64 0, .int .i64 0, .int .i64 3, .int .i64 7] 26 _ rfl
  have hLP := lit_pixs (ps := [pc, pc]) hL (by decide)
  have hNQ := hNP.on hb
  go_wp2_with fail
  refine (lsame _ 2 1 2 1 _ _ [pc, pc] [pc, pc] true (by simp) hNQ hLP).mono ?_
  rintro e w5 ⟨rfl, hb'⟩
  replace hb := bel_trans hb hb'
  clear a1 a2 a3 a4 n1 n2 n3 hL hLP hNQ hb'
  replace hA := hA.below hb; replace hB := bel_trans hB hb; replace hz := Nat.lt_of_lt_of_le hz hb.size; replace hN := hN.below hb; replace hNP := hNP.on hb; clear hb
  obtain ⟨⟨i1, i2, i3⟩, -⟩ := hA.b5.three
  go_wp2_with fail
  refine (ex_check _ _ _ hA.pix).mono ?_
  rintro e w6 ⟨rfl, hb⟩
  clear i1 i2 i3
  replace hA := hA.below hb; replace hB := bel_trans hB hb; replace hz := Nat.lt_of_lt_of_le hz hb.size; replace hN := hN.below hb; replace hNP := hNP.on hb; clear hb
  obtain ⟨⟨i1, i2, i3⟩, -⟩ := hA.b5.three
  obtain ⟨⟨n1, n2, n3⟩, -⟩ := hN.three
  go_wp2_with fail
  refine (ex_same _ 2 1 2 1 _ _ [pa, pb] [pc, pc] false (by simp [pa, pb, pc]) hA.pix hNP).mono ?_
  rintro e w7 ⟨rfl, hb⟩
  clear i1 i2 i3 n1 n2 n3 hN hNP
  replace hA := hA.below hb; replace hB := bel_trans hB hb; replace hz := Nat.lt_of_lt_of_le hz hb.size; clear hb
  obtain ⟨⟨i1, i2, i3⟩, -⟩ := hA.b5.three
  go_wp2_with fail
  refine (ex_same _ 2 1 2 1 _ _ [pa, pb] [pa, pb] true (by simp) hA.pix hA.pix).mono ?_
  rintro e w8 ⟨rfl, hb⟩
  clear i1 i2 i3
  replace hA := hA.below hb; replace hB := bel_trans hB hb; replace hz := Nat.lt_of_lt_of_le hz hb.size; clear hb
  go_upto_region 7 with fail
  have HSA := Lib.hid (show ∀ wq, BelA w8 wq → BelA w8 wq ∧ wq.cell? ⟨w.heap.size + 1 + 1 + 1 + 1, 0, none⟩ = some (.int .i64 2) ∧ wq.cell? ⟨w.heap.size + 1 + 1 + 1 + 1, 1, none⟩ = some (.int .i64 1) ∧ wq.cell? ⟨w.heap.size + 1 + 1 + 1 + 1, 2, none⟩ = some (.slice (some ⟨w.heap.size + 1 + 1 + 1, 0, none⟩) 2 2) ∧ wq.cell? ⟨w.heap.size, 0, none⟩ = some (.int .i64 1) ∧ wq.cell? ⟨w.heap.size, 1, none⟩ = some (.int .i64 0) ∧ wq.cell? ⟨w.heap.size, 2, none⟩ = some (.int .i64 0) ∧ wq.cell? ⟨w.heap.size, 3, none⟩ = some (.int .i64 9) ∧ wq.cell? ⟨w.heap.size + 1, 0, none⟩ = some (.int .i64 0) ∧ wq.cell? ⟨w.heap.size + 1, 1, none⟩ = some (.int .i64 2) ∧ wq.cell? ⟨w.heap.size + 1, 2, none⟩ = some (.int .i64 0) ∧ wq.cell? ⟨w.heap.size + 1, 3, none⟩ = some (.int .i64 8) from fun wq hb => ⟨hb, (AwS.b5 (hA.below hb)).three.1.1, (AwS.b5 (hA.below hb)).three.1.2.1, (AwS.b5 (hA.below hb)).three.1.2.2, (AwS.b1 (hA.below hb)).four.1.1, (AwS.b1 (hA.below hb)).four.1.2.1, (AwS.b1 (hA.below hb)).four.1.2.2.1, (AwS.b1 (hA.below hb)).four.1.2.2.2, (AwS.b2 (hA.below hb)).four.1.1, (AwS.b2 (hA.below hb)).four.1.2.1, (AwS.b2 (hA.below hb)).four.1.2.2.1, (AwS.b2 (hA.below hb)).four.1.2.2.2⟩)
  have HPA := Lib.hid (show ∀ wq, BelA w8 wq → Pixs wq wq.heap.size (.slice (some ⟨w.heap.size + 1 + 1 + 1, 0, none⟩) 2 2) [pa, pb] from fun wq hb => (hA.below hb).pix)
  have hB0 : BelA w8 w8.drew := Below.drew (Below.refl _ _)
  have hS0 : BelA w8 w8.drew ∧ w8.drew.cell? ⟨w.heap.size + 1 + 1 + 1 + 1, 0, none⟩ = some (.int .i64 2) ∧ w8.drew.cell? ⟨w.heap.size + 1 + 1 + 1 + 1, 1, none⟩ = some (.int .i64 1) ∧ w8.drew.cell? ⟨w.heap.size + 1 + 1 + 1 + 1, 2, none⟩ = some (.slice (some ⟨w.heap.size + 1 + 1 + 1, 0, none⟩) 2 2) ∧ w8.drew.cell? ⟨w.heap.size, 0, none⟩ = some (.int .i64 1) ∧ w8.drew.cell? ⟨w.heap.size, 1, none⟩ = some (.int .i64 0) ∧ w8.drew.cell? ⟨w.heap.size, 2, none⟩ = some (.int .i64 0) ∧ w8.drew.cell? ⟨w.heap.size, 3, none⟩ = some (.int .i64 9) ∧ w8.drew.cell? ⟨w.heap.size + 1, 0, none⟩ = some (.int .i64 0) ∧ w8.drew.cell? ⟨w.heap.size + 1, 1, none⟩ = some (.int .i64 2) ∧ w8.drew.cell? ⟨w.heap.size + 1, 2, none⟩ = some (.int .i64 0) ∧ w8.drew.cell? ⟨w.heap.size + 1, 3, none⟩ = some (.int .i64 8) := HSA.out _ hB0
  have HAA := Lib.hid hA; have HBB := Lib.hid hB; clear hA hB
  go_region_held3 (fun w' => BelA w8 w' ∧ w'.cell? ⟨w.heap.size + 1 + 1 + 1 + 1, 0, none⟩ = some (.int .i64 2) ∧ w'.cell? ⟨w.heap.size + 1 + 1 + 1 + 1, 1, none⟩ = some (.int .i64 1) ∧ w'.cell? ⟨w.heap.size + 1 + 1 + 1 + 1, 2, none⟩ = some (.slice (some ⟨w.heap.size + 1 + 1 + 1, 0, none⟩) 2 2) ∧ w'.cell? ⟨w.heap.size, 0, none⟩ = some (.int .i64 1) ∧ w'.cell? ⟨w.heap.size, 1, none⟩ = some (.int .i64 0) ∧ w'.cell? ⟨w.heap.size, 2, none⟩ = some (.int .i64 0) ∧ w'.cell? ⟨w.heap.size, 3, none⟩ = some (.int .i64 9) ∧ w'.cell? ⟨w.heap.size + 1, 0, none⟩ = some (.int .i64 0) ∧ w'.cell? ⟨w.heap.size + 1, 1, none⟩ = some (.int .i64 2) ∧ w'.cell? ⟨w.heap.size + 1, 2, none⟩ = some (.int .i64 0) ∧ w'.cell? ⟨w.heap.size + 1, 3, none⟩ = some (.int .i64 8))
    (first | assumption | exact hS0 | exact HSA.out _ hBv | go_keep)
    (first | ((with_reducible refine (ex_edge1 _ _ _ (HPA.out _ hB0)).mono ?_); rintro e wv ⟨rfl, hbv⟩; have hBv : BelA w8 wv := BelA.call hB0 hbv) | ((with_reducible refine (ex_edge2 _ _ _ (HPA.out _ hBv)).mono ?_); rintro e wv ⟨rfl, hbv⟩; have hBv : BelA w8 wv := BelA.call hBv hbv) | ((with_reducible refine (ex_at1 _ _ _ (HPA.out _ hBv)).mono ?_); rintro e wv ⟨rfl, hbv⟩; have hBv : BelA w8 wv := BelA.call hBv hbv) | ((with_reducible refine (ex_at2 _ _ _ (HPA.out _ hBv)).mono ?_); rintro e wv ⟨rfl, hbv⟩; have hBv : BelA w8 wv := BelA.call hBv hbv))
  have hA := HAA.out.below hBv; have hB := bel_trans HBB.out hBv; replace hz := Nat.lt_of_lt_of_le hz (Below.size hBv)
  clear HAA HBB HSA HPA hB0 hS0
  clear hBv
  obtain ⟨⟨i1, i2, i3⟩, -⟩ := hA.b5.three
  go_wp2_with fail
  refine (ex_crop _ _ _ hA.pix).mono ?_
  rintro e w10 ⟨A10, n10, c10, rfl, hr, hb⟩
  clear i1 i2 i3
  replace hA := hA.below hb; replace hB := bel_trans hB hb; replace hz := Nat.lt_of_lt_of_le hz hb.size; clear hb
  go_upto_region 10 with fail
  obtain ⟨hT, hb, -⟩ := one_box w10 #[.int .i64 2, .int .i64 2, .slice A10 n10 c10] 24 _ rfl
  have hzt := hz
  have hTP := hr.pixs.on hb; clear hr
  generalize World.alloc w10 _ = w11 at *
  replace hA := hA.below hb; replace hB := bel_trans hB hb; replace hz := Nat.lt_of_lt_of_le hz hb.size; clear hb
  obtain ⟨⟨a1, a2, a3, a4⟩, -⟩ := hA.b2.four
  obtain ⟨⟨t1, t2, t3⟩, -⟩ := hT.three
  obtain ⟨hL, hb, -⟩ := one_box w11 #[.int .i64 0, .int .i64 0, .int .i64 0, .int .i64 0, .int .i64 0, .int .i64 0, .int .i64 0, .int .i64 0, .int .i64 0, .int .i64 2, .int .i64 0, .int .i64 8, .int .i64 0, .int .i64 0, .int .i64 0, .int .i64 0] 26 _ rfl
  have hLP := lit_pixs (ps := [Px.zero, Px.zero, pb, Px.zero]) hL (by decide)
  have hTQ := hTP.on hb
  go_wp2_with fail
  refine (lsame _ 2 2 2 2 _ _ [Px.zero, Px.zero, pb, Px.zero] [Px.zero, Px.zero, pb, Px.zero] true (by simp) hTQ hLP).mono ?_
  rintro e w12 ⟨rfl, hb'⟩
  replace hb := bel_trans hb hb'
  clear t1 t2 t3 hL hLP hTQ hb' hTP a1 a2 a3 a4
  replace hA := hA.below hb; replace hB := bel_trans hB hb; replace hz := Nat.lt_of_lt_of_le hz hb.size; replace hT := hT.below hb; clear hb
  obtain ⟨⟨i1, i2, i3⟩, -⟩ := hA.b5.three
  have HZT := hT.lt
  go_wp2_with fail
  refine (ex_flip _ _ _ hA.pix).mono ?_
  rintro e w13 ⟨A13, n13, c13, rfl, hr, hb⟩
  clear i1 i2 i3
  replace hA := hA.below hb; replace hB := bel_trans hB hb; replace hz := Nat.lt_of_lt_of_le hz hb.size; replace hT := hT.below hb; clear hb
  obtain ⟨-, tf1, tf2, tf3⟩ := hT.three
  obtain ⟨⟨t1, t2, t3⟩, -⟩ := hT.three
  go_upto_region 13 with fail
  clear t1 t2 t3 tf1 tf2 tf3
  replace hA := hA.set3 hzt (.int .i64 1) (.int .i64 2) (.slice A13 n13 c13)
  replace hB := set3_below hB (Nat.le_of_lt (Nat.lt_of_le_of_lt (Nat.le_add_right _ 4) hzt)) (.int .i64 1) (.int .i64 2) (.slice A13 n13 c13)
  have hTP := (hr.set3 HZT (Nat.le_refl _) (.int .i64 1) (.int .i64 2) (.slice A13 n13 c13)).pixs; clear hr HZT
  replace hT := hT.set3 (.int .i64 1) (.int .i64 2) (.slice A13 n13 c13)
  have hz2 := hT.lt; replace hz := Nat.lt_trans hzt hz2; clear hz2
  generalize World.setCell (World.setCell (World.setCell w13 _ _) _ _) _ _ = w14 at *
  obtain ⟨⟨a1, a2, a3, a4⟩, -⟩ := hA.b1.four
  obtain ⟨⟨b1, b2, b3, b4⟩, -⟩ := hA.b2.four
  obtain ⟨⟨t1, t2, t3⟩, -⟩ := hT.three
  obtain ⟨hL, hb, -⟩ := one_box w14 #[.int .i64 1, .int .i64 0, .int .i64 0, .int .i64 9, .int .i64 0, .int .i64 2, .int .i64 0, .int .i64 8] 26 _ rfl
  have hLP := lit_pixs (ps := [pa, pb]) hL (by decide)
  have hTQ := hTP.on hb
  go_wp2_with fail
  refine (lsame _ 1 2 1 2 _ _ [pa, pb] [pa, pb] true (by simp) hTQ hLP).mono ?_
  rintro e w15 ⟨rfl, hb'⟩
  replace hb := bel_trans hb hb'
  clear t1 t2 t3 hL hLP hTQ hb' hTP a1 a2 a3 a4 b1 b2 b3 b4
  replace hA := hA.below hb; replace hB := bel_trans hB hb; replace hz := Nat.lt_of_lt_of_le hz hb.size; replace hT := hT.below hb; clear hb
  obtain ⟨⟨i1, i2, i3⟩, -⟩ := hA.b5.three
  obtain ⟨⟨a1, a2, a3, a4⟩, -⟩ := hA.b3.four
  obtain ⟨hL, hb2, -⟩ := one_box w15 #[.int .i64 0, .int .i64 0, .int .i64 3, .int .i64 7] 26 _ rfl
  have hLP := lit_pixs (ps := [pc]) hL (by decide)
  have hA' := hA.below hb2
  have hT' := hT.below hb2
  have HZT := hT'.lt
  go_wp2_with fail
  refine (ex_put _ _ _ hA'.pix _ _ hLP).mono ?_
  rintro e w16 ⟨A16, n16, c16, rfl, hr, hb⟩
  clear i1 i2 i3 a1 a2 a3 a4 hL hLP hA' hT'
  replace hb := bel_trans hb2 hb
  replace hA := hA.below hb; replace hB := bel_trans hB hb; replace hz := Nat.lt_of_lt_of_le hz hb.size; replace hT := hT.below hb; clear hb
  obtain ⟨-, tf1, tf2, tf3⟩ := hT.three
  obtain ⟨⟨t1, t2, t3⟩, -⟩ := hT.three
  go_upto_region 16 with fail
  clear t1 t2 t3 tf1 tf2 tf3
  replace hA := hA.set3 hzt (.int .i64 2) (.int .i64 1) (.slice A16 n16 c16)
  replace hB := set3_below hB (Nat.le_of_lt (Nat.lt_of_le_of_lt (Nat.le_add_right _ 4) hzt)) (.int .i64 2) (.int .i64 1) (.slice A16 n16 c16)
  have hTP := (hr.set3 HZT (Nat.le_refl _) (.int .i64 2) (.int .i64 1) (.slice A16 n16 c16)).pixs; clear hr HZT
  replace hT := hT.set3 (.int .i64 2) (.int .i64 1) (.slice A16 n16 c16)
  have hz2 := hT.lt; replace hz := Nat.lt_trans hzt hz2; clear hz2
  generalize World.setCell (World.setCell (World.setCell w16 _ _) _ _) _ _ = w17 at *
  obtain ⟨⟨a1, a2, a3, a4⟩, -⟩ := hA.b1.four
  obtain ⟨⟨b1, b2, b3, b4⟩, -⟩ := hA.b3.four
  obtain ⟨⟨t1, t2, t3⟩, -⟩ := hT.three
  obtain ⟨hL, hb, -⟩ := one_box w17 #[.int .i64 1, .int .i64 0, .int .i64 0, .int .i64 9, .int .i64 0, .int .i64 0, .int .i64 3, .int .i64 7] 26 _ rfl
  have hLP := lit_pixs (ps := [pa, pc]) hL (by decide)
  have hTQ := hTP.on hb
  go_wp2_with fail
  refine (lsame _ 2 1 2 1 _ _ [pa, pc] [pa, pc] true (by simp) hTQ hLP).mono ?_
  rintro e w18 ⟨rfl, hb'⟩
  replace hb := bel_trans hb hb'
  clear t1 t2 t3 hL hLP hTQ hb' hTP a1 a2 a3 a4 b1 b2 b3 b4
  replace hA := hA.below hb; replace hB := bel_trans hB hb; replace hz := Nat.lt_of_lt_of_le hz hb.size; replace hT := hT.below hb; clear hb
  obtain ⟨⟨i1, i2, i3⟩, -⟩ := hA.b5.three
  go_wp2_with fail
  refine (ex_box _ _ _ hA.pix).mono ?_
  rintro e w19 ⟨rfl, hb⟩
  clear i1 i2 i3
  replace hA := hA.below hb; replace hB := bel_trans hB hb; replace hz := Nat.lt_of_lt_of_le hz hb.size; replace hT := hT.below hb; clear hb
  obtain ⟨⟨i1, i2, i3⟩, -⟩ := hA.b5.three
  obtain ⟨hL, hb2, -⟩ := one_box w19 #[.int .i64 2, .int .i64 1, .slice (some ⟨w.heap.size + 1 + 1 + 1, 0, none⟩) 2 2] 24 _ rfl
  have hA' := hA.below hb2
  have hT' := hT.below hb2
  have HZT := hT'.lt
  have hJ : Imgs _ _ (.slice (some ⟨w19.heap.size, 0, none⟩) 1 1) [⟨2, 1, some ⟨w.heap.size + 1 + 1 + 1, 0, none⟩, 2, [pa, pb]⟩] := lit_imgs hL hA'.pix
  go_wp2_with fail
  refine (ex_join _ _ _ _ hJ).mono ?_
  rintro e w20 ⟨A20, n20, c20, rfl, hr, hb⟩
  clear i1 i2 i3 hL hA' hT' hJ
  replace hb := bel_trans hb2 hb
  replace hA := hA.below hb; replace hB := bel_trans hB hb; replace hz := Nat.lt_of_lt_of_le hz hb.size; replace hT := hT.below hb; clear hb
  obtain ⟨-, tf1, tf2, tf3⟩ := hT.three
  obtain ⟨⟨t1, t2, t3⟩, -⟩ := hT.three
  go_upto_region 19 with fail
  clear t1 t2 t3 tf1 tf2 tf3
  replace hA := hA.set3 hzt (.int .i64 2) (.int .i64 1) (.slice A20 n20 c20)
  replace hB := set3_below hB (Nat.le_of_lt (Nat.lt_of_le_of_lt (Nat.le_add_right _ 4) hzt)) (.int .i64 2) (.int .i64 1) (.slice A20 n20 c20)
  have hTP := (hr.set3 HZT (Nat.le_refl _) (.int .i64 2) (.int .i64 1) (.slice A20 n20 c20)).pixs; clear hr HZT
  replace hT := hT.set3 (.int .i64 2) (.int .i64 1) (.slice A20 n20 c20)
  have hz2 := hT.lt; replace hz := Nat.lt_trans hzt hz2; clear hz2
  generalize World.setCell (World.setCell (World.setCell w20 _ _) _ _) _ _ = w21 at *
  obtain ⟨⟨i1, i2, i3⟩, -⟩ := hA.b5.three
  obtain ⟨⟨t1, t2, t3⟩, -⟩ := hT.three
  go_wp2_with fail
  refine (lsame _ 2 1 2 1 _ _ [pa, pb] [pa, pb] true (by simp) hTP hA.pix).mono ?_
  rintro e w22 ⟨rfl, hb⟩
  go_wp2_with fail
  go_ret
  exact ⟨rfl, bel_trans hB hb⟩
end Go.Proofs.Ytllmckapiplpcaa
