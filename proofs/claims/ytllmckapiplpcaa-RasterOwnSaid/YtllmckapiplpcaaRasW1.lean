/- The walks of RasterCrops and RasterPuts. -/
import Derived.Test.YtllmckapiplpcaaAwake
import Derived.Test.YtllmckapiplpcaaRasOpen
import Derived.Test.YtllmckapiplpcaaRPutA
namespace Go.Proofs.Ytllmckapiplpcaa
open Go.RowKit

theorem imOut_ex (e W H : Int) (l : List Px) : ∃ W1 H1 L1, ∀ w, ImOut e W H l w = ImPost e W1 H1 L1 w := ⟨_, _, _, fun _ => rfl⟩
theorem sm_true (w : World) (W H : Int) (v1 v2 : Value) (l : List Px) (h1 : Pixs w w.heap.size v1 l) (h2 : Pixs w w.heap.size v2 l) :
    Calls Try.prog 20 #[.agg #[.int .i64 W, .int .i64 H, v1], .agg #[.int .i64 W, .int .i64 H, v2]] w fun e w' => e = .returned (.bool true) ∧ Below w.heap.size w w' := lsame w W H W H v1 v2 l l true (by simp) h1 h2
set_option maxHeartbeats 2000000 in
theorem crops_core (W H : Int) (A : Option Addr) (c : Nat) (ps : List Px) (x y p q : Int) (er W1 H1 : Int) (L1 : List Px) (w : World) (hp : Pixs w w.heap.size (.slice A ps.length c) ps)
    (T1 : ∀ w', Pixs w' w'.heap.size (.slice A ps.length c) ps → Calls Try.prog 27 #[.agg #[.int .i64 W, .int .i64 H, .slice A ps.length c], .agg #[.int .i64 x, .int .i64 y, .int .i64 p, .int .i64 q]] w' (ImPost er W1 H1 L1 w'))
    (T2 : ∀ w', Pixs w' w'.heap.size (.slice A ps.length c) ps → Calls Try.prog 28 #[.agg #[.int .i64 W, .int .i64 H, .slice A ps.length c], .agg #[.int .i64 x, .int .i64 y, .int .i64 p, .int .i64 q]] w' (ImPost er W1 H1 L1 w')) :
    Calls Try.prog 6 #[.agg #[.int .i64 W, .int .i64 H, .slice A ps.length c], .agg #[.int .i64 x, .int .i64 y, .int .i64 p, .int .i64 q]] w fun e w' => e = .returned (.bool true) ∧ Below w.heap.size w w' := by
  have Hhp := Lib.hid hp; clear hp
  have HT1 := Lib.hid T1; have HT2 := Lib.hid T2; clear T1 T2
  go_enter Try.func6, Try.ntmps6
  go_upto_region 1 with fail
  obtain ⟨hb1, hb2, hB⟩ := two_boxes w #[.int .i64 W, .int .i64 H, .slice A ps.length c] #[.int .i64 x, .int .i64 y, .int .i64 p, .int .i64 q] 24 37 _ rfl
  generalize World.alloc (World.alloc w _) _ = w0 at *
  obtain ⟨⟨j1, j2, j3⟩, -⟩ := hb1.three
  obtain ⟨⟨k1, k2, k3, k4⟩, -⟩ := hb2.four
  go_wp2_with fail
  refine (HT1.out _ (Hhp.out.on hB)).mono ?_
  rintro e w1 ⟨A1, n1, c1, rfl, hr, hbb⟩
  clear j1 j2 j3 k1 k2 k3 k4
  replace hb1 := hb1.below hbb; replace hb2 := hb2.below hbb; replace hB := bel_trans hB hbb
  clear hbb
  go_upto_region 2 with fail
  obtain ⟨hb5, hbb, -⟩ := one_box w1 #[.int .i64 W1, .int .i64 H1, .slice A1 n1 c1] 24 _ rfl
  have hP1 := hr.pixs.on hbb; clear hr
  generalize World.alloc w1 _ = w2 at *
  replace hb1 := hb1.below hbb; replace hb2 := hb2.below hbb; replace hB := bel_trans hB hbb
  clear hbb
  obtain ⟨⟨j1, j2, j3⟩, -⟩ := hb1.three
  obtain ⟨⟨k1, k2, k3, k4⟩, -⟩ := hb2.four
  go_wp2_with fail
  refine (HT2.out _ (Hhp.out.on hB)).mono ?_
  rintro e w3 ⟨A2, n2, c2, rfl, hr, hbb⟩
  clear j1 j2 j3 k1 k2 k3 k4
  replace hb1 := hb1.below hbb; replace hb2 := hb2.below hbb; replace hb5 := hb5.below hbb; replace hB := bel_trans hB hbb
  replace hP1 := hP1.on hbb
  clear hbb
  go_upto_region 3 with fail
  obtain ⟨hb7, hbb, -⟩ := one_box w3 #[.int .i64 W1, .int .i64 H1, .slice A2 n2 c2] 24 _ rfl
  have hP2 := hr.pixs.on hbb; clear hr
  generalize World.alloc w3 _ = w4 at *
  replace hb1 := hb1.below hbb; replace hb2 := hb2.below hbb; replace hb5 := hb5.below hbb; replace hB := bel_trans hB hbb
  replace hP1 := hP1.on hbb
  clear hbb
  go_wp2_with fail
  refine (awake_any _).mono ?_
  rintro e w5 ⟨rfl, hbb⟩
  replace hb5 := hb5.below hbb; replace hb7 := hb7.below hbb; replace hB := bel_trans hB hbb; replace hP1 := hP1.on hbb; replace hP2 := hP2.on hbb
  clear hbb
  obtain ⟨⟨t1, t2, t3⟩, -⟩ := hb5.three
  obtain ⟨⟨u1, u2, u3⟩, -⟩ := hb7.three
  go_wp2_with fail
  refine (sm_true _ W1 H1 _ _ L1 hP1 hP2).mono ?_
  rintro e w6 ⟨rfl, hbb⟩
  go_wp2_with fail
  go_ret
  exact ⟨rfl, bel_trans hB hbb⟩
theorem walk_crops (v0 : Value) (x0 : Int × Int × List Px) (v1 : Value) (x1 : Int × Int × Int × Int) (w : World) (h0 : ImgV w v0 x0) (h1 : RcV v1 x1) :
    Calls Try.prog 6 #[v0, v1] w fun e w' => e = .returned (.bool true) ∧ Below w.heap.size w w' := by
  obtain ⟨⟨A, n, c, rfl, hp⟩, _, _⟩ := h0
  obtain ⟨W, H, ps⟩ := x0
  obtain rfl := hp.len
  obtain ⟨rfl, _⟩ := h1
  obtain ⟨x, y, p, q⟩ := x1
  exact crops_core W H A c ps x y p q _ _ _ _ w hp (fun w' h => crop_any W H A c ps w' h x y p q) (fun w' h => rcrop_any W H A c ps w' h x y p q)
set_option maxHeartbeats 2000000 in
theorem puts_core (W H : Int) (A : Option Addr) (c : Nat) (ps : List Px) (W' H' : Int) (A' : Option Addr) (c' : Nat) (qs : List Px) (x y : Int) (er W1 H1 : Int) (L1 : List Px) (w : World) (hp : Pixs w w.heap.size (.slice A ps.length c) ps) (hq : Pixs w w.heap.size (.slice A' qs.length c') qs)
    (T1 : ∀ w', Pixs w' w'.heap.size (.slice A ps.length c) ps → Pixs w' w'.heap.size (.slice A' qs.length c') qs → Calls Try.prog 29 #[.agg #[.int .i64 W, .int .i64 H, .slice A ps.length c], .agg #[.int .i64 W', .int .i64 H', .slice A' qs.length c'], .agg #[.int .i64 x, .int .i64 y]] w' (ImPost er W1 H1 L1 w'))
    (T2 : ∀ w', Pixs w' w'.heap.size (.slice A ps.length c) ps → Pixs w' w'.heap.size (.slice A' qs.length c') qs → Calls Try.prog 30 #[.agg #[.int .i64 W, .int .i64 H, .slice A ps.length c], .agg #[.int .i64 W', .int .i64 H', .slice A' qs.length c'], .agg #[.int .i64 x, .int .i64 y]] w' (ImPost er W1 H1 L1 w')) :
    Calls Try.prog 7 #[.agg #[.int .i64 W, .int .i64 H, .slice A ps.length c], .agg #[.int .i64 W', .int .i64 H', .slice A' qs.length c'], .agg #[.int .i64 x, .int .i64 y]] w fun e w' => e = .returned (.bool true) ∧ Below w.heap.size w w' := by
  have Hhp := Lib.hid hp; clear hp
  have Hhq := Lib.hid hq; clear hq
  have HT1 := Lib.hid T1; have HT2 := Lib.hid T2; clear T1 T2
  go_enter Try.func7, Try.ntmps7
  go_upto_region 1 with fail
  obtain ⟨hb1, hb2, hb3, hB, -⟩ := three_boxes w #[.int .i64 W, .int .i64 H, .slice A ps.length c] #[.int .i64 W', .int .i64 H', .slice A' qs.length c'] #[.int .i64 x, .int .i64 y] 24 24 41 _ rfl
  generalize World.alloc (World.alloc (World.alloc w _) _) _ = w0 at *
  obtain ⟨⟨j1, j2, j3⟩, -⟩ := hb1.three
  obtain ⟨⟨k1, k2, k3⟩, -⟩ := hb2.three
  obtain ⟨⟨l1, l2⟩, -⟩ := hb3.two
  go_wp2_with fail
  refine (HT1.out _ (Hhp.out.on hB) (Hhq.out.on hB)).mono ?_
  rintro e w1 ⟨A1, n1, c1, rfl, hr, hbb⟩
  clear j1 j2 j3 k1 k2 k3 l1 l2
  replace hb1 := hb1.below hbb; replace hb2 := hb2.below hbb; replace hb3 := hb3.below hbb; replace hB := bel_trans hB hbb
  clear hbb
  go_upto_region 2 with fail
  obtain ⟨hb5, hbb, -⟩ := one_box w1 #[.int .i64 W1, .int .i64 H1, .slice A1 n1 c1] 24 _ rfl
  have hP1 := hr.pixs.on hbb; clear hr
  generalize World.alloc w1 _ = w2 at *
  replace hb1 := hb1.below hbb; replace hb2 := hb2.below hbb; replace hb3 := hb3.below hbb; replace hB := bel_trans hB hbb
  clear hbb
  obtain ⟨⟨j1, j2, j3⟩, -⟩ := hb1.three
  obtain ⟨⟨k1, k2, k3⟩, -⟩ := hb2.three
  obtain ⟨⟨l1, l2⟩, -⟩ := hb3.two
  go_wp2_with fail
  refine (HT2.out _ (Hhp.out.on hB) (Hhq.out.on hB)).mono ?_
  rintro e w3 ⟨A2, n2, c2, rfl, hr, hbb⟩
  clear j1 j2 j3 k1 k2 k3 l1 l2
  replace hb1 := hb1.below hbb; replace hb2 := hb2.below hbb; replace hb3 := hb3.below hbb; replace hb5 := hb5.below hbb; replace hB := bel_trans hB hbb
  replace hP1 := hP1.on hbb
  clear hbb
  go_upto_region 3 with fail
  obtain ⟨hb7, hbb, -⟩ := one_box w3 #[.int .i64 W1, .int .i64 H1, .slice A2 n2 c2] 24 _ rfl
  have hP2 := hr.pixs.on hbb; clear hr
  generalize World.alloc w3 _ = w4 at *
  replace hb1 := hb1.below hbb; replace hb2 := hb2.below hbb; replace hb3 := hb3.below hbb; replace hb5 := hb5.below hbb; replace hB := bel_trans hB hbb
  replace hP1 := hP1.on hbb
  clear hbb
  go_wp2_with fail
  refine (awake_any _).mono ?_
  rintro e w5 ⟨rfl, hbb⟩
  replace hb5 := hb5.below hbb; replace hb7 := hb7.below hbb; replace hB := bel_trans hB hbb; replace hP1 := hP1.on hbb; replace hP2 := hP2.on hbb
  clear hbb
  obtain ⟨⟨t1, t2, t3⟩, -⟩ := hb5.three
  obtain ⟨⟨u1, u2, u3⟩, -⟩ := hb7.three
  go_wp2_with fail
  refine (sm_true _ W1 H1 _ _ L1 hP1 hP2).mono ?_
  rintro e w6 ⟨rfl, hbb⟩
  go_wp2_with fail
  go_ret
  exact ⟨rfl, bel_trans hB hbb⟩
theorem walk_puts (v0 : Value) (x0 : Int × Int × List Px) (v1 : Value) (x1 : Int × Int × List Px) (v2 : Value) (x2 : Int × Int) (w : World) (h0 : ImgV w v0 x0) (h1 : ImgV w v1 x1) (h2 : PtV v2 x2) :
    Calls Try.prog 7 #[v0, v1, v2] w fun e w' => e = .returned (.bool true) ∧ Below w.heap.size w w' := by
  obtain ⟨⟨A, n, c, rfl, hp⟩, _, _⟩ := h0
  obtain ⟨W, H, ps⟩ := x0
  obtain rfl := hp.len
  obtain ⟨⟨A', n', c', rfl, hq⟩, _, _⟩ := h1
  obtain ⟨W', H', qs⟩ := x1
  obtain rfl := hq.len
  obtain ⟨rfl, _⟩ := h2
  obtain ⟨x, y⟩ := x2
  exact puts_core W H A c ps W' H' A' c' qs x y _ _ _ _ w hp hq (fun w' h h' => put_any W H A c ps W' H' A' c' qs x y w' h h') (fun w' h h' => rput_any W H A c ps W' H' A' c' qs x y w' h h')
end Go.Proofs.Ytllmckapiplpcaa
