/- The walk of RasterJoins. -/
import Derived.Test.YtllmckapiplpcaaRasW1
import Derived.Test.YtllmckapiplpcaaRJoB
namespace Go.Proofs.Ytllmckapiplpcaa
open Go.RowKit

set_option maxHeartbeats 2000000 in
theorem joins_core (x y : Int) (A : Option Addr) (c : Nat) (ts : List Til) (er W1 H1 : Int) (L1 : List Px) (w : World) (ht : Imgs w w.heap.size (.slice A ts.length c) ts)
    (T1 : ∀ w', Imgs w' w'.heap.size (.slice A ts.length c) ts → Calls Try.prog 35 #[.int .i64 x, .int .i64 y, .slice A ts.length c] w' (ImPost er W1 H1 L1 w'))
    (T2 : ∀ w', Imgs w' w'.heap.size (.slice A ts.length c) ts → Calls Try.prog 36 #[.int .i64 x, .int .i64 y, .slice A ts.length c] w' (ImPost er W1 H1 L1 w')) :
    Calls Try.prog 9 #[.int .i64 x, .int .i64 y, .slice A ts.length c] w fun e w' => e = .returned (.bool true) ∧ Below w.heap.size w w' := by
  have HT := Lib.hid ht; clear ht
  have HT1 := Lib.hid T1; have HT2 := Lib.hid T2; clear T1 T2
  go_enter Try.func9, Try.ntmps9
  go_wp2_with fail
  refine (HT1.out _ HT.out).mono ?_
  rintro e w1 ⟨A1, n1, c1, rfl, hr, hB⟩
  go_upto_region 2 with fail
  obtain ⟨hb5, hbb, -⟩ := one_box w1 #[.int .i64 W1, .int .i64 H1, .slice A1 n1 c1] 24 _ rfl
  have hP1 := hr.pixs.on hbb; clear hr
  generalize World.alloc w1 _ = w2 at *
  replace hB := bel_trans hB hbb
  clear hbb
  go_wp2_with fail
  refine (HT2.out _ (HT.out.on hB)).mono ?_
  rintro e w3 ⟨A2, n2, c2, rfl, hr, hbb⟩
  replace hb5 := hb5.below hbb; replace hB := bel_trans hB hbb
  replace hP1 := hP1.on hbb
  clear hbb
  go_upto_region 3 with fail
  obtain ⟨hb7, hbb, -⟩ := one_box w3 #[.int .i64 W1, .int .i64 H1, .slice A2 n2 c2] 24 _ rfl
  have hP2 := hr.pixs.on hbb; clear hr
  generalize World.alloc w3 _ = w4 at *
  replace hb5 := hb5.below hbb; replace hB := bel_trans hB hbb
  replace hP1 := hP1.on hbb
  clear hbb
  go_wp2_with fail
  refine (awake_any _).mono ?_
  rintro e w5 ⟨rfl, hbb⟩
  replace hb5 := hb5.below hbb; replace hb7 := hb7.below hbb; replace hB := bel_trans hB hbb; replace hP1 := hP1.on hbb; replace hP2 := hP2.on hbb
  clear hbb
  obtain ⟨⟨t1, t2, t3⟩, -⟩ := hb5.three
  obtain ⟨⟨u1, u2, u3⟩, -⟩ := hb7.three
  go_wp2_with fail
  refine (sm_true _ W1 H1 _ _ L1 hP1 hP2).mono ?_
  rintro e w6 ⟨rfl, hbb⟩
  go_wp2_with fail
  go_ret
  exact ⟨rfl, bel_trans hB hbb⟩
theorem walk_joins (x y : Int) (v : Value) (ts : List Til) (w : World) (h0 : ImsV w v ts) :
    Calls Try.prog 9 #[.int .i64 x, .int .i64 y, v] w fun e w' => e = .returned (.bool true) ∧ Below w.heap.size w w' := by
  obtain ⟨A, n, c, rfl, ht⟩ := h0
  obtain rfl := ht.len
  exact joins_core x y A c ts _ _ _ _ w ht (fun w' h => join_any x y A c ts w' h) (fun w' h => rjoin_any x y A c ts w' h)
end Go.Proofs.Ytllmckapiplpcaa
