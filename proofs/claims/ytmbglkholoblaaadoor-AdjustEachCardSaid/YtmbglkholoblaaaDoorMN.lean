/- The law's examples hold. -/
import Derived.Test.YtmbglkholoblaaaDoorMM
namespace Go.Proofs.YtmbglkholoblaaaDoor
open Go.RowKit
attribute [local go_sem] eq3

theorem tohsl_at (p : Px) (t : Int × Int × Int) (h : toH p = t) (w : World) : Calls Tryd.prog 15 #[.agg #[.int .i64 p.r, .int .i64 p.g, .int .i64 p.b, .int .i64 p.a]] w (TriPost t w) := by rw [← h]; exact tohsl_any p w
theorem fromhsl_at (h s l a : Int) (p : Px) (e : fromH h s l a = p) (w : World) : Calls Tryd.prog 17 #[.agg #[.int .i64 h, .int .i64 s, .int .i64 l], .int .i64 a] w (PxPost p w) := by rw [← e]; exact fromhsl_any h s l a w
theorem acheck_at (k : Int) (l : List Int) (E : Int) (h : achk k l [] = E) (A : Option Addr) (c : Nat) (w : World) (hi : Ints w w.heap.size (.slice A l.length c) l) :
    Calls Tryd.prog 20 #[.int .i64 k, .slice A l.length c, .slice none 0 0] w fun e w' => e = .returned (.int .i64 E) ∧ Below w.heap.size w w' := by rw [← h]; exact acheck_any k l [] A c none 0 w hi (Stps.nil _ _)

set_option maxRecDepth 100000 in
set_option maxHeartbeats 8000000 in
theorem awake_any (w : World) (hT : Tab w) : Calls Tryd.prog 14 #[] w fun e w' => e = .returned (.bool true) ∧ Below w.heap.size w w' := by
  have hB := Below.refl w.heap.size w
  go_enter Tryd.func14, Tryd.ntmps14
  go_wp2_with fail
  refine (is_true 1 [] _ _ ⟨1, 2, 3, 9⟩ ⟨65534, 65533, 65532, 9⟩ _ hT (Ints.nil _ _) (by decide +kernel) (by kernel_rfl)).mono ?_
  rintro e w1 ⟨rfl, hb⟩
  replace hT := hT.below hb; replace hB := bel_trans hB hb; clear hb
  go_wp2_with fail
  have hI : Ints (w1.alloc (.cells #[.int .i64 0, .int .i64 32768, .int .i64 16, .int .i64 0, .int .i64 65535] 3)) (w1.alloc (.cells #[.int .i64 0, .int .i64 32768, .int .i64 16, .int .i64 0, .int .i64 65535] 3)).heap.size (.slice (some ⟨w1.heap.size, 0, none⟩) 5 5) [0, 32768, 16, 0, 65535] := made_ints w1 [0, 32768, 16, 0, 65535] (by decide)
  have hb := bel1 w1 (.cells #[.int .i64 0, .int .i64 32768, .int .i64 16, .int .i64 0, .int .i64 65535] 3)
  replace hT := hT.below hb; replace hB := bel_trans hB hb; clear hb
  generalize World.alloc w1 _ = w2 at *
  refine (lgray_any _ _).mono ?_
  rintro e w3 ⟨rfl, hb⟩
  replace hT := hT.below hb; replace hB := bel_trans hB hb; replace hI := (hI.below hb).more hb.size; clear hb
  go_wp2_with fail
  refine (lgray_any _ _).mono ?_
  rintro e w4 ⟨rfl, hb⟩
  replace hT := hT.below hb; replace hB := bel_trans hB hb; replace hI := (hI.below hb).more hb.size; clear hb
  go_wp2_with fail
  refine (is_true 2 [0, 32768, 16, 0, 65535] _ _ ⟨16384, 16384, 16384, 65535⟩ ⟨32768, 32768, 32768, 65535⟩ _ hT hI (by decide +kernel) (by kernel_rfl)).mono ?_
  rintro e w5 ⟨rfl, hb⟩
  replace hT := hT.below hb; replace hB := bel_trans hB hb; clear hb
  clear hI
  go_wp2_with fail
  have hI : Ints (w5.alloc (.cells #[.int .i64 0, .int .i64 65535, .int .i64 32, .int .i64 0, .int .i64 65535] 3)) (w5.alloc (.cells #[.int .i64 0, .int .i64 65535, .int .i64 32, .int .i64 0, .int .i64 65535] 3)).heap.size (.slice (some ⟨w5.heap.size, 0, none⟩) 5 5) [0, 65535, 32, 0, 65535] := made_ints w5 [0, 65535, 32, 0, 65535] (by decide)
  have hb := bel1 w5 (.cells #[.int .i64 0, .int .i64 65535, .int .i64 32, .int .i64 0, .int .i64 65535] 3)
  replace hT := hT.below hb; replace hB := bel_trans hB hb; clear hb
  generalize World.alloc w5 _ = w6 at *
  refine (lgray_any _ _).mono ?_
  rintro e w7 ⟨rfl, hb⟩
  replace hT := hT.below hb; replace hB := bel_trans hB hb; replace hI := (hI.below hb).more hb.size; clear hb
  go_wp2_with fail
  refine (lgray_any _ _).mono ?_
  rintro e w8 ⟨rfl, hb⟩
  replace hT := hT.below hb; replace hB := bel_trans hB hb; replace hI := (hI.below hb).more hb.size; clear hb
  go_wp2_with fail
  refine (is_true 2 [0, 65535, 32, 0, 65535] _ _ ⟨32768, 32768, 32768, 65535⟩ ⟨43690, 43690, 43690, 65535⟩ _ hT hI (by decide +kernel) (by kernel_rfl)).mono ?_
  rintro e w9 ⟨rfl, hb⟩
  replace hT := hT.below hb; replace hB := bel_trans hB hb; clear hb
  clear hI
  go_wp2_with fail
  have hI : Ints (w9.alloc (.cells #[.int .i64 1000, .int .i64 0] 3)) (w9.alloc (.cells #[.int .i64 1000, .int .i64 0] 3)).heap.size (.slice (some ⟨w9.heap.size, 0, none⟩) 2 2) [1000, 0] := made_ints w9 [1000, 0] (by decide)
  have hb := bel1 w9 (.cells #[.int .i64 1000, .int .i64 0] 3)
  replace hT := hT.below hb; replace hB := bel_trans hB hb; clear hb
  generalize World.alloc w9 _ = w10 at *
  refine (lgray_any _ _).mono ?_
  rintro e w11 ⟨rfl, hb⟩
  replace hT := hT.below hb; replace hB := bel_trans hB hb; replace hI := (hI.below hb).more hb.size; clear hb
  go_wp2_with fail
  refine (lgray_any _ _).mono ?_
  rintro e w12 ⟨rfl, hb⟩
  replace hT := hT.below hb; replace hB := bel_trans hB hb; replace hI := (hI.below hb).more hb.size; clear hb
  go_wp2_with fail
  refine (is_true 4 [1000, 0] _ _ ⟨100, 100, 100, 65535⟩ ⟨1100, 1100, 1100, 65535⟩ _ hT hI (by decide +kernel) (by kernel_rfl)).mono ?_
  rintro e w13 ⟨rfl, hb⟩
  replace hT := hT.below hb; replace hB := bel_trans hB hb; clear hb
  clear hI
  go_wp2_with fail
  have hI : Ints (w13.alloc (.cells #[.int .i64 0, .int .i64 65535] 3)) (w13.alloc (.cells #[.int .i64 0, .int .i64 65535] 3)).heap.size (.slice (some ⟨w13.heap.size, 0, none⟩) 2 2) [0, 65535] := made_ints w13 [0, 65535] (by decide)
  have hb := bel1 w13 (.cells #[.int .i64 0, .int .i64 65535] 3)
  replace hT := hT.below hb; replace hB := bel_trans hB hb; clear hb
  generalize World.alloc w13 _ = w14 at *
  refine (lgray_any _ _).mono ?_
  rintro e w15 ⟨rfl, hb⟩
  replace hT := hT.below hb; replace hB := bel_trans hB hb; replace hI := (hI.below hb).more hb.size; clear hb
  go_wp2_with fail
  refine (lgray_any _ _).mono ?_
  rintro e w16 ⟨rfl, hb⟩
  replace hT := hT.below hb; replace hB := bel_trans hB hb; replace hI := (hI.below hb).more hb.size; clear hb
  go_wp2_with fail
  refine (is_true 4 [0, 65535] _ _ ⟨32868, 32868, 32868, 65535⟩ ⟨32968, 32968, 32968, 65535⟩ _ hT hI (by decide +kernel) (by kernel_rfl)).mono ?_
  rintro e w17 ⟨rfl, hb⟩
  replace hT := hT.below hb; replace hB := bel_trans hB hb; clear hb
  clear hI
  go_wp2_with fail
  have hI : Ints (w17.alloc (.cells #[.int .i64 3] 3)) (w17.alloc (.cells #[.int .i64 3] 3)).heap.size (.slice (some ⟨w17.heap.size, 0, none⟩) 1 1) [3] := made_ints w17 [3] (by decide)
  have hb := bel1 w17 (.cells #[.int .i64 3] 3)
  replace hT := hT.below hb; replace hB := bel_trans hB hb; clear hb
  generalize World.alloc w17 _ = w18 at *
  refine (lgray_any _ _).mono ?_
  rintro e w19 ⟨rfl, hb⟩
  replace hT := hT.below hb; replace hB := bel_trans hB hb; replace hI := (hI.below hb).more hb.size; clear hb
  go_wp2_with fail
  refine (lgray_any _ _).mono ?_
  rintro e w20 ⟨rfl, hb⟩
  replace hT := hT.below hb; replace hB := bel_trans hB hb; replace hI := (hI.below hb).more hb.size; clear hb
  go_wp2_with fail
  refine (is_true 7 [3] _ _ ⟨20000, 20000, 20000, 65535⟩ ⟨32768, 32768, 32768, 65535⟩ _ hT hI (by decide +kernel) (by kernel_rfl)).mono ?_
  rintro e w21 ⟨rfl, hb⟩
  replace hT := hT.below hb; replace hB := bel_trans hB hb; clear hb
  clear hI
  go_wp2_with fail
  have hI : Ints (w21.alloc (.cells #[.int .i64 1, .int .i64 1, .int .i64 1] 3)) (w21.alloc (.cells #[.int .i64 1, .int .i64 1, .int .i64 1] 3)).heap.size (.slice (some ⟨w21.heap.size, 0, none⟩) 3 3) [1, 1, 1] := made_ints w21 [1, 1, 1] (by decide)
  have hb := bel1 w21 (.cells #[.int .i64 1, .int .i64 1, .int .i64 1] 3)
  replace hT := hT.below hb; replace hB := bel_trans hB hb; clear hb
  generalize World.alloc w21 _ = w22 at *
  refine (is_true 9 [1, 1, 1] _ _ ⟨1, 2, 5, 9⟩ ⟨3, 3, 3, 9⟩ _ hT hI (by decide +kernel) (by kernel_rfl)).mono ?_
  rintro e w23 ⟨rfl, hb⟩
  replace hT := hT.below hb; replace hB := bel_trans hB hb; clear hb
  clear hI
  go_wp2_with fail
  have hI : Ints (w23.alloc (.cells #[.int .i64 16, .int .i64 0] 3)) (w23.alloc (.cells #[.int .i64 16, .int .i64 0] 3)).heap.size (.slice (some ⟨w23.heap.size, 0, none⟩) 2 2) [16, 0] := made_ints w23 [16, 0] (by decide)
  have hb := bel1 w23 (.cells #[.int .i64 16, .int .i64 0] 3)
  replace hT := hT.below hb; replace hB := bel_trans hB hb; clear hb
  generalize World.alloc w23 _ = w24 at *
  refine (lgray_any _ _).mono ?_
  rintro e w25 ⟨rfl, hb⟩
  replace hT := hT.below hb; replace hB := bel_trans hB hb; replace hI := (hI.below hb).more hb.size; clear hb
  go_wp2_with fail
  refine (lgray_any _ _).mono ?_
  rintro e w26 ⟨rfl, hb⟩
  replace hT := hT.below hb; replace hB := bel_trans hB hb; replace hI := (hI.below hb).more hb.size; clear hb
  go_wp2_with fail
  refine (is_true 11 [16, 0] _ _ ⟨100, 100, 100, 65535⟩ ⟨200, 200, 200, 65535⟩ _ hT hI (by decide +kernel) (by kernel_rfl)).mono ?_
  rintro e w27 ⟨rfl, hb⟩
  replace hT := hT.below hb; replace hB := bel_trans hB hb; clear hb
  clear hI
  go_wp2_with fail
  have hI : Ints (w27.alloc (.cells #[.int .i64 (-16), .int .i64 0] 3)) (w27.alloc (.cells #[.int .i64 (-16), .int .i64 0] 3)).heap.size (.slice (some ⟨w27.heap.size, 0, none⟩) 2 2) [-16, 0] := made_ints w27 [-16, 0] (by decide)
  have hb := bel1 w27 (.cells #[.int .i64 (-16), .int .i64 0] 3)
  replace hT := hT.below hb; replace hB := bel_trans hB hb; clear hb
  generalize World.alloc w27 _ = w28 at *
  refine (lgray_any _ _).mono ?_
  rintro e w29 ⟨rfl, hb⟩
  replace hT := hT.below hb; replace hB := bel_trans hB hb; replace hI := (hI.below hb).more hb.size; clear hb
  go_wp2_with fail
  refine (lgray_any _ _).mono ?_
  rintro e w30 ⟨rfl, hb⟩
  replace hT := hT.below hb; replace hB := bel_trans hB hb; replace hI := (hI.below hb).more hb.size; clear hb
  go_wp2_with fail
  refine (is_true 11 [-16, 0] _ _ ⟨101, 101, 101, 65535⟩ ⟨51, 51, 51, 65535⟩ _ hT hI (by decide +kernel) (by kernel_rfl)).mono ?_
  rintro e w31 ⟨rfl, hb⟩
  replace hT := hT.below hb; replace hB := bel_trans hB hb; clear hb
  clear hI
  go_wp2_with fail
  have hI : Ints (w31.alloc (.cells #[.int .i64 8, .int .i64 0] 3)) (w31.alloc (.cells #[.int .i64 8, .int .i64 0] 3)).heap.size (.slice (some ⟨w31.heap.size, 0, none⟩) 2 2) [8, 0] := made_ints w31 [8, 0] (by decide)
  have hb := bel1 w31 (.cells #[.int .i64 8, .int .i64 0] 3)
  replace hT := hT.below hb; replace hB := bel_trans hB hb; clear hb
  generalize World.alloc w31 _ = w32 at *
  refine (lgray_any _ _).mono ?_
  rintro e w33 ⟨rfl, hb⟩
  replace hT := hT.below hb; replace hB := bel_trans hB hb; replace hI := (hI.below hb).more hb.size; clear hb
  go_wp2_with fail
  refine (lgray_any _ _).mono ?_
  rintro e w34 ⟨rfl, hb⟩
  replace hT := hT.below hb; replace hB := bel_trans hB hb; replace hI := (hI.below hb).more hb.size; clear hb
  go_wp2_with fail
  refine (is_true 11 [8, 0] _ _ ⟨1000, 1000, 1000, 65535⟩ ⟨1414, 1414, 1414, 65535⟩ _ hT hI (by decide +kernel) (by kernel_rfl)).mono ?_
  rintro e w35 ⟨rfl, hb⟩
  replace hT := hT.below hb; replace hB := bel_trans hB hb; clear hb
  clear hI
  go_upto_region 8 with fail
  obtain ⟨hbr, hb, -⟩ := one_box w35 #[.int .i64 65535, .int .i64 0, .int .i64 0, .int .i64 65535] 25 _ rfl
  replace hT := hT.below hb; replace hB := bel_trans hB hb; clear hb
  generalize World.alloc w35 _ = w36 at *
  obtain ⟨⟨i1, i2, i3, i4⟩, -⟩ := hbr.four
  go_wp2_with fail
  refine (tohsl_at ⟨65535, 0, 0, 65535⟩ (0, 65535, 32768) (by kernel_rfl) _).mono ?_
  rintro e w37 ⟨rfl, hb⟩
  replace hT := hT.below hb; replace hB := bel_trans hB hb; replace hbr := hbr.below hb; clear hb
  clear i1 i2 i3 i4
  go_wp2_with fail
  refine (tohsl_at ⟨0, 65535, 0, 65535⟩ (21845, 65535, 32768) (by kernel_rfl) _).mono ?_
  rintro e w38 ⟨rfl, hb⟩
  replace hT := hT.below hb; replace hB := bel_trans hB hb; replace hbr := hbr.below hb; clear hb
  go_wp2_with fail
  refine (fromhsl_at 0 65535 32768 65535 ⟨65535, 1, 1, 65535⟩ (by kernel_rfl) _).mono ?_
  rintro e w39 ⟨rfl, hb⟩
  replace hT := hT.below hb; replace hB := bel_trans hB hb; replace hbr := hbr.below hb; clear hb
  obtain ⟨⟨i1, i2, i3, i4⟩, -⟩ := hbr.four
  have hbl := hbr.lt
  go_wp2_with fail
  clear i1 i2 i3 i4 hbl hbr
  have hI : Ints (w39.alloc (.cells #[.int .i64 32768, .int .i64 0, .int .i64 0] 3)) (w39.alloc (.cells #[.int .i64 32768, .int .i64 0, .int .i64 0] 3)).heap.size (.slice (some ⟨w39.heap.size, 0, none⟩) 3 3) [32768, 0, 0] := made_ints w39 [32768, 0, 0] (by decide)
  have hb := bel1 w39 (.cells #[.int .i64 32768, .int .i64 0, .int .i64 0] 3)
  replace hT := hT.below hb; replace hB := bel_trans hB hb; clear hb
  generalize World.alloc w39 _ = w40 at *
  refine (is_true 5 [32768, 0, 0] _ _ ⟨65535, 0, 0, 65535⟩ ⟨1, 65535, 65535, 65535⟩ _ hT hI (by decide +kernel) (by kernel_rfl)).mono ?_
  rintro e w41 ⟨rfl, hb⟩
  replace hT := hT.below hb; replace hB := bel_trans hB hb; clear hb
  clear hI
  go_wp2_with fail
  have hI : Ints (w41.alloc (.cells #[.int .i64 0, .int .i64 0, .int .i64 16, .int .i64 0, .int .i64 65535] 3)) (w41.alloc (.cells #[.int .i64 0, .int .i64 0, .int .i64 16, .int .i64 0, .int .i64 65535] 3)).heap.size (.slice (some ⟨w41.heap.size, 0, none⟩) 5 5) [0, 0, 16, 0, 65535] := made_ints w41 [0, 0, 16, 0, 65535] (by decide)
  have hb := bel1 w41 (.cells #[.int .i64 0, .int .i64 0, .int .i64 16, .int .i64 0, .int .i64 65535] 3)
  replace hT := hT.below hb; replace hB := bel_trans hB hb; clear hb
  generalize World.alloc w41 _ = w42 at *
  refine (acheck_at 2 [0, 0, 16, 0, 65535] 24 (by decide +kernel) _ _ _ hI).mono ?_
  rintro e w43 ⟨rfl, hb⟩
  replace hT := hT.below hb; replace hB := bel_trans hB hb; clear hb
  go_wp2_with fail
  go_ret
  exact ⟨rfl, hB⟩
end Go.Proofs.YtmbglkholoblaaaDoor
