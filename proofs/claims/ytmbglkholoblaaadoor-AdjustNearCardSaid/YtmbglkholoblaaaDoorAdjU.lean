/- The law's own is and gray. -/
import Derived.Test.YtmbglkholoblaaaDoorAdjT
namespace Go.Proofs.YtmbglkholoblaaaDoor
open Go.RowKit

theorem Stps.nil (w : World) (B : Nat) : Stps w B (.slice none 0 0) [] := ⟨none, 0, rfl, by simp, fun i hi => absurd hi (by simp)⟩
set_option maxHeartbeats 1000000 in
theorem lgray_any (c : Int) (w : World) : Calls Tryd.prog 32 #[.int .i64 c] w fun e w' => e = .returned (.agg #[.int .i64 c, .int .i64 c, .int .i64 c, .int .i64 65535]) ∧ Below w.heap.size w w' := by
  go_enter Tryd.func32, Tryd.ntmps32
  go_upto_region 1 with fail
  obtain ⟨hb1, hB, -⟩ := one_box w #[.int .i64 0, .int .i64 0, .int .i64 0, .int .i64 0] 25 _ rfl
  generalize World.alloc w _ = w0 at *
  obtain ⟨⟨r1, r2, r3, r4⟩, f1, f2, f3, f4⟩ := hb1.four
  go_wp2_with fail
  refine bodyPost_ret (v := .agg #[.int .i64 c, .int .i64 c, .int .i64 c, .int .i64 65535]) (by simp [results, Tryd.results32, go_sem, r1, r2, r3, r4]) rfl ⟨rfl, ?_⟩
  exact set4_below hB (Nat.le_refl _) _ _ _ _ _ _ _ _
set_option maxHeartbeats 2000000 in
theorem is_core (k : Int) (v : Value) (p q : Px) (w : World) (T : ∀ w', Below w.heap.size w w' → Calls Tryd.prog 12 #[.int .i64 k, v, .slice none 0 0, .agg #[.int .i64 p.r, .int .i64 p.g, .int .i64 p.b, .int .i64 p.a]] w' (PePost q 0 w')) :
    Calls Tryd.prog 31 #[.int .i64 k, v, .agg #[.int .i64 p.r, .int .i64 p.g, .int .i64 p.b, .int .i64 p.a], .agg #[.int .i64 q.r, .int .i64 q.g, .int .i64 q.b, .int .i64 q.a]] w fun e w' => e = .returned (.bool true) ∧ Below w.heap.size w w' := by
  have HT := Lib.hid T; clear T
  go_enter Tryd.func31, Tryd.ntmps31
  go_upto_region 1 with fail
  obtain ⟨hb6, hb7, hB⟩ := two_boxes w #[.int .i64 p.r, .int .i64 p.g, .int .i64 p.b, .int .i64 p.a] #[.int .i64 q.r, .int .i64 q.g, .int .i64 q.b, .int .i64 q.a] 25 25 _ rfl
  generalize World.alloc (World.alloc w _) _ = w0 at *
  obtain ⟨⟨i1, i2, i3, i4⟩, -⟩ := hb6.four
  go_wp2_with fail
  refine (HT.out _ hB).mono ?_
  rintro e w1 ⟨rfl, hbb⟩
  replace hb7 := hb7.below hbb; replace hB := bel_trans hB hbb
  clear hbb i1 i2 i3 i4 hb6
  go_upto_region 2 with fail
  obtain ⟨hb9, hbb, -⟩ := one_box w1 #[.int .i64 q.r, .int .i64 q.g, .int .i64 q.b, .int .i64 q.a] 25 _ rfl
  generalize World.alloc w1 _ = w2 at *
  replace hb7 := hb7.below hbb; replace hB := bel_trans hB hbb
  obtain ⟨⟨i1, i2, i3, i4⟩, -⟩ := hb7.four
  obtain ⟨⟨j1, j2, j3, j4⟩, -⟩ := hb9.four
  clear hb7 hb9 hbb
  go_wp2_with fail
  go_ret
  exact ⟨by simp, hB⟩
theorem is_true (k : Int) (l : List Int) (A : Option Addr) (c : Nat) (p q : Px) (w : World) (hT : Tab w) (h : Ints w w.heap.size (.slice A l.length c) l) (hE : perr k l [] p = 0) (hq : pixF k l [] p = q) :
    Calls Tryd.prog 31 #[.int .i64 k, .slice A l.length c, .agg #[.int .i64 p.r, .int .i64 p.g, .int .i64 p.b, .int .i64 p.a], .agg #[.int .i64 q.r, .int .i64 q.g, .int .i64 q.b, .int .i64 q.a]] w fun e w' => e = .returned (.bool true) ∧ Below w.heap.size w w' :=
  is_core k _ p q w (fun w' hb => by
    have := apixel_any k l [] A c none 0 p w' (hT.below hb) ((h.below hb).more hb.size) (Stps.nil _ _)
    rw [hE, hq] at this
    exact this)
/-- A list of parameters that was just laid. -/
theorem made_ints (w : World) (xs : List Int) (hl : xs.length ≤ 1000000) : Ints (w.alloc (.cells (xs.map (Value.int .i64)).toArray 3)) (w.alloc (.cells (xs.map (Value.int .i64)).toArray 3)).heap.size (.slice (some ⟨w.heap.size, 0, none⟩) xs.length xs.length) xs := (IRow.made w w.heap.size xs (Nat.le_refl _) hl).ints
end Go.Proofs.YtmbglkholoblaaaDoor
