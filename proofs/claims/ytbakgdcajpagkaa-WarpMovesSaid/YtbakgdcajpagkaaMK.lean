/- The sums of weighted pixels: (total).add, (total).pixel. -/
import Derived.Test.YtbakgdcajpagkaaMY
import Derived.Test.YtbakgdcajpagkaaMI
import Derived.Test.YtbakgdcajpagkaaMJ
namespace Go.Proofs.Ytbakgdcajpagkaa
open Go.RowKit
theorem KB.less {B B' g : Nat} {a w : World} (h : KB B g a w) (hB : B' ≤ B) : KB B' g a w := ⟨h.os, h.tape, h.output, h.size, fun k hk hn => h.block k (by omega) hn⟩
/-- The sums as they lie in memory. -/
def Tt (w : World) (g : Nat) (A R G B : Int) : Prop := Bx w g 78 #[.int .u64 (whi R), .int .u64 (wlo R), .int .u64 (whi G), .int .u64 (wlo G), .int .u64 (whi B), .int .u64 (wlo B), .int .i64 A]
set_option maxRecDepth 100000 in
set_option maxHeartbeats 4000000 in
theorem add_core (g : Nat) (rh rl gh gl bh bl A rh' rl' gh' gl' bh' bl' A' wt x pr pg pb pa : Int) (w : World) (hg : Bx w g 78 #[.int .u64 rh, .int .u64 rl, .int .u64 gh, .int .u64 gl, .int .u64 bh, .int .u64 bl, .int .i64 A]) (e0 : IntKind.i64.wrap (wt * pa) = x)
    (P1 : ∀ w, Calls Try.prog 71 #[.agg #[.int .u64 rh, .int .u64 rl], .int .i64 x, .int .i64 pr] w fun e w' => e = .returned (.agg #[.int .u64 rh', .int .u64 rl']) ∧ Below w.heap.size w w')
    (P2 : ∀ w, Calls Try.prog 71 #[.agg #[.int .u64 gh, .int .u64 gl], .int .i64 x, .int .i64 pg] w fun e w' => e = .returned (.agg #[.int .u64 gh', .int .u64 gl']) ∧ Below w.heap.size w w')
    (P3 : ∀ w, Calls Try.prog 71 #[.agg #[.int .u64 bh, .int .u64 bl], .int .i64 x, .int .i64 pb] w fun e w' => e = .returned (.agg #[.int .u64 bh', .int .u64 bl']) ∧ Below w.heap.size w w')
    (e1 : IntKind.i64.wrap (A + x) = A') :
    Calls Try.prog 51 #[.pointer (some ⟨g, 0, none⟩), .agg #[.int .i64 pr, .int .i64 pg, .int .i64 pb, .int .i64 pa], .int .i64 wt] w fun e w' => e = .returned (.tuple #[]) ∧ Bx w' g 78 #[.int .u64 rh', .int .u64 rl', .int .u64 gh', .int .u64 gl', .int .u64 bh', .int .u64 bl', .int .i64 A'] ∧ KB w.heap.size g w w' := by
  replace P1 := Lib.hid P1; replace P2 := Lib.hid P2; replace P3 := Lib.hid P3
  have E1 := Lib.hid e1; clear e1
  go_enter Try.func51, Try.ntmps51
  go_upto_region 1 with fail
  obtain ⟨hb4, hB, -⟩ := one_box w #[.int .i64 pr, .int .i64 pg, .int .i64 pb, .int .i64 pa] 48 _ rfl
  have hgl := hg.lt
  have T0 := hg.below hB
  have KW := Lib.hid (show KB w.heap.size g w (w.alloc (.cells #[.int .i64 pr, .int .i64 pg, .int .i64 pb, .int .i64 pa] 48)) from (KB.refl _ _ _).alloc _ (Nat.le_refl _))
  have hsz := hB.size
  generalize World.alloc w _ = w0 at *
  obtain ⟨⟨c0, c1, c2, c3⟩, -⟩ := hb4.four
  go_upto_region 2 with fail
  clear c0 c1 c2 c3 e0
  have HI := Lib.hid (show Bx w0.drew g 78 #[.int .u64 rh, .int .u64 rl, .int .u64 gh, .int .u64 gl, .int .u64 bh, .int .u64 bl, .int .i64 A] ∧ Bx w0.drew w.heap.size 48 #[.int .i64 pr, .int .i64 pg, .int .i64 pb, .int .i64 pa] ∧ Below w0.heap.size w0 w0.drew from ⟨T0.drew, hb4.drew, (Below.refl _ _).drew⟩)
  clear hb4 hB hg T0
  have hwz : g ≠ w.heap.size := by omega
  refine wp_region_noPanic (wp_region_any (by kernel_rfl) ?_)
  change wpAny _ _ _ _ (35 + 1) _ _ _
  refine wpAny_take (i := 1) (v := .pointer (some ⟨g, 0, none⟩)) rfl (by kernel_rfl) (by kernel_rfl) (by kernel_rfl) (fun _ _ _ h => h) (.inl ⟨rfl, fun _ => rfl⟩) ?_
  change wpAny _ _ _ _ (34 + 1) _ _ _
  refine wpAny_take (i := 2) (v := .pointer (some ⟨g, 0, none⟩)) rfl (by kernel_rfl) (by kernel_rfl) (by kernel_rfl) (fun _ _ _ h => h) (.inl ⟨rfl, fun _ => rfl⟩) ?_
  refine wpAny_order (I := fun wq => Bx wq g 78 #[.int .u64 rh, .int .u64 rl, .int .u64 gh, .int .u64 gl, .int .u64 bh, .int .u64 bl, .int .i64 A] ∧ Bx wq w.heap.size 48 #[.int .i64 pr, .int .i64 pg, .int .i64 pb, .int .i64 pa] ∧ Below w0.heap.size w0 wq) 27 _ [0, 3, 4, 5, 6, 7, 8, 9, 10, 11, 12, 13, 14, 15, 16, 17, 18, 19, 20, 21, 22, 23, 24, 25, 26] (by kernel_rfl) (of_decide_eq_true (by kernel_rfl)) (by kernel_rfl) (by kernel_rfl) (by kernel_rfl) (by kernel_rfl) HI.out ?_
  go_frame
  refine wpIs_val rfl (.pointer (some ⟨g, 0, none⟩)) rfl (fun wq hq => ?_) ?_
  · obtain ⟨h1, h2, h3⟩ := hq; have c0 := h1.cell (j := 0) rfl; have c1 := h1.cell (j := 1) rfl; have c2 := h1.cell (j := 2) rfl; have c3 := h1.cell (j := 3) rfl; have c4 := h1.cell (j := 4) rfl; have c5 := h1.cell (j := 5) rfl; have d0 := h2.cell (j := 0) rfl; have d1 := h2.cell (j := 1) rfl; have d2 := h2.cell (j := 2) rfl; clear h1 h2 h3; go_simp
  go_frame
  refine wpIs_val rfl (.pointer (some ⟨g, 0, none⟩)) rfl (fun wq hq => ?_) ?_
  · obtain ⟨h1, h2, h3⟩ := hq; have c0 := h1.cell (j := 0) rfl; have c1 := h1.cell (j := 1) rfl; have c2 := h1.cell (j := 2) rfl; have c3 := h1.cell (j := 3) rfl; have c4 := h1.cell (j := 4) rfl; have c5 := h1.cell (j := 5) rfl; have d0 := h2.cell (j := 0) rfl; have d1 := h2.cell (j := 1) rfl; have d2 := h2.cell (j := 2) rfl; clear h1 h2 h3; go_simp
  go_frame
  refine wpIs_val rfl (.pointer (some ⟨g, 0, none⟩)) rfl (fun wq hq => ?_) ?_
  · obtain ⟨h1, h2, h3⟩ := hq; have c0 := h1.cell (j := 0) rfl; have c1 := h1.cell (j := 1) rfl; have c2 := h1.cell (j := 2) rfl; have c3 := h1.cell (j := 3) rfl; have c4 := h1.cell (j := 4) rfl; have c5 := h1.cell (j := 5) rfl; have d0 := h2.cell (j := 0) rfl; have d1 := h2.cell (j := 1) rfl; have d2 := h2.cell (j := 2) rfl; clear h1 h2 h3; go_simp
  go_frame
  refine wpIs_val rfl (.pointer (some ⟨g, 0, none⟩)) rfl (fun wq hq => ?_) ?_
  · obtain ⟨h1, h2, h3⟩ := hq; have c0 := h1.cell (j := 0) rfl; have c1 := h1.cell (j := 1) rfl; have c2 := h1.cell (j := 2) rfl; have c3 := h1.cell (j := 3) rfl; have c4 := h1.cell (j := 4) rfl; have c5 := h1.cell (j := 5) rfl; have d0 := h2.cell (j := 0) rfl; have d1 := h2.cell (j := 1) rfl; have d2 := h2.cell (j := 2) rfl; clear h1 h2 h3; go_simp
  go_frame
  refine wpIs_val rfl (.agg #[.int .u64 rh, .int .u64 rl]) rfl (fun wq hq => ?_) ?_
  · obtain ⟨h1, h2, h3⟩ := hq; have c0 := h1.cell (j := 0) rfl; have c1 := h1.cell (j := 1) rfl; have c2 := h1.cell (j := 2) rfl; have c3 := h1.cell (j := 3) rfl; have c4 := h1.cell (j := 4) rfl; have c5 := h1.cell (j := 5) rfl; have d0 := h2.cell (j := 0) rfl; have d1 := h2.cell (j := 1) rfl; have d2 := h2.cell (j := 2) rfl; clear h1 h2 h3; go_simp
  go_frame
  refine wpIs_val rfl (.int .i64 x) rfl (fun wq hq => ?_) ?_
  · obtain ⟨h1, h2, h3⟩ := hq; have c0 := h1.cell (j := 0) rfl; have c1 := h1.cell (j := 1) rfl; have c2 := h1.cell (j := 2) rfl; have c3 := h1.cell (j := 3) rfl; have c4 := h1.cell (j := 4) rfl; have c5 := h1.cell (j := 5) rfl; have d0 := h2.cell (j := 0) rfl; have d1 := h2.cell (j := 1) rfl; have d2 := h2.cell (j := 2) rfl; clear h1 h2 h3; go_simp
  go_frame
  refine wpIs_val rfl (.pointer (some ⟨w.heap.size, 0, none⟩)) rfl (fun wq hq => ?_) ?_
  · obtain ⟨h1, h2, h3⟩ := hq; have c0 := h1.cell (j := 0) rfl; have c1 := h1.cell (j := 1) rfl; have c2 := h1.cell (j := 2) rfl; have c3 := h1.cell (j := 3) rfl; have c4 := h1.cell (j := 4) rfl; have c5 := h1.cell (j := 5) rfl; have d0 := h2.cell (j := 0) rfl; have d1 := h2.cell (j := 1) rfl; have d2 := h2.cell (j := 2) rfl; clear h1 h2 h3; go_simp
  go_frame
  refine wpIs_val rfl (.int .i64 pr) rfl (fun wq hq => ?_) ?_
  · obtain ⟨h1, h2, h3⟩ := hq; have c0 := h1.cell (j := 0) rfl; have c1 := h1.cell (j := 1) rfl; have c2 := h1.cell (j := 2) rfl; have c3 := h1.cell (j := 3) rfl; have c4 := h1.cell (j := 4) rfl; have c5 := h1.cell (j := 5) rfl; have d0 := h2.cell (j := 0) rfl; have d1 := h2.cell (j := 1) rfl; have d2 := h2.cell (j := 2) rfl; clear h1 h2 h3; go_simp
  go_frame
  refine wpIs_call rfl (.agg #[.int .u64 rh', .int .u64 rl']) 71 #[.agg #[.int .u64 rh, .int .u64 rl], .int .i64 x, .int .i64 pr] rfl (fun wq => ?_) (fun wq hq => (P1.out wq).mono fun e w' hh => ⟨hh.1, hq.1.below hh.2, hq.2.1.below hh.2, bel_trans hq.2.2 hh.2⟩) ?_
  · go_simp
  go_frame
  refine wpIs_val rfl (.pointer (some ⟨g, 0, none⟩)) rfl (fun wq hq => ?_) ?_
  · obtain ⟨h1, h2, h3⟩ := hq; have c0 := h1.cell (j := 0) rfl; have c1 := h1.cell (j := 1) rfl; have c2 := h1.cell (j := 2) rfl; have c3 := h1.cell (j := 3) rfl; have c4 := h1.cell (j := 4) rfl; have c5 := h1.cell (j := 5) rfl; have d0 := h2.cell (j := 0) rfl; have d1 := h2.cell (j := 1) rfl; have d2 := h2.cell (j := 2) rfl; clear h1 h2 h3; go_simp
  go_frame
  refine wpIs_val rfl (.pointer (some ⟨g, 0, none⟩)) rfl (fun wq hq => ?_) ?_
  · obtain ⟨h1, h2, h3⟩ := hq; have c0 := h1.cell (j := 0) rfl; have c1 := h1.cell (j := 1) rfl; have c2 := h1.cell (j := 2) rfl; have c3 := h1.cell (j := 3) rfl; have c4 := h1.cell (j := 4) rfl; have c5 := h1.cell (j := 5) rfl; have d0 := h2.cell (j := 0) rfl; have d1 := h2.cell (j := 1) rfl; have d2 := h2.cell (j := 2) rfl; clear h1 h2 h3; go_simp
  go_frame
  refine wpIs_val rfl (.pointer (some ⟨g, 2, none⟩)) rfl (fun wq hq => ?_) ?_
  · obtain ⟨h1, h2, h3⟩ := hq; have c0 := h1.cell (j := 0) rfl; have c1 := h1.cell (j := 1) rfl; have c2 := h1.cell (j := 2) rfl; have c3 := h1.cell (j := 3) rfl; have c4 := h1.cell (j := 4) rfl; have c5 := h1.cell (j := 5) rfl; have d0 := h2.cell (j := 0) rfl; have d1 := h2.cell (j := 1) rfl; have d2 := h2.cell (j := 2) rfl; clear h1 h2 h3; go_simp
  go_frame
  refine wpIs_val rfl (.agg #[.int .u64 gh, .int .u64 gl]) rfl (fun wq hq => ?_) ?_
  · obtain ⟨h1, h2, h3⟩ := hq; have c0 := h1.cell (j := 0) rfl; have c1 := h1.cell (j := 1) rfl; have c2 := h1.cell (j := 2) rfl; have c3 := h1.cell (j := 3) rfl; have c4 := h1.cell (j := 4) rfl; have c5 := h1.cell (j := 5) rfl; have d0 := h2.cell (j := 0) rfl; have d1 := h2.cell (j := 1) rfl; have d2 := h2.cell (j := 2) rfl; clear h1 h2 h3; go_simp
  go_frame
  refine wpIs_val rfl (.int .i64 x) rfl (fun wq hq => ?_) ?_
  · obtain ⟨h1, h2, h3⟩ := hq; have c0 := h1.cell (j := 0) rfl; have c1 := h1.cell (j := 1) rfl; have c2 := h1.cell (j := 2) rfl; have c3 := h1.cell (j := 3) rfl; have c4 := h1.cell (j := 4) rfl; have c5 := h1.cell (j := 5) rfl; have d0 := h2.cell (j := 0) rfl; have d1 := h2.cell (j := 1) rfl; have d2 := h2.cell (j := 2) rfl; clear h1 h2 h3; go_simp
  go_frame
  refine wpIs_val rfl (.pointer (some ⟨w.heap.size, 1, none⟩)) rfl (fun wq hq => ?_) ?_
  · obtain ⟨h1, h2, h3⟩ := hq; have c0 := h1.cell (j := 0) rfl; have c1 := h1.cell (j := 1) rfl; have c2 := h1.cell (j := 2) rfl; have c3 := h1.cell (j := 3) rfl; have c4 := h1.cell (j := 4) rfl; have c5 := h1.cell (j := 5) rfl; have d0 := h2.cell (j := 0) rfl; have d1 := h2.cell (j := 1) rfl; have d2 := h2.cell (j := 2) rfl; clear h1 h2 h3; go_simp
  go_frame
  refine wpIs_val rfl (.int .i64 pg) rfl (fun wq hq => ?_) ?_
  · obtain ⟨h1, h2, h3⟩ := hq; have c0 := h1.cell (j := 0) rfl; have c1 := h1.cell (j := 1) rfl; have c2 := h1.cell (j := 2) rfl; have c3 := h1.cell (j := 3) rfl; have c4 := h1.cell (j := 4) rfl; have c5 := h1.cell (j := 5) rfl; have d0 := h2.cell (j := 0) rfl; have d1 := h2.cell (j := 1) rfl; have d2 := h2.cell (j := 2) rfl; clear h1 h2 h3; go_simp
  go_frame
  refine wpIs_call rfl (.agg #[.int .u64 gh', .int .u64 gl']) 71 #[.agg #[.int .u64 gh, .int .u64 gl], .int .i64 x, .int .i64 pg] rfl (fun wq => ?_) (fun wq hq => (P2.out wq).mono fun e w' hh => ⟨hh.1, hq.1.below hh.2, hq.2.1.below hh.2, bel_trans hq.2.2 hh.2⟩) ?_
  · go_simp
  go_frame
  refine wpIs_val rfl (.pointer (some ⟨g, 0, none⟩)) rfl (fun wq hq => ?_) ?_
  · obtain ⟨h1, h2, h3⟩ := hq; have c0 := h1.cell (j := 0) rfl; have c1 := h1.cell (j := 1) rfl; have c2 := h1.cell (j := 2) rfl; have c3 := h1.cell (j := 3) rfl; have c4 := h1.cell (j := 4) rfl; have c5 := h1.cell (j := 5) rfl; have d0 := h2.cell (j := 0) rfl; have d1 := h2.cell (j := 1) rfl; have d2 := h2.cell (j := 2) rfl; clear h1 h2 h3; go_simp
  go_frame
  refine wpIs_val rfl (.pointer (some ⟨g, 0, none⟩)) rfl (fun wq hq => ?_) ?_
  · obtain ⟨h1, h2, h3⟩ := hq; have c0 := h1.cell (j := 0) rfl; have c1 := h1.cell (j := 1) rfl; have c2 := h1.cell (j := 2) rfl; have c3 := h1.cell (j := 3) rfl; have c4 := h1.cell (j := 4) rfl; have c5 := h1.cell (j := 5) rfl; have d0 := h2.cell (j := 0) rfl; have d1 := h2.cell (j := 1) rfl; have d2 := h2.cell (j := 2) rfl; clear h1 h2 h3; go_simp
  go_frame
  refine wpIs_val rfl (.pointer (some ⟨g, 4, none⟩)) rfl (fun wq hq => ?_) ?_
  · obtain ⟨h1, h2, h3⟩ := hq; have c0 := h1.cell (j := 0) rfl; have c1 := h1.cell (j := 1) rfl; have c2 := h1.cell (j := 2) rfl; have c3 := h1.cell (j := 3) rfl; have c4 := h1.cell (j := 4) rfl; have c5 := h1.cell (j := 5) rfl; have d0 := h2.cell (j := 0) rfl; have d1 := h2.cell (j := 1) rfl; have d2 := h2.cell (j := 2) rfl; clear h1 h2 h3; go_simp
  go_frame
  refine wpIs_val rfl (.agg #[.int .u64 bh, .int .u64 bl]) rfl (fun wq hq => ?_) ?_
  · obtain ⟨h1, h2, h3⟩ := hq; have c0 := h1.cell (j := 0) rfl; have c1 := h1.cell (j := 1) rfl; have c2 := h1.cell (j := 2) rfl; have c3 := h1.cell (j := 3) rfl; have c4 := h1.cell (j := 4) rfl; have c5 := h1.cell (j := 5) rfl; have d0 := h2.cell (j := 0) rfl; have d1 := h2.cell (j := 1) rfl; have d2 := h2.cell (j := 2) rfl; clear h1 h2 h3; go_simp
  go_frame
  refine wpIs_val rfl (.int .i64 x) rfl (fun wq hq => ?_) ?_
  · obtain ⟨h1, h2, h3⟩ := hq; have c0 := h1.cell (j := 0) rfl; have c1 := h1.cell (j := 1) rfl; have c2 := h1.cell (j := 2) rfl; have c3 := h1.cell (j := 3) rfl; have c4 := h1.cell (j := 4) rfl; have c5 := h1.cell (j := 5) rfl; have d0 := h2.cell (j := 0) rfl; have d1 := h2.cell (j := 1) rfl; have d2 := h2.cell (j := 2) rfl; clear h1 h2 h3; go_simp
  go_frame
  refine wpIs_val rfl (.pointer (some ⟨w.heap.size, 2, none⟩)) rfl (fun wq hq => ?_) ?_
  · obtain ⟨h1, h2, h3⟩ := hq; have c0 := h1.cell (j := 0) rfl; have c1 := h1.cell (j := 1) rfl; have c2 := h1.cell (j := 2) rfl; have c3 := h1.cell (j := 3) rfl; have c4 := h1.cell (j := 4) rfl; have c5 := h1.cell (j := 5) rfl; have d0 := h2.cell (j := 0) rfl; have d1 := h2.cell (j := 1) rfl; have d2 := h2.cell (j := 2) rfl; clear h1 h2 h3; go_simp
  go_frame
  refine wpIs_val rfl (.int .i64 pb) rfl (fun wq hq => ?_) ?_
  · obtain ⟨h1, h2, h3⟩ := hq; have c0 := h1.cell (j := 0) rfl; have c1 := h1.cell (j := 1) rfl; have c2 := h1.cell (j := 2) rfl; have c3 := h1.cell (j := 3) rfl; have c4 := h1.cell (j := 4) rfl; have c5 := h1.cell (j := 5) rfl; have d0 := h2.cell (j := 0) rfl; have d1 := h2.cell (j := 1) rfl; have d2 := h2.cell (j := 2) rfl; clear h1 h2 h3; go_simp
  go_frame
  refine wpIs_call rfl (.agg #[.int .u64 bh', .int .u64 bl']) 71 #[.agg #[.int .u64 bh, .int .u64 bl], .int .i64 x, .int .i64 pb] rfl (fun wq => ?_) (fun wq hq => (P3.out wq).mono fun e w' hh => ⟨hh.1, hq.1.below hh.2, hq.2.1.below hh.2, bel_trans hq.2.2 hh.2⟩) ?_
  · go_simp
  go_frame
  intro wz ⟨z1, z2, z3⟩
  simp only [List.drop_succ_cons, List.drop_zero]
  have f0 := z1.frozen 0; have f1 := z1.frozen 1; have f2 := z1.frozen 2; have f3 := z1.frozen 3; have f4 := z1.frozen 4; have f5 := z1.frozen 5
  have c0 := z1.cell (j := 0) rfl; have c1 := z1.cell (j := 1) rfl; have c2 := z1.cell (j := 2) rfl; have c3 := z1.cell (j := 3) rfl; have c4 := z1.cell (j := 4) rfl; have c5 := z1.cell (j := 5) rfl
  go_wp2_with fail
  refine NoPanic.normal ?_
  have T3 := Lib.hid (show Bx ((((((wz.setCell ⟨g, 0, none⟩ (.int .u64 rh')).setCell ⟨g, 1, none⟩ (.int .u64 rl')).setCell ⟨g, 2, none⟩ (.int .u64 gh')).setCell ⟨g, 3, none⟩ (.int .u64 gl')).setCell ⟨g, 4, none⟩ (.int .u64 bh')).setCell ⟨g, 5, none⟩ (.int .u64 bl')) g 78 #[.int .u64 rh', .int .u64 rl', .int .u64 gh', .int .u64 gl', .int .u64 bh', .int .u64 bl', .int .i64 A] from
    (((((z1.set 0 (.int .u64 rh')).set 1 (.int .u64 rl')).set 2 (.int .u64 gh')).set 3 (.int .u64 gl')).set 4 (.int .u64 bh')).set 5 (.int .u64 bl'))
  have K3 := Lib.hid (((((((KW.out.below z3 hsz).set 0 (.int .u64 rh')).set 1 (.int .u64 rl')).set 2 (.int .u64 gh')).set 3 (.int .u64 gl')).set 4 (.int .u64 bh')).set 5 (.int .u64 bl'))
  clear f0 f1 f2 f3 f4 f5 c0 c1 c2 c3 c4 c5 z1 z2 z3
  generalize World.setCell (World.setCell (World.setCell (World.setCell (World.setCell (World.setCell wz _ _) _ _) _ _) _ _) _ _) _ _ = wy at *
  have c6 := T3.out.cell (j := 6) rfl; have f6 := T3.out.frozen 6
  have e1 := E1.out
  go_wp2_with fail
  go_end0
  exact ⟨rfl, T3.out.set 6 (.int .i64 A'), K3.out.set 6 (.int .i64 A')⟩
/-- A weighted pixel is added to the sums. -/
theorem add_any (g : Nat) (A R G B wt : Int) (p : Px) (w : World) (hp : p.ok) (hw : -4398046511104 ≤ wt ∧ wt ≤ 4398046511104) (hA : -4611686018427387904 ≤ A + wt * p.a ∧ A + wt * p.a ≤ 4611686018427387904) (h : Tt w g A R G B) :
    Calls Try.prog 51 #[.pointer (some ⟨g, 0, none⟩), .agg #[.int .i64 p.r, .int .i64 p.g, .int .i64 p.b, .int .i64 p.a], .int .i64 wt] w fun e w' =>
      e = .returned (.tuple #[]) ∧ Tt w' g (A + wt * p.a) (R + wt * p.a * p.r) (G + wt * p.a * p.g) (B + wt * p.a * p.b) ∧ KB w.heap.size g w w' := by
  obtain ⟨h1, h2, h3, h4⟩ := hp
  have hx : -288230376151711744 ≤ wt * p.a ∧ wt * p.a ≤ 288230376151711744 := by
    have a1 : wt * p.a ≤ 4398046511104 * p.a := Int.mul_le_mul_of_nonneg_right hw.2 h4.1
    have a2 : -4398046511104 * p.a ≤ wt * p.a := Int.mul_le_mul_of_nonneg_right hw.1 h4.1
    omega
  exact add_core g _ _ _ _ _ _ A _ _ _ _ _ _ _ wt (wt * p.a) p.r p.g p.b p.a w h (wrap_in _ (by omega)) (fun w => plus_any R (wt * p.a) p.r w (by omega) (by omega)) (fun w => plus_any G (wt * p.a) p.g w (by omega) (by omega)) (fun w => plus_any B (wt * p.a) p.b w (by omega) (by omega)) (wrap_in _ (by omega))
end Go.Proofs.Ytbakgdcajpagkaa
namespace Go.Proofs.Ytbakgdcajpagkaa
open Go.RowKit
set_option maxHeartbeats 1000000 in
theorem pixel_zero (g : Nat) (rh rl gh gl bh bl A d : Int) (w : World) (hg : Bx w g 78 #[.int .u64 rh, .int .u64 rl, .int .u64 gh, .int .u64 gl, .int .u64 bh, .int .u64 bl, .int .i64 A])
    (D : ∀ w, Calls Try.prog 29 #[.int .i64 A, .int .i64 4294967296] w fun e w' => e = .returned (.int .i64 d) ∧ w = w')
    (C : ∀ w, Calls Try.prog 49 #[.int .i64 d, .int .i64 0, .int .i64 65535] w fun e w' => e = .returned (.int .i64 0) ∧ w = w') :
    Calls Try.prog 52 #[.pointer (some ⟨g, 0, none⟩)] w (PxPost Px.zero w) := by
  replace D := Lib.hid D; replace C := Lib.hid C
  go_enter Try.func52, Try.ntmps52
  go_upto_region 1 with fail
  obtain ⟨hb2, hB, -⟩ := one_box w #[.int .i64 0, .int .i64 0, .int .i64 0, .int .i64 0] 48 _ rfl
  have hgl := hg.lt
  have T0 := hg.below hB
  generalize World.alloc w _ = w0 at *
  have c6 := T0.cell (j := 6) rfl
  go_wp2_with fail
  refine (D.out _).mono ?_
  rintro e w1 ⟨rfl, rfl⟩
  go_wp2_with fail
  refine (C.out _).mono ?_
  rintro e w1 ⟨rfl, rfl⟩
  obtain ⟨⟨r1, r2, r3, r4⟩, f1, f2, f3, f4⟩ := hb2.four
  go_wp2_with fail
  refine bodyPost_ret (v := .agg #[.int .i64 0, .int .i64 0, .int .i64 0, .int .i64 0]) (by simp [results, Try.results52, go_sem, *]) rfl ⟨rfl, ?_⟩
  exact set4_below hB (Nat.le_refl _) _ _ _ _ _ _ _ _
set_option maxRecDepth 100000 in
set_option maxHeartbeats 4000000 in
theorem pixel_core (g : Nat) (rh rl gh gl bh bl A d r gg b al : Int) (w : World) (hg : Bx w g 78 #[.int .u64 rh, .int .u64 rl, .int .u64 gh, .int .u64 gl, .int .u64 bh, .int .u64 bl, .int .i64 A])
    (D : ∀ w, Calls Try.prog 29 #[.int .i64 A, .int .i64 4294967296] w fun e w' => e = .returned (.int .i64 d) ∧ w = w')
    (C : ∀ w, Calls Try.prog 49 #[.int .i64 d, .int .i64 0, .int .i64 65535] w fun e w' => e = .returned (.int .i64 al) ∧ w = w') (t : (al == 0) = false)
    (O1 : ∀ w, Calls Try.prog 72 #[.agg #[.int .u64 rh, .int .u64 rl], .int .i64 A] w fun e w' => e = .returned (.int .i64 r) ∧ Below w.heap.size w w')
    (O2 : ∀ w, Calls Try.prog 72 #[.agg #[.int .u64 gh, .int .u64 gl], .int .i64 A] w fun e w' => e = .returned (.int .i64 gg) ∧ Below w.heap.size w w')
    (O3 : ∀ w, Calls Try.prog 72 #[.agg #[.int .u64 bh, .int .u64 bl], .int .i64 A] w fun e w' => e = .returned (.int .i64 b) ∧ Below w.heap.size w w') :
    Calls Try.prog 52 #[.pointer (some ⟨g, 0, none⟩)] w (PxPost ⟨r, gg, b, al⟩ w) := by
  replace D := Lib.hid D; replace C := Lib.hid C; replace O1 := Lib.hid O1; replace O2 := Lib.hid O2; replace O3 := Lib.hid O3
  go_enter Try.func52, Try.ntmps52
  go_upto_region 1 with fail
  obtain ⟨hb2, hB, -⟩ := one_box w #[.int .i64 0, .int .i64 0, .int .i64 0, .int .i64 0] 48 _ rfl
  have hgl := hg.lt
  have T0 := hg.below hB
  generalize World.alloc w _ = w0 at *
  have c6 := T0.cell (j := 6) rfl
  go_wp2_with fail
  refine (D.out _).mono ?_
  rintro e w1 ⟨rfl, rfl⟩
  go_wp2_with fail
  refine (C.out _).mono ?_
  rintro e w1 ⟨rfl, rfl⟩
  clear c6
  go_upto_region 4 with fail
  have HB := Lib.hid hB
  have HSA := Lib.hid (show ∀ wq, RSt 48 w.heap.size w0 wq → RSt 48 w.heap.size w0 wq ∧ wq.cell? ⟨g, 0, none⟩ = some (.int .u64 rh) ∧ wq.cell? ⟨g, 1, none⟩ = some (.int .u64 rl) ∧ wq.cell? ⟨g, 2, none⟩ = some (.int .u64 gh) ∧ wq.cell? ⟨g, 3, none⟩ = some (.int .u64 gl) ∧ wq.cell? ⟨g, 4, none⟩ = some (.int .u64 bh) ∧ wq.cell? ⟨g, 5, none⟩ = some (.int .u64 bl) ∧ wq.cell? ⟨g, 6, none⟩ = some (.int .i64 A) ∧ wq.cell? ⟨w.heap.size, 0, none⟩ = some (cv wq w.heap.size 0) ∧ wq.cell? ⟨w.heap.size, 1, none⟩ = some (cv wq w.heap.size 1) ∧ wq.cell? ⟨w.heap.size, 2, none⟩ = some (cv wq w.heap.size 2) ∧ wq.cell? ⟨w.heap.size, 3, none⟩ = some (cv wq w.heap.size 3) ∧ wq.frozen? ⟨w.heap.size, 0, none⟩ = false ∧ wq.frozen? ⟨w.heap.size, 1, none⟩ = false ∧ wq.frozen? ⟨w.heap.size, 2, none⟩ = false ∧ wq.frozen? ⟨w.heap.size, 3, none⟩ = false from
    fun wq h => ⟨h, (h.bx T0 (by omega)).cell rfl, (h.bx T0 (by omega)).cell rfl, (h.bx T0 (by omega)).cell rfl, (h.bx T0 (by omega)).cell rfl, (h.bx T0 (by omega)).cell rfl, (h.bx T0 (by omega)).cell rfl, (h.bx T0 (by omega)).cell rfl, h.cvs.1.1, h.cvs.1.2.1, h.cvs.1.2.2.1, h.cvs.1.2.2.2, h.cvs.2⟩)
  have HSP := Lib.hid (fun wq (h : RSt 48 w.heap.size w0 wq) a b c d => HSA.out _ (h.put a b c d))
  have hBv : RSt 48 w.heap.size w0 w0.drew := RSt.start hb2
  have hS0 := HSA.out _ hBv
  clear hb2 hB hg T0 D C
  go_region_held3 (fun wq => RSt 48 w.heap.size w0 wq ∧ wq.cell? ⟨g, 0, none⟩ = some (.int .u64 rh) ∧ wq.cell? ⟨g, 1, none⟩ = some (.int .u64 rl) ∧ wq.cell? ⟨g, 2, none⟩ = some (.int .u64 gh) ∧ wq.cell? ⟨g, 3, none⟩ = some (.int .u64 gl) ∧ wq.cell? ⟨g, 4, none⟩ = some (.int .u64 bh) ∧ wq.cell? ⟨g, 5, none⟩ = some (.int .u64 bl) ∧ wq.cell? ⟨g, 6, none⟩ = some (.int .i64 A) ∧ wq.cell? ⟨w.heap.size, 0, none⟩ = some (cv wq w.heap.size 0) ∧ wq.cell? ⟨w.heap.size, 1, none⟩ = some (cv wq w.heap.size 1) ∧ wq.cell? ⟨w.heap.size, 2, none⟩ = some (cv wq w.heap.size 2) ∧ wq.cell? ⟨w.heap.size, 3, none⟩ = some (cv wq w.heap.size 3) ∧ wq.frozen? ⟨w.heap.size, 0, none⟩ = false ∧ wq.frozen? ⟨w.heap.size, 1, none⟩ = false ∧ wq.frozen? ⟨w.heap.size, 2, none⟩ = false ∧ wq.frozen? ⟨w.heap.size, 3, none⟩ = false)
    (first | assumption | exact hS0 | exact HSA.out _ hBv | exact HSP.out _ hBv _ _ _ _ | go_keep)
    (first | (go_at_call 72; (with_reducible refine (O1.out _).mono ?_); rintro e wv ⟨rfl, hbv⟩; have hBv := RSt.call hBv hbv) | (go_at_call 72; (with_reducible refine (O2.out _).mono ?_); rintro e wv ⟨rfl, hbv⟩; have hBv := RSt.call hBv hbv) | (go_at_call 72; (with_reducible refine (O3.out _).mono ?_); rintro e wv ⟨rfl, hbv⟩; have hBv := RSt.call hBv hbv))
  obtain ⟨⟨r1, r2, r3, r4⟩, f1, f2, f3, f4⟩ := hBv.cvs
  go_wp2_with fail
  refine bodyPost_ret (v := .agg #[.int .i64 r, .int .i64 gg, .int .i64 b, .int .i64 al]) (by simp [results, Try.results52, go_sem, r1, r2, r3, r4]) rfl ⟨rfl, ?_⟩
  exact set4_below (hBv.bel HB.out (Nat.le_refl _)) (Nat.le_refl _) _ _ _ _ _ _ _ _
/-- The pixel of the sums. -/
theorem pixel_any (g : Nat) (A R G B : Int) (w : World) (h : Tt w g A R G B) (hA : -4611686018427387904 ≤ A ∧ A ≤ 4611686018427387904)
    (hR : -170141183460469231731687303715884105728 ≤ R ∧ R < 170141183460469231731687303715884105728) (hG : -170141183460469231731687303715884105728 ≤ G ∧ G < 170141183460469231731687303715884105728) (hB : -170141183460469231731687303715884105728 ≤ B ∧ B < 170141183460469231731687303715884105728) :
    Calls Try.prog 52 #[.pointer (some ⟨g, 0, none⟩)] w (PxPost (blend A R G B) w) := by
  have D := fun w => div_any A 4294967296 w hA.1 hA.2 (by omega) (by omega)
  have C := fun w => clamp_any (rdiv A 4294967296) 0 65535 w
  have e : min 65535 (max (rdiv A 4294967296) 0) = lim16 (rdiv A 4294967296) := by unfold lim16; omega
  rw [e] at C
  unfold blend
  by_cases hz : lim16 (rdiv A 4294967296) = 0
  · rw [if_pos hz]
    rw [hz] at C
    exact pixel_zero g _ _ _ _ _ _ A _ w h D C
  · rw [if_neg hz]
    have hp := blend_pos hz
    exact pixel_core g _ _ _ _ _ _ A _ _ _ _ _ w h D C (by simp [hz]) (fun w => over_any R A w ⟨hp, hA.2⟩ hR) (fun w => over_any G A w ⟨hp, hA.2⟩ hG) (fun w => over_any B A w ⟨hp, hA.2⟩ hB)
end Go.Proofs.Ytbakgdcajpagkaa
namespace Go.Proofs.Ytbakgdcajpagkaa
open Go.RowKit
/-- Does the image at a point show all of a rectangle? -/
def shows (W H ax ay : Int) (r : Rk) : Bool := decide (ax ≤ r.x) && decide (r.x + r.w - W ≤ ax) && decide (ay ≤ r.y) && decide (r.y + r.h - H ≤ ay)
set_option maxHeartbeats 2000000 in
theorem contains_any (W H ax ay x y p q : Int) (v : Value) (w : World) (hW : 0 ≤ W ∧ W ≤ 65536) (hH : 0 ≤ H ∧ H ≤ 65536) (hx : -4194304 ≤ x ∧ x ≤ 4194304) (hy : -4194304 ≤ y ∧ y ≤ 4194304) (hp : 0 ≤ p ∧ p ≤ 4194304) (hq : 0 ≤ q ∧ q ≤ 4194304) :
    Calls Try.prog 47 #[.agg #[.int .i64 W, .int .i64 H, v], .agg #[.int .i64 ax, .int .i64 ay], .agg #[.int .i64 x, .int .i64 y, .int .i64 p, .int .i64 q]] w fun e w' => e = .returned (.bool (shows W H ax ay ⟨x, y, p, q⟩)) ∧ Below w.heap.size w w' := by
  have R := Lib.hid (show shows W H ax ay ⟨x, y, p, q⟩ = (decide (ax ≤ x) && decide (x + p - W ≤ ax) && decide (ay ≤ y) && decide (y + q - H ≤ ay)) from rfl)
  generalize shows W H ax ay ⟨x, y, p, q⟩ = r at *
  have v1 := wrap_in (x + p) (by omega); have v2 := wrap_in (x + p - W) (by omega); have v3 := wrap_in (y + q) (by omega); have v4 := wrap_in (y + q - H) (by omega)
  clear hW hH hx hy hp hq
  go_enter Try.func47, Try.ntmps47
  go_upto_region 1 with fail
  have K := Lib.hid (fr_three w #[.int .i64 W, .int .i64 H, v] #[.int .i64 ax, .int .i64 ay] #[.int .i64 x, .int .i64 y, .int .i64 p, .int .i64 q] 40 28 34 _ rfl)
  generalize World.alloc (World.alloc (w.alloc _) _) _ = w0 at *
  obtain ⟨⟨i1, i2, i3⟩, -⟩ := K.out.1.1.three
  obtain ⟨⟨a1, a2⟩, -⟩ := K.out.1.2.1.two
  obtain ⟨⟨b1, b2, b3, b4⟩, -⟩ := K.out.1.2.2.1.four
  by_cases g1 : ax ≤ x
  rotate_left
  · have R : r = false := by rw [R.out]; simp [g1]
    subst R
    go_wp2_with fail
    go_ret
    exact ⟨rfl, K.out.2⟩
  by_cases g2 : x + p - W ≤ ax
  rotate_left
  · have R : r = false := by rw [R.out]; simp [g2]
    subst R
    go_wp2_with fail
    go_ret
    exact ⟨rfl, K.out.2⟩
  by_cases g3 : ay ≤ y
  rotate_left
  · have R : r = false := by rw [R.out]; simp [g3]
    subst R
    go_wp2_with fail
    go_ret
    exact ⟨rfl, K.out.2⟩
  have R : r = decide (y + q - H ≤ ay) := by rw [R.out]; simp [g1, g2, g3]
  subst R
  go_wp2_with fail
  go_ret
  exact ⟨rfl, K.out.2⟩
/-- A coordinate within bounds. -/
def bcl (b n x : Int) : Int := min (b + n - 1) (max x b)
set_option maxRecDepth 100000 in
set_option maxHeartbeats 4000000 in
theorem fetch_any (g8 g7 g6 : Nat) (W H ax ay bx by' bw bh x y : Int) (A : Option Addr) (c : Nat) (ps : List Px) (w : World)
    (h8 : Bx w g8 34 #[.int .i64 bx, .int .i64 by', .int .i64 bw, .int .i64 bh]) (h7 : Bx w g7 28 #[.int .i64 ax, .int .i64 ay]) (h6 : Bx w g6 40 #[.int .i64 W, .int .i64 H, .slice A ps.length c])
    (hp : Pixs w w.heap.size (.slice A ps.length c) ps) (hb : (-1048576 ≤ bx ∧ bx ≤ 1048576) ∧ (-1048576 ≤ by' ∧ by' ≤ 1048576) ∧ (0 ≤ bw ∧ bw ≤ 2097152) ∧ (0 ≤ bh ∧ bh ≤ 2097152)) (hW : 0 ≤ W ∧ W ≤ 65536)
    (hx : 0 ≤ bcl bx bw x - ax ∧ bcl bx bw x - ax < W) (hy : 0 ≤ bcl by' bh y - ay ∧ bcl by' bh y - ay ≤ 65536) (i : Nat) (hi : (bcl by' bh y - ay) * W + (bcl bx bw x - ax) = (i : Int)) (hl : i < ps.length) :
    Calls Try.prog 48 #[.int .i64 x, .int .i64 y, .pointer (some ⟨g8, 0, none⟩), .pointer (some ⟨g7, 0, none⟩), .pointer (some ⟨g6, 0, none⟩)] w (PxPost (pat ps i) w) := by
  have C1 := Lib.hid (show ∀ w, Calls Try.prog 49 #[.int .i64 x, .int .i64 bx, .int .i64 (bx + bw - 1)] w fun e w' => e = .returned (.int .i64 (bcl bx bw x)) ∧ w = w' from fun w => clamp_any x bx (bx + bw - 1) w)
  have C2 := Lib.hid (show ∀ w, Calls Try.prog 49 #[.int .i64 y, .int .i64 by', .int .i64 (by' + bh - 1)] w fun e w' => e = .returned (.int .i64 (bcl by' bh y)) ∧ w = w' from fun w => clamp_any y by' (by' + bh - 1) w)
  have v1 := wrap_in (bx + bw) (by omega); have v2 := wrap_in (bx + bw - 1) (by omega); have v3 := wrap_in (by' + bh) (by omega); have v4 := wrap_in (by' + bh - 1) (by omega)
  have v5 := wrap_in (bcl bx bw x - ax) (by omega); have v6 := wrap_in (bcl by' bh y - ay) (by omega)
  have hm : 0 ≤ (bcl by' bh y - ay) * W ∧ (bcl by' bh y - ay) * W ≤ 65536 * 65536 := ⟨Int.mul_nonneg hy.1 hW.1, Int.mul_le_mul hy.2 hW.2 hW.1 (by omega)⟩
  have v7 := wrap_in ((bcl by' bh y - ay) * W) (by omega)
  have hn : ps.length ≤ 9223372036854775807 := by obtain ⟨_, _, _, h, _⟩ := hp; exact h
  have v8 := wrap_in (i : Int) (by omega)
  obtain ⟨A1, c1, ev, _, hcc⟩ := hp
  injection ev with u1 u2 u3
  subst u1
  obtain ⟨b, o, rfl, hbl, p1, p2, p3, p4⟩ := hcc i hl
  have hk0 : (0 : Int) ≤ (i : Int) := by omega
  have hk1 : (i : Int) < (ps.length : Int) := by omega
  clear hcc u2 u3 hm hx hy hb hW hn
  generalize bcl bx bw x = cx at *
  generalize bcl by' bh y = cy at *
  go_enter Try.func48, Try.ntmps48
  go_upto_region 1 with fail
  obtain ⟨hb7, hB, -⟩ := one_box w #[.int .i64 0, .int .i64 0, .int .i64 0, .int .i64 0] 48 _ rfl
  replace h8 := h8.below hB; replace h7 := h7.below hB; replace h6 := h6.below hB
  replace p1 := (hB.cell (p := ⟨b, _, none⟩) hbl).trans p1; replace p2 := (hB.cell (p := ⟨b, _, none⟩) hbl).trans p2; replace p3 := (hB.cell (p := ⟨b, _, none⟩) hbl).trans p3; replace p4 := (hB.cell (p := ⟨b, _, none⟩) hbl).trans p4
  have HB := Lib.hid hB
  generalize World.alloc w _ = w0 at *
  obtain ⟨⟨j1, j2, j3, j4⟩, -⟩ := h8.four
  obtain ⟨⟨k1, k2⟩, -⟩ := h7.two
  go_quiet ((go_at_call 49; (with_reducible refine quiet_tol (C1.out _) ?_); exact ⟨_, rfl⟩))
  clear j1 j2 j3 j4 k1 k2
  replace h8 := h8.drewN nq; replace h7 := h7.drewN nq; replace h6 := h6.drewN nq; replace hb7 := hb7.drewN nq; replace HB := Lib.hid (Below.drewN' HB.out nq)
  replace p1 : (w0.drewN nq).cell? _ = _ := p1; replace p2 : (w0.drewN nq).cell? _ = _ := p2; replace p3 : (w0.drewN nq).cell? _ = _ := p3; replace p4 : (w0.drewN nq).cell? _ = _ := p4
  generalize w0.drewN nq = w1 at *
  clear nq
  obtain ⟨⟨j1, j2, j3, j4⟩, -⟩ := h8.four
  obtain ⟨⟨k1, k2⟩, -⟩ := h7.two
  go_wp2_with fail
  go_quiet ((go_at_call 49; (with_reducible refine quiet_tol (C2.out _) ?_); exact ⟨_, rfl⟩))
  clear j1 j2 j3 j4 k1 k2
  replace h6 := h6.drewN nq; replace hb7 := hb7.drewN nq; replace HB := Lib.hid (Below.drewN' HB.out nq)
  replace p1 : (w1.drewN nq).cell? _ = _ := p1; replace p2 : (w1.drewN nq).cell? _ = _ := p2; replace p3 : (w1.drewN nq).cell? _ = _ := p3; replace p4 : (w1.drewN nq).cell? _ = _ := p4
  generalize w1.drewN nq = w2 at *
  clear nq
  obtain ⟨⟨m1, m2, m3⟩, -⟩ := h6.three
  obtain ⟨⟨r1, r2, r3, r4⟩, f1, f2, f3, f4⟩ := hb7.four
  generalize pat ps i = u at *
  go_wp2_with fail
  refine bodyPost_ret (v := .agg #[.int .i64 u.r, .int .i64 u.g, .int .i64 u.b, .int .i64 u.a]) (by simp [results, Try.results48, go_sem, r1, r2, r3, r4]) rfl ⟨rfl, ?_⟩
  exact set4_below HB.out (Nat.le_refl _) _ _ _ _ _ _ _ _
end Go.Proofs.Ytbakgdcajpagkaa
