/- mixed, and the closures of AdThreshold, AdGray, AdMap. -/
import Derived.Test.YtmbglkholoblaaaDoorMJ
namespace Go.Proofs.YtmbglkholoblaaaDoor
open Go.RowKit

set_option maxHeartbeats 2000000 in
theorem mixed_core (b o c : Nat) (l : List Int) (p : Px) (w : World) (A B C : Int) (hb : b < w.heap.size)
    (T0 : ∀ w' g g', b < w'.heap.size → (∀ j, j < 9 → w'.cell? ⟨b, o + j, none⟩ = some (.int .i64 (prm l j))) → w'.cell? ⟨g, 0, none⟩ = some (.slice (some ⟨b, o, none⟩) 9 c) → w'.cell? ⟨g', 0, none⟩ = some (.int .i64 p.r) → w'.cell? ⟨g', 1, none⟩ = some (.int .i64 p.g) → w'.cell? ⟨g', 2, none⟩ = some (.int .i64 p.b) →
      (Calls Tryd.prog 73 #[.int .i64 0, .pointer (some ⟨g, 0, none⟩), .pointer (some ⟨g', 0, none⟩)] w' fun e w'' => e = .returned (.int .i64 A) ∧ ∃ n, w'' = w'.drewN n) ∧
      (Calls Tryd.prog 73 #[.int .i64 3, .pointer (some ⟨g, 0, none⟩), .pointer (some ⟨g', 0, none⟩)] w' fun e w'' => e = .returned (.int .i64 B) ∧ ∃ n, w'' = w'.drewN n) ∧
      (Calls Tryd.prog 73 #[.int .i64 6, .pointer (some ⟨g, 0, none⟩), .pointer (some ⟨g', 0, none⟩)] w' fun e w'' => e = .returned (.int .i64 C) ∧ ∃ n, w'' = w'.drewN n))
    (hc : ∀ j, j < 9 → w.cell? ⟨b, o + j, none⟩ = some (.int .i64 (prm l j))) :
    Calls Tryd.prog 54 #[.slice (some ⟨b, o, none⟩) 9 c, .agg #[.int .i64 p.r, .int .i64 p.g, .int .i64 p.b, .int .i64 p.a]] w (PxPost ⟨A, B, C, 0⟩ w) := by
  have HT := Lib.hid T0; have HC := Lib.hid hc; clear T0 hc
  go_enter Tryd.func54, Tryd.ntmps54
  go_upto_region 1 with fail
  obtain ⟨hb2, hb3, hb4, hB, -⟩ := three_boxes w #[.slice (some ⟨b, o, none⟩) 9 c] #[.int .i64 p.r, .int .i64 p.g, .int .i64 p.b, .int .i64 p.a] #[.int .i64 0, .int .i64 0, .int .i64 0, .int .i64 0] 22 25 25 _ rfl
  generalize World.alloc (World.alloc (World.alloc w _) _) _ = w0 at *
  have HTT := Lib.hid (show ∀ wq, Below w0.heap.size w0 wq → _ from fun wq hq => HT.out wq w.heap.size (w.heap.size + 1) (Nat.lt_of_lt_of_le hb (Nat.le_trans hB.size hq.size)) (fun j hj => ((hq.cell (p := ⟨b, o + j, none⟩) (Nat.lt_of_lt_of_le hb hB.size)).trans (hB.cell (p := ⟨b, o + j, none⟩) hb)).trans (HC.out j hj)) ((hb2.below hq).cell rfl) ((hb3.below hq).four.1.1) ((hb3.below hq).four.1.2.1) ((hb3.below hq).four.1.2.2.1))
  have HB := Lib.hid hB; have HB4 := Lib.hid hb4
  clear hB hb2 hb3 hb4 HT
  go_wp2_with fail
  refine (HTT.out _ (Below.refl _ _)).1.mono ?_
  rintro e w1 ⟨rfl, n1, rfl⟩
  go_wp2_with fail
  refine (HTT.out _ (Below.drewN' (Below.refl _ _) _)).2.1.mono ?_
  rintro e w1 ⟨rfl, n2, rfl⟩
  go_wp2_with fail
  refine (HTT.out _ (Below.drewN' (Below.refl _ _) _)).2.2.mono ?_
  rintro e w1 ⟨rfl, n3, rfl⟩
  obtain ⟨⟨r1, r2, r3, r4⟩, f1, f2, f3, f4⟩ := HB4.out.four
  go_wp2_with fail
  refine bodyPost_ret (v := .agg #[.int .i64 A, .int .i64 B, .int .i64 C, .int .i64 0]) (by simp [results, Tryd.results54, go_sem, r1, r2, r3, r4]) rfl ⟨rfl, ?_⟩
  refine set4_below ?_ (by omega) _ _ _ _ _ _ _ _
  repeat (first | exact HB.out | refine Below.drewN' ?_ _)
theorem mixed_any (b o c : Nat) (l : List Int) (ss : List (Int × Px)) (a : AdjOk 8 l ss) (p : Px) (hp : p.ok) (w : World) (hb : b < w.heap.size) (hc : ∀ j, j < 9 → w.cell? ⟨b, o + j, none⟩ = some (.int .i64 (prm l j))) :
    Calls Tryd.prog 54 #[.slice (some ⟨b, o, none⟩) 9 c, .agg #[.int .i64 p.r, .int .i64 p.g, .int .i64 p.b, .int .i64 p.a]] w (PxPost ⟨(colF 8 l ss p).1, (colF 8 l ss p).2.1, (colF 8 l ss p).2.2, 0⟩ w) :=
  mixed_core b o c l p w _ _ _ hb (fun w' g g' hb' hc' hg i1 i2 i3 =>
    ⟨m1_any b o c g g' 0 (by omega) _ _ _ p w' hp (a.p8 0 (by omega)) (a.p8 1 (by omega)) (a.p8 2 (by omega)) hg i1 i2 i3 (hc' 0 (by omega)) (hc' 1 (by omega)) (hc' 2 (by omega)),
     m1_any b o c g g' 3 (by omega) _ _ _ p w' hp (a.p8 3 (by omega)) (a.p8 4 (by omega)) (a.p8 5 (by omega)) hg i1 i2 i3 (hc' 3 (by omega)) (hc' 4 (by omega)) (hc' 5 (by omega)),
     m1_any b o c g g' 6 (by omega) _ _ _ p w' hp (a.p8 6 (by omega)) (a.p8 7 (by omega)) (a.p8 8 (by omega)) hg i1 i2 i3 (hc' 6 (by omega)) (hc' 7 (by omega)) (hc' 8 (by omega))⟩) hc

set_option maxRecDepth 100000 in
set_option maxHeartbeats 2000000 in
theorem k4_any (b o c g g' : Nat) (x0 x1 x2 s : Int) (p : Px) (w : World) (hp : p.ok) (h0 : 0 ≤ x0 ∧ x0 ≤ 65535) (h1 : 0 ≤ x1 ∧ x1 ≤ 65535) (h2 : 0 ≤ x2 ∧ x2 ≤ 65535) (hs : 0 < s ∧ s ≤ 196605)
    (hb : w.cell? ⟨g, 0, none⟩ = some (.slice (some ⟨b, o, none⟩) 3 c)) (hb' : w.cell? ⟨g', 0, none⟩ = some (.int .i64 s)) (hbl : b < w.heap.size)
    (c0 : w.cell? ⟨b, o, none⟩ = some (.int .i64 x0)) (c1 : w.cell? ⟨b, o + 1, none⟩ = some (.int .i64 x1)) (c2 : w.cell? ⟨b, o + 2, none⟩ = some (.int .i64 x2)) :
    Calls Tryd.prog 55 #[.agg #[.int .i64 p.r, .int .i64 p.g, .int .i64 p.b, .int .i64 p.a], .pointer (some ⟨g, 0, none⟩), .pointer (some ⟨g', 0, none⟩)] w (ColPost (rdiv (dot3 x0 x1 x2 p) s, rdiv (dot3 x0 x1 x2 p) s, rdiv (dot3 x0 x1 x2 p) s) w) := by
  have hg : g < w.heap.size := World.block_lt_of_cell? w _ hb
  have hg' : g' < w.heap.size := World.block_lt_of_cell? w _ hb'
  have m0 := mul_bd h0 hp.1; have m1 := mul_bd h1 hp.2.1; have m2 := mul_bd h2 hp.2.2.1
  have q1 : IntKind.i64.wrap (x0 * p.r) = x0 * p.r := wrap_in _ (by omega)
  have q2 : IntKind.i64.wrap (x1 * p.g) = x1 * p.g := wrap_in _ (by omega)
  have q3 : IntKind.i64.wrap (x2 * p.b) = x2 * p.b := wrap_in _ (by omega)
  have q4 : IntKind.i64.wrap (x0 * p.r + x1 * p.g) = x0 * p.r + x1 * p.g := wrap_in _ (by omega)
  have q5 : IntKind.i64.wrap (x0 * p.r + x1 * p.g + x2 * p.b) = x0 * p.r + x1 * p.g + x2 * p.b := wrap_in _ (by omega)
  have D := Lib.hid (fun w' => div_any (x0 * p.r + x1 * p.g + x2 * p.b) s w' (by omega) (by omega) (by omega) (by omega))
  have E := Lib.hid (show rdiv (x0 * p.r + x1 * p.g + x2 * p.b) s = rdiv (dot3 x0 x1 x2 p) s from rfl)
  generalize rdiv (x0 * p.r + x1 * p.g + x2 * p.b) s = q at *
  rw [← E.out]
  clear E hp
  go_enter Tryd.func55, Tryd.ntmps55
  go_upto_region 1 with fail
  obtain ⟨hb2, hb3, hB⟩ := two_boxes w #[.int .i64 p.r, .int .i64 p.g, .int .i64 p.b, .int .i64 p.a] #[.int .i64 0, .int .i64 0, .int .i64 0, .int .i64 0] 25 25 _ rfl
  replace hb := (hB.cell (p := ⟨g, 0, none⟩) hg).trans hb
  replace hb' := (hB.cell (p := ⟨g', 0, none⟩) hg').trans hb'
  replace c0 := (hB.cell (p := ⟨b, o, none⟩) hbl).trans c0
  replace c1 := (hB.cell (p := ⟨b, o + 1, none⟩) hbl).trans c1
  replace c2 := (hB.cell (p := ⟨b, o + 2, none⟩) hbl).trans c2
  generalize World.alloc (World.alloc w _) _ = w0 at *
  obtain ⟨⟨i1, i2, i3, i4⟩, -⟩ := hb2.four
  have HB := Lib.hid hB; have HB3 := Lib.hid hb3; clear hB hb2 hb3
  go_wp2_with fail
  go_still_tail 22, (by kernel_rfl)
  still_call (still_of (D.out w0.drew))
  repeat still_step
  try refine wpStill_nil ?_
  change wpList _ _ _ _ _ w0.drew
  replace HB := Lib.hid HB.out.drew; replace HB3 := Lib.hid HB3.out.drew
  clear i1 i2 i3 i4 c0 c1 c2 hb hb'
  generalize w0.drew = w5 at *
  go_wp2_with fail
  refine (agray_any _ _).mono ?_
  rintro e w6 ⟨rfl, hbb⟩
  obtain ⟨⟨r1, r2, r3, r4⟩, f1, f2, f3, f4⟩ := (HB3.out.below hbb).four
  have HBF := Lib.hid (bel_trans HB.out hbb)
  clear hbb
  go_wp2_with fail
  refine bodyPost_ret (v := .agg #[.int .i64 q, .int .i64 q, .int .i64 q, .int .i64 0]) (by simp [results, Tryd.results55, go_sem, r1, r2, r3, r4]) rfl ⟨0, rfl, ?_⟩
  exact set4_below HBF.out (by omega) _ _ _ _ _ _ _ _
set_option maxRecDepth 100000 in
set_option maxHeartbeats 2000000 in
theorem k2_any (b o c g : Nat) (x0 y : Int) (p : Px) (w : World) (hy : y = luma p) (hb : w.cell? ⟨g, 0, none⟩ = some (.slice (some ⟨b, o, none⟩) 1 c)) (hbl : b < w.heap.size) (c0 : w.cell? ⟨b, o, none⟩ = some (.int .i64 x0)) :
    Calls Tryd.prog 50 #[.agg #[.int .i64 p.r, .int .i64 p.g, .int .i64 p.b, .int .i64 p.a], .pointer (some ⟨g, 0, none⟩)] w (ColPost (if x0 ≤ y then (65535, 65535, 65535) else (0, 0, 0)) w) := by
  have hg : g < w.heap.size := World.block_lt_of_cell? w _ hb
  have L := Lib.hid (fun w' => show Calls Tryd.prog 51 #[.agg #[.int .i64 p.r, .int .i64 p.g, .int .i64 p.b, .int .i64 p.a]] w' fun e w'' => e = .returned (.int .i64 y) ∧ Below w'.heap.size w' w'' by rw [hy]; exact pluma_any p w')
  clear hy
  go_enter Tryd.func50, Tryd.ntmps50
  go_upto_region 1 with fail
  obtain ⟨hb2, hb3, hB⟩ := two_boxes w #[.int .i64 p.r, .int .i64 p.g, .int .i64 p.b, .int .i64 p.a] #[.int .i64 0, .int .i64 0, .int .i64 0, .int .i64 0] 25 25 _ rfl
  replace hb := (hB.cell (p := ⟨g, 0, none⟩) hg).trans hb
  replace c0 := (hB.cell (p := ⟨b, o, none⟩) hbl).trans c0
  have hgl := Nat.lt_of_lt_of_le hg hB.size
  have hbl2 := Nat.lt_of_lt_of_le hbl hB.size
  generalize World.alloc (World.alloc w _) _ = w0 at *
  have HSA := Lib.hid (show ∀ wq, RS (w.heap.size + 1) w0 wq → RS (w.heap.size + 1) w0 wq ∧ wq.cell? ⟨g, 0, none⟩ = some (.slice (some ⟨b, o, none⟩) 1 c) ∧ wq.cell? ⟨b, o, none⟩ = some (.int .i64 x0) ∧ wq.cell? ⟨w.heap.size, 0, none⟩ = some (.int .i64 p.r) ∧ wq.cell? ⟨w.heap.size, 1, none⟩ = some (.int .i64 p.g) ∧ wq.cell? ⟨w.heap.size, 2, none⟩ = some (.int .i64 p.b) ∧ wq.cell? ⟨w.heap.size, 3, none⟩ = some (.int .i64 p.a) from
    fun wq h => ⟨h, (h.1.cell (k := g) hgl (by omega)).trans hb, (h.1.cell (k := b) hbl2 (by omega)).trans c0, (h.bx hb2 (by omega)).four.1.1, (h.bx hb2 (by omega)).four.1.2.1, (h.bx hb2 (by omega)).four.1.2.2.1, (h.bx hb2 (by omega)).four.1.2.2.2⟩)
  have hBv : RS (w.heap.size + 1) w0 w0.drew := RS.start hb3
  have hS0 := HSA.out _ hBv
  have HB := Lib.hid hB
  clear hB hb2 hb3 hb c0
  have hor : (x0 ≤ y ∧ decide (x0 ≤ y) = true) ∨ (¬ x0 ≤ y ∧ decide (x0 ≤ y) = false) := by
    by_cases h : x0 ≤ y
    · exact .inl ⟨h, by simp [h]⟩
    · exact .inr ⟨h, by simp [h]⟩
  rcases hor with ⟨hx, hxd⟩ | ⟨hx, hxd⟩
  all_goals
    first | rw [if_pos hx] | rw [if_neg hx]
    have HX := Lib.hid hx; clear hx
    go_region_held3 (fun wq => RS (w.heap.size + 1) w0 wq ∧ wq.cell? ⟨g, 0, none⟩ = some (.slice (some ⟨b, o, none⟩) 1 c) ∧ wq.cell? ⟨b, o, none⟩ = some (.int .i64 x0) ∧ wq.cell? ⟨w.heap.size, 0, none⟩ = some (.int .i64 p.r) ∧ wq.cell? ⟨w.heap.size, 1, none⟩ = some (.int .i64 p.g) ∧ wq.cell? ⟨w.heap.size, 2, none⟩ = some (.int .i64 p.b) ∧ wq.cell? ⟨w.heap.size, 3, none⟩ = some (.int .i64 p.a))
      (first | assumption | exact hS0 | exact HSA.out _ hBv | go_keep)
      (((with_reducible refine (L.out _).mono ?_); rintro e wv ⟨rfl, hbv⟩; have hBv := RS.call hBv hbv))
  all_goals go_wp2_with fail
  all_goals have hx := HX.out
  all_goals (try (exfalso; omega))
  all_goals refine (agray_any _ _).mono ?_
  all_goals rintro e w6 ⟨rfl, hbb⟩
  all_goals replace hBv := RS.call hBv hbb
  all_goals obtain ⟨⟨r1, r2, r3, r4⟩, f1, f2, f3, f4⟩ := hBv.cvs
  all_goals go_wp2_with fail
  · refine bodyPost_ret (v := .agg #[.int .i64 65535, .int .i64 65535, .int .i64 65535, .int .i64 0]) (by simp [results, Tryd.results50, go_sem, r1, r2, r3, r4]) rfl ⟨0, rfl, ?_⟩
    exact set4_below (hBv.bel HB.out (by omega)) (by omega) _ _ _ _ _ _ _ _
  · refine bodyPost_ret (v := .agg #[.int .i64 0, .int .i64 0, .int .i64 0, .int .i64 0]) (by simp [results, Tryd.results50, go_sem, r1, r2, r3, r4]) rfl ⟨0, rfl, ?_⟩
    exact set4_below (hBv.bel HB.out (by omega)) (by omega) _ _ _ _ _ _ _ _
set_option maxRecDepth 100000 in
set_option maxHeartbeats 2000000 in
theorem k5_any (g : Nat) (A : Option Addr) (n c : Nat) (y : Int) (p m : Px) (w : World) (hy : y = luma p) (hb : w.cell? ⟨g, 0, none⟩ = some (.slice A n c))
    (T : ∀ w', Below w.heap.size w w' → Calls Tryd.prog 57 #[.slice A n c, .int .i64 y] w' (PxPost m w')) :
    Calls Tryd.prog 56 #[.agg #[.int .i64 p.r, .int .i64 p.g, .int .i64 p.b, .int .i64 p.a], .pointer (some ⟨g, 0, none⟩)] w (ColPost (m.r, m.g, m.b) w) := by
  have hg : g < w.heap.size := World.block_lt_of_cell? w _ hb
  have L := Lib.hid (fun w' => show Calls Tryd.prog 51 #[.agg #[.int .i64 p.r, .int .i64 p.g, .int .i64 p.b, .int .i64 p.a]] w' fun e w'' => e = .returned (.int .i64 y) ∧ Below w'.heap.size w' w'' by rw [hy]; exact pluma_any p w')
  have HT := Lib.hid T
  clear hy T
  go_enter Tryd.func56, Tryd.ntmps56
  go_upto_region 1 with fail
  obtain ⟨hb2, hb3, hB⟩ := two_boxes w #[.int .i64 p.r, .int .i64 p.g, .int .i64 p.b, .int .i64 p.a] #[.int .i64 0, .int .i64 0, .int .i64 0, .int .i64 0] 25 25 _ rfl
  replace hb := (hB.cell (p := ⟨g, 0, none⟩) hg).trans hb
  have hgl := Nat.lt_of_lt_of_le hg hB.size
  generalize World.alloc (World.alloc w _) _ = w0 at *
  have HSA := Lib.hid (show ∀ wq, RS (w.heap.size + 1) w0 wq → RS (w.heap.size + 1) w0 wq ∧ wq.cell? ⟨g, 0, none⟩ = some (.slice A n c) ∧ wq.cell? ⟨w.heap.size, 0, none⟩ = some (.int .i64 p.r) ∧ wq.cell? ⟨w.heap.size, 1, none⟩ = some (.int .i64 p.g) ∧ wq.cell? ⟨w.heap.size, 2, none⟩ = some (.int .i64 p.b) ∧ wq.cell? ⟨w.heap.size, 3, none⟩ = some (.int .i64 p.a) ∧
      wq.cell? ⟨w.heap.size + 1, 0, none⟩ = some (cv wq (w.heap.size + 1) 0) ∧ wq.cell? ⟨w.heap.size + 1, 1, none⟩ = some (cv wq (w.heap.size + 1) 1) ∧ wq.cell? ⟨w.heap.size + 1, 2, none⟩ = some (cv wq (w.heap.size + 1) 2) ∧ wq.cell? ⟨w.heap.size + 1, 3, none⟩ = some (cv wq (w.heap.size + 1) 3) ∧
      wq.frozen? ⟨w.heap.size + 1, 0, none⟩ = false ∧ wq.frozen? ⟨w.heap.size + 1, 1, none⟩ = false ∧ wq.frozen? ⟨w.heap.size + 1, 2, none⟩ = false ∧ wq.frozen? ⟨w.heap.size + 1, 3, none⟩ = false from
    fun wq h => ⟨h, (h.1.cell (k := g) hgl (by omega)).trans hb, (h.bx hb2 (by omega)).four.1.1, (h.bx hb2 (by omega)).four.1.2.1, (h.bx hb2 (by omega)).four.1.2.2.1, (h.bx hb2 (by omega)).four.1.2.2.2, h.cvs.1.1, h.cvs.1.2.1, h.cvs.1.2.2.1, h.cvs.1.2.2.2, h.cvs.2⟩)
  have HSP := Lib.hid (fun wq (h : RS (w.heap.size + 1) w0 wq) a b c d => HSA.out _ (h.put a b c d))
  have HTT := Lib.hid (show ∀ wq, RS (w.heap.size + 1) w0 wq → Calls Tryd.prog 57 #[.slice A n c, .int .i64 y] wq (PxPost m wq) from fun wq h => HT.out wq (h.bel hB (by omega)))
  have hBv : RS (w.heap.size + 1) w0 w0.drew := RS.start hb3
  have hS0 := HSA.out _ hBv
  have HB := Lib.hid hB
  clear hB hb2 hb3 hb HT
  go_region_held3 (fun wq => RS (w.heap.size + 1) w0 wq ∧ wq.cell? ⟨g, 0, none⟩ = some (.slice A n c) ∧ wq.cell? ⟨w.heap.size, 0, none⟩ = some (.int .i64 p.r) ∧ wq.cell? ⟨w.heap.size, 1, none⟩ = some (.int .i64 p.g) ∧ wq.cell? ⟨w.heap.size, 2, none⟩ = some (.int .i64 p.b) ∧ wq.cell? ⟨w.heap.size, 3, none⟩ = some (.int .i64 p.a) ∧
      wq.cell? ⟨w.heap.size + 1, 0, none⟩ = some (cv wq (w.heap.size + 1) 0) ∧ wq.cell? ⟨w.heap.size + 1, 1, none⟩ = some (cv wq (w.heap.size + 1) 1) ∧ wq.cell? ⟨w.heap.size + 1, 2, none⟩ = some (cv wq (w.heap.size + 1) 2) ∧ wq.cell? ⟨w.heap.size + 1, 3, none⟩ = some (cv wq (w.heap.size + 1) 3) ∧
      wq.frozen? ⟨w.heap.size + 1, 0, none⟩ = false ∧ wq.frozen? ⟨w.heap.size + 1, 1, none⟩ = false ∧ wq.frozen? ⟨w.heap.size + 1, 2, none⟩ = false ∧ wq.frozen? ⟨w.heap.size + 1, 3, none⟩ = false)
    (first | assumption | exact hS0 | exact HSA.out _ hBv | exact HSP.out _ hBv _ _ _ _ | go_keep)
    (first | ((with_reducible refine (L.out _).mono ?_); rintro e wv ⟨rfl, hbv⟩; have hBv := RS.call hBv hbv) | ((with_reducible refine (HTT.out _ hBv).mono ?_); rintro e wv ⟨rfl, hbv⟩; have hBv := RS.call hBv hbv))
  obtain ⟨⟨r1, r2, r3, r4⟩, f1, f2, f3, f4⟩ := hBv.cvs
  go_wp2_with fail
  refine bodyPost_ret (v := .agg #[.int .i64 m.r, .int .i64 m.g, .int .i64 m.b, .int .i64 m.a]) (by simp [results, Tryd.results56, go_sem, r1, r2, r3, r4]) rfl ⟨m.a, rfl, ?_⟩
  exact set4_below (hBv.bel HB.out (by omega)) (by omega) _ _ _ _ _ _ _ _
end Go.Proofs.YtmbglkholoblaaaDoor
