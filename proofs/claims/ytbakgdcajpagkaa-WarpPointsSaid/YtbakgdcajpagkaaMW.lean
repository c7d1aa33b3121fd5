/- The displacement at a point of the mesh. No program in sight. -/
import Derived.Test.YtbakgdcajpagkaaME
import Derived.Test.YtbakgdcajpagkaaML
import Derived.Test.YtbakgdcajpagkaaMV
namespace Go.Proofs.Ytbakgdcajpagkaa
theorem wc_point {n S i : Int} (hs : 1 ≤ S) (hi : 0 ≤ i ∧ i < n) : (wcI (i * S) n S = i ∧ wcF (i * S) n S = 0) ∨ (wcI (i * S) n S + 1 = i ∧ wcF (i * S) n S = S) := by
  have h0 : 0 ≤ i * S := Int.mul_nonneg hi.1 (by omega)
  have h1 : i * S ≤ (n - 1) * S := Int.mul_le_mul_of_nonneg_right (by omega) (by omega)
  have hU : wcU (i * S) n S = i * S := by unfold wcU; omega
  have hd : i * S / S = i := Int.mul_ediv_cancel _ (by omega)
  unfold wcF wcI
  rw [hU, hd]
  rcases Int.lt_or_le i (n - 1) with c | c
  · left
    rw [show min i (n - 2) = i by omega]
    exact ⟨rfl, by omega⟩
  · right
    rw [show min i (n - 2) = n - 2 by omega]
    refine ⟨by omega, ?_⟩
    have e : i * S = (n - 2) * S + S := by rw [show i = n - 2 + 1 by omega, Int.add_mul, Int.one_mul]
    omega
theorem rdiv_mul (a b : Int) (hb : 0 < b) : rdiv (b * a) b = a := by
  have h1 := rdiv_lo (b * a) b a hb (Int.le_refl _); have h2 := rdiv_hi (b * a) b a hb (Int.le_refl _)
  omega
theorem wat_point {C R S : Int} {ks : List (Int × Int)} (h : WOk C R S ks) {i j : Int} (hi : 0 ≤ i ∧ i < C) (hj : 0 ≤ j ∧ j < R) : wat C R S ks (i * S) (j * S) = (kx ks (j * C + i).toNat, ky ks (j * C + i).toNat) := by
  have ss : 0 < S * S := Int.mul_pos (by have := h.s0; omega) (by have := h.s0; omega)
  have hN := (wN_eq (x := i * S) (y := j * S) h).1
  have hc0 := h.c0
  have hc : (C.toNat : Int) = C := Int.toNat_of_nonneg (by omega)
  have hjc : 0 ≤ j * C := Int.mul_nonneg hj.1 (by omega)
  unfold wat
  rw [if_pos ((wErr_iff C R S ks).2 h)]
  unfold watX watY
  have key : ∀ f : List (Int × Int) → Nat → Int, rdiv (wsum (wk S (wcF (i * S) C S) (wcF (j * S) R S)) (f ks (wN C R S (i * S) (j * S))) (f ks (wN C R S (i * S) (j * S) + 1)) (f ks (wN C R S (i * S) (j * S) + C.toNat)) (f ks (wN C R S (i * S) (j * S) + C.toNat + 1))) (S * S) = f ks (j * C + i).toNat := by
    intro f
    rcases wc_point (i := i) h.s0 hi with ⟨a1, a2⟩ | ⟨a1, a2⟩ <;> rcases wc_point (i := j) h.s0 hj with ⟨b1, b2⟩ | ⟨b1, b2⟩
    · rw [a2, b2, show (j * C + i).toNat = wN C R S (i * S) (j * S) by rw [a1, b1] at hN; omega]
      rw [show wsum (wk S 0 0) (f ks (wN C R S (i * S) (j * S))) (f ks (wN C R S (i * S) (j * S) + 1)) (f ks (wN C R S (i * S) (j * S) + C.toNat)) (f ks (wN C R S (i * S) (j * S) + C.toNat + 1)) = S * S * f ks (wN C R S (i * S) (j * S)) by unfold wsum wk; simp]
      exact rdiv_mul _ _ ss
    · have e : j * C = wcI (j * S) R S * C + C := by rw [← b1, Int.add_mul, Int.one_mul]; simp [b1]
      rw [a2, b2, show (j * C + i).toNat = wN C R S (i * S) (j * S) + C.toNat by rw [a1] at hN; omega]
      rw [show wsum (wk S 0 S) (f ks (wN C R S (i * S) (j * S))) (f ks (wN C R S (i * S) (j * S) + 1)) (f ks (wN C R S (i * S) (j * S) + C.toNat)) (f ks (wN C R S (i * S) (j * S) + C.toNat + 1)) = S * S * f ks (wN C R S (i * S) (j * S) + C.toNat) by unfold wsum wk; simp]
      exact rdiv_mul _ _ ss
    · rw [a2, b2, show (j * C + i).toNat = wN C R S (i * S) (j * S) + 1 by rw [b1] at hN; omega]
      rw [show wsum (wk S S 0) (f ks (wN C R S (i * S) (j * S))) (f ks (wN C R S (i * S) (j * S) + 1)) (f ks (wN C R S (i * S) (j * S) + C.toNat)) (f ks (wN C R S (i * S) (j * S) + C.toNat + 1)) = S * S * f ks (wN C R S (i * S) (j * S) + 1) by unfold wsum wk; simp]
      exact rdiv_mul _ _ ss
    · have e : j * C = wcI (j * S) R S * C + C := by rw [← b1, Int.add_mul, Int.one_mul]; simp [b1]
      rw [a2, b2, show (j * C + i).toNat = wN C R S (i * S) (j * S) + C.toNat + 1 by omega]
      rw [show wsum (wk S S S) (f ks (wN C R S (i * S) (j * S))) (f ks (wN C R S (i * S) (j * S) + 1)) (f ks (wN C R S (i * S) (j * S) + C.toNat)) (f ks (wN C R S (i * S) (j * S) + C.toNat + 1)) = S * S * f ks (wN C R S (i * S) (j * S) + C.toNat + 1) by unfold wsum wk; simp]
      exact rdiv_mul _ _ ss
  exact Prod.ext (key kx) (key ky)
end Go.Proofs.Ytbakgdcajpagkaa
namespace Go.Proofs.Ytbakgdcajpagkaa
open Go.RowKit
theorem Bx.put2 {w : World} {g : Nat} {t : TypeId} {a b : Value} (h : Bx w g t #[a, b]) (a' b' : Value) : Bx ((w.setCell ⟨g, 0, none⟩ a').setCell ⟨g, 1, none⟩ b') g t #[a', b'] := by
  have := (h.set 0 a').set 1 b'
  simpa using this
def PtMid (p1 p2 n : Int) (w0 : World) (v11 v12 : Value) (w' : World) : Prop := ∃ g, v11 = .pointer (some ⟨g, 0, none⟩) ∧ v12 = .int .i64 n ∧ Bx w' g 28 #[.int .i64 p1, .int .i64 p2] ∧ Below w0.heap.size w0 w'
set_option maxRecDepth 100000 in
set_option maxHeartbeats 8000000 in
theorem wpoints_no (C R S i j x y E : Int) (sl : Value) (w : World) (hE : (E != 0) = true)
    (T1 : ∀ w', Below w.heap.size w w' → Calls Try.prog 11 #[.agg #[.int .i64 C, .int .i64 R, .int .i64 S, sl]] w' fun e w'' => e = .returned (.int .i64 E) ∧ Below w'.heap.size w' w'')
    (T7 : ∀ w', Calls Try.prog 16 #[] w' fun e w'' => e = .returned (.bool true) ∧ Below w'.heap.size w' w'') :
    Calls Try.prog 6 #[.agg #[.int .i64 C, .int .i64 R, .int .i64 S, sl], .int .i64 i, .int .i64 j, .int .i64 x, .int .i64 y] w (YesPost w) := by
  replace T1 := Lib.hid T1; replace T7 := Lib.hid T7
  go_enter Try.func6, Try.ntmps6
  go_upto_region 1 with fail
  obtain ⟨hb5, hB, -⟩ := one_box w #[.int .i64 C, .int .i64 R, .int .i64 S, sl] 24 _ rfl
  generalize World.alloc w _ = w0 at *
  obtain ⟨⟨i1, i2, i3, i4⟩, -⟩ := hb5.four
  go_wp2_with fail
  refine (T1.out _ hB).mono ?_
  rintro e w1 ⟨rfl, hb⟩
  have HB := Lib.hid (bel_trans hB hb)
  clear hB hb i1 i2 i3 i4 hb5
  go_wp2_with fail
  refine (T7.out _).mono ?_
  rintro e w2 ⟨rfl, hb⟩
  go_wp2_with fail
  go_ret
  exact ⟨rfl, bel_trans HB.out hb⟩
set_option maxRecDepth 100000 in
set_option maxHeartbeats 8000000 in
theorem wpoints_yes (C R S i j x y n p1 p2 q1 q2 iS jS jC : Int) (m len b o c : Nat) (w : World)
    (hn : 0 ≤ n ∧ n ≤ 16) (hp1 : -(n * 65536) ≤ p1 ∧ p1 ≤ n * 65536) (hp2 : -(n * 65536) ≤ p2 ∧ p2 ≤ n * 65536)
    (hio : (i < 0 ∨ C ≤ i ∨ j < 0 ∨ R ≤ j) ∨ ((0 ≤ i ∧ i < C) ∧ (0 ≤ j ∧ j < R) ∧ IntKind.i64.wrap (i * S) = iS ∧ IntKind.i64.wrap (j * S) = jS ∧ IntKind.i64.wrap (j * C) = jC ∧ IntKind.i64.wrap (jC + i) = (m : Int) ∧ m < len ∧ (b < w.heap.size ∧ w.cell? ⟨b, o + m * 2, none⟩ = some (.int .i64 q1) ∧ w.cell? ⟨b, o + m * 2 + 1, none⟩ = some (.int .i64 q2))))
    (T1 : ∀ w', Below w.heap.size w w' → Calls Try.prog 11 #[.agg #[.int .i64 C, .int .i64 R, .int .i64 S, .slice (some ⟨b, o, none⟩) len c]] w' fun e w'' => e = .returned (.int .i64 0) ∧ Below w'.heap.size w' w'')
    (T2 : ∀ w', Below w.heap.size w w' → Calls Try.prog 12 #[.agg #[.int .i64 C, .int .i64 R, .int .i64 S, .slice (some ⟨b, o, none⟩) len c], .int .i64 x, .int .i64 y] w' fun e w'' => e = .returned (.agg #[.int .i64 p1, .int .i64 p2]) ∧ Below w'.heap.size w' w'')
    (T3 : ∀ w', Below w.heap.size w w' → Calls Try.prog 14 #[.agg #[.int .i64 C, .int .i64 R, .int .i64 S, .slice (some ⟨b, o, none⟩) len c]] w' fun e w'' => e = .returned (.int .i64 n) ∧ Below w'.heap.size w' w'')
    (T4 : (0 ≤ i ∧ i < C) ∧ (0 ≤ j ∧ j < R) → ∀ w', Below w.heap.size w w' → Calls Try.prog 12 #[.agg #[.int .i64 C, .int .i64 R, .int .i64 S, .slice (some ⟨b, o, none⟩) len c], .int .i64 iS, .int .i64 jS] w' fun e w'' => e = .returned (.agg #[.int .i64 q1, .int .i64 q2]) ∧ Below w'.heap.size w' w'')
    (T7 : ∀ w', Calls Try.prog 16 #[] w' fun e w'' => e = .returned (.bool true) ∧ Below w'.heap.size w' w'') :
    Calls Try.prog 6 #[.agg #[.int .i64 C, .int .i64 R, .int .i64 S, .slice (some ⟨b, o, none⟩) len c], .int .i64 i, .int .i64 j, .int .i64 x, .int .i64 y] w (YesPost w) := by
  replace T1 := Lib.hid T1; replace T2 := Lib.hid T2; replace T3 := Lib.hid T3; replace T4 := Lib.hid T4; replace T7 := Lib.hid T7; replace hio := Lib.hid hio
  go_enter Try.func6, Try.ntmps6
  go_upto_region 1 with fail
  obtain ⟨hb5, hB, -⟩ := one_box w #[.int .i64 C, .int .i64 R, .int .i64 S, .slice (some ⟨b, o, none⟩) len c] 24 _ rfl
  generalize World.alloc w _ = w0 at *
  obtain ⟨⟨i1, i2, i3, i4⟩, -⟩ := hb5.four
  go_wp2_with fail
  refine (T1.out _ hB).mono ?_
  rintro e w1 ⟨rfl, hb⟩
  replace hB := bel_trans hB hb; replace hb5 := hb5.below hb
  clear hb i1 i2 i3 i4
  go_wp2_with fail
  refine (T7.out _).mono ?_
  rintro e w2 ⟨rfl, hb⟩
  replace hB := bel_trans hB hb; replace hb5 := hb5.below hb
  clear hb
  go_upto_region 3 with fail
  have H5 := Lib.hid hb5; have HB := Lib.hid hB
  have hlo := hb5.lt
  clear hb5 hB
  go_cut [11, 12] (PtMid p1 p2 n w2)
  case first =>
    have HSA := Lib.hid (show ∀ wq, Below w2.heap.size w2 wq → wq.cell? ⟨w.heap.size, 0, none⟩ = some (.int .i64 C) ∧ wq.cell? ⟨w.heap.size, 1, none⟩ = some (.int .i64 R) ∧ wq.cell? ⟨w.heap.size, 2, none⟩ = some (.int .i64 S) ∧ wq.cell? ⟨w.heap.size, 3, none⟩ = some (.slice (some ⟨b, o, none⟩) len c) from fun wq hb => (H5.out.below hb).four.1)
    have HW := Lib.hid (show ∀ wq, Below w2.heap.size w2 wq → Below w.heap.size w wq from fun wq hb => bel_trans HB.out hb)
    have hBv : Below w2.heap.size w2 w2.drew := (Below.refl _ _).drew
    have hS0 := HSA.out _ hBv
    clear H5 HB hp1 hp2 hn T4 T1 T7
    go_region_held3 (fun wq => wq.cell? ⟨w.heap.size, 0, none⟩ = some (.int .i64 C) ∧ wq.cell? ⟨w.heap.size, 1, none⟩ = some (.int .i64 R) ∧ wq.cell? ⟨w.heap.size, 2, none⟩ = some (.int .i64 S) ∧ wq.cell? ⟨w.heap.size, 3, none⟩ = some (.slice (some ⟨b, o, none⟩) len c))
      (first | assumption | exact hS0 | exact HSA.out _ hBv | exact HSA.out _ (bel_alloc hBv _) | exact HSA.out _ (Below.drew (bel1 _ _)) | exact HSA.out _ ((hBv.setCell (p := ⟨_, 0, none⟩) hgN _).setCell (p := ⟨_, 1, none⟩) hgN _) | go_keep)
      (first
        | ((with_reducible refine (T2.out _ (HW.out _ hBv)).mono ?_); rintro e wv ⟨rfl, hbv⟩; have hBv := bel_trans hBv hbv; (first | (have hN := hN.below hbv; clear z1 z2 y1 y2; obtain ⟨⟨z1, z2⟩, y1, y2⟩ := hN.two) | skip))
        | ((with_reducible refine (T3.out _ (HW.out _ hBv)).mono ?_); rintro e wv ⟨rfl, hbv⟩; have hBv := bel_trans hBv hbv; (first | (have hN := hN.below hbv; clear z1 z2 y1 y2; obtain ⟨⟨z1, z2⟩, y1, y2⟩ := hN.two) | skip))
        | ((with_reducible refine (T2.out _ (HW.out _ (Below.drew (bel1 _ _)))).mono ?_); rintro e wv ⟨rfl, hbv⟩; have hgN := Nat.le_refl w2.heap.size; have hN := Bx.below (Bx.drew (Bx.new w2 28 #[.int .i64 0, .int .i64 0])) hbv; have hBv := bel_trans (Below.drew (bel1 _ _)) hbv; obtain ⟨⟨z1, z2⟩, y1, y2⟩ := hN.two)
        | ((with_reducible refine (T3.out _ (HW.out _ (Below.drew (bel1 _ _)))).mono ?_); rintro e wv ⟨rfl, hbv⟩; have hgN := Nat.le_refl w2.heap.size; have hN := Bx.below (Bx.drew (Bx.new w2 28 #[.int .i64 0, .int .i64 0])) hbv; have hBv := bel_trans (Below.drew (bel1 _ _)) hbv; obtain ⟨⟨z1, z2⟩, y1, y2⟩ := hN.two)
        | ((with_reducible refine (T2.out _ (HW.out _ (bel_alloc hBv _))).mono ?_); rintro e wv ⟨rfl, hbv⟩; have hgN := hBv.size; have hN := Bx.below (Bx.new _ 28 #[.int .i64 0, .int .i64 0]) hbv; have hBv := bel_trans (bel_alloc hBv _) hbv; obtain ⟨⟨z1, z2⟩, y1, y2⟩ := hN.two)
        | ((with_reducible refine (T3.out _ (HW.out _ (bel_alloc hBv _))).mono ?_); rintro e wv ⟨rfl, hbv⟩; have hgN := hBv.size; have hN := Bx.below (Bx.new _ 28 #[.int .i64 0, .int .i64 0]) hbv; have hBv := bel_trans (bel_alloc hBv _) hbv; obtain ⟨⟨z1, z2⟩, y1, y2⟩ := hN.two))
    all_goals (try go_wp2_with fail)
    all_goals go_meet
    all_goals first
      | exact ⟨_, rfl, rfl, Bx.new _ 28 #[.int .i64 p1, .int .i64 p2], bel_alloc hBv _⟩
      | exact ⟨_, rfl, rfl, hN.put2 _ _, (hBv.setCell (p := ⟨_, 0, none⟩) hgN _).setCell (p := ⟨_, 1, none⟩) hgN _⟩
  case rest =>
  obtain ⟨g, rfl, rfl, hbP, hb⟩ := hcut
  replace HB := Lib.hid (bel_trans HB.out hb); replace H5 := Lib.hid (H5.out.below hb)
  clear hb
  obtain ⟨⟨a1, a2⟩, -⟩ := hbP.two
  have s1 : ¬ n < 0 := by omega
  have s2 : ¬ 16 < n := by omega
  have s3 : ¬ n * 65536 < p1 := by omega
  have s4 : ¬ p1 < -n * 65536 := by omega
  have s5 : ¬ n * 65536 < p2 := by omega
  have s6 : ¬ p2 < -n * 65536 := by omega
  have v1 := wrap_in (n * 65536) (by omega); have v2 := wrap_in (-n * 65536) (by omega); have v3 := wrap_in (-n) (by omega)
  obtain ⟨⟨i1, i2, i3, i4⟩, -⟩ := H5.out.four
  clear hbP hp1 hp2
  rcases hio.out with hout | ⟨hi, hj, e1, e2, e3, e4, hm, hb, c1, c2⟩
  · rcases (show i < 0 ∨ (¬ i < 0 ∧ C ≤ i) ∨ (¬ i < 0 ∧ ¬ C ≤ i ∧ j < 0) ∨ (¬ i < 0 ∧ ¬ C ≤ i ∧ ¬ j < 0 ∧ R ≤ j) by omega) with t1 | ⟨t1, t2⟩ | ⟨t1, t2, t3⟩ | ⟨t1, t2, t3, t4⟩
    all_goals
      clear hout hio hn
      go_wp2_with fail
      go_ret
      exact ⟨rfl, HB.out⟩
  · have t1 : ¬ i < 0 := by omega
    have t2 : ¬ C ≤ i := by omega
    have t3 : ¬ j < 0 := by omega
    have t4 : ¬ R ≤ j := by omega
    have T5 := Lib.hid (T4.out ⟨hi, hj⟩)
    have HC := Lib.hid (show ∀ wq, Below w.heap.size w wq → wq.cell? ⟨b, o + m * 2, none⟩ = some (.int .i64 q1) ∧ wq.cell? ⟨b, o + m * 2 + 1, none⟩ = some (.int .i64 q2) from fun wq hq => ⟨(hq.cell (p := ⟨b, _, none⟩) hb).trans c1, (hq.cell (p := ⟨b, _, none⟩) hb).trans c2⟩)
    clear hio hi hj T4 hn c1 c2
    go_upto_region 8 with fail
    clear s1 s2 s3 s4 s5 s6 v1 v2 v3 t1 t2 t3 t4 a1 a2
    have hm0 : (0 : Int) ≤ (m : Int) := by omega
    have hm1 : (m : Int) < (len : Int) := by omega
    have HSA := Lib.hid (show ∀ wq, Below wc.heap.size wc wq → (wq.cell? ⟨w.heap.size, 0, none⟩ = some (.int .i64 C) ∧ wq.cell? ⟨w.heap.size, 1, none⟩ = some (.int .i64 R) ∧ wq.cell? ⟨w.heap.size, 2, none⟩ = some (.int .i64 S) ∧ wq.cell? ⟨w.heap.size, 3, none⟩ = some (.slice (some ⟨b, o, none⟩) len c)) ∧ wq.cell? ⟨b, o + m * 2, none⟩ = some (.int .i64 q1) ∧ wq.cell? ⟨b, o + m * 2 + 1, none⟩ = some (.int .i64 q2) from fun wq hb => ⟨(H5.out.below hb).four.1, HC.out _ (bel_trans HB.out hb)⟩)
    have hBv : Below wc.heap.size wc wc.drew := (Below.refl _ _).drew
    have hS0 := HSA.out _ hBv
    clear H5 i1 i2 i3 i4
    go_region_held3 (fun wq => (wq.cell? ⟨w.heap.size, 0, none⟩ = some (.int .i64 C) ∧ wq.cell? ⟨w.heap.size, 1, none⟩ = some (.int .i64 R) ∧ wq.cell? ⟨w.heap.size, 2, none⟩ = some (.int .i64 S) ∧ wq.cell? ⟨w.heap.size, 3, none⟩ = some (.slice (some ⟨b, o, none⟩) len c)) ∧ wq.cell? ⟨b, o + m * 2, none⟩ = some (.int .i64 q1) ∧ wq.cell? ⟨b, o + m * 2 + 1, none⟩ = some (.int .i64 q2))
      (first | assumption | exact hS0 | exact HSA.out _ hBv | go_keep)
      (first | ((with_reducible refine (T5.out _ (bel_trans HB.out hBv)).mono ?_); rintro e wv ⟨rfl, hbv⟩; have hBv := bel_trans hBv hbv))
    go_wp2_with fail
    go_ret
    exact ⟨by simp, bel_trans HB.out hBv⟩
theorem walk_wpoints (v0 : Value) (x0 : Int × Int × Int × List (Int × Int)) (i j x y : Int) (w : World) (h : WarpV w v0 x0) :
    Calls Try.prog 6 #[v0, .int .i64 i, .int .i64 j, .int .i64 x, .int .i64 y] w fun e w' => e = .returned (.bool true) ∧ Below w.heap.size w w' := by
  obtain ⟨C, R, S, ks⟩ := x0
  obtain ⟨⟨A, c, rfl, hk⟩, -⟩ := h
  dsimp only at hk ⊢
  have T1 := fun w' (hb : Below w.heap.size w w') => rwcheck_any C R S A c ks w' (hk.on hb)
  by_cases hE : wErr C R S ks = 0
  rotate_left
  · exact wpoints_no C R S i j x y _ _ w (by simpa using hE) T1 awake_any
  have ok := (wErr_iff C R S ks).1 hE
  have hr := (wreach_bd ok).1
  have hd := wat_bd ok x y
  have hc0 := ok.c0; have hc1 := ok.c1; have hr0 := ok.r0; have hr1 := ok.r1; have hs0 := ok.s0; have hs1 := ok.s1; have hn := ok.n
  have hCR : 0 < C * R := Int.mul_pos (by omega) (by omega)
  rw [hE] at T1
  obtain ⟨b, o, cc, ev, hb, hc⟩ := hk.form (by omega)
  injection ev with u1 u2 u3
  subst u1
  refine wpoints_yes C R S i j x y (wreach C R S ks) (wat C R S ks x y).1 (wat C R S ks x y).2 (kx ks (j * C + i).toNat) (ky ks (j * C + i).toNat) (i * S) (j * S) (j * C) (j * C + i).toNat ks.length b o c w (by omega) (by omega) (by omega) ?_ T1 (fun w' hb => wat_any C R S _ c ks x y w' (hk.on hb)) (fun w' hb => reach_any C R S _ c ks w' (hk.on hb)) (fun hij w' hb => by
    have := wat_any C R S (some ⟨b, o, none⟩) c ks (i * S) (j * S) w' (hk.on hb)
    rw [wat_point ok hij.1 hij.2] at this
    exact this) awake_any
  by_cases hin : (0 ≤ i ∧ i < C) ∧ (0 ≤ j ∧ j < R)
  · right
    have m1 := idx_lt (W := C) (H := R) (x := i) (y := j) ⟨hin.1.1, hin.1.2, hin.2.1, hin.2.2⟩
    have b1 : 0 ≤ i * S ∧ i * S ≤ 8 * 256 := ⟨Int.mul_nonneg hin.1.1 (by omega), Int.mul_le_mul (by omega) (by omega) (by omega) (by omega)⟩
    have b2 : 0 ≤ j * S ∧ j * S ≤ 8 * 256 := ⟨Int.mul_nonneg hin.2.1 (by omega), Int.mul_le_mul (by omega) (by omega) (by omega) (by omega)⟩
    have b3 : 0 ≤ j * C ∧ j * C ≤ 8 * 8 := ⟨Int.mul_nonneg hin.2.1 (by omega), Int.mul_le_mul (by omega) (by omega) (by omega) (by omega)⟩
    have hlt : (j * C + i).toNat < ks.length := by omega
    have hcc := hc _ hlt
    exact ⟨hin.1, hin.2, wrap_in _ (by omega), wrap_in _ (by omega), wrap_in _ (by omega), by rw [wrap_in _ (by omega)]; omega, hlt, hb, hcc.1, hcc.2⟩
  · left; omega
end Go.Proofs.Ytbakgdcajpagkaa
