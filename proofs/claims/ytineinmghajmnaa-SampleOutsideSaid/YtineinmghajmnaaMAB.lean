/- sample.Resize. -/
import Derived.Test.YtineinmghajmnaaMZ
import Derived.Test.YtineinmghajmnaaMW
namespace Go.Proofs.Ytineinmghajmnaa
open Go.RowKit
theorem imgMid_3 {W H : Int} {n : Nat} {w : World} {M : Array Value} (hM : PRow (w.alloc (.cells M 27)) w.heap.size (.slice (some ⟨w.heap.size, 0, none⟩) n n) (List.replicate n Px.zero)) :
    ImgMid W H n w (.pointer (some ⟨w.heap.size + 1, 0, none⟩)) (((w.alloc (.cells M 27)).alloc (.cells #[.int .i64 W, .int .i64 H, .slice (some ⟨w.heap.size, 0, none⟩) n n] 24))) := by
  have hb := Bx.new (w.alloc (.cells M 27)) 24 #[.int .i64 W, .int .i64 H, .slice (some ⟨w.heap.size, 0, none⟩) n n]
  rw [World.size_alloc] at hb
  exact ⟨_, _, rfl, hb, (hM.alloc _), by omega, by omega, (bel_alloc (bel1 _ _) _)⟩
theorem both_mul {a b : Int} (ha : 0 ≤ a ∧ a ≤ 140000) (hb : 0 ≤ b ∧ b ≤ 256) : 0 ≤ a * b ∧ a * b ≤ 140000 * 256 :=
  ⟨Int.mul_nonneg ha.1 hb.1, Int.mul_le_mul ha.2 hb.2 hb.1 (by omega)⟩
set_option maxRecDepth 100000 in
set_option maxHeartbeats 8000000 in
theorem sres_no (W H kind p q E0 Er : Int) (A : Option Addr) (c : Nat) (ps : List Px) (KV : Bool) (w : World)
    (tt : ((E0 != 0) = true ∧ Er = E0) ∨ ((E0 != 0) = false ∧ (((p < 1 ∨ 256 < p ∨ q < 1 ∨ 256 < q ∨ W = 0) ∧ Er = 15) ∨ (¬ (p < 1 ∨ 256 < p ∨ q < 1 ∨ 256 < q ∨ W = 0) ∧ KV = false ∧ Er = 8))))
    (TC : ∀ w', Below w.heap.size w w' → Calls Try.prog 22 #[.agg #[.int .i64 W, .int .i64 H, .slice A ps.length c]] w' fun e w'' => e = .returned (.int .i64 E0) ∧ Below w'.heap.size w' w'')
    (TK : ∀ w, Calls Try.prog 28 #[.int .i64 kind] w fun e w' => e = .returned (.bool KV) ∧ w = w') :
    Calls Try.prog 19 #[.agg #[.int .i64 W, .int .i64 H, .slice A ps.length c], .int .i64 p, .int .i64 q, .int .i64 kind] w (ImPost Er 0 0 [] w) := by
  replace TC := Lib.hid TC; replace TK := Lib.hid TK; replace tt := Lib.hid tt
  go_enter Try.func19, Try.ntmps19
  go_upto_region 1 with fail
  have K := Lib.hid (fr_two w #[.int .i64 W, .int .i64 H, .slice A ps.length c] #[.int .i64 0, .int .i64 0, .slice none 0 0] 24 24 _ rfl)
  generalize World.alloc (World.alloc w _) _ = w0 at *
  obtain ⟨⟨i1, i2, i3⟩, -⟩ := K.out.1.1.three
  go_wp2_with fail
  refine (TC.out _ K.out.2).mono ?_
  rintro e w1 ⟨rfl, hb⟩
  replace K := Lib.hid (K.out.below hb)
  clear hb i1 i2 i3
  rcases tt.out with ⟨d0, rfl⟩ | ⟨d0, tt1⟩
  · clear tt
    obtain ⟨⟨r1, r2, r3⟩, f1, f2, f3⟩ := K.out.1.2.1.three
    have HB := Lib.hid K.out.2
    clear K
    go_wp2_with fail
    refine bodyPost_ret (v := .tuple #[.agg #[.int .i64 0, .int .i64 0, .slice none 0 0], .int .i64 Er]) (by simp [results, Try.results19, go_sem, r1, r2, r3]) rfl ?_
    exact ⟨_, _, _, rfl, PRow.nil _ _, set3_below HB.out (by omega) _ _ _⟩
  clear tt
  replace tt1 := Lib.hid tt1
  obtain ⟨⟨i1, i2, i3⟩, -⟩ := K.out.1.1.three
  rcases tt1.out with ⟨hbig, rfl⟩ | ⟨hbig, rfl, rfl⟩
  · clear tt1
    rcases (show p < 1 ∨ (¬ p < 1 ∧ 256 < p) ∨ (¬ p < 1 ∧ ¬ 256 < p ∧ q < 1) ∨ (¬ p < 1 ∧ ¬ 256 < p ∧ ¬ q < 1 ∧ 256 < q) ∨ (¬ p < 1 ∧ ¬ 256 < p ∧ ¬ q < 1 ∧ ¬ 256 < q ∧ W = 0) by omega) with t1 | ⟨t1, t2⟩ | ⟨t1, t2, t3⟩ | ⟨t1, t2, t3, t4⟩ | ⟨t1, t2, t3, t4, t5⟩
    rotate_left 4
    · have t6 : (W == 0) = true := by simp [t5]
      clear hbig t5
      obtain ⟨⟨r1, r2, r3⟩, f1, f2, f3⟩ := K.out.1.2.1.three
      have HB := Lib.hid K.out.2
      clear K
      go_wp2_with fail
      refine bodyPost_ret (v := .tuple #[.agg #[.int .i64 0, .int .i64 0, .slice none 0 0], .int .i64 15]) (by simp [results, Try.results19, go_sem, r1, r2, r3]) rfl ?_
      exact ⟨_, _, _, rfl, PRow.nil _ _, set3_below HB.out (by omega) _ _ _⟩
    all_goals
      clear hbig
      obtain ⟨⟨r1, r2, r3⟩, f1, f2, f3⟩ := K.out.1.2.1.three
      have HB := Lib.hid K.out.2
      clear K
      go_wp2_with fail
      refine bodyPost_ret (v := .tuple #[.agg #[.int .i64 0, .int .i64 0, .slice none 0 0], .int .i64 15]) (by simp [results, Try.results19, go_sem, r1, r2, r3]) rfl ?_
      exact ⟨_, _, _, rfl, PRow.nil _ _, set3_below HB.out (by omega) _ _ _⟩
  clear tt1
  have t1 : ¬ p < 1 := by omega
  have t2 : ¬ 256 < p := by omega
  have t3 : ¬ q < 1 := by omega
  have t4 : ¬ 256 < q := by omega
  have t6 : (W == 0) = false := by simp; omega
  clear hbig
  go_wp2_with fail
  refine (TK.out _).mono ?_
  rintro e w3 ⟨rfl, rfl⟩
  clear i1 i2 i3
  obtain ⟨⟨r1, r2, r3⟩, f1, f2, f3⟩ := K.out.1.2.1.three
  have HB := Lib.hid K.out.2
  clear K
  go_wp2_with fail
  refine bodyPost_ret (v := .tuple #[.agg #[.int .i64 0, .int .i64 0, .slice none 0 0], .int .i64 8]) (by simp [results, Try.results19, go_sem, r1, r2, r3]) rfl ?_
  exact ⟨_, _, _, rfl, PRow.nil _ _, set3_below HB.out (by omega) _ _ _⟩
set_option maxRecDepth 100000 in
set_option maxHeartbeats 8000000 in
theorem sres_ok (W H kind : Int) (ow oh N : Nat) (A : Option Addr) (c : Nat) (ps : List Px) (f : Nat → Px) (P1 P2 : Nat → Int) (w : World)
    (hNN : ow * oh = N) (how : 0 < ow) (how2 : ow ≤ 256) (hoh : 0 < oh) (hoh2 : oh ≤ 256) (hW : 0 < W ∧ W ≤ 256) (hH : 0 ≤ H ∧ H ≤ 256)
    (TC : ∀ w', Below w.heap.size w w' → Calls Try.prog 22 #[.agg #[.int .i64 W, .int .i64 H, .slice A ps.length c]] w' fun e w'' => e = .returned (.int .i64 0) ∧ Below w'.heap.size w' w'')
    (TK : ∀ w, Calls Try.prog 28 #[.int .i64 kind] w fun e w' => e = .returned (.bool true) ∧ w = w')
    (TX : ∀ n : Nat, n < N → ∀ w, Calls Try.prog 50 #[.int .i64 ((2 * ((n : Int) % (ow : Int)) + 1) * W * 65536), .int .i64 (2 * (ow : Int))] w fun e w' => e = .returned (.int .i64 (P1 n)) ∧ w = w')
    (TY : ∀ n : Nat, n < N → ∀ w, Calls Try.prog 50 #[.int .i64 ((2 * ((n : Int) / (ow : Int)) + 1) * H * 65536), .int .i64 (2 * (oh : Int))] w fun e w' => e = .returned (.int .i64 (P2 n)) ∧ w = w')
    (TAt : ∀ n : Nat, n < N → ∀ w' g, Below w.heap.size w w' → Bx w' g 24 #[.int .i64 W, .int .i64 H, .slice A ps.length c] → Calls Try.prog 30 #[.func (.func 83) #[] #[.pointer (some ⟨g, 0, none⟩)], .int .i64 kind, .int .i64 (P1 n), .int .i64 (P2 n)] w' (PxPost (f n) w')) :
    Calls Try.prog 19 #[.agg #[.int .i64 W, .int .i64 H, .slice A ps.length c], .int .i64 (ow : Int), .int .i64 (oh : Int), .int .i64 kind] w (ImPost 0 (ow : Int) (oh : Int) ((List.range N).map f) w) := by
  replace TC := Lib.hid TC; replace TK := Lib.hid TK; replace TX := Lib.hid TX; replace TY := Lib.hid TY; replace TAt := Lib.hid TAt
  have hN : N ≤ 65536 := by rw [← hNN]; exact Nat.mul_le_mul how2 hoh2
  go_enter Try.func19, Try.ntmps19
  go_upto_region 1 with fail
  have K := Lib.hid (fr_two w #[.int .i64 W, .int .i64 H, .slice A ps.length c] #[.int .i64 0, .int .i64 0, .slice none 0 0] 24 24 _ rfl)
  generalize World.alloc (World.alloc w _) _ = w0 at *
  obtain ⟨⟨i1, i2, i3⟩, -⟩ := K.out.1.1.three
  go_wp2_with fail
  refine (TC.out _ K.out.2).mono ?_
  rintro e w1 ⟨rfl, hb⟩
  replace K := Lib.hid (K.out.below hb)
  clear hb i1 i2 i3
  obtain ⟨⟨i1, i2, i3⟩, -⟩ := K.out.1.1.three
  have t1 : ¬ (ow : Int) < 1 := by omega
  have t2 : ¬ 256 < (ow : Int) := by omega
  have t3 : ¬ (oh : Int) < 1 := by omega
  have t4 : ¬ 256 < (oh : Int) := by omega
  have t6 : (W == 0) = false := by simp; omega
  go_wp2_with fail
  refine (TK.out _).mono ?_
  rintro e w3 ⟨rfl, rfl⟩
  clear i1 i2 i3 t1 t2 t3 t4 t6
  obtain ⟨⟨i1, i2, i3⟩, -⟩ := K.out.1.1.three
  go_wp2_with fail
  refine (nearest_any _ _ _ _).mono ?_
  rintro e w7 ⟨rfl, hb13, hb⟩
  have hlo11 : w.heap.size + 2 ≤ w1.heap.size := by have := K.out.1.2.1.lt; omega
  have H13 := Lib.hid hb13
  replace K := Lib.hid (K.out.below hb)
  generalize w1.heap.size = g13 at *
  clear hb hb13 i1 i2 i3 TC TK
  obtain ⟨M, hmk, hM⟩ := mk_pixels N (by omega)
  have HM := Lib.hid hM; clear hM
  have q1 : IntKind.i64.wrap ((ow : Int) * (oh : Int)) = (N : Int) := by rw [← Int.natCast_mul, hNN]; exact wrap_in _ (by omega)
  go_upto_region 9 with fail
  go_cut [12] (ImgMid (ow : Int) (oh : Int) N w7)
  case first =>
    clear TX TY TAt hNN hN how how2 hoh hoh2 K H13 hW hH
    go_wp2_with fail
    go_meet
    exact imgMid_3 (HM.out _ _ (Nat.le_refl _))
  case rest =>
  obtain ⟨gb, gp, rfl, hbI, hrow, hgb, hne, hBm⟩ := hcut
  have hlo7 := K.out.1.2.1.lt; have hlo13 := H13.out.lt
  replace K := Lib.hid (K.out.below hBm); replace H13 := Lib.hid (H13.out.below hBm)
  clear hmk HM q1
  obtain ⟨⟨i1, i2, i3⟩, -⟩ := hbI.three
  have hlo := hrow.lo
  have HZ := Lib.hid (show w.heap.size + 2 ≤ gp ∧ gb < wc.heap.size ∧ gp < wc.heap.size ∧ g13 < gp from ⟨by omega, hbI.lt, hlo.2, by omega⟩)
  go_upto_region 11 with fail
  clear i1 i2 i3 hlo
  have HL := Lib.hid (show ((List.range N).map f).length = N by simp)
  have HG := Lib.hid (show ∀ n, n < N → pat ((List.range N).map f) n = f n from fun n hn => by simp [pat, hn])
  generalize hLL : (List.range N).map f = L at *
  have HLL := Lib.hid hLL
  clear hLL
  have HBI := Lib.hid hbI; have HNE := Lib.hid hne
  have KC := K; have KH13 := H13
  clear hbI hBm hgb
  go_loopg [58] N (FillRel L gp w7.heap.size N wc)
  case atStart => exact FillRel.start HL.out hrow
  case round =>
    obtain ⟨n, hj, hgh, rfl, hrw, hkb⟩ := hrel
    subst hgh
    rw [HL.out] at hj
    have hsz := hkb.size
    have KR := Lib.hid (KC.out.kb hkb HZ.out.1)
    have HI := Lib.hid (hkb.bx HBI.out HZ.out.2.1 hne)
    have R13 := Lib.hid (hkb.bx KH13.out KH13.out.lt (by have := HZ.out; omega))
    have HRW := Lib.hid hrw; have HKB := Lib.hid hkb
    clear hrw hkb K H13 hrow
    by_cases hlt : n < N
    · have TXn := Lib.hid (TX.out n hlt); have TYn := Lib.hid (TY.out n hlt); have TSn := Lib.hid (TAt.out n hlt)
      have HF := Lib.hid (HG.out n hlt)
      have how' : (0 : Int) < (ow : Int) := by omega
      have tm : (n : Int).tmod (ow : Int) = (n : Int) % (ow : Int) := Int.tmod_eq_emod_of_nonneg (by omega)
      have td : (n : Int).tdiv (ow : Int) = (n : Int) / (ow : Int) := Int.tdiv_eq_ediv_of_nonneg (by omega)
      have em0 := Int.emod_nonneg (n : Int) (b := (ow : Int)) (by omega)
      have em1 := Int.emod_lt_of_pos (n : Int) how'
      have ed0 : 0 ≤ (n : Int) / (ow : Int) := Int.ediv_nonneg (by omega) (by omega)
      have ed1 := Int.ediv_le_self (a := (n : Int)) (ow : Int) (by omega)
      have tz : ((ow : Int) == 0) = false := by simp; omega
      have tz2 : ((ow : Int) = 0) = False := by simp; omega
      have tz3 : (ow = 0) = False := by simp; omega
      have x3 : IntKind.i64.wrap ((n : Int) % (ow : Int)) = (n : Int) % (ow : Int) := wrap_in _ (by omega)
      have x4 : IntKind.i64.wrap ((n : Int) / (ow : Int)) = (n : Int) / (ow : Int) := wrap_in _ (by omega)
      have hk0 : (0 : Int) ≤ (n : Int) := by omega
      have hk1 : (n : Int) < (N : Int) := by omega
      go_upto_region 13 with fail
      obtain ⟨⟨i1, i2, i3⟩, -⟩ := KR.out.1.1.three
      have y1 := wrap_in (2 * (ow : Int)) (by omega); have y2 := wrap_in (2 * (oh : Int)) (by omega)
      have HN := Lib.hid hN
      obtain ⟨rm, hrm⟩ : ∃ rm, (n : Int) % (ow : Int) = rm := ⟨_, rfl⟩
      obtain ⟨rq, hrq⟩ : ∃ rq, (n : Int) / (ow : Int) = rq := ⟨_, rfl⟩
      rw [hrm] at tm em0 em1 x3 TXn
      rw [hrq] at td ed0 ed1 x4 TYn
      have b1 := both_mul (a := 2 * rm + 1) (b := W) (by omega) (by omega); have b2 := both_mul (a := 2 * rq + 1) (b := H) (by omega) (by omega)
      have z1 := wrap_in (2 * rm) (by omega); have z2 := wrap_in (2 * rm + 1) (by omega); have z3 := wrap_in ((2 * rm + 1) * W) (by omega); have z4 := wrap_in ((2 * rm + 1) * W * 65536) (by omega)
      have z5 := wrap_in (2 * rq) (by omega); have z6 := wrap_in (2 * rq + 1) (by omega); have z7 := wrap_in ((2 * rq + 1) * H) (by omega); have z8 := wrap_in ((2 * rq + 1) * H * 65536) (by omega)
      have HSA := Lib.hid (show ∀ wq, Below wr.heap.size wr wq → wq.cell? ⟨w.heap.size, 0, none⟩ = some (.int .i64 W) ∧ wq.cell? ⟨w.heap.size, 1, none⟩ = some (.int .i64 H) from fun wq hb => ⟨(KR.out.below hb).1.1.three.1.1, (KR.out.below hb).1.1.three.1.2.1⟩)
      have hBv : Below wr.heap.size wr wr.drew := (Below.refl _ _).drew
      have hS0 := HSA.out _ hBv
      clear em0 em1 ed0 ed1 how how2 hoh hoh2 hNN hN hW hH hrm hrq b1 b2 i1 i2 i3
      generalize P1 n = p1 at *
      generalize P2 n = p2 at *
      go_region_held3 (fun wq => wq.cell? ⟨w.heap.size, 0, none⟩ = some (.int .i64 W) ∧ wq.cell? ⟨w.heap.size, 1, none⟩ = some (.int .i64 H))
        (first | assumption | exact hS0 | exact HSA.out _ hBv | go_keep)
        (first | ((with_reducible refine (TXn.out _).mono ?_); rintro e wv ⟨rfl, rfl⟩))
      go_upto_region 14 with fail
      have hBv2 := hBv.drew
      have hS1 := HSA.out _ hBv2
      clear hBv hS0
      go_region_held3 (fun wq => wq.cell? ⟨w.heap.size, 0, none⟩ = some (.int .i64 W) ∧ wq.cell? ⟨w.heap.size, 1, none⟩ = some (.int .i64 H))
        (first | assumption | exact hS1 | exact HSA.out _ hBv2 | go_keep)
        (first | ((with_reducible refine (TYn.out _).mono ?_); rintro e wv ⟨rfl, rfl⟩))
      have hbr := hBv2
      clear hBv2 hS1 TXn TYn z1 z2 z3 z4 z5 z6 z7 z8 y1 y2 HSA
      generalize wr.drew.drew = ws at *
      have hwB := bel_trans KR.out.2 hbr
      have hrx := HRW.out.below hbr
      have hkI := HI.out.below hbr
      have hx13 := R13.out.below hbr
      have HKB2 := Lib.hid (HKB.out.below hbr hsz)
      have HHZ := Lib.hid (Nat.le_trans hsz hbr.size)
      clear tm td tz tz2 tz3 x3 x4 KR HI R13 HRW HKB hbr KH13
      have HSA := Lib.hid (show ∀ wq, Below ws.heap.size ws wq → wq.cell? ⟨gb, 2, none⟩ = some (.slice (some ⟨gp, 0, none⟩) N N) ∧ wq.cell? ⟨gp, n * 4, none⟩ = some (cv wq gp (n * 4)) ∧ wq.cell? ⟨gp, n * 4 + 1, none⟩ = some (cv wq gp (n * 4 + 1)) ∧ wq.cell? ⟨gp, n * 4 + 2, none⟩ = some (cv wq gp (n * 4 + 2)) ∧ wq.cell? ⟨gp, n * 4 + 3, none⟩ = some (cv wq gp (n * 4 + 3)) ∧ wq.frozen? ⟨gp, n * 4, none⟩ = false ∧ wq.frozen? ⟨gp, n * 4 + 1, none⟩ = false ∧ wq.frozen? ⟨gp, n * 4 + 2, none⟩ = false ∧ wq.frozen? ⟨gp, n * 4 + 3, none⟩ = false from
        fun wq hq => ⟨(hkI.below hq).three.1.2.2, (rowS_of (hrx.below hq) hlt).1.1, (rowS_of (hrx.below hq) hlt).1.2.1, (rowS_of (hrx.below hq) hlt).1.2.2.1, (rowS_of (hrx.below hq) hlt).1.2.2.2, (rowS_of (hrx.below hq) hlt).2.1, (rowS_of (hrx.below hq) hlt).2.2.1, (rowS_of (hrx.below hq) hlt).2.2.2.1, (rowS_of (hrx.below hq) hlt).2.2.2.2⟩)
      have HSP := Lib.hid (show ∀ wq', Below ws.heap.size ws wq' → ∀ wq, wq = ((((wq'.setCell ⟨gp, n * 4, none⟩ (.int .i64 (f n).r)).setCell ⟨gp, n * 4 + 1, none⟩ (.int .i64 (f n).g)).setCell ⟨gp, n * 4 + 2, none⟩ (.int .i64 (f n).b)).setCell ⟨gp, n * 4 + 3, none⟩ (.int .i64 (f n).a)) → wq.cell? ⟨gb, 2, none⟩ = some (.slice (some ⟨gp, 0, none⟩) N N) ∧ wq.cell? ⟨gp, n * 4, none⟩ = some (cv wq gp (n * 4)) ∧ wq.cell? ⟨gp, n * 4 + 1, none⟩ = some (cv wq gp (n * 4 + 1)) ∧ wq.cell? ⟨gp, n * 4 + 2, none⟩ = some (cv wq gp (n * 4 + 2)) ∧ wq.cell? ⟨gp, n * 4 + 3, none⟩ = some (cv wq gp (n * 4 + 3)) ∧ wq.frozen? ⟨gp, n * 4, none⟩ = false ∧ wq.frozen? ⟨gp, n * 4 + 1, none⟩ = false ∧ wq.frozen? ⟨gp, n * 4 + 2, none⟩ = false ∧ wq.frozen? ⟨gp, n * 4 + 3, none⟩ = false from
        fun wq' hq wq e => by
          subst e
          have hr := rowS_of ((hrx.below hq).put n hlt (f n)) hlt
          have h1 := ((hkI.below hq).other4 hne (n * 4) (n * 4 + 1) (n * 4 + 2) (n * 4 + 3) (.int .i64 (f n).r) (.int .i64 (f n).g) (.int .i64 (f n).b) (.int .i64 (f n).a)).three.1.2.2
          exact ⟨h1, hr.1.1, hr.1.2.1, hr.1.2.2.1, hr.1.2.2.2, hr.2.1, hr.2.2.1, hr.2.2.2.1, hr.2.2.2.2⟩)
      have HRX := Lib.hid (fun wq (hq : Below ws.heap.size ws wq) => hrx.below hq)
      have TSx := Lib.hid (show ∀ wq, Below ws.heap.size ws wq → _ from fun wq hq => TSn.out wq g13 (bel_trans hwB hq) (hx13.below hq))
      have hBv : Below ws.heap.size ws ws.drew := (Below.refl ws.heap.size ws).drew
      have hS0 := HSA.out _ hBv
      clear hkI hrx hx13 hwB TSn TX TY TAt
      go_upto_region 15 with fail
      go_region_held3 (fun wq => wq.cell? ⟨gb, 2, none⟩ = some (.slice (some ⟨gp, 0, none⟩) N N) ∧ wq.cell? ⟨gp, n * 4, none⟩ = some (cv wq gp (n * 4)) ∧ wq.cell? ⟨gp, n * 4 + 1, none⟩ = some (cv wq gp (n * 4 + 1)) ∧ wq.cell? ⟨gp, n * 4 + 2, none⟩ = some (cv wq gp (n * 4 + 2)) ∧ wq.cell? ⟨gp, n * 4 + 3, none⟩ = some (cv wq gp (n * 4 + 3)) ∧ wq.frozen? ⟨gp, n * 4, none⟩ = false ∧ wq.frozen? ⟨gp, n * 4 + 1, none⟩ = false ∧ wq.frozen? ⟨gp, n * 4 + 2, none⟩ = false ∧ wq.frozen? ⟨gp, n * 4 + 3, none⟩ = false)
        (first | assumption | exact hS0 | exact HSA.out _ hBv | exact HSP.out _ hBv _ rfl | go_keep)
        (first | ((with_reducible refine (TSx.out _ hBv).mono ?_); rintro e wv ⟨rfl, hbv⟩; have hBv := bel_trans hBv hbv))
      have hN := HN.out
      go_wp2_with fail
      go_roundg (N - (n + 1))
      case measure => rw [HL.out]; omega
      case rel =>
        refine ⟨n + 1, by rw [HL.out]; omega, by rw [HL.out], by go_num, part_put (by rw [HL.out]; exact hlt) HL.out (HRX.out _ hBv) HF.out, ?_⟩
        exact KB.set4 (HKB2.out.below hBv HHZ.out) _ _ _ _ _ _ _ _
    · obtain rfl : n = N := by omega
      have hall := partD_all Px.zero L
      rw [HL.out] at hall
      have hc8 := KR.out.1.2.1
      obtain ⟨⟨r1, r2, r3⟩, f1, f2, f3⟩ := hc8.three
      obtain ⟨⟨m1, m2, m3⟩, -⟩ := HI.out.three
      have HR := Lib.hid (hall ▸ HRW.out)
      have HK := Lib.hid KR.out.2
      clear hall hc8 HRW HI KR HG TX TY TAt R13
      go_wp2_with fail
      refine bodyPost_ret (v := .tuple #[.agg #[.int .i64 (ow : Int), .int .i64 (oh : Int), .slice (some ⟨gp, 0, none⟩) n n], .int .i64 0]) (by simp [results, Try.results19, go_sem, r1, r2, r3]) rfl ?_
      have e := HLL.out
      subst e
      exact ⟨_, _, _, rfl, HR.out.set3 (by omega) (by omega) _ _ _, set3_below HK.out (by omega) _ _ _⟩
end Go.Proofs.Ytineinmghajmnaa
