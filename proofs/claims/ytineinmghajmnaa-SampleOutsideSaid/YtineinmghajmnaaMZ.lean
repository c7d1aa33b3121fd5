/- sample.Draw. -/
import Derived.Test.YtineinmghajmnaaMG
import Derived.Test.YtineinmghajmnaaMR
import Derived.Test.YtineinmghajmnaaMH
import Derived.Deep.CutBlock
import Derived.Deep.LoopGhost
namespace Go.Proofs.Ytineinmghajmnaa
open Go.RowKit
theorem mk_pixels (n : Nat) (hn : n ≤ 1000000) : ∃ M : Array Value, (∀ w : World, (Instr.makeSlice 22 (.int .i64 (n : Int)) (.int .i64 (n : Int))).run Try.prog w = .ok (.slice (some ⟨w.heap.size, 0, none⟩) n n) (w.alloc (.cells M 27))) ∧
    ∀ (w : World) (B : Nat), B ≤ w.heap.size → PRow (w.alloc (.cells M 27)) B (.slice (some ⟨w.heap.size, 0, none⟩) n n) (List.replicate n Px.zero) := by
  obtain ⟨i0, hi0, hz0, hz1, hz2⟩ := info_parts Try.infoPx
  refine ⟨madeCells (Value.agg #[.int .i64 0, .int .i64 0, .int .i64 0, .int .i64 0]).cells (n * 4), fun w => ?_, fun w B hB => ?_⟩
  · have hb : (i0.bytes : Int) * (n : Int) ≤ 281474976710656 := by rw [hz2]; omega
    have := run_make (P := Try.prog) w 22 27 i0 _ Try.underlying22 hi0 hz0 .i64 .i64 n n (by omega) (Int.le_refl _) hb (by omega)
    rw [hz1] at this
    simpa using this
  · have h := World.ownsRow_lit (e := 27) (size := 4) (base := B) w (madeCells (Value.agg #[.int .i64 0, .int .i64 0, .int .i64 0, .int .i64 0]).cells (n * 4)) n hB (by unfold maxLen; omega) (size_madeCells _ _)
    unfold PRow FRow
    rw [List.length_replicate, flat4_rep, ← toList_made (Value.agg #[.int .i64 0, .int .i64 0, .int .i64 0, .int .i64 0]) 4 n rfl (by omega)]
    exact h
/-- Behind the statement that makes the result. -/
def ImgMid (W H : Int) (n : Nat) (w : World) (v : Value) (wx : World) : Prop := ∃ gb gp, v = .pointer (some ⟨gb, 0, none⟩) ∧ Bx wx gb 24 #[.int .i64 W, .int .i64 H, .slice (some ⟨gp, 0, none⟩) n n] ∧ PRow wx w.heap.size (.slice (some ⟨gp, 0, none⟩) n n) (List.replicate n Px.zero) ∧ w.heap.size ≤ gb ∧ gb ≠ gp ∧ Below w.heap.size w wx
theorem imgMid_1 {W H : Int} {n : Nat} {w : World} {M : Array Value} (hM : PRow (w.alloc (.cells M 27)) w.heap.size (.slice (some ⟨w.heap.size, 0, none⟩) n n) (List.replicate n Px.zero)) :
    ImgMid W H n w (.pointer (some ⟨w.heap.size + 1, 0, none⟩)) (((w.alloc (.cells M 27)).alloc (.cells #[.int .i64 W, .int .i64 H, .slice (some ⟨w.heap.size, 0, none⟩) n n] 24)).drew) := by
  have hb := Bx.new (w.alloc (.cells M 27)) 24 #[.int .i64 W, .int .i64 H, .slice (some ⟨w.heap.size, 0, none⟩) n n]
  rw [World.size_alloc] at hb
  exact ⟨_, _, rfl, hb.drew, (hM.alloc _).drew, by omega, by omega, (bel_alloc (bel1 _ _) _).drew⟩
theorem imgMid_2 {W H : Int} {n : Nat} {w : World} {M : Array Value} (hM : ∀ (w : World) (B : Nat), B ≤ w.heap.size → PRow (w.alloc (.cells M 27)) B (.slice (some ⟨w.heap.size, 0, none⟩) n n) (List.replicate n Px.zero)) :
    ImgMid W H n w (.pointer (some ⟨w.heap.size, 0, none⟩)) (((w.alloc (.cells #[.int .i64 W, .int .i64 H, .slice (some ⟨w.heap.size + 1, 0, none⟩) n n] 24)).alloc (.cells M 27)).drew) := by
  have hb := Bx.new w 24 #[.int .i64 W, .int .i64 H, .slice (some ⟨w.heap.size + 1, 0, none⟩) n n]
  have hr := hM (w.alloc (.cells #[.int .i64 W, .int .i64 H, .slice (some ⟨w.heap.size + 1, 0, none⟩) n n] 24)) w.heap.size (by rw [World.size_alloc]; omega)
  rw [World.size_alloc] at hr
  exact ⟨_, _, rfl, (hb.alloc _).drew, hr.drew, Nat.le_refl _, by omega, (bel_alloc (bel1 _ _) _).drew⟩
theorem cv_of {w : World} {g j : Nat} {v : Value} (h : w.cell? ⟨g, j, none⟩ = some v) : w.cell? ⟨g, j, none⟩ = some (cv w g j) := by rw [cv, h]; rfl
def RowS (g k : Nat) (wq : World) : Prop := (wq.cell? ⟨g, k * 4, none⟩ = some (cv wq g (k * 4)) ∧ wq.cell? ⟨g, k * 4 + 1, none⟩ = some (cv wq g (k * 4 + 1)) ∧ wq.cell? ⟨g, k * 4 + 2, none⟩ = some (cv wq g (k * 4 + 2)) ∧ wq.cell? ⟨g, k * 4 + 3, none⟩ = some (cv wq g (k * 4 + 3))) ∧
  wq.frozen? ⟨g, k * 4, none⟩ = false ∧ wq.frozen? ⟨g, k * 4 + 1, none⟩ = false ∧ wq.frozen? ⟨g, k * 4 + 2, none⟩ = false ∧ wq.frozen? ⟨g, k * 4 + 3, none⟩ = false
theorem rowS_of {w : World} {B g n cap k : Nat} {ps : List Px} (h : PRow w B (.slice (some ⟨g, 0, none⟩) n cap) ps) (hk : k < n) : RowS g k w := by
  obtain ⟨⟨h1, h2, h3, h4⟩, hf⟩ := h.at4 hk
  exact ⟨⟨cv_of h1, cv_of h2, cv_of h3, cv_of h4⟩, hf⟩
theorem Bx.put2 {w : World} {g : Nat} {t : TypeId} {a b : Value} (h : Bx w g t #[a, b]) (a' b' : Value) : Bx ((w.setCell ⟨g, 0, none⟩ a').setCell ⟨g, 1, none⟩ b') g t #[a', b'] := by
  have := (h.set 0 a').set 1 b'
  simpa using this
def PtMid (p1 p2 : Int) (w0 : World) (v : Value) (w' : World) : Prop := ∃ g, v = .pointer (some ⟨g, 0, none⟩) ∧ Bx w' g 49 #[.int .i64 p1, .int .i64 p2] ∧ Below w0.heap.size w0 w'
theorem ptne {w : World} {B g gp n c : Nat} {p1 p2 : Int} {l : List Px} (h : Bx w g 49 #[.int .i64 p1, .int .i64 p2]) (hr : PRow w B (.slice (some ⟨gp, 0, none⟩) n c) l) (e : g = gp) : False := by
  subst e
  rcases hr with ⟨_, ⟨h1, _⟩ | ⟨g', cap, cur, h1, h2, h3, h4⟩⟩
  · cases h1
  · injection h1 with h1 _ _
    injection h1 with h1
    injection h1 with h1
    subst h1
    unfold Bx at h
    rw [h] at h3
    injection h3 with h3
    injection h3 with _ h3 _
    exact absurd h3 (by decide)
set_option maxRecDepth 100000 in
set_option maxHeartbeats 8000000 in
theorem sdraw_no (W H kind E0 IE Er : Int) (A : Option Addr) (c : Nat) (ps : List Px) (a bk : Af) (o : Rk) (V KV EM : Bool) (w : World)
    (tt : ((E0 != 0) = true ∧ Er = E0) ∨ ((E0 != 0) = false ∧ ((V = false ∧ Er = 2) ∨ (V = true ∧ (((256 < o.w ∨ 256 < o.h) ∧ Er = 15) ∨ (¬ (256 < o.w ∨ 256 < o.h) ∧ ((KV = false ∧ Er = 8) ∨ (KV = true ∧ (((IE != 0) = true ∧ Er = IE) ∨ ((IE != 0) = false ∧ EM = true ∧ Er = 0)))))))))) 
    (TC : ∀ w', Below w.heap.size w w' → Calls Try.prog 22 #[.agg #[.int .i64 W, .int .i64 H, .slice A ps.length c]] w' fun e w'' => e = .returned (.int .i64 E0) ∧ Below w'.heap.size w' w'')
    (TV : ∀ w, Calls Try.prog 35 #[.agg #[.int .i64 o.x, .int .i64 o.y, .int .i64 o.w, .int .i64 o.h]] w fun e w' => e = .returned (.bool V) ∧ Below w.heap.size w w')
    (TK : ∀ w, Calls Try.prog 28 #[.int .i64 kind] w fun e w' => e = .returned (.bool KV) ∧ w = w')
    (TI : ∀ w, Calls Try.prog 36 #[.agg #[.int .i64 a.a, .int .i64 a.b, .int .i64 a.c, .int .i64 a.d, .int .i64 a.e, .int .i64 a.f]] w fun e w' => e = .returned (.tuple #[.agg #[.int .i64 bk.a, .int .i64 bk.b, .int .i64 bk.c, .int .i64 bk.d, .int .i64 bk.e, .int .i64 bk.f], .int .i64 IE]) ∧ Below w.heap.size w w')
    (TE : ∀ w, Calls Try.prog 24 #[.agg #[.int .i64 o.x, .int .i64 o.y, .int .i64 o.w, .int .i64 o.h]] w fun e w' => e = .returned (.bool EM) ∧ Below w.heap.size w w') :
    Calls Try.prog 14 #[.agg #[.int .i64 W, .int .i64 H, .slice A ps.length c], .agg #[.int .i64 a.a, .int .i64 a.b, .int .i64 a.c, .int .i64 a.d, .int .i64 a.e, .int .i64 a.f], .int .i64 kind, .agg #[.int .i64 o.x, .int .i64 o.y, .int .i64 o.w, .int .i64 o.h]] w (ImPost Er 0 0 [] w) := by
  replace TC := Lib.hid TC; replace TV := Lib.hid TV; replace TK := Lib.hid TK; replace TI := Lib.hid TI; replace TE := Lib.hid TE; replace tt := Lib.hid tt
  go_enter Try.func14, Try.ntmps14
  go_upto_region 1 with fail
  have K := Lib.hid (fr_four w #[.int .i64 W, .int .i64 H, .slice A ps.length c] #[.int .i64 a.a, .int .i64 a.b, .int .i64 a.c, .int .i64 a.d, .int .i64 a.e, .int .i64 a.f] #[.int .i64 o.x, .int .i64 o.y, .int .i64 o.w, .int .i64 o.h] #[.int .i64 0, .int .i64 0, .slice none 0 0] 24 31 33 24 _ rfl)
  generalize World.alloc (World.alloc (World.alloc (w.alloc _) _) _) _ = w0 at *
  obtain ⟨⟨i1, i2, i3⟩, -⟩ := K.out.1.1.three
  go_wp2_with fail
  refine (TC.out _ K.out.2).mono ?_
  rintro e w1 ⟨rfl, hb⟩
  replace K := Lib.hid (K.out.below hb)
  clear hb i1 i2 i3
  rcases tt.out with ⟨d0, rfl⟩ | ⟨d0, tt1⟩
  · clear tt
    obtain ⟨⟨r1, r2, r3⟩, f1, f2, f3⟩ := K.out.1.2.2.2.1.three
    have HB := Lib.hid K.out.2
    clear K
    go_wp2_with fail
    refine bodyPost_ret (v := .tuple #[.agg #[.int .i64 0, .int .i64 0, .slice none 0 0], .int .i64 Er]) (by simp [results, Try.results14, go_sem, r1, r2, r3]) rfl ?_
    exact ⟨_, _, _, rfl, PRow.nil _ _, set3_below HB.out (by omega) _ _ _⟩
  clear tt
  replace tt1 := Lib.hid tt1
  obtain ⟨⟨j1, j2, j3, j4⟩, -⟩ := K.out.1.2.2.1.four
  go_wp2_with fail
  refine (TV.out _).mono ?_
  rintro e w2 ⟨rfl, hb⟩
  replace K := Lib.hid (K.out.below hb)
  clear hb j1 j2 j3 j4
  rcases tt1.out with ⟨rfl, rfl⟩ | ⟨rfl, tt2⟩
  · clear tt1
    obtain ⟨⟨r1, r2, r3⟩, f1, f2, f3⟩ := K.out.1.2.2.2.1.three
    have HB := Lib.hid K.out.2
    clear K
    go_wp2_with fail
    refine bodyPost_ret (v := .tuple #[.agg #[.int .i64 0, .int .i64 0, .slice none 0 0], .int .i64 2]) (by simp [results, Try.results14, go_sem, r1, r2, r3]) rfl ?_
    exact ⟨_, _, _, rfl, PRow.nil _ _, set3_below HB.out (by omega) _ _ _⟩
  clear tt1
  replace tt2 := Lib.hid tt2
  obtain ⟨⟨j1, j2, j3, j4⟩, -⟩ := K.out.1.2.2.1.four
  rcases tt2.out with ⟨hbig, rfl⟩ | ⟨hbig, tt3⟩
  · clear tt2
    rcases (show 256 < o.w ∨ (¬ 256 < o.w ∧ 256 < o.h) by omega) with t1 | ⟨t1, t2⟩
    all_goals
      clear hbig
      obtain ⟨⟨r1, r2, r3⟩, f1, f2, f3⟩ := K.out.1.2.2.2.1.three
      have HB := Lib.hid K.out.2
      clear K
      go_wp2_with fail
      refine bodyPost_ret (v := .tuple #[.agg #[.int .i64 0, .int .i64 0, .slice none 0 0], .int .i64 15]) (by simp [results, Try.results14, go_sem, r1, r2, r3]) rfl ?_
      exact ⟨_, _, _, rfl, PRow.nil _ _, set3_below HB.out (by omega) _ _ _⟩
  have s1 : ¬ 256 < o.w := by omega
  have s2 : ¬ 256 < o.h := by omega
  clear tt2 hbig
  replace tt3 := Lib.hid tt3
  go_wp2_with fail
  refine (TK.out _).mono ?_
  rintro e w3 ⟨rfl, rfl⟩
  clear j1 j2 j3 j4 s1 s2
  rcases tt3.out with ⟨rfl, rfl⟩ | ⟨rfl, tt4⟩
  · clear tt3
    obtain ⟨⟨r1, r2, r3⟩, f1, f2, f3⟩ := K.out.1.2.2.2.1.three
    have HB := Lib.hid K.out.2
    clear K
    go_wp2_with fail
    refine bodyPost_ret (v := .tuple #[.agg #[.int .i64 0, .int .i64 0, .slice none 0 0], .int .i64 8]) (by simp [results, Try.results14, go_sem, r1, r2, r3]) rfl ?_
    exact ⟨_, _, _, rfl, PRow.nil _ _, set3_below HB.out (by omega) _ _ _⟩
  clear tt3
  replace tt4 := Lib.hid tt4
  obtain ⟨⟨k1, k2, k3, k4, k5, k6⟩, -⟩ := K.out.1.2.1.six
  go_wp2_with fail
  refine (TI.out _).mono ?_
  rintro e w4 ⟨rfl, hb⟩
  replace K := Lib.hid (K.out.below hb)
  clear hb k1 k2 k3 k4 k5 k6
  go_upto_region 11 with fail
  replace K := Lib.hid (K.out.below (bel1 w4 (.cells #[.int .i64 bk.a, .int .i64 bk.b, .int .i64 bk.c, .int .i64 bk.d, .int .i64 bk.e, .int .i64 bk.f] 31)))
  generalize World.alloc w4 _ = w5 at *
  generalize w4.heap.size = g11 at *
  rcases tt4.out with ⟨d1, rfl⟩ | ⟨d1, rfl, rfl⟩
  · clear tt4
    obtain ⟨⟨r1, r2, r3⟩, f1, f2, f3⟩ := K.out.1.2.2.2.1.three
    have HB := Lib.hid K.out.2
    clear K
    go_wp2_with fail
    refine bodyPost_ret (v := .tuple #[.agg #[.int .i64 0, .int .i64 0, .slice none 0 0], .int .i64 Er]) (by simp [results, Try.results14, go_sem, r1, r2, r3]) rfl ?_
    exact ⟨_, _, _, rfl, PRow.nil _ _, set3_below HB.out (by omega) _ _ _⟩
  clear tt4
  obtain ⟨⟨j1, j2, j3, j4⟩, -⟩ := K.out.1.2.2.1.four
  go_wp2_with fail
  refine (TE.out _).mono ?_
  rintro e w6 ⟨rfl, hb⟩
  replace K := Lib.hid (K.out.below hb)
  clear hb j1 j2 j3 j4
  obtain ⟨⟨r1, r2, r3⟩, f1, f2, f3⟩ := K.out.1.2.2.2.1.three
  have HB := Lib.hid K.out.2
  clear K
  go_wp2_with fail
  refine bodyPost_ret (v := .tuple #[.agg #[.int .i64 0, .int .i64 0, .slice none 0 0], .int .i64 0]) (by simp [results, Try.results14, go_sem, r1, r2, r3]) rfl ?_
  exact ⟨_, _, _, rfl, PRow.nil _ _, set3_below HB.out (by omega) _ _ _⟩
set_option maxRecDepth 100000 in
set_option maxHeartbeats 8000000 in
theorem sdraw_ok (W H kind ox oy : Int) (ow oh N : Nat) (A : Option Addr) (c : Nat) (ps : List Px) (a bk : Af) (f : Nat → Px) (X1 X2 P1 P2 : Nat → Int) (w : World)
    (hNN : ow * oh = N) (how : 0 < ow) (how2 : ow ≤ 256) (hoh2 : oh ≤ 256) (hox : -2097152 ≤ ox ∧ ox ≤ 2097152) (hoy : -2097152 ≤ oy ∧ oy ≤ 2097152)
    (TC : ∀ w', Below w.heap.size w w' → Calls Try.prog 22 #[.agg #[.int .i64 W, .int .i64 H, .slice A ps.length c]] w' fun e w'' => e = .returned (.int .i64 0) ∧ Below w'.heap.size w' w'')
    (TV : ∀ w, Calls Try.prog 35 #[.agg #[.int .i64 ox, .int .i64 oy, .int .i64 (ow : Int), .int .i64 (oh : Int)]] w fun e w' => e = .returned (.bool true) ∧ Below w.heap.size w w')
    (TK : ∀ w, Calls Try.prog 28 #[.int .i64 kind] w fun e w' => e = .returned (.bool true) ∧ w = w')
    (TI : ∀ w, Calls Try.prog 36 #[.agg #[.int .i64 a.a, .int .i64 a.b, .int .i64 a.c, .int .i64 a.d, .int .i64 a.e, .int .i64 a.f]] w fun e w' => e = .returned (.tuple #[.agg #[.int .i64 bk.a, .int .i64 bk.b, .int .i64 bk.c, .int .i64 bk.d, .int .i64 bk.e, .int .i64 bk.f], .int .i64 0]) ∧ Below w.heap.size w w')
    (TE : ∀ w, Calls Try.prog 24 #[.agg #[.int .i64 ox, .int .i64 oy, .int .i64 (ow : Int), .int .i64 (oh : Int)]] w fun e w' => e = .returned (.bool false) ∧ Below w.heap.size w w')
    (TCe : ∀ n : Nat, n < N → ∀ w, Calls Try.prog 38 #[.int .i64 (ox + (n : Int) % (ow : Int)), .int .i64 (oy + (n : Int) / (ow : Int))] w fun e w' => e = .returned (.agg #[.int .i64 (X1 n), .int .i64 (X2 n)]) ∧ Below w.heap.size w w')
    (TAp : ∀ n : Nat, n < N → ∀ w, Calls Try.prog 37 #[.agg #[.int .i64 bk.a, .int .i64 bk.b, .int .i64 bk.c, .int .i64 bk.d, .int .i64 bk.e, .int .i64 bk.f], .agg #[.int .i64 (X1 n), .int .i64 (X2 n)]] w fun e w' => e = .returned (.agg #[.int .i64 (P1 n), .int .i64 (P2 n)]) ∧ Below w.heap.size w w')
    (TAt : ∀ n : Nat, n < N → ∀ w' g, Below w.heap.size w w' → Bx w' g 24 #[.int .i64 W, .int .i64 H, .slice A ps.length c] → Calls Try.prog 30 #[.func (.func 61) #[] #[.pointer (some ⟨g, 0, none⟩)], .int .i64 kind, .int .i64 (P1 n), .int .i64 (P2 n)] w' (PxPost (f n) w')) :
    Calls Try.prog 14 #[.agg #[.int .i64 W, .int .i64 H, .slice A ps.length c], .agg #[.int .i64 a.a, .int .i64 a.b, .int .i64 a.c, .int .i64 a.d, .int .i64 a.e, .int .i64 a.f], .int .i64 kind, .agg #[.int .i64 ox, .int .i64 oy, .int .i64 (ow : Int), .int .i64 (oh : Int)]] w (ImPost 0 (ow : Int) (oh : Int) ((List.range N).map f) w) := by
  replace TC := Lib.hid TC; replace TV := Lib.hid TV; replace TK := Lib.hid TK; replace TI := Lib.hid TI; replace TE := Lib.hid TE; replace TCe := Lib.hid TCe; replace TAp := Lib.hid TAp; replace TAt := Lib.hid TAt
  have hN : N ≤ 65536 := by rw [← hNN]; exact Nat.mul_le_mul how2 hoh2
  go_enter Try.func14, Try.ntmps14
  go_upto_region 1 with fail
  have K := Lib.hid (fr_four w #[.int .i64 W, .int .i64 H, .slice A ps.length c] #[.int .i64 a.a, .int .i64 a.b, .int .i64 a.c, .int .i64 a.d, .int .i64 a.e, .int .i64 a.f] #[.int .i64 ox, .int .i64 oy, .int .i64 (ow : Int), .int .i64 (oh : Int)] #[.int .i64 0, .int .i64 0, .slice none 0 0] 24 31 33 24 _ rfl)
  generalize World.alloc (World.alloc (World.alloc (w.alloc _) _) _) _ = w0 at *
  obtain ⟨⟨i1, i2, i3⟩, -⟩ := K.out.1.1.three
  go_wp2_with fail
  refine (TC.out _ K.out.2).mono ?_
  rintro e w1 ⟨rfl, hb⟩
  replace K := Lib.hid (K.out.below hb)
  clear hb i1 i2 i3
  obtain ⟨⟨j1, j2, j3, j4⟩, -⟩ := K.out.1.2.2.1.four
  go_wp2_with fail
  refine (TV.out _).mono ?_
  rintro e w2 ⟨rfl, hb⟩
  replace K := Lib.hid (K.out.below hb)
  clear hb j1 j2 j3 j4
  obtain ⟨⟨j1, j2, j3, j4⟩, -⟩ := K.out.1.2.2.1.four
  have s1 : ¬ 256 < (ow : Int) := by omega
  have s2 : ¬ 256 < (oh : Int) := by omega
  go_wp2_with fail
  refine (TK.out _).mono ?_
  rintro e w3 ⟨rfl, rfl⟩
  clear j1 j2 j3 j4 s1 s2
  obtain ⟨⟨k1, k2, k3, k4, k5, k6⟩, -⟩ := K.out.1.2.1.six
  go_wp2_with fail
  refine (TI.out _).mono ?_
  rintro e w4 ⟨rfl, hb⟩
  replace K := Lib.hid (K.out.below hb)
  clear hb k1 k2 k3 k4 k5 k6
  go_upto_region 11 with fail
  have H11 := Lib.hid (Bx.new w4 31 #[.int .i64 bk.a, .int .i64 bk.b, .int .i64 bk.c, .int .i64 bk.d, .int .i64 bk.e, .int .i64 bk.f])
  have hlo11 : w.heap.size + 4 ≤ w4.heap.size := by have := K.out.1.2.2.2.1.lt; omega
  replace K := Lib.hid (K.out.below (bel1 w4 (.cells #[.int .i64 bk.a, .int .i64 bk.b, .int .i64 bk.c, .int .i64 bk.d, .int .i64 bk.e, .int .i64 bk.f] 31)))
  generalize World.alloc w4 _ = w5 at *
  generalize w4.heap.size = g11 at *
  obtain ⟨⟨j1, j2, j3, j4⟩, -⟩ := K.out.1.2.2.1.four
  go_wp2_with fail
  refine (TE.out _).mono ?_
  rintro e w6 ⟨rfl, hb⟩
  replace K := Lib.hid (K.out.below hb); replace H11 := Lib.hid (H11.out.below hb)
  clear hb j1 j2 j3 j4
  obtain ⟨⟨i1, i2, i3⟩, -⟩ := K.out.1.1.three
  go_wp2_with fail
  refine (inside_any _ _ _ _).mono ?_
  rintro e w7 ⟨rfl, hb13, hb⟩
  have H13 := Lib.hid hb13
  replace K := Lib.hid (K.out.below hb); replace H11 := Lib.hid (H11.out.below hb)
  generalize w6.heap.size = g13 at *
  clear hb hb13 i1 i2 i3 TC TV TK TI TE
  obtain ⟨M, hmk, hM⟩ := mk_pixels N (by omega)
  have HM := Lib.hid hM; clear hM
  obtain ⟨⟨o1, o2, o3, o4⟩, -⟩ := K.out.1.2.2.1.four
  have q1 : IntKind.i64.wrap ((ow : Int) * (oh : Int)) = (N : Int) := by rw [← Int.natCast_mul, hNN]; exact wrap_in _ (by omega)
  go_upto_region 16 with fail
  go_cut [14] (ImgMid (ow : Int) (oh : Int) N w7)
  case first =>
    have hlo := K.out.1.2.2.1.lt
    have ja : w7.heap.size ≠ w.heap.size + 1 + 1 := by omega
    have ja' : w7.heap.size + 1 ≠ w.heap.size + 1 + 1 := by omega
    clear TCe TAp TAt hNN hN how how2 hox hoy hoh2
    go_region_held3 (fun wq => wq.cell? ⟨w.heap.size + 1 + 1, 0, none⟩ = some (.int .i64 ox) ∧ wq.cell? ⟨w.heap.size + 1 + 1, 1, none⟩ = some (.int .i64 oy) ∧ wq.cell? ⟨w.heap.size + 1 + 1, 2, none⟩ = some (.int .i64 (ow : Int)) ∧ wq.cell? ⟨w.heap.size + 1 + 1, 3, none⟩ = some (.int .i64 (oh : Int)))
      (go_keep) (fail)
    all_goals (try go_wp2_with fail)
    all_goals go_meet
    all_goals first
      | ((with_reducible refine imgMid_1 ?_); exact HM.out _ _ (Nat.le_refl _))
      | ((with_reducible refine imgMid_2 ?_); exact HM.out)
  case rest =>
  obtain ⟨gb, gp, rfl, hbI, hrow, hgb, hne, hBm⟩ := hcut
  have hlo7 := K.out.1.2.2.2.1.lt; have hlo13 := H13.out.lt; have hl11 := H11.out.lt
  replace K := Lib.hid (K.out.below hBm); replace H11 := Lib.hid (H11.out.below hBm); replace H13 := Lib.hid (H13.out.below hBm)
  clear o1 o2 o3 o4 hmk HM q1
  obtain ⟨⟨i1, i2, i3⟩, -⟩ := hbI.three
  have hlo := hrow.lo
  have HZ := Lib.hid (show w.heap.size + 4 ≤ gp ∧ gb < wc.heap.size ∧ gp < wc.heap.size ∧ g11 < gp ∧ g13 < gp from ⟨by omega, hbI.lt, hlo.2, by omega, by omega⟩)
  go_upto_region 18 with fail
  clear i1 i2 i3 hlo
  have HL := Lib.hid (show ((List.range N).map f).length = N by simp)
  have HG := Lib.hid (show ∀ n, n < N → pat ((List.range N).map f) n = f n from fun n hn => by simp [pat, hn])
  generalize hLL : (List.range N).map f = L at *
  have HLL := Lib.hid hLL
  clear hLL
  have HBI := Lib.hid hbI; have HNE := Lib.hid hne
  have KC := K; have KH11 := H11; have KH13 := H13
  clear hbI hBm hgb
  go_loopg [68] N (FillRel L gp w7.heap.size N wc)
  case atStart => exact FillRel.start HL.out hrow
  case round =>
    obtain ⟨n, hj, hgh, rfl, hrw, hkb⟩ := hrel
    subst hgh
    rw [HL.out] at hj
    have hsz := hkb.size
    have KR := Lib.hid (KC.out.kb hkb HZ.out.1)
    have HI := Lib.hid (hkb.bx HBI.out HZ.out.2.1 hne)
    have R11 := Lib.hid (hkb.bx KH11.out KH11.out.lt (by have := HZ.out; omega))
    have R13 := Lib.hid (hkb.bx KH13.out KH13.out.lt (by have := HZ.out; omega))
    have HRW := Lib.hid hrw; have HKB := Lib.hid hkb
    clear hrw hkb K H11 H13 hrow
    by_cases hlt : n < N
    · have TCn := Lib.hid (TCe.out n hlt); have TPn := Lib.hid (TAp.out n hlt); have TSn := Lib.hid (TAt.out n hlt)
      have HF := Lib.hid (HG.out n hlt)
      have how' : (0 : Int) < (ow : Int) := by omega
      have tm : (n : Int).tmod (ow : Int) = (n : Int) % (ow : Int) := Int.tmod_eq_emod_of_nonneg (by omega)
      have td : (n : Int).tdiv (ow : Int) = (n : Int) / (ow : Int) := Int.tdiv_eq_ediv_of_nonneg (by omega)
      have em0 := Int.emod_nonneg (n : Int) (b := (ow : Int)) (by omega)
      have em1 := Int.emod_lt_of_pos (n : Int) how'
      have ed0 : 0 ≤ (n : Int) / (ow : Int) := Int.ediv_nonneg (by omega) (by omega)
      have ed1 := Int.ediv_le_self (a := (n : Int)) (ow : Int) (by omega)
      have tz : ((ow : Int) == 0) = false := by simp; omega
      have x1 : IntKind.i64.wrap (ox + (n : Int) % (ow : Int)) = ox + (n : Int) % (ow : Int) := wrap_in _ (by omega)
      have x2 : IntKind.i64.wrap (oy + (n : Int) / (ow : Int)) = oy + (n : Int) / (ow : Int) := wrap_in _ (by omega)
      have x3 : IntKind.i64.wrap ((n : Int) % (ow : Int)) = (n : Int) % (ow : Int) := wrap_in _ (by omega)
      have x4 : IntKind.i64.wrap ((n : Int) / (ow : Int)) = (n : Int) / (ow : Int) := wrap_in _ (by omega)
      have hk0 : (0 : Int) ≤ (n : Int) := by omega
      have hk1 : (n : Int) < (N : Int) := by omega
      go_upto_region 20 with fail
      have HN := Lib.hid hN
      clear em0 em1 ed0 ed1 how how2 hoh2 hox hoy hNN hN
      go_cut [16] (PtMid (P1 n) (P2 n) wr)
      case first =>
        have hoB := KR.out.1.2.2.1
        have HSA := Lib.hid (show ∀ wq, Below wr.heap.size wr wq → (wq.cell? ⟨g11, 0, none⟩ = some (.int .i64 bk.a) ∧ wq.cell? ⟨g11, 1, none⟩ = some (.int .i64 bk.b) ∧ wq.cell? ⟨g11, 2, none⟩ = some (.int .i64 bk.c) ∧ wq.cell? ⟨g11, 3, none⟩ = some (.int .i64 bk.d) ∧ wq.cell? ⟨g11, 4, none⟩ = some (.int .i64 bk.e) ∧ wq.cell? ⟨g11, 5, none⟩ = some (.int .i64 bk.f)) ∧ (wq.cell? ⟨w.heap.size + 1 + 1, 0, none⟩ = some (.int .i64 ox) ∧ wq.cell? ⟨w.heap.size + 1 + 1, 1, none⟩ = some (.int .i64 oy) ∧ wq.cell? ⟨w.heap.size + 1 + 1, 2, none⟩ = some (.int .i64 (ow : Int)) ∧ wq.cell? ⟨w.heap.size + 1 + 1, 3, none⟩ = some (.int .i64 (oh : Int))) from fun wq hb => ⟨(R11.out.below hb).six.1, (hoB.below hb).four.1⟩)
        have hBv : Below wr.heap.size wr wr.drew := (Below.refl _ _).drew
        have hS0 := HSA.out _ hBv
        clear hoB KR HI R11 R13 HRW HKB HL HG HF HLL HBI HNE KC KH11 KH13 TCe TAp TAt TSn hsz hne HN
        have tz2 : ((ow : Int) = 0) = False := by simp; omega
        generalize (ow : Int) = OI at *
        generalize (n : Int) = nI at *
        trace_state
        go_region_held3 (fun wq => (wq.cell? ⟨g11, 0, none⟩ = some (.int .i64 bk.a) ∧ wq.cell? ⟨g11, 1, none⟩ = some (.int .i64 bk.b) ∧ wq.cell? ⟨g11, 2, none⟩ = some (.int .i64 bk.c) ∧ wq.cell? ⟨g11, 3, none⟩ = some (.int .i64 bk.d) ∧ wq.cell? ⟨g11, 4, none⟩ = some (.int .i64 bk.e) ∧ wq.cell? ⟨g11, 5, none⟩ = some (.int .i64 bk.f)) ∧ (wq.cell? ⟨w.heap.size + 1 + 1, 0, none⟩ = some (.int .i64 ox) ∧ wq.cell? ⟨w.heap.size + 1 + 1, 1, none⟩ = some (.int .i64 oy) ∧ wq.cell? ⟨w.heap.size + 1 + 1, 2, none⟩ = some (.int .i64 OI) ∧ wq.cell? ⟨w.heap.size + 1 + 1, 3, none⟩ = some (.int .i64 (oh : Int))))
          (first | assumption | exact hS0 | exact HSA.out _ hBv | exact HSA.out _ (bel_alloc hBv _) | exact HSA.out _ (Below.drew (bel1 _ _)) | exact HSA.out _ ((hBv.setCell (p := ⟨_, 0, none⟩) hgN _).setCell (p := ⟨_, 1, none⟩) hgN _) | go_keep)
          (first
            | ((with_reducible refine (TCn.out _).mono ?_); rintro e wv ⟨rfl, hbv⟩; (first | (have hgN := Nat.le_refl wr.heap.size; have hN := Bx.below (Bx.drew (Bx.new wr 49 #[.int .i64 0, .int .i64 0])) hbv; have hBv := bel_trans (Below.drew (bel1 _ _)) hbv; obtain ⟨⟨z1, z2⟩, y1, y2⟩ := hN.two) | (have hBv := bel_trans hBv hbv)))
            | ((with_reducible refine (TPn.out _).mono ?_); rintro e wv ⟨rfl, hbv⟩; (first | (have hN := hN.below hbv; have hBv := bel_trans hBv hbv; clear z1 z2 y1 y2; obtain ⟨⟨z1, z2⟩, y1, y2⟩ := hN.two) | (have hBv2 := bel_trans hBv hbv; have hBv := hBv2) | (have hgN := hBv.size; have hN := Bx.below (Bx.new _ 49 #[.int .i64 0, .int .i64 0]) hbv; have hBv := bel_trans (bel_alloc hBv _) hbv; obtain ⟨⟨z1, z2⟩, y1, y2⟩ := hN.two))))
        all_goals (try go_wp2_with fail)
        all_goals go_meet
        all_goals first
          | exact ⟨_, rfl, Bx.new _ 49 #[.int .i64 (P1 n), .int .i64 (P2 n)], bel_alloc hBv _⟩
          | exact ⟨_, rfl, hN.put2 _ _, (hBv.setCell (p := ⟨_, 0, none⟩) hgN _).setCell (p := ⟨_, 1, none⟩) hgN _⟩
      case rest =>
      obtain ⟨g16, rfl, hb16, hbr⟩ := hcut
      have hwB := bel_trans KR.out.2 hbr
      have hrx := HRW.out.below hbr
      have hkI := HI.out.below hbr
      have hx13 := R13.out.below hbr
      have hn16 : g16 ≠ gp := fun e => ptne hb16 hrx e
      have HKB2 := Lib.hid (HKB.out.below hbr hsz)
      have HHZ := Lib.hid (Nat.le_trans hsz hbr.size)
      clear tm td tz x1 x2 x3 x4 KR HI R11 R13 HRW HKB hbr KH11 KH13
      have HSA := Lib.hid (show ∀ wq, Below wc.heap.size wc wq → wq.cell? ⟨gb, 2, none⟩ = some (.slice (some ⟨gp, 0, none⟩) N N) ∧ wq.cell? ⟨gp, n * 4, none⟩ = some (cv wq gp (n * 4)) ∧ wq.cell? ⟨gp, n * 4 + 1, none⟩ = some (cv wq gp (n * 4 + 1)) ∧ wq.cell? ⟨gp, n * 4 + 2, none⟩ = some (cv wq gp (n * 4 + 2)) ∧ wq.cell? ⟨gp, n * 4 + 3, none⟩ = some (cv wq gp (n * 4 + 3)) ∧ wq.frozen? ⟨gp, n * 4, none⟩ = false ∧ wq.frozen? ⟨gp, n * 4 + 1, none⟩ = false ∧ wq.frozen? ⟨gp, n * 4 + 2, none⟩ = false ∧ wq.frozen? ⟨gp, n * 4 + 3, none⟩ = false ∧ wq.cell? ⟨g16, 0, none⟩ = some (.int .i64 (P1 n)) ∧ wq.cell? ⟨g16, 1, none⟩ = some (.int .i64 (P2 n)) from
        fun wq hq => ⟨(hkI.below hq).three.1.2.2, (rowS_of (hrx.below hq) hlt).1.1, (rowS_of (hrx.below hq) hlt).1.2.1, (rowS_of (hrx.below hq) hlt).1.2.2.1, (rowS_of (hrx.below hq) hlt).1.2.2.2, (rowS_of (hrx.below hq) hlt).2.1, (rowS_of (hrx.below hq) hlt).2.2.1, (rowS_of (hrx.below hq) hlt).2.2.2.1, (rowS_of (hrx.below hq) hlt).2.2.2.2, (hb16.below hq).two.1⟩)
      have HSP := Lib.hid (show ∀ wq', Below wc.heap.size wc wq' → ∀ wq, wq = ((((wq'.setCell ⟨gp, n * 4, none⟩ (.int .i64 (f n).r)).setCell ⟨gp, n * 4 + 1, none⟩ (.int .i64 (f n).g)).setCell ⟨gp, n * 4 + 2, none⟩ (.int .i64 (f n).b)).setCell ⟨gp, n * 4 + 3, none⟩ (.int .i64 (f n).a)) → wq.cell? ⟨gb, 2, none⟩ = some (.slice (some ⟨gp, 0, none⟩) N N) ∧ wq.cell? ⟨gp, n * 4, none⟩ = some (cv wq gp (n * 4)) ∧ wq.cell? ⟨gp, n * 4 + 1, none⟩ = some (cv wq gp (n * 4 + 1)) ∧ wq.cell? ⟨gp, n * 4 + 2, none⟩ = some (cv wq gp (n * 4 + 2)) ∧ wq.cell? ⟨gp, n * 4 + 3, none⟩ = some (cv wq gp (n * 4 + 3)) ∧ wq.frozen? ⟨gp, n * 4, none⟩ = false ∧ wq.frozen? ⟨gp, n * 4 + 1, none⟩ = false ∧ wq.frozen? ⟨gp, n * 4 + 2, none⟩ = false ∧ wq.frozen? ⟨gp, n * 4 + 3, none⟩ = false ∧ wq.cell? ⟨g16, 0, none⟩ = some (.int .i64 (P1 n)) ∧ wq.cell? ⟨g16, 1, none⟩ = some (.int .i64 (P2 n)) from
        fun wq' hq wq e => by
          subst e
          have hr := rowS_of ((hrx.below hq).put n hlt (f n)) hlt
          have h1 := ((hkI.below hq).other4 hne (n * 4) (n * 4 + 1) (n * 4 + 2) (n * 4 + 3) (.int .i64 (f n).r) (.int .i64 (f n).g) (.int .i64 (f n).b) (.int .i64 (f n).a)).three.1.2.2
          have h2 := ((hb16.below hq).other4 hn16 (n * 4) (n * 4 + 1) (n * 4 + 2) (n * 4 + 3) (.int .i64 (f n).r) (.int .i64 (f n).g) (.int .i64 (f n).b) (.int .i64 (f n).a)).two.1
          exact ⟨h1, hr.1.1, hr.1.2.1, hr.1.2.2.1, hr.1.2.2.2, hr.2.1, hr.2.2.1, hr.2.2.2.1, hr.2.2.2.2, h2⟩)
      have HRX := Lib.hid (fun wq (hq : Below wc.heap.size wc wq) => hrx.below hq)
      have TSx := Lib.hid (show ∀ wq, Below wc.heap.size wc wq → _ from fun wq hq => TSn.out wq g13 (bel_trans hwB hq) (hx13.below hq))
      have hBv : Below wc.heap.size wc wc.drew := (Below.refl wc.heap.size wc).drew
      have hS0 := HSA.out _ hBv
      clear hkI hrx hx13 hb16 hwB TSn TCe TAp TAt
      go_upto_region 21 with fail
      go_region_held3 (fun wq => wq.cell? ⟨gb, 2, none⟩ = some (.slice (some ⟨gp, 0, none⟩) N N) ∧ wq.cell? ⟨gp, n * 4, none⟩ = some (cv wq gp (n * 4)) ∧ wq.cell? ⟨gp, n * 4 + 1, none⟩ = some (cv wq gp (n * 4 + 1)) ∧ wq.cell? ⟨gp, n * 4 + 2, none⟩ = some (cv wq gp (n * 4 + 2)) ∧ wq.cell? ⟨gp, n * 4 + 3, none⟩ = some (cv wq gp (n * 4 + 3)) ∧ wq.frozen? ⟨gp, n * 4, none⟩ = false ∧ wq.frozen? ⟨gp, n * 4 + 1, none⟩ = false ∧ wq.frozen? ⟨gp, n * 4 + 2, none⟩ = false ∧ wq.frozen? ⟨gp, n * 4 + 3, none⟩ = false ∧ wq.cell? ⟨g16, 0, none⟩ = some (.int .i64 (P1 n)) ∧ wq.cell? ⟨g16, 1, none⟩ = some (.int .i64 (P2 n)))
        (first | assumption | exact hS0 | exact HSA.out _ hBv | exact HSP.out _ hBv _ rfl | go_keep)
        (first | ((with_reducible refine (TSx.out _ hBv).mono ?_); rintro e wv ⟨rfl, hbv⟩; have hBv := bel_trans hBv hbv))
      have hN := HN.out
      go_wp2_with fail
      go_roundg (N - (n + 1))
      case measure => rw [HL.out]; omega
      case rel =>
        refine ⟨n + 1, by rw [HL.out]; omega, by rw [HL.out], by go_num, part_put (by rw [HL.out]; exact hlt) HL.out (HRX.out _ hBv) HF.out, ?_⟩
        exact KB.set4 (HKB2.out.below hBv HHZ.out) _ _ _ _ _ _ _ _
    · obtain rfl : n = N := by omega
      have hall := partD_all Px.zero L
      rw [HL.out] at hall
      have hc8 := KR.out.1.2.2.2.1
      obtain ⟨⟨r1, r2, r3⟩, f1, f2, f3⟩ := hc8.three
      obtain ⟨⟨m1, m2, m3⟩, -⟩ := HI.out.three
      have HR := Lib.hid (hall ▸ HRW.out)
      have HK := Lib.hid KR.out.2
      clear hall hc8 HRW HI KR HG TCe TAp TAt R11 R13
      go_wp2_with fail
      refine bodyPost_ret (v := .tuple #[.agg #[.int .i64 (ow : Int), .int .i64 (oh : Int), .slice (some ⟨gp, 0, none⟩) n n], .int .i64 0]) (by simp [results, Try.results14, go_sem, r1, r2, r3]) rfl ?_
      have e := HLL.out
      subst e
      exact ⟨_, _, _, rfl, HR.out.set3 (by omega) (by omega) _ _ _, set3_below HK.out (by omega) _ _ _⟩
end Go.Proofs.Ytineinmghajmnaa
