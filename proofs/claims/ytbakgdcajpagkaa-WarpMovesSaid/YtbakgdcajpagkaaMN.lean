/- warp.Draw. -/
import Derived.Test.YtbakgdcajpagkaaMK
import Derived.Test.YtbakgdcajpagkaaML
import Derived.Test.YtbakgdcajpagkaaMM
import Derived.Test.YtbakgdcajpagkaaMB
import Derived.Deep.CutBlock
import Derived.Deep.LoopGhost
namespace Go.Proofs.Ytbakgdcajpagkaa
open Go.RowKit
theorem mk_pixels (n : Nat) (hn : n ≤ 1000000) : ∃ M : Array Value, (∀ w : World, (Instr.makeSlice 38 (.int .i64 (n : Int)) (.int .i64 (n : Int))).run Try.prog w = .ok (.slice (some ⟨w.heap.size, 0, none⟩) n n) (w.alloc (.cells M 48))) ∧
    ∀ (w : World) (B : Nat), B ≤ w.heap.size → PRow (w.alloc (.cells M 48)) B (.slice (some ⟨w.heap.size, 0, none⟩) n n) (List.replicate n Px.zero) := by
  obtain ⟨i0, hi0, hz0, hz1, hz2⟩ := info_parts Try.infoPx
  refine ⟨madeCells (Value.agg #[.int .i64 0, .int .i64 0, .int .i64 0, .int .i64 0]).cells (n * 4), fun w => ?_, fun w B hB => ?_⟩
  · have hb : (i0.bytes : Int) * (n : Int) ≤ 281474976710656 := by rw [hz2]; omega
    have := run_make (P := Try.prog) w 38 48 i0 _ Try.underlying38 hi0 hz0 .i64 .i64 n n (by omega) (Int.le_refl _) hb (by omega)
    rw [hz1] at this
    simpa using this
  · have h := World.ownsRow_lit (e := 48) (size := 4) (base := B) w (madeCells (Value.agg #[.int .i64 0, .int .i64 0, .int .i64 0, .int .i64 0]).cells (n * 4)) n hB (by unfold maxLen; omega) (size_madeCells _ _)
    unfold PRow FRow
    rw [List.length_replicate, flat4_rep, ← toList_made (Value.agg #[.int .i64 0, .int .i64 0, .int .i64 0, .int .i64 0]) 4 n rfl (by omega)]
    exact h
/-- Behind the statement that makes the result. -/
def ImgMid (W H : Int) (n : Nat) (w : World) (v : Value) (wx : World) : Prop := ∃ gb gp, v = .pointer (some ⟨gb, 0, none⟩) ∧ Bx wx gb 40 #[.int .i64 W, .int .i64 H, .slice (some ⟨gp, 0, none⟩) n n] ∧ PRow wx w.heap.size (.slice (some ⟨gp, 0, none⟩) n n) (List.replicate n Px.zero) ∧ w.heap.size ≤ gb ∧ gb ≠ gp ∧ Below w.heap.size w wx
theorem imgMid_1 {W H : Int} {n : Nat} {w : World} {M : Array Value} (hM : PRow (w.alloc (.cells M 48)) w.heap.size (.slice (some ⟨w.heap.size, 0, none⟩) n n) (List.replicate n Px.zero)) :
    ImgMid W H n w (.pointer (some ⟨w.heap.size + 1, 0, none⟩)) (((w.alloc (.cells M 48)).alloc (.cells #[.int .i64 W, .int .i64 H, .slice (some ⟨w.heap.size, 0, none⟩) n n] 40)).drew) := by
  have hb := Bx.new (w.alloc (.cells M 48)) 40 #[.int .i64 W, .int .i64 H, .slice (some ⟨w.heap.size, 0, none⟩) n n]
  rw [World.size_alloc] at hb
  exact ⟨_, _, rfl, hb.drew, (hM.alloc _).drew, by omega, by omega, (bel_alloc (bel1 _ _) _).drew⟩
theorem imgMid_2 {W H : Int} {n : Nat} {w : World} {M : Array Value} (hM : ∀ (w : World) (B : Nat), B ≤ w.heap.size → PRow (w.alloc (.cells M 48)) B (.slice (some ⟨w.heap.size, 0, none⟩) n n) (List.replicate n Px.zero)) :
    ImgMid W H n w (.pointer (some ⟨w.heap.size, 0, none⟩)) (((w.alloc (.cells #[.int .i64 W, .int .i64 H, .slice (some ⟨w.heap.size + 1, 0, none⟩) n n] 40)).alloc (.cells M 48)).drew) := by
  have hb := Bx.new w 40 #[.int .i64 W, .int .i64 H, .slice (some ⟨w.heap.size + 1, 0, none⟩) n n]
  have hr := hM (w.alloc (.cells #[.int .i64 W, .int .i64 H, .slice (some ⟨w.heap.size + 1, 0, none⟩) n n] 40)) w.heap.size (by rw [World.size_alloc]; omega)
  rw [World.size_alloc] at hr
  exact ⟨_, _, rfl, (hb.alloc _).drew, hr.drew, Nat.le_refl _, by omega, (bel_alloc (bel1 _ _) _).drew⟩
theorem cv_of {w : World} {g j : Nat} {v : Value} (h : w.cell? ⟨g, j, none⟩ = some v) : w.cell? ⟨g, j, none⟩ = some (cv w g j) := by rw [cv, h]; rfl
def RowS (g k : Nat) (wq : World) : Prop := (wq.cell? ⟨g, k * 4, none⟩ = some (cv wq g (k * 4)) ∧ wq.cell? ⟨g, k * 4 + 1, none⟩ = some (cv wq g (k * 4 + 1)) ∧ wq.cell? ⟨g, k * 4 + 2, none⟩ = some (cv wq g (k * 4 + 2)) ∧ wq.cell? ⟨g, k * 4 + 3, none⟩ = some (cv wq g (k * 4 + 3))) ∧
  wq.frozen? ⟨g, k * 4, none⟩ = false ∧ wq.frozen? ⟨g, k * 4 + 1, none⟩ = false ∧ wq.frozen? ⟨g, k * 4 + 2, none⟩ = false ∧ wq.frozen? ⟨g, k * 4 + 3, none⟩ = false
theorem rowS_of {w : World} {B g n cap k : Nat} {ps : List Px} (h : PRow w B (.slice (some ⟨g, 0, none⟩) n cap) ps) (hk : k < n) : RowS g k w := by
  obtain ⟨⟨h1, h2, h3, h4⟩, hf⟩ := h.at4 hk
  exact ⟨⟨cv_of h1, cv_of h2, cv_of h3, cv_of h4⟩, hf⟩
theorem fr_six (w : World) (a b c d e f : Array Value) (ta tb tc td te tf : TypeId) (w0 : World) (hw : w0 = (((((w.alloc (.cells a ta)).alloc (.cells b tb)).alloc (.cells c tc)).alloc (.cells d td)).alloc (.cells e te)).alloc (.cells f tf)) : Fr w [(ta, a), (tb, b), (tc, c), (td, d), (te, e), (tf, f)] w0 := by
  obtain ⟨⟨k1, k2, k3, k4, -⟩, hB⟩ := fr_four w a b c d ta tb tc td _ rfl
  subst hw
  have n5 := Bx.new ((((w.alloc (.cells a ta)).alloc (.cells b tb)).alloc (.cells c tc)).alloc (.cells d td)) te e
  have n6 := Bx.new (((((w.alloc (.cells a ta)).alloc (.cells b tb)).alloc (.cells c tc)).alloc (.cells d td)).alloc (.cells e te)) tf f
  simp only [World.size_alloc] at n5 n6
  exact ⟨⟨(k1.alloc _).alloc _, (k2.alloc _).alloc _, (k3.alloc _).alloc _, (k4.alloc _).alloc _, n5.alloc _, n6, trivial⟩, bel_alloc (bel_alloc hB _) _⟩
theorem Bxs.kb {w w' : World} {g : Nat} (hk : KB w.heap.size g w w') : ∀ {l : List (TypeId × Array Value)} {b : Nat}, b + l.length ≤ g → Bxs w b l → Bxs w' b l
  | [], _, _, _ => trivial
  | (_, _) :: l, b, hg, h => ⟨hk.bx h.1 h.1.lt (by simp only [List.length_cons] at hg; omega), Bxs.kb hk (by simp only [List.length_cons] at hg; omega) h.2⟩
theorem Fr.kb {w0 w w' : World} {g : Nat} {l : List (TypeId × Array Value)} (h : Fr w0 l w) (hk : KB w.heap.size g w w') (hg : w0.heap.size + l.length ≤ g) : Fr w0 l w' :=
  ⟨Bxs.kb hk hg h.1, hk.toBelow h.2 (by omega) h.2.size⟩
/-- The sums of a list of weighted pixels lie in a box. -/
def SumAt (w : World) (g : Nat) (l : List (Int × Px)) : Prop := Tt w g (bsA l) (bsR l) (bsG l) (bsB l)
def OuR (px : Int → Int → Px) (fx fy : Int) (us vs : List Int) (g : Nat) (w0 : World) (gh : Nat) (i : Value) (wr : World) : Prop :=
  ∃ k : Nat, k ≤ vs.length ∧ gh = vs.length - k ∧ i = .int .i64 k ∧ SumAt wr g (wpre px fx fy us vs k 0) ∧ KB w0.heap.size g w0 wr
def InR (px : Int → Int → Px) (fx fy : Int) (us vs : List Int) (g : Nat) (w0 : World) (k : Nat) (gh : Nat) (i : Value) (wr : World) : Prop :=
  ∃ j : Nat, j ≤ us.length ∧ gh = us.length - j ∧ i = .int .i64 j ∧ SumAt wr g (wpre px fx fy us vs k j) ∧ KB w0.heap.size g w0 wr
def SumMid (px : Int → Int → Px) (fx fy : Int) (us vs : List Int) (g : Nat) (w0 wr : World) : Prop := SumAt wr g (wpre px fx fy us vs vs.length 0) ∧ KB w0.heap.size g w0 wr
theorem getD_get {l : List Int} {j : Nat} (h : j < l.length) : l[j]? = some (l.getD j 0) := by rw [List.getD_eq_getElem?_getD, List.getElem?_eq_getElem h]; rfl
set_option maxRecDepth 100000 in
set_option maxHeartbeats 8000000 in
theorem wdraw_e1 (W H ax ay bx by' bw bh C R S kind ox oy ow oh : Int) (sl : Value) (A : Option Addr) (c : Nat) (ps : List Px) (E : Int) (w : World)
    (hE : (E != 0) = true)
    (TC : ∀ w', Below w.heap.size w w' → Calls Try.prog 22 #[.agg #[.int .i64 W, .int .i64 H, .slice A ps.length c]] w' fun e w'' => e = .returned (.int .i64 E) ∧ Below w'.heap.size w' w'') :
    Calls Try.prog 19 #[.agg #[.int .i64 W, .int .i64 H, .slice A ps.length c], .agg #[.int .i64 ax, .int .i64 ay], .agg #[.int .i64 bx, .int .i64 by', .int .i64 bw, .int .i64 bh], .agg #[.int .i64 C, .int .i64 R, .int .i64 S, sl], .int .i64 kind, .agg #[.int .i64 ox, .int .i64 oy, .int .i64 (ow : Int), .int .i64 (oh : Int)]] w (ImPost E 0 0 [] w) := by
  replace TC := Lib.hid TC
  go_enter Try.func19, Try.ntmps19
  go_upto_region 1 with fail
  have K := Lib.hid (fr_six w #[.int .i64 W, .int .i64 H, .slice A ps.length c] #[.int .i64 ax, .int .i64 ay] #[.int .i64 bx, .int .i64 by', .int .i64 bw, .int .i64 bh] #[.int .i64 C, .int .i64 R, .int .i64 S, sl] #[.int .i64 ox, .int .i64 oy, .int .i64 (ow : Int), .int .i64 (oh : Int)] #[.int .i64 0, .int .i64 0, .slice none 0 0] 40 28 34 24 34 40 _ rfl)
  generalize World.alloc (World.alloc (World.alloc (World.alloc (World.alloc (w.alloc _) _) _) _) _) _ = w0 at *
  obtain ⟨⟨i1, i2, i3⟩, -⟩ := K.out.1.1.three
  go_wp2_with fail
  refine (TC.out _ K.out.2).mono ?_
  rintro e w1 ⟨rfl, hb⟩
  replace K := Lib.hid (K.out.below hb)
  clear hb i1 i2 i3
  have HB := Lib.hid K.out.2
  obtain ⟨⟨r1, r2, r3⟩, f1, f2, f3⟩ := K.out.1.2.2.2.2.2.1.three
  go_wp2_with fail
  refine bodyPost_ret (v := .tuple #[.agg #[.int .i64 0, .int .i64 0, .slice none 0 0], .int .i64 E]) (by simp [results, Try.results19, go_sem, r1, r2, r3]) rfl ?_
  exact ⟨_, _, _, rfl, PRow.nil _ _, set3_below HB.out (by omega) _ _ _⟩
set_option maxRecDepth 100000 in
set_option maxHeartbeats 8000000 in
theorem wdraw_e2 (W H ax ay bx by' bw bh C R S kind ox oy ow oh : Int) (sl : Value) (A : Option Addr) (c : Nat) (ps : List Px) (E : Int) (w : World)
    (hE : (E != 0) = true)
    (TC : ∀ w', Below w.heap.size w w' → Calls Try.prog 22 #[.agg #[.int .i64 W, .int .i64 H, .slice A ps.length c]] w' fun e w'' => e = .returned (.int .i64 0) ∧ Below w'.heap.size w' w'')
    (TN : ∀ w', Below w.heap.size w w' → Calls Try.prog 17 #[.agg #[.int .i64 C, .int .i64 R, .int .i64 S, sl], .int .i64 kind, .agg #[.int .i64 ox, .int .i64 oy, .int .i64 (ow : Int), .int .i64 (oh : Int)], .agg #[.int .i64 bx, .int .i64 by', .int .i64 bw, .int .i64 bh]] w' fun e w'' => e = .returned (.tuple #[.agg #[.int .i64 0, .int .i64 0, .int .i64 0, .int .i64 0], .int .i64 E]) ∧ Below w'.heap.size w' w'') :
    Calls Try.prog 19 #[.agg #[.int .i64 W, .int .i64 H, .slice A ps.length c], .agg #[.int .i64 ax, .int .i64 ay], .agg #[.int .i64 bx, .int .i64 by', .int .i64 bw, .int .i64 bh], .agg #[.int .i64 C, .int .i64 R, .int .i64 S, sl], .int .i64 kind, .agg #[.int .i64 ox, .int .i64 oy, .int .i64 (ow : Int), .int .i64 (oh : Int)]] w (ImPost E 0 0 [] w) := by
  replace TC := Lib.hid TC; replace TN := Lib.hid TN
  go_enter Try.func19, Try.ntmps19
  go_upto_region 1 with fail
  have K := Lib.hid (fr_six w #[.int .i64 W, .int .i64 H, .slice A ps.length c] #[.int .i64 ax, .int .i64 ay] #[.int .i64 bx, .int .i64 by', .int .i64 bw, .int .i64 bh] #[.int .i64 C, .int .i64 R, .int .i64 S, sl] #[.int .i64 ox, .int .i64 oy, .int .i64 (ow : Int), .int .i64 (oh : Int)] #[.int .i64 0, .int .i64 0, .slice none 0 0] 40 28 34 24 34 40 _ rfl)
  generalize World.alloc (World.alloc (World.alloc (World.alloc (World.alloc (w.alloc _) _) _) _) _) _ = w0 at *
  obtain ⟨⟨i1, i2, i3⟩, -⟩ := K.out.1.1.three
  go_wp2_with fail
  refine (TC.out _ K.out.2).mono ?_
  rintro e w1 ⟨rfl, hb⟩
  replace K := Lib.hid (K.out.below hb)
  clear hb i1 i2 i3
  obtain ⟨⟨b1, b2, b3, b4⟩, -⟩ := K.out.1.2.2.1.four
  obtain ⟨⟨p1, p2, p3, p4⟩, -⟩ := K.out.1.2.2.2.1.four
  obtain ⟨⟨o1, o2, o3, o4⟩, -⟩ := K.out.1.2.2.2.2.1.four
  go_wp2_with fail
  refine (TN.out _ K.out.2).mono ?_
  rintro e w2 ⟨rfl, hb⟩
  replace K := Lib.hid (K.out.below hb)
  clear hb b1 b2 b3 b4 p1 p2 p3 p4 o1 o2 o3 o4
  go_upto_region 5 with fail
  have K15 := Lib.hid (Bx.new w2 34 #[.int .i64 0, .int .i64 0, .int .i64 0, .int .i64 0])
  replace K := Lib.hid (K.out.below (bel1 w2 (.cells #[.int .i64 0, .int .i64 0, .int .i64 0, .int .i64 0] 34)))
  generalize World.alloc w2 _ = w3 at *
  generalize w2.heap.size = g15 at *
  have HB := Lib.hid K.out.2
  obtain ⟨⟨r1, r2, r3⟩, f1, f2, f3⟩ := K.out.1.2.2.2.2.2.1.three
  go_wp2_with fail
  refine bodyPost_ret (v := .tuple #[.agg #[.int .i64 0, .int .i64 0, .slice none 0 0], .int .i64 E]) (by simp [results, Try.results19, go_sem, r1, r2, r3]) rfl ?_
  exact ⟨_, _, _, rfl, PRow.nil _ _, set3_below HB.out (by omega) _ _ _⟩
set_option maxRecDepth 100000 in
set_option maxHeartbeats 8000000 in
theorem wdraw_e3 (W H ax ay bx by' bw bh C R S kind ox oy ow oh : Int) (sl : Value) (A : Option Addr) (c : Nat) (ps : List Px) (nx ny nw nh : Int) (w : World)
    (TC : ∀ w', Below w.heap.size w w' → Calls Try.prog 22 #[.agg #[.int .i64 W, .int .i64 H, .slice A ps.length c]] w' fun e w'' => e = .returned (.int .i64 0) ∧ Below w'.heap.size w' w'')
    (TN : ∀ w', Below w.heap.size w w' → Calls Try.prog 17 #[.agg #[.int .i64 C, .int .i64 R, .int .i64 S, sl], .int .i64 kind, .agg #[.int .i64 ox, .int .i64 oy, .int .i64 (ow : Int), .int .i64 (oh : Int)], .agg #[.int .i64 bx, .int .i64 by', .int .i64 bw, .int .i64 bh]] w' fun e w'' => e = .returned (.tuple #[.agg #[.int .i64 nx, .int .i64 ny, .int .i64 nw, .int .i64 nh], .int .i64 0]) ∧ Below w'.heap.size w' w'')
    (TS : ∀ w', Calls Try.prog 47 #[.agg #[.int .i64 W, .int .i64 H, .slice A ps.length c], .agg #[.int .i64 ax, .int .i64 ay], .agg #[.int .i64 nx, .int .i64 ny, .int .i64 nw, .int .i64 nh]] w' fun e w'' => e = .returned (.bool false) ∧ Below w'.heap.size w' w'') :
    Calls Try.prog 19 #[.agg #[.int .i64 W, .int .i64 H, .slice A ps.length c], .agg #[.int .i64 ax, .int .i64 ay], .agg #[.int .i64 bx, .int .i64 by', .int .i64 bw, .int .i64 bh], .agg #[.int .i64 C, .int .i64 R, .int .i64 S, sl], .int .i64 kind, .agg #[.int .i64 ox, .int .i64 oy, .int .i64 (ow : Int), .int .i64 (oh : Int)]] w (ImPost 15 0 0 [] w) := by
  replace TC := Lib.hid TC; replace TN := Lib.hid TN; replace TS := Lib.hid TS
  go_enter Try.func19, Try.ntmps19
  go_upto_region 1 with fail
  have K := Lib.hid (fr_six w #[.int .i64 W, .int .i64 H, .slice A ps.length c] #[.int .i64 ax, .int .i64 ay] #[.int .i64 bx, .int .i64 by', .int .i64 bw, .int .i64 bh] #[.int .i64 C, .int .i64 R, .int .i64 S, sl] #[.int .i64 ox, .int .i64 oy, .int .i64 (ow : Int), .int .i64 (oh : Int)] #[.int .i64 0, .int .i64 0, .slice none 0 0] 40 28 34 24 34 40 _ rfl)
  generalize World.alloc (World.alloc (World.alloc (World.alloc (World.alloc (w.alloc _) _) _) _) _) _ = w0 at *
  obtain ⟨⟨i1, i2, i3⟩, -⟩ := K.out.1.1.three
  go_wp2_with fail
  refine (TC.out _ K.out.2).mono ?_
  rintro e w1 ⟨rfl, hb⟩
  replace K := Lib.hid (K.out.below hb)
  clear hb i1 i2 i3
  obtain ⟨⟨b1, b2, b3, b4⟩, -⟩ := K.out.1.2.2.1.four
  obtain ⟨⟨p1, p2, p3, p4⟩, -⟩ := K.out.1.2.2.2.1.four
  obtain ⟨⟨o1, o2, o3, o4⟩, -⟩ := K.out.1.2.2.2.2.1.four
  go_wp2_with fail
  refine (TN.out _ K.out.2).mono ?_
  rintro e w2 ⟨rfl, hb⟩
  replace K := Lib.hid (K.out.below hb)
  clear hb b1 b2 b3 b4 p1 p2 p3 p4 o1 o2 o3 o4
  go_upto_region 5 with fail
  have K15 := Lib.hid (Bx.new w2 34 #[.int .i64 nx, .int .i64 ny, .int .i64 nw, .int .i64 nh])
  replace K := Lib.hid (K.out.below (bel1 w2 (.cells #[.int .i64 nx, .int .i64 ny, .int .i64 nw, .int .i64 nh] 34)))
  generalize World.alloc w2 _ = w3 at *
  generalize w2.heap.size = g15 at *
  obtain ⟨⟨i1, i2, i3⟩, -⟩ := K.out.1.1.three
  obtain ⟨⟨a1, a2⟩, -⟩ := K.out.1.2.1.two
  obtain ⟨⟨n1, n2, n3, n4⟩, -⟩ := K15.out.four
  go_wp2_with fail
  refine (TS.out _).mono ?_
  rintro e w4 ⟨rfl, hb⟩
  replace K := Lib.hid (K.out.below hb)
  clear hb i1 i2 i3 a1 a2 n1 n2 n3 n4 K15
  have HB := Lib.hid K.out.2
  obtain ⟨⟨r1, r2, r3⟩, f1, f2, f3⟩ := K.out.1.2.2.2.2.2.1.three
  go_wp2_with fail
  refine bodyPost_ret (v := .tuple #[.agg #[.int .i64 0, .int .i64 0, .slice none 0 0], .int .i64 15]) (by simp [results, Try.results19, go_sem, r1, r2, r3]) rfl ?_
  exact ⟨_, _, _, rfl, PRow.nil _ _, set3_below HB.out (by omega) _ _ _⟩
set_option maxRecDepth 100000 in
set_option maxHeartbeats 8000000 in
theorem wdraw_ok (W H ax ay bx by' bw bh C R S kind ox oy : Int) (ow oh : Nat) (sl : Value) (A : Option Addr) (c : Nat) (ps : List Px) (N : Nat) (nx ny nw nh : Int) (px : Int → Int → Px) (dX dY : Nat → Int) (w : World)
    (TC : ∀ w', Below w.heap.size w w' → Calls Try.prog 22 #[.agg #[.int .i64 W, .int .i64 H, .slice A ps.length c]] w' fun e w'' => e = .returned (.int .i64 0) ∧ Below w'.heap.size w' w'')
    (TN : ∀ w', Below w.heap.size w w' → Calls Try.prog 17 #[.agg #[.int .i64 C, .int .i64 R, .int .i64 S, sl], .int .i64 kind, .agg #[.int .i64 ox, .int .i64 oy, .int .i64 (ow : Int), .int .i64 (oh : Int)], .agg #[.int .i64 bx, .int .i64 by', .int .i64 bw, .int .i64 bh]] w' fun e w'' => e = .returned (.tuple #[.agg #[.int .i64 nx, .int .i64 ny, .int .i64 nw, .int .i64 nh], .int .i64 0]) ∧ Below w'.heap.size w' w'')
    (TS : ∀ w', Calls Try.prog 47 #[.agg #[.int .i64 W, .int .i64 H, .slice A ps.length c], .agg #[.int .i64 ax, .int .i64 ay], .agg #[.int .i64 nx, .int .i64 ny, .int .i64 nw, .int .i64 nh]] w' fun e w'' => e = .returned (.bool true) ∧ Below w'.heap.size w' w'')
    (hNN : ow * oh = N) (hN : N ≤ 1000000) (how : 0 < ow) (how2 : ow ≤ 2097152) (hox : -2097152 ≤ ox ∧ ox ≤ 2097152) (hoy : -2097152 ≤ oy ∧ oy ≤ 2097152)
    (hpx : ∀ x y, (px x y).ok) (hdd : ∀ n, (-1048576 ≤ dX n ∧ dX n ≤ 1048576) ∧ -1048576 ≤ dY n ∧ dY n ≤ 1048576) (hv : vld kind = true)
    (TA : ∀ n : Nat, n < N → ∀ w', Below w.heap.size w w' → Calls Try.prog 12 #[.agg #[.int .i64 C, .int .i64 R, .int .i64 S, sl], .int .i64 (ox + (n : Int) % (ow : Int)), .int .i64 (oy + (n : Int) / (ow : Int))] w' fun e w'' => e = .returned (.agg #[.int .i64 (dX n), .int .i64 (dY n)]) ∧ Below w'.heap.size w' w'')
    (FE : ∀ n : Nat, n < N → ∀ j k : Nat, j < (taps kind ((ox + (n : Int) % (ow : Int)) * 65536 + 32768 + dX n)).length → k < (taps kind ((oy + (n : Int) / (ow : Int)) * 65536 + 32768 + dY n)).length → ∀ w', Fr w [(40, #[.int .i64 W, .int .i64 H, .slice A ps.length c]), (28, #[.int .i64 ax, .int .i64 ay]), (34, #[.int .i64 bx, .int .i64 by', .int .i64 bw, .int .i64 bh])] w' → Calls Try.prog 48 #[.int .i64 (tapFirst kind ((ox + (n : Int) % (ow : Int)) * 65536 + 32768 + dX n) + (j : Int)), .int .i64 (tapFirst kind ((oy + (n : Int) / (ow : Int)) * 65536 + 32768 + dY n) + (k : Int)), .pointer (some ⟨w.heap.size + 1 + 1, 0, none⟩), .pointer (some ⟨w.heap.size + 1, 0, none⟩), .pointer (some ⟨w.heap.size, 0, none⟩)] w' (PxPost (px (tapFirst kind ((ox + (n : Int) % (ow : Int)) * 65536 + 32768 + dX n) + (j : Int)) (tapFirst kind ((oy + (n : Int) / (ow : Int)) * 65536 + 32768 + dY n) + (k : Int))) w')) :
    Calls Try.prog 19 #[.agg #[.int .i64 W, .int .i64 H, .slice A ps.length c], .agg #[.int .i64 ax, .int .i64 ay], .agg #[.int .i64 bx, .int .i64 by', .int .i64 bw, .int .i64 bh], .agg #[.int .i64 C, .int .i64 R, .int .i64 S, sl], .int .i64 kind, .agg #[.int .i64 ox, .int .i64 oy, .int .i64 (ow : Int), .int .i64 (oh : Int)]] w (ImPost 0 (ow : Int) (oh : Int) ((List.range N).map fun n : Nat => wmean (wpre px (tapFirst kind ((ox + (n : Int) % (ow : Int)) * 65536 + 32768 + dX n)) (tapFirst kind ((oy + (n : Int) / (ow : Int)) * 65536 + 32768 + dY n)) (taps kind ((ox + (n : Int) % (ow : Int)) * 65536 + 32768 + dX n)) (taps kind ((oy + (n : Int) / (ow : Int)) * 65536 + 32768 + dY n)) (taps kind ((oy + (n : Int) / (ow : Int)) * 65536 + 32768 + dY n)).length 0)) w) := by
  replace TC := Lib.hid TC; replace TN := Lib.hid TN; replace TS := Lib.hid TS; replace TA := Lib.hid TA; replace FE := Lib.hid FE
  go_enter Try.func19, Try.ntmps19
  go_upto_region 1 with fail
  have K := Lib.hid (fr_six w #[.int .i64 W, .int .i64 H, .slice A ps.length c] #[.int .i64 ax, .int .i64 ay] #[.int .i64 bx, .int .i64 by', .int .i64 bw, .int .i64 bh] #[.int .i64 C, .int .i64 R, .int .i64 S, sl] #[.int .i64 ox, .int .i64 oy, .int .i64 (ow : Int), .int .i64 (oh : Int)] #[.int .i64 0, .int .i64 0, .slice none 0 0] 40 28 34 24 34 40 _ rfl)
  generalize World.alloc (World.alloc (World.alloc (World.alloc (World.alloc (w.alloc _) _) _) _) _) _ = w0 at *
  obtain ⟨⟨i1, i2, i3⟩, -⟩ := K.out.1.1.three
  go_wp2_with fail
  refine (TC.out _ K.out.2).mono ?_
  rintro e w1 ⟨rfl, hb⟩
  replace K := Lib.hid (K.out.below hb)
  clear hb i1 i2 i3
  obtain ⟨⟨b1, b2, b3, b4⟩, -⟩ := K.out.1.2.2.1.four
  obtain ⟨⟨p1, p2, p3, p4⟩, -⟩ := K.out.1.2.2.2.1.four
  obtain ⟨⟨o1, o2, o3, o4⟩, -⟩ := K.out.1.2.2.2.2.1.four
  go_wp2_with fail
  refine (TN.out _ K.out.2).mono ?_
  rintro e w2 ⟨rfl, hb⟩
  replace K := Lib.hid (K.out.below hb)
  clear hb b1 b2 b3 b4 p1 p2 p3 p4 o1 o2 o3 o4
  go_upto_region 5 with fail
  have K15 := Lib.hid (Bx.new w2 34 #[.int .i64 nx, .int .i64 ny, .int .i64 nw, .int .i64 nh])
  replace K := Lib.hid (K.out.below (bel1 w2 (.cells #[.int .i64 nx, .int .i64 ny, .int .i64 nw, .int .i64 nh] 34)))
  generalize World.alloc w2 _ = w3 at *
  generalize w2.heap.size = g15 at *
  obtain ⟨⟨i1, i2, i3⟩, -⟩ := K.out.1.1.three
  obtain ⟨⟨a1, a2⟩, -⟩ := K.out.1.2.1.two
  obtain ⟨⟨n1, n2, n3, n4⟩, -⟩ := K15.out.four
  go_wp2_with fail
  refine (TS.out _).mono ?_
  rintro e w4 ⟨rfl, hb⟩
  replace K := Lib.hid (K.out.below hb)
  clear hb i1 i2 i3 a1 a2 n1 n2 n3 n4 K15
  obtain ⟨M, hmk, hM⟩ := mk_pixels N hN
  have HM := Lib.hid hM; clear hM
  obtain ⟨⟨o1, o2, o3, o4⟩, -⟩ := K.out.1.2.2.2.2.1.four
  have q1 : IntKind.i64.wrap ((ow : Int) * (oh : Int)) = (N : Int) := by rw [← Int.natCast_mul, hNN]; exact wrap_in _ (by omega)
  go_upto_region 10 with fail
  go_cut [18] (ImgMid (ow : Int) (oh : Int) N w4)
  case first =>
    have hlo := K.out.1.2.2.2.2.1.lt
    have ja : w4.heap.size ≠ w.heap.size + 1 + 1 + 1 + 1 := by omega
    have ja' : w4.heap.size + 1 ≠ w.heap.size + 1 + 1 + 1 + 1 := by omega
    clear TC TN TS TA FE hNN hN how how2 hox hoy hpx hdd hv
    go_region_held3 (fun wq => wq.cell? ⟨w.heap.size + 1 + 1 + 1 + 1, 0, none⟩ = some (.int .i64 ox) ∧ wq.cell? ⟨w.heap.size + 1 + 1 + 1 + 1, 1, none⟩ = some (.int .i64 oy) ∧ wq.cell? ⟨w.heap.size + 1 + 1 + 1 + 1, 2, none⟩ = some (.int .i64 (ow : Int)) ∧ wq.cell? ⟨w.heap.size + 1 + 1 + 1 + 1, 3, none⟩ = some (.int .i64 (oh : Int)))
      (go_keep) (fail)
    all_goals (try go_wp2_with fail)
    all_goals go_meet
    all_goals first
      | ((with_reducible refine imgMid_1 ?_); exact HM.out _ _ (Nat.le_refl _))
      | ((with_reducible refine imgMid_2 ?_); exact HM.out)
  case rest =>
  obtain ⟨gb, gp, rfl, hbI, hrow, hgb, hne, hBm⟩ := hcut
  have K4 := K
  replace K := Lib.hid (K.out.below hBm)
  clear o1 o2 o3 o4 hmk HM q1 TC TN TS
  obtain ⟨⟨i1, i2, i3⟩, -⟩ := hbI.three
  have hlo := hrow.lo
  have h5 := K4.out.1.2.2.2.2.2.1.lt
  have HZ := Lib.hid (show w.heap.size + 6 ≤ gp ∧ gb < wc.heap.size ∧ gp < wc.heap.size ∧ w4.heap.size ≤ wc.heap.size ∧ w.heap.size + 5 < wc.heap.size from ⟨by omega, hbI.lt, hlo.2, hBm.size, by have := hBm.size; omega⟩)
  go_upto_region 12 with fail
  clear i1 i2 i3 hlo h5
  have HL := Lib.hid (show ((List.range N).map (fun n : Nat => wmean (wpre px (tapFirst kind ((ox + (n : Int) % (ow : Int)) * 65536 + 32768 + dX n)) (tapFirst kind ((oy + (n : Int) / (ow : Int)) * 65536 + 32768 + dY n)) (taps kind ((ox + (n : Int) % (ow : Int)) * 65536 + 32768 + dX n)) (taps kind ((oy + (n : Int) / (ow : Int)) * 65536 + 32768 + dY n)) (taps kind ((oy + (n : Int) / (ow : Int)) * 65536 + 32768 + dY n)).length 0))).length = N by simp)
  have HG := Lib.hid (show ∀ n, n < N → pat ((List.range N).map (fun n : Nat => wmean (wpre px (tapFirst kind ((ox + (n : Int) % (ow : Int)) * 65536 + 32768 + dX n)) (tapFirst kind ((oy + (n : Int) / (ow : Int)) * 65536 + 32768 + dY n)) (taps kind ((ox + (n : Int) % (ow : Int)) * 65536 + 32768 + dX n)) (taps kind ((oy + (n : Int) / (ow : Int)) * 65536 + 32768 + dY n)) (taps kind ((oy + (n : Int) / (ow : Int)) * 65536 + 32768 + dY n)).length 0))) n = ((fun n : Nat => wmean (wpre px (tapFirst kind ((ox + (n : Int) % (ow : Int)) * 65536 + 32768 + dX n)) (tapFirst kind ((oy + (n : Int) / (ow : Int)) * 65536 + 32768 + dY n)) (taps kind ((ox + (n : Int) % (ow : Int)) * 65536 + 32768 + dX n)) (taps kind ((oy + (n : Int) / (ow : Int)) * 65536 + 32768 + dY n)) (taps kind ((oy + (n : Int) / (ow : Int)) * 65536 + 32768 + dY n)).length 0)) n) from fun n hn => by simp [pat, hn])
  generalize hLL : (List.range N).map (fun n : Nat => wmean (wpre px (tapFirst kind ((ox + (n : Int) % (ow : Int)) * 65536 + 32768 + dX n)) (tapFirst kind ((oy + (n : Int) / (ow : Int)) * 65536 + 32768 + dY n)) (taps kind ((ox + (n : Int) % (ow : Int)) * 65536 + 32768 + dX n)) (taps kind ((oy + (n : Int) / (ow : Int)) * 65536 + 32768 + dY n)) (taps kind ((oy + (n : Int) / (ow : Int)) * 65536 + 32768 + dY n)).length 0)) = L at *
  have HLL := Lib.hid hLL
  clear hLL
  have HBI := Lib.hid hbI; have HNE := Lib.hid hne
  have KC := K
  clear hbI hBm hgb
  go_loopg [71] N (FillRel L gp w4.heap.size N wc)
  case atStart => exact FillRel.start HL.out hrow
  case round =>
    obtain ⟨n, hj, hgh, rfl, hrw, hkb⟩ := hrel
    subst hgh
    rw [HL.out] at hj
    have hsz := hkb.size
    have KR := Lib.hid (KC.out.kb hkb HZ.out.1)
    have HI := Lib.hid (hkb.bx HBI.out HZ.out.2.1 hne)
    have HRW := Lib.hid hrw; have HKB := Lib.hid hkb
    clear hrw hkb K hrow
    by_cases hlt : n < N
    · have TAn := Lib.hid (TA.out n hlt)
      have FEn := Lib.hid (FE.out n hlt)
      have HF := Lib.hid (show pat L n = wmean (wpre px (tapFirst kind ((ox + (n : Int) % (ow : Int)) * 65536 + 32768 + dX n)) (tapFirst kind ((oy + (n : Int) / (ow : Int)) * 65536 + 32768 + dY n)) (taps kind ((ox + (n : Int) % (ow : Int)) * 65536 + 32768 + dX n)) (taps kind ((oy + (n : Int) / (ow : Int)) * 65536 + 32768 + dY n)) (taps kind ((oy + (n : Int) / (ow : Int)) * 65536 + 32768 + dY n)).length 0) from HG.out n hlt)
      obtain ⟨hdx, hdy⟩ := hdd n
      have how' : (0 : Int) < (ow : Int) := by omega
      have tm : (n : Int).tmod (ow : Int) = (n : Int) % (ow : Int) := Int.tmod_eq_emod_of_nonneg (by omega)
      have td : (n : Int).tdiv (ow : Int) = (n : Int) / (ow : Int) := Int.tdiv_eq_ediv_of_nonneg (by omega)
      have em0 := Int.emod_nonneg (n : Int) (b := (ow : Int)) (by omega)
      have em1 := Int.emod_lt_of_pos (n : Int) how'
      have ed0 : 0 ≤ (n : Int) / (ow : Int) := Int.ediv_nonneg (by omega) (by omega)
      have ed1 := Int.ediv_le_self (a := (n : Int)) (ow : Int) (by omega)
      have tz : ((ow : Int) == 0) = false := by simp; omega
      have x1 : IntKind.i64.wrap (ox + (n : Int) % (ow : Int)) = ox + (n : Int) % (ow : Int) := wrap_in _ (by omega)
      have x2 : IntKind.i64.wrap (oy + (n : Int) / (ow : Int)) = oy + (n : Int) / (ow : Int) := wrap_in _ (by omega)
      have x3 : IntKind.i64.wrap ((n : Int) % (ow : Int)) = (n : Int) % (ow : Int) := wrap_in _ (by omega)
      have x4 : IntKind.i64.wrap ((n : Int) / (ow : Int)) = (n : Int) / (ow : Int) := wrap_in _ (by omega)
      obtain ⟨⟨o1, o2, o3, o4⟩, -⟩ := KR.out.1.2.2.2.2.1.four
      have hk0 : (0 : Int) ≤ (n : Int) := by omega
      have hk1 : (n : Int) < (N : Int) := by omega
      go_upto_region 14 with fail
      go_quiet (fail)
      clear o1 o2 o3 o4
      replace KR := Lib.hid (KR.out.drewN nq); replace HI := Lib.hid (HI.out.drewN nq); replace HRW := Lib.hid (HRW.out.drewN nq)
      have HKB' := Lib.hid (HKB.out.drewN nq)
      replace HKB := HKB'; clear HKB'
      replace hsz : wc.heap.size ≤ (wr.drewN nq).heap.size := hsz
      generalize wr.drewN nq = wa at *
      clear nq x1 x2 x3 x4 tm td tz
      have bx1 : -4194304 ≤ ox + (n : Int) % (ow : Int) ∧ ox + (n : Int) % (ow : Int) ≤ 4194304 := by omega
      have bx2 : -4194304 ≤ oy + (n : Int) / (ow : Int) ∧ oy + (n : Int) / (ow : Int) ≤ 4194304 := by omega
      clear em0 em1 ed0 ed1
      generalize ox + (n : Int) % (ow : Int) = xn at *
      generalize oy + (n : Int) / (ow : Int) = yn at *
      generalize dX n = dx at *
      generalize dY n = dy at *
      obtain ⟨⟨p1, p2, p3, p4⟩, -⟩ := KR.out.1.2.2.2.1.four
      go_wp2_with fail
      refine (TAn.out _ KR.out.2).mono ?_
      rintro e w5 ⟨rfl, hb⟩
      clear p1 p2 p3 p4 TAn
      go_upto_region 16 with fail
      have H22 := Bx.new w5 28 #[.int .i64 dx, .int .i64 dy]
      have HBW := Lib.hid (bel_alloc hb (.cells #[.int .i64 dx, .int .i64 dy] 28))
      clear hb
      generalize World.alloc w5 _ = w6 at *
      generalize w5.heap.size = g22 at *
      obtain ⟨⟨d1, d2⟩, -⟩ := H22.two
      have m1 := wrap_in (xn * 65536) (by omega); have m2 := wrap_in (xn * 65536 + 32768) (by omega); have m3 := wrap_in (xn * 65536 + 32768 + dx) (by omega)
      go_wp2_with fail
      refine (taps_any kind (xn * 65536 + 32768 + dx) _).mono ?_
      rintro e w7 ⟨v, rfl, hU, hb⟩
      obtain ⟨gu, cu, rfl, hgu, hgu2⟩ := hU.form (taps_pos hv)
      replace HBW := Lib.hid (bel_trans HBW.out hb)
      replace H22 := H22.below hb
      clear hb d1 d2 m1 m2 m3
      obtain ⟨⟨d1, d2⟩, -⟩ := H22.two
      have m1 := wrap_in (yn * 65536) (by omega); have m2 := wrap_in (yn * 65536 + 32768) (by omega); have m3 := wrap_in (yn * 65536 + 32768 + dy) (by omega)
      go_wp2_with fail
      refine (taps_any kind (yn * 65536 + 32768 + dy) _).mono ?_
      rintro e w8 ⟨v, rfl, hV, hb⟩
      obtain ⟨gv, cv', rfl, hgv, hgv2⟩ := hV.form (taps_pos hv)
      replace HBW := Lib.hid (bel_trans HBW.out hb)
      replace hU := hU.below hb
      have hgu3 := Nat.lt_of_lt_of_le hgu2 hb.size
      clear hb d1 d2 m1 m2 m3 H22
      have tu := taps_t kind (xn * 65536 + 32768 + dx); have tv := taps_t kind (yn * 65536 + 32768 + dy)
      have fu := tap_first_bd kind (xn * 65536 + 32768 + dx); have fv := tap_first_bd kind (yn * 65536 + 32768 + dy)
      generalize tapFirst kind (xn * 65536 + 32768 + dx) = fx at *
      generalize tapFirst kind (yn * 65536 + 32768 + dy) = fy at *
      generalize taps kind (xn * 65536 + 32768 + dx) = us at *
      generalize taps kind (yn * 65536 + 32768 + dy) = vs at *
      have HTU := Lib.hid tu; have HTV := Lib.hid tv; have HFU := Lib.hid fu; have HFV := Lib.hid fv
      have hul : us.length ≤ 4 := tu.1
      have hvl : vs.length ≤ 4 := tv.1
      clear tu tv fu fv hdx hdy bx1 bx2 hgu hgv hgu2
      go_upto_region 19 with fail
      have S0 := Lib.hid (show SumAt (w8.alloc (.cells #[.int .u64 0, .int .u64 0, .int .u64 0, .int .u64 0, .int .u64 0, .int .u64 0, .int .i64 0] 78)) w8.heap.size (wpre px fx fy us vs 0 0) from Bx.new w8 78 #[.int .u64 0, .int .u64 0, .int .u64 0, .int .u64 0, .int .u64 0, .int .u64 0, .int .i64 0])
      have HU := Lib.hid (show ∀ j, j < us.length → (w8.alloc (.cells #[.int .u64 0, .int .u64 0, .int .u64 0, .int .u64 0, .int .u64 0, .int .u64 0, .int .i64 0] 78)).cell? ⟨gu, j, none⟩ = some (.int .i64 (us.getD j 0)) from fun j hj => (hU.alloc _).cell (getD_get hj))
      have HV := Lib.hid (show ∀ j, j < vs.length → (w8.alloc (.cells #[.int .u64 0, .int .u64 0, .int .u64 0, .int .u64 0, .int .u64 0, .int .u64 0, .int .i64 0] 78)).cell? ⟨gv, j, none⟩ = some (.int .i64 (vs.getD j 0)) from fun j hj => (hV.alloc _).cell (getD_get hj))
      have HBX := Lib.hid (bel_alloc HBW.out (.cells #[.int .u64 0, .int .u64 0, .int .u64 0, .int .u64 0, .int .u64 0, .int .u64 0, .int .i64 0] 78))
      have HGZ := Lib.hid (show gu < w8.heap.size ∧ gv < w8.heap.size ∧ wa.heap.size ≤ w8.heap.size ∧ w8.heap.size + 1 = (w8.alloc (.cells #[.int .u64 0, .int .u64 0, .int .u64 0, .int .u64 0, .int .u64 0, .int .u64 0, .int .i64 0] 78)).heap.size from ⟨hgu3, hgv2, HBW.out.size, (World.size_alloc _ _).symm⟩)
      clear hU hV HBW hgu3 hgv2
      generalize World.alloc w8 _ = w9 at *
      generalize w8.heap.size = gt at *
      have K9 := Lib.hid (KR.out.below HBX.out)
      have h60 : w.heap.size + 6 ≤ gt := by have := HZ.out; have := HGZ.out; omega
      have H60 := Lib.hid h60; clear h60
      go_upto_block 2 with fail
      go_cut [] (SumMid px fx fy us vs gt w9)
      case first =>
        clear HI HRW HKB HZ HL HG HF HBI HNE KC TA FE HBX
        go_wp2_with fail
        go_loopg [116] vs.length (OuR px fx fy us vs gt w9)
        case atStart => exact ⟨0, Nat.zero_le _, rfl, rfl, S0.out, KB.refl _ _ _⟩
        case round =>
          obtain ⟨k, hk, rfl, rfl, hS, hkb⟩ := hrel
          by_cases hkl : k < vs.length
          · have hk0' : (0 : Int) ≤ (k : Int) := by omega
            have hk1' : (k : Int) < (vs.length : Int) := by omega
            have cvk := (hkb.cell (k := gv) (o := k) (by have := HGZ.out; omega) (by have := HGZ.out; omega)).trans (HV.out k hkl)
            have hw2 := HTV.out.2 k
            obtain ⟨v, hvg⟩ : ∃ v, vs.getD k 0 = v := ⟨_, rfl⟩
            rw [hvg] at cvk hw2
            go_upto_region 23 with fail
            clear cvk
            go_loopg [123] us.length (InR px fx fy us vs gt w9 k)
            case atStart => exact ⟨0, Nat.zero_le _, rfl, rfl, hS, hkb⟩
            case round =>
              clear hS hkb
              obtain ⟨j, hj', rfl, rfl, hS, hkb⟩ := hrel
              by_cases hjl : j < us.length
              · have hj0 : (0 : Int) ≤ (j : Int) := by omega
                have hj1 : (j : Int) < (us.length : Int) := by omega
                have cuj := (hkb.cell (k := gu) (o := j) (by have := HGZ.out; omega) (by have := HGZ.out; omega)).trans (HU.out j hjl)
                have KJ := K9.out.kb hkb H60.out
                have FJ := Lib.hid (FEn.out j k hjl hkl wr ⟨⟨KJ.1.1, KJ.1.2.1, KJ.1.2.2.1, trivial⟩, KJ.2⟩)
                have hw := HTU.out.2 j
                have bd := wpre_bd (px := px) (fx := fx) (fy := fy) HTU.out.2 HTV.out.2 hpx hul (k := k) (j := j) (by omega) (by omega)
                have bd2 := wpre_bd (px := px) (fx := fx) (fy := fy) HTU.out.2 HTV.out.2 hpx hul (k := k) (j := j + 1) (by omega) (by omega)
                rw [wpre_step, bsA_snoc] at bd2
                have hcell : wcell px fx fy us vs k j = (us.getD j 0 * v, px (fx + j) (fy + k)) := by unfold wcell; rw [hvg]
                rw [hcell] at bd2
                dsimp only at bd2
                have ST := Lib.hid (show ∀ w', Tt w' gt (bsA (wpre px fx fy us vs k j) + us.getD j 0 * v * (px (fx + j) (fy + k)).a) (bsR (wpre px fx fy us vs k j) + us.getD j 0 * v * (px (fx + j) (fy + k)).a * (px (fx + j) (fy + k)).r) (bsG (wpre px fx fy us vs k j) + us.getD j 0 * v * (px (fx + j) (fy + k)).a * (px (fx + j) (fy + k)).g) (bsB (wpre px fx fy us vs k j) + us.getD j 0 * v * (px (fx + j) (fy + k)).a * (px (fx + j) (fy + k)).b) → SumAt w' gt (wpre px fx fy us vs k (j + 1)) from
                  fun w' h => by rw [wpre_step]; unfold SumAt; rw [bsA_snoc, bsR_snoc, bsG_snoc, bsB_snoc, hcell]; exact h)
                have hok := hpx (fx + j) (fy + k)
                have m1 := wrap_in (fx + (j : Int)) (by have := HFU.out; omega); have m2 := wrap_in (fy + (k : Int)) (by have := HFV.out; omega)
                unfold SumAt at hS
                have hA : -4611686018427387904 ≤ bsA (wpre px fx fy us vs k j) + us.getD j 0 * v * (px (fx + j) (fy + k)).a ∧ bsA (wpre px fx fy us vs k j) + us.getD j 0 * v * (px (fx + j) (fy + k)).a ≤ 4611686018427387904 := by
                  have b := bd2.1
                  exact ⟨by omega, by omega⟩
                clear bd bd2 hcell
                generalize bsA (wpre px fx fy us vs k j) = sA at *
                generalize bsR (wpre px fx fy us vs k j) = sR at *
                generalize bsG (wpre px fx fy us vs k j) = sG at *
                generalize bsB (wpre px fx fy us vs k j) = sB at *
                generalize px (fx + (j : Int)) (fy + (k : Int)) = p at *
                generalize us.getD j 0 = u at *
                have huv : -4303360000 ≤ u * v ∧ u * v ≤ 4303360000 := by
                  rcases Int.le_total 0 u with c0 | c0
                  · have h1 : u * v ≤ u * 65600 := Int.mul_le_mul_of_nonneg_left hw2.2 c0
                    have h2 : u * (-65600) ≤ u * v := Int.mul_le_mul_of_nonneg_left hw2.1 c0
                    omega
                  · have h1 : u * 65600 ≤ u * v := Int.mul_le_mul_of_nonpos_left c0 hw2.2
                    have h2 : u * v ≤ u * (-65600) := Int.mul_le_mul_of_nonpos_left c0 hw2.1
                    omega
                have m3 := wrap_in (u * v) (by omega)
                have AD := Lib.hid (show ∀ w', Below wr.heap.size wr w' → _ from fun w' hb => add_any gt sA sR sG sB (u * v) p w' hok (by omega) hA (Bx.below hS hb))
                have HKB := Lib.hid hkb
                clear hS hkb KJ hA huv hw hw2 hok
                go_wp2_with (first | (go_at_call 48; (with_reducible refine FJ.out.mono ?_); rintro e wb ⟨rfl, hb10⟩) | (go_at_call 51; (with_reducible refine (AD.out _ hb10).mono ?_); rintro e wd ⟨rfl, hT, hK⟩))
                go_roundg (us.length - (j + 1))
                case measure => omega
                case rel => exact ⟨j + 1, by omega, rfl, by go_num, ST.out _ hT, (HKB.out.below hb10 HKB.out.size).trans (hK.less (Nat.le_trans HKB.out.size hb10.size))⟩
              · obtain rfl : j = us.length := by omega
                have HS := Lib.hid hS; have HKB := Lib.hid hkb
                clear hS hkb
                go_wp2_with fail
                go_roundg (vs.length - (k + 1))
                case measure => omega
                case rel => exact ⟨k + 1, by omega, rfl, by go_num, by rw [← wpre_row]; exact HS.out, HKB.out⟩
          · obtain rfl : k = vs.length := by omega
            have HS := Lib.hid hS; have HKB := Lib.hid hkb
            clear hS hkb
            go_wp2_with fail
            go_meet
            exact ⟨HS.out, HKB.out⟩
      case rest =>
      obtain ⟨hS, hkb⟩ := hcut
      obtain ⟨u, hu⟩ : ∃ u, wmean (wpre px fx fy us vs vs.length 0) = u := ⟨_, rfl⟩
      have HUU := Lib.hid (HF.out.trans hu)
      have hbd := wpre_bd (px := px) (fx := fx) (fy := fy) HTU.out.2 HTV.out.2 hpx hul (k := vs.length) (j := 0) hvl (by omega)
      have CP := Lib.hid (show ∀ wq, Below wc.heap.size wc wq → Calls Try.prog 52 #[.pointer (some ⟨gt, 0, none⟩)] wq (PxPost u wq) from fun wq hq => by
        rw [← hu]
        exact pixel_any gt _ _ _ _ wq (Bx.below hS hq) ⟨by omega, by omega⟩ ⟨by omega, by omega⟩ ⟨by omega, by omega⟩ ⟨by omega, by omega⟩)
      have HWB := Lib.hid (hkb.toBelow HBX.out HGZ.out.2.2.1 HBX.out.size)
      have hkI := HI.out.below HWB.out
      have hrx := HRW.out.below HWB.out
      have HKB2 := Lib.hid HKB.out
      have HHZ := Lib.hid hsz
      clear hS hkb hbd hu HF HG FEn HTU HTV HU HV S0 K9 HGZ H60 HBX KR
      have HSA := Lib.hid (show ∀ wq, Below wc.heap.size wc wq → wq.cell? ⟨gb, 2, none⟩ = some (.slice (some ⟨gp, 0, none⟩) N N) ∧ wq.cell? ⟨gp, n * 4, none⟩ = some (cv wq gp (n * 4)) ∧ wq.cell? ⟨gp, n * 4 + 1, none⟩ = some (cv wq gp (n * 4 + 1)) ∧ wq.cell? ⟨gp, n * 4 + 2, none⟩ = some (cv wq gp (n * 4 + 2)) ∧ wq.cell? ⟨gp, n * 4 + 3, none⟩ = some (cv wq gp (n * 4 + 3)) ∧ wq.frozen? ⟨gp, n * 4, none⟩ = false ∧ wq.frozen? ⟨gp, n * 4 + 1, none⟩ = false ∧ wq.frozen? ⟨gp, n * 4 + 2, none⟩ = false ∧ wq.frozen? ⟨gp, n * 4 + 3, none⟩ = false from
        fun wq hq => ⟨(hkI.below hq).three.1.2.2, (rowS_of (hrx.below hq) hlt).1.1, (rowS_of (hrx.below hq) hlt).1.2.1, (rowS_of (hrx.below hq) hlt).1.2.2.1, (rowS_of (hrx.below hq) hlt).1.2.2.2, (rowS_of (hrx.below hq) hlt).2⟩)
      have HSP := Lib.hid (show ∀ wq', Below wc.heap.size wc wq' → ∀ wq, wq = ((((wq'.setCell ⟨gp, n * 4, none⟩ (.int .i64 u.r)).setCell ⟨gp, n * 4 + 1, none⟩ (.int .i64 u.g)).setCell ⟨gp, n * 4 + 2, none⟩ (.int .i64 u.b)).setCell ⟨gp, n * 4 + 3, none⟩ (.int .i64 u.a)) → wq.cell? ⟨gb, 2, none⟩ = some (.slice (some ⟨gp, 0, none⟩) N N) ∧ wq.cell? ⟨gp, n * 4, none⟩ = some (cv wq gp (n * 4)) ∧ wq.cell? ⟨gp, n * 4 + 1, none⟩ = some (cv wq gp (n * 4 + 1)) ∧ wq.cell? ⟨gp, n * 4 + 2, none⟩ = some (cv wq gp (n * 4 + 2)) ∧ wq.cell? ⟨gp, n * 4 + 3, none⟩ = some (cv wq gp (n * 4 + 3)) ∧ wq.frozen? ⟨gp, n * 4, none⟩ = false ∧ wq.frozen? ⟨gp, n * 4 + 1, none⟩ = false ∧ wq.frozen? ⟨gp, n * 4 + 2, none⟩ = false ∧ wq.frozen? ⟨gp, n * 4 + 3, none⟩ = false from
        fun wq' hq wq e => by
          subst e
          have hr := rowS_of ((hrx.below hq).put n hlt u) hlt
          have h1 := ((hkI.below hq).other4 hne (n * 4) (n * 4 + 1) (n * 4 + 2) (n * 4 + 3) (.int .i64 u.r) (.int .i64 u.g) (.int .i64 u.b) (.int .i64 u.a)).three.1.2.2
          exact ⟨h1, hr.1.1, hr.1.2.1, hr.1.2.2.1, hr.1.2.2.2, hr.2⟩)
      have HRX := Lib.hid (fun wq (hq : Below wc.heap.size wc wq) => hrx.below hq)
      have hBv : Below wc.heap.size wc wc.drew := (Below.refl wc.heap.size wc).drew
      have hS0 := HSA.out _ hBv
      clear hkI hrx
      go_upto_region 28 with fail
      go_region_held3 (fun wq => wq.cell? ⟨gb, 2, none⟩ = some (.slice (some ⟨gp, 0, none⟩) N N) ∧ wq.cell? ⟨gp, n * 4, none⟩ = some (cv wq gp (n * 4)) ∧ wq.cell? ⟨gp, n * 4 + 1, none⟩ = some (cv wq gp (n * 4 + 1)) ∧ wq.cell? ⟨gp, n * 4 + 2, none⟩ = some (cv wq gp (n * 4 + 2)) ∧ wq.cell? ⟨gp, n * 4 + 3, none⟩ = some (cv wq gp (n * 4 + 3)) ∧ wq.frozen? ⟨gp, n * 4, none⟩ = false ∧ wq.frozen? ⟨gp, n * 4 + 1, none⟩ = false ∧ wq.frozen? ⟨gp, n * 4 + 2, none⟩ = false ∧ wq.frozen? ⟨gp, n * 4 + 3, none⟩ = false)
        (first | assumption | exact hS0 | exact HSA.out _ hBv | exact HSP.out _ hBv _ rfl | go_keep)
        (first | ((with_reducible refine (CP.out _ hBv).mono ?_); rintro e wv ⟨rfl, hbv⟩; have hBv := bel_trans hBv hbv))
      go_wp2_with fail
      go_roundg (N - (n + 1))
      case measure => rw [HL.out]; omega
      case rel =>
        refine ⟨n + 1, by rw [HL.out]; omega, by rw [HL.out], by go_num, part_put (by rw [HL.out]; exact hlt) HL.out (HRX.out _ hBv) HUU.out, ?_⟩
        exact KB.set4 (HKB2.out.below (bel_trans HWB.out hBv) HHZ.out) _ _ _ _ _ _ _ _
    · obtain rfl : n = N := by omega
      have hall := partD_all Px.zero L
      rw [HL.out] at hall
      have h4 := K4.out.1.2.2.2.2.2.1.lt
      have hc5 := KR.out.1.2.2.2.2.2.1
      obtain ⟨⟨r1, r2, r3⟩, f1, f2, f3⟩ := hc5.three
      obtain ⟨⟨m1, m2, m3⟩, -⟩ := HI.out.three
      have HR := Lib.hid (hall ▸ HRW.out)
      have HK := Lib.hid KR.out.2
      clear hall hc5 HRW HI KR HG TA FE
      go_wp2_with fail
      refine bodyPost_ret (v := .tuple #[.agg #[.int .i64 (ow : Int), .int .i64 (oh : Int), .slice (some ⟨gp, 0, none⟩) n n], .int .i64 0]) (by simp [results, Try.results19, go_sem, r1, r2, r3]) rfl ?_
      have e := HLL.out
      subst e
      exact ⟨_, _, _, rfl, HR.out.set3 (by omega) (by omega) _ _ _, set3_below HK.out (by omega) _ _ _⟩
end Go.Proofs.Ytbakgdcajpagkaa
