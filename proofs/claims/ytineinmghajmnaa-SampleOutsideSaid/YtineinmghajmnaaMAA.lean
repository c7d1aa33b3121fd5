/- Two nested loops that append the pixels of a raster one after the other: words for them. -/
import Derived.Test.YtineinmghajmnaaMG
import Derived.Test.YtineinmghajmnaaMW
import Derived.Test.YtineinmghajmnaaMZ
import Derived.Test.YtineinmghajmnaaMH
import Derived.Deep.RegionLaw
namespace Go.Proofs.Ytineinmghajmnaa
open Go.RowKit

/-- The image at box gt holds the first q pixels of l; all blocks below gt are as in wb. -/
def GridRel (W H : Int) (l : List Px) (gt : Nat) (wb : World) (q : Nat) (wr : World) : Prop :=
  ∃ v, Bx wr gt 24 #[.int .i64 W, .int .i64 H, v] ∧ PRow wr (gt + 1) v (l.take q) ∧ Below gt wb wr
/-- The heads of the outer and of the inner loop. -/
def OutRel (W H : Int) (l : List Px) (gt : Nat) (wb : World) (a b : Nat) (gh : Nat) (i : Value) (wr : World) : Prop := ∃ y : Nat, y ≤ b ∧ gh = b - y ∧ i = .int .i64 y ∧ GridRel W H l gt wb (y * a) wr
def InRel (W H : Int) (l : List Px) (gt : Nat) (wb : World) (a y : Nat) (gh : Nat) (i : Value) (wr : World) : Prop := ∃ x : Nat, x ≤ a ∧ gh = a - x ∧ i = .int .i64 x ∧ GridRel W H l gt wb (y * a + x) wr
def OneRel (W H : Int) (l : List Px) (gt : Nat) (wb : World) (gh : Nat) (i : Value) (wr : World) : Prop := ∃ x : Nat, x ≤ l.length ∧ gh = l.length - x ∧ i = .int .i64 x ∧ GridRel W H l gt wb x wr
section
variable {W H : Int} {l : List Px} {gt : Nat} {wb w w' : World} {q : Nat}
theorem GridRel.start (hb : Bx w gt 24 #[.int .i64 W, .int .i64 H, .slice none 0 0]) (h : Below gt wb w) : GridRel W H l gt wb 0 w := ⟨_, hb, PRow.nil _ _, h⟩
theorem GridRel.step {v' : Value} {u : Px} {vs : Value} {w7 w8 : World} (hb : Bx w7 gt 24 #[.int .i64 W, .int .i64 H, vs]) (hB : Below gt wb w7) (hr : PRow w8 (gt + 1) v' (l.take q ++ [u])) (h8 : Below (gt + 1) w7 w8) (hq : q < l.length) (hu : pat l q = u) :
    GridRel W H l gt wb (q + 1) (w8.setCell ⟨gt, 2, none⟩ v') := by
  refine ⟨v', ?_, ?_, ?_⟩
  · have := (hb.low (Nat.lt_succ_self _) h8).set 2 v'
    exact this
  · rw [take_succ_pat l q hq, hu]
    exact hr.set (Nat.lt_succ_self _) (Nat.le_refl _)
  · exact (hB.trans (h8.mono (Nat.le_succ _))).setCell (p := ⟨gt, 2, none⟩) (Nat.le_refl _) _
end
theorem grid_idx {a b x y : Nat} (hx : x < a) (hy : y < b) : y * a + x < a * b := by
  have : (y + 1) * a ≤ b * a := Nat.mul_le_mul_right _ (by omega)
  rw [Nat.add_mul, Nat.one_mul, Nat.mul_comm b a] at this
  omega
theorem grid_nat {a b : Nat} (f : Int → Int → Px) {x y : Nat} (hx : x < a) (hy : y < b) : pat (gridL a b f) (y * a + x) = f x y := by
  have := grid_at (w := (a : Int)) (h := (b : Int)) f (x := (x : Int)) (y := (y : Int)) (by omega) (by omega)
  rw [show ((y : Int) * (a : Int) + (x : Int)).toNat = y * a + x by rw [← Int.natCast_mul, ← Int.natCast_add]; exact Int.toNat_natCast _] at this
  exact this
theorem grid_len_nat (a b : Nat) (f : Int → Int → Px) : (gridL a b f).length = a * b := by
  rw [grid_length, ← Int.natCast_mul]; exact Int.toNat_natCast _
theorem PRow.nshape {w : World} {B : Nat} {v : Value} {ps : List Px} (h : PRow w B v ps) {n : Nat} (hn : ps.length = n) : ∃ A cap, v = .slice A n cap := by subst hn; exact h.shape
theorem take_len {l : List Px} {q : Nat} (h : q ≤ l.length) : (l.take q).length = q := by rw [List.length_take]; omega
theorem Bx.set4 {w : World} {g : Nat} {t : TypeId} {a' b' c' d' : Value} (h : Bx w g t #[a', b', c', d']) (a b c d : Value) : Bx ((((w.setCell ⟨g, 0, none⟩ a).setCell ⟨g, 1, none⟩ b).setCell ⟨g, 2, none⟩ c).setCell ⟨g, 3, none⟩ d) g t #[a, b, c, d] := by
  have := (((h.set 0 a).set 1 b).set 2 c).set 3 d
  exact this
theorem Bx.set3 {w : World} {g : Nat} {t : TypeId} {a' b' c' : Value} (h : Bx w g t #[a', b', c']) (a b c : Value) : Bx (((w.setCell ⟨g, 0, none⟩ a).setCell ⟨g, 1, none⟩ b).setCell ⟨g, 2, none⟩ c) g t #[a, b, c] := by
  have := ((h.set 0 a).set 1 b).set 2 c
  exact this
end Go.Proofs.Ytineinmghajmnaa
namespace Go.Proofs.Ytineinmghajmnaa
open Go.RowKit
theorem qbig {q a b : Nat} (h : q ≤ a * b) (ha : a ≤ 256) (hb : b ≤ 256) : q ≤ 1000000000000 := by
  have : a * b ≤ 256 * 256 := Nat.mul_le_mul ha hb
  omega
/-- append(v, p) inside a region that draws its order, p in a new block. -/
theorem rppush_step (w : World) {ops : Array Oper} {o : Oper} {a : Act} {K : Act → World → Prop} {Q : Exit → Act → World → Prop} {F : Prop} (hgd : o.guard = none) (s x : Operand)
    (ho : o.op = .call { callee := .builtin .append, args := #[s, x], argTypes := #[22, 22] }) (B : Nat) (v : Value) (ps : List Px) (hs : a.eval s = v) (hown : PRow w B v ps)
    (p : Px) (gx : Nat) (hx : a.eval x = .slice (some ⟨gx, 0, none⟩) 1 1) (hgx : gx = w.heap.size) (hl : ps.length ≤ 1000000000000) (hB : B ≤ w.heap.size)
    (h : ∀ v' w', PRow w' B v' (ps ++ [p]) → Below B w w' → K (a.put o.dst v') w') :
    if Region.wanted o (yielded ops a.tmps) = true then Oper.wp Try.prog o a (w.alloc (.cells #[.int .i64 p.r, .int .i64 p.g, .int .i64 p.b, .int .i64 p.a] 27)) K Q else F := by
  subst hgx
  obtain ⟨i0, hi0, hz0, hz1, hz2⟩ := info_parts Try.infoPx
  refine fpush_step 27 4 22 32 i0 _ Try.underlying22 hi0 hz0 hz1 hz2 rfl (by omega) (by omega) _ hgd s x ho B v ps.length (flat4 ps) hs (FRow.alloc hown _) w.heap.size [p.r, p.g, p.b, p.a] hx rfl ?_ hl (Nat.le_trans hB (by simp)) fun v' w' h1 h2 => h v' w' ?_ (((Below.refl _ _).alloc hB _).trans h2)
  · exact cells_new w 27 [p.r, p.g, p.b, p.a]
  · unfold PRow
    rw [List.length_append, flat4_append]
    exact h1
theorem samp_step (w : World) {ops : Array Oper} {o : Oper} {a : Act} {K : Act → World → Prop} {Q : Exit → Act → World → Prop} {G : Prop} (hgd : o.guard = none) (i1 i2 i3 i4 : Nat) (bl : Bool)
    (ho : o.op = .call { callee := .value (.func 34), args := #[.tmp i1, .tmp i2, .tmp i3, .tmp i4, .const (.bool bl)], argTypes := #[24, 3, 3, 3, 4] }) (u : Px) (v1 v2 v3 v4 : Value)
    (h1 : a.tmps[i1]?.getD undef = v1) (h2 : a.tmps[i2]?.getD undef = v2) (h3 : a.tmps[i3]?.getD undef = v3) (h4 : a.tmps[i4]?.getD undef = v4)
    (hc : Calls Try.prog 34 #[v1, v2, v3, v4, .bool bl] w (PxPost u w))
    (h : ∀ w', Below w.heap.size w w' → K (a.put o.dst (.agg #[.int .i64 u.r, .int .i64 u.g, .int .i64 u.b, .int .i64 u.a])) w') :
    if Region.wanted o (yielded ops a.tmps) = true then Oper.wp Try.prog o a w K Q else G := by
  have hw : Region.wanted o (yielded ops a.tmps) = true := by simp [Region.wanted, hgd]
  rw [if_pos hw]
  unfold Oper.wp
  simp [execOp, ho, resolve, invoke, h1, h2, h3, h4, go_sem]
  refine hc.mono ?_
  rintro e w' ⟨rfl, hb⟩
  exact h w' hb
set_option maxRecDepth 100000 in
set_option maxHeartbeats 8000000 in
theorem rsdraw_no (W H kind E0 IE Er : Int) (A : Option Addr) (c : Nat) (ps : List Px) (a bk : Af) (o : Rk) (V KV EM : Bool) (w : World)
    (tt : ((E0 != 0) = true ∧ Er = E0) ∨ ((E0 != 0) = false ∧ ((V = false ∧ Er = 2) ∨ (V = true ∧ (((256 < o.w ∨ 256 < o.h) ∧ Er = 15) ∨ (¬ (256 < o.w ∨ 256 < o.h) ∧ ((KV = false ∧ Er = 8) ∨ (KV = true ∧ (((IE != 0) = true ∧ Er = IE) ∨ ((IE != 0) = false ∧ EM = true ∧ Er = 0)))))))))) 
    (TC : ∀ w', Below w.heap.size w w' → Calls Try.prog 33 #[.agg #[.int .i64 W, .int .i64 H, .slice A ps.length c]] w' fun e w'' => e = .returned (.int .i64 E0) ∧ Below w'.heap.size w' w'')
    (TV : ∀ w, Calls Try.prog 39 #[.agg #[.int .i64 o.x, .int .i64 o.y, .int .i64 o.w, .int .i64 o.h]] w fun e w' => e = .returned (.bool V) ∧ Below w.heap.size w w')
    (TK : ∀ w, Calls Try.prog 32 #[.int .i64 kind] w fun e w' => e = .returned (.bool KV) ∧ w = w')
    (TI : ∀ w, Calls Try.prog 40 #[.agg #[.int .i64 a.a, .int .i64 a.b, .int .i64 a.c, .int .i64 a.d, .int .i64 a.e, .int .i64 a.f]] w fun e w' => e = .returned (.tuple #[.agg #[.int .i64 bk.a, .int .i64 bk.b, .int .i64 bk.c, .int .i64 bk.d, .int .i64 bk.e, .int .i64 bk.f], .int .i64 IE]) ∧ Below w.heap.size w w')
    (TE : ∀ w, Calls Try.prog 41 #[.agg #[.int .i64 o.x, .int .i64 o.y, .int .i64 o.w, .int .i64 o.h]] w fun e w' => e = .returned (.bool EM) ∧ Below w.heap.size w w') :
    Calls Try.prog 15 #[.agg #[.int .i64 W, .int .i64 H, .slice A ps.length c], .agg #[.int .i64 a.a, .int .i64 a.b, .int .i64 a.c, .int .i64 a.d, .int .i64 a.e, .int .i64 a.f], .int .i64 kind, .agg #[.int .i64 o.x, .int .i64 o.y, .int .i64 o.w, .int .i64 o.h]] w (ImPost Er 0 0 [] w) := by
  replace TC := Lib.hid TC; replace TV := Lib.hid TV; replace TK := Lib.hid TK; replace TI := Lib.hid TI; replace TE := Lib.hid TE; replace tt := Lib.hid tt
  go_enter Try.func15, Try.ntmps15
  go_upto_region 1 with fail
  have K := Lib.hid (fr_four w #[.int .i64 W, .int .i64 H, .slice A ps.length c] #[.int .i64 a.a, .int .i64 a.b, .int .i64 a.c, .int .i64 a.d, .int .i64 a.e, .int .i64 a.f] #[.int .i64 o.x, .int .i64 o.y, .int .i64 o.w, .int .i64 o.h] #[.int .i64 0, .int .i64 0, .slice none 0 0] 24 31 33 24 _ rfl)
  generalize World.alloc (World.alloc (World.alloc (w.alloc _) _) _) _ = w0 at *
  obtain ⟨⟨i1, i2, i3⟩, -⟩ := K.out.1.1.three
  go_wp2_with fail
  refine (TC.out _ K.out.2).mono ?_
  rintro e w1 ⟨rfl, hb⟩
  replace K := Lib.hid (K.out.below hb)
  clear hb i1 i2 i3
  rcases tt.out with ⟨d0, rfl⟩ | ⟨d0, tt1⟩
  · clear tt
    obtain ⟨⟨r1, r2, r3⟩, f1, f2, f3⟩ := K.out.1.2.2.2.1.three
    have HB := Lib.hid K.out.2
    clear K
    go_wp2_with fail
    refine bodyPost_ret (v := .tuple #[.agg #[.int .i64 0, .int .i64 0, .slice none 0 0], .int .i64 Er]) (by simp [results, Try.results15, go_sem, r1, r2, r3]) rfl ?_
    exact ⟨_, _, _, rfl, PRow.nil _ _, set3_below HB.out (by omega) _ _ _⟩
  clear tt
  replace tt1 := Lib.hid tt1
  obtain ⟨⟨j1, j2, j3, j4⟩, -⟩ := K.out.1.2.2.1.four
  go_wp2_with fail
  refine (TV.out _).mono ?_
  rintro e w2 ⟨rfl, hb⟩
  replace K := Lib.hid (K.out.below hb)
  clear hb j1 j2 j3 j4
  rcases tt1.out with ⟨rfl, rfl⟩ | ⟨rfl, tt2⟩
  · clear tt1
    obtain ⟨⟨r1, r2, r3⟩, f1, f2, f3⟩ := K.out.1.2.2.2.1.three
    have HB := Lib.hid K.out.2
    clear K
    go_wp2_with fail
    refine bodyPost_ret (v := .tuple #[.agg #[.int .i64 0, .int .i64 0, .slice none 0 0], .int .i64 2]) (by simp [results, Try.results15, go_sem, r1, r2, r3]) rfl ?_
    exact ⟨_, _, _, rfl, PRow.nil _ _, set3_below HB.out (by omega) _ _ _⟩
  clear tt1
  replace tt2 := Lib.hid tt2
  obtain ⟨⟨j1, j2, j3, j4⟩, -⟩ := K.out.1.2.2.1.four
  rcases tt2.out with ⟨hbig, rfl⟩ | ⟨hbig, tt3⟩
  · clear tt2
    rcases (show 256 < o.w ∨ (¬ 256 < o.w ∧ 256 < o.h) by omega) with t1 | ⟨t1, t2⟩
    all_goals
      clear hbig
      obtain ⟨⟨r1, r2, r3⟩, f1, f2, f3⟩ := K.out.1.2.2.2.1.three
      have HB := Lib.hid K.out.2
      clear K
      go_wp2_with fail
      refine bodyPost_ret (v := .tuple #[.agg #[.int .i64 0, .int .i64 0, .slice none 0 0], .int .i64 15]) (by simp [results, Try.results15, go_sem, r1, r2, r3]) rfl ?_
      exact ⟨_, _, _, rfl, PRow.nil _ _, set3_below HB.out (by omega) _ _ _⟩
  have s1 : ¬ 256 < o.w := by omega
  have s2 : ¬ 256 < o.h := by omega
  clear tt2 hbig
  replace tt3 := Lib.hid tt3
  go_wp2_with fail
  refine (TK.out _).mono ?_
  rintro e w3 ⟨rfl, rfl⟩
  clear j1 j2 j3 j4 s1 s2
  rcases tt3.out with ⟨rfl, rfl⟩ | ⟨rfl, tt4⟩
  · clear tt3
    obtain ⟨⟨r1, r2, r3⟩, f1, f2, f3⟩ := K.out.1.2.2.2.1.three
    have HB := Lib.hid K.out.2
    clear K
    go_wp2_with fail
    refine bodyPost_ret (v := .tuple #[.agg #[.int .i64 0, .int .i64 0, .slice none 0 0], .int .i64 8]) (by simp [results, Try.results15, go_sem, r1, r2, r3]) rfl ?_
    exact ⟨_, _, _, rfl, PRow.nil _ _, set3_below HB.out (by omega) _ _ _⟩
  clear tt3
  replace tt4 := Lib.hid tt4
  obtain ⟨⟨k1, k2, k3, k4, k5, k6⟩, -⟩ := K.out.1.2.1.six
  go_wp2_with fail
  refine (TI.out _).mono ?_
  rintro e w4 ⟨rfl, hb⟩
  replace K := Lib.hid (K.out.below hb)
  clear hb k1 k2 k3 k4 k5 k6
  go_upto_region 11 with fail
  replace K := Lib.hid (K.out.below (bel1 w4 (.cells #[.int .i64 bk.a, .int .i64 bk.b, .int .i64 bk.c, .int .i64 bk.d, .int .i64 bk.e, .int .i64 bk.f] 31)))
  generalize World.alloc w4 _ = w5 at *
  generalize w4.heap.size = g11 at *
  rcases tt4.out with ⟨d1, rfl⟩ | ⟨d1, rfl, rfl⟩
  · clear tt4
    obtain ⟨⟨r1, r2, r3⟩, f1, f2, f3⟩ := K.out.1.2.2.2.1.three
    have HB := Lib.hid K.out.2
    clear K
    go_wp2_with fail
    refine bodyPost_ret (v := .tuple #[.agg #[.int .i64 0, .int .i64 0, .slice none 0 0], .int .i64 Er]) (by simp [results, Try.results15, go_sem, r1, r2, r3]) rfl ?_
    exact ⟨_, _, _, rfl, PRow.nil _ _, set3_below HB.out (by omega) _ _ _⟩
  clear tt4
  obtain ⟨⟨j1, j2, j3, j4⟩, -⟩ := K.out.1.2.2.1.four
  go_wp2_with fail
  refine (TE.out _).mono ?_
  rintro e w6 ⟨rfl, hb⟩
  replace K := Lib.hid (K.out.below hb)
  clear hb j1 j2 j3 j4
  obtain ⟨⟨r1, r2, r3⟩, f1, f2, f3⟩ := K.out.1.2.2.2.1.three
  have HB := Lib.hid K.out.2
  clear K
  go_wp2_with fail
  refine bodyPost_ret (v := .tuple #[.agg #[.int .i64 0, .int .i64 0, .slice none 0 0], .int .i64 0]) (by simp [results, Try.results15, go_sem, r1, r2, r3]) rfl ?_
  exact ⟨_, _, _, rfl, PRow.nil _ _, set3_below HB.out (by omega) _ _ _⟩
set_option maxRecDepth 100000 in
set_option maxHeartbeats 8000000 in
theorem rsdraw_ok (W H kind ox oy : Int) (ow oh : Nat) (A : Option Addr) (c : Nat) (ps : List Px) (a bk : Af) (f : Int → Int → Px) (P1 P2 : Int → Int → Int) (w : World)
    (how : 0 < ow) (how2 : ow ≤ 256) (hoh2 : oh ≤ 256) (hox : -2097152 ≤ ox ∧ ox ≤ 2097152) (hoy : -2097152 ≤ oy ∧ oy ≤ 2097152)
    (TC : ∀ w', Below w.heap.size w w' → Calls Try.prog 33 #[.agg #[.int .i64 W, .int .i64 H, .slice A ps.length c]] w' fun e w'' => e = .returned (.int .i64 0) ∧ Below w'.heap.size w' w'')
    (TV : ∀ w, Calls Try.prog 39 #[.agg #[.int .i64 ox, .int .i64 oy, .int .i64 (ow : Int), .int .i64 (oh : Int)]] w fun e w' => e = .returned (.bool true) ∧ Below w.heap.size w w')
    (TK : ∀ w, Calls Try.prog 32 #[.int .i64 kind] w fun e w' => e = .returned (.bool true) ∧ w = w')
    (TI : ∀ w, Calls Try.prog 40 #[.agg #[.int .i64 a.a, .int .i64 a.b, .int .i64 a.c, .int .i64 a.d, .int .i64 a.e, .int .i64 a.f]] w fun e w' => e = .returned (.tuple #[.agg #[.int .i64 bk.a, .int .i64 bk.b, .int .i64 bk.c, .int .i64 bk.d, .int .i64 bk.e, .int .i64 bk.f], .int .i64 0]) ∧ Below w.heap.size w w')
    (TE : ∀ w, Calls Try.prog 41 #[.agg #[.int .i64 ox, .int .i64 oy, .int .i64 (ow : Int), .int .i64 (oh : Int)]] w fun e w' => e = .returned (.bool false) ∧ Below w.heap.size w w')
    (TAp : ∀ X Y : Nat, X < ow → Y < oh → ∀ w, Calls Try.prog 42 #[.agg #[.int .i64 bk.a, .int .i64 bk.b, .int .i64 bk.c, .int .i64 bk.d, .int .i64 bk.e, .int .i64 bk.f], .agg #[.int .i64 ((ox + (X : Int)) * 65536 + 32768), .int .i64 ((oy + (Y : Int)) * 65536 + 32768)]] w fun e w' => e = .returned (.agg #[.int .i64 (P1 X Y), .int .i64 (P2 X Y)]) ∧ Below w.heap.size w w')
    (TAt : ∀ X Y : Nat, X < ow → Y < oh → ∀ w', Below w.heap.size w w' → Calls Try.prog 34 #[.agg #[.int .i64 W, .int .i64 H, .slice A ps.length c], .int .i64 kind, .int .i64 (P1 X Y), .int .i64 (P2 X Y), .bool false] w' (PxPost (f X Y) w')) :
    Calls Try.prog 15 #[.agg #[.int .i64 W, .int .i64 H, .slice A ps.length c], .agg #[.int .i64 a.a, .int .i64 a.b, .int .i64 a.c, .int .i64 a.d, .int .i64 a.e, .int .i64 a.f], .int .i64 kind, .agg #[.int .i64 ox, .int .i64 oy, .int .i64 (ow : Int), .int .i64 (oh : Int)]] w (ImPost 0 (ow : Int) (oh : Int) (gridL (ow : Int) (oh : Int) f) w) := by
  replace TC := Lib.hid TC; replace TV := Lib.hid TV; replace TK := Lib.hid TK; replace TI := Lib.hid TI; replace TE := Lib.hid TE; replace TAp := Lib.hid TAp; replace TAt := Lib.hid TAt
  go_enter Try.func15, Try.ntmps15
  go_upto_region 1 with fail
  have K := Lib.hid (fr_four w #[.int .i64 W, .int .i64 H, .slice A ps.length c] #[.int .i64 a.a, .int .i64 a.b, .int .i64 a.c, .int .i64 a.d, .int .i64 a.e, .int .i64 a.f] #[.int .i64 ox, .int .i64 oy, .int .i64 (ow : Int), .int .i64 (oh : Int)] #[.int .i64 0, .int .i64 0, .slice none 0 0] 24 31 33 24 _ rfl)
  generalize World.alloc (World.alloc (World.alloc (w.alloc _) _) _) _ = w0 at *
  obtain ⟨⟨i1, i2, i3⟩, -⟩ := K.out.1.1.three
  go_wp2_with fail
  refine (TC.out _ K.out.2).mono ?_
  rintro e w1 ⟨rfl, hb⟩
  replace K := Lib.hid (K.out.below hb)
  clear hb i1 i2 i3
  obtain ⟨⟨j1, j2, j3, j4⟩, -⟩ := K.out.1.2.2.1.four
  go_wp2_with fail
  refine (TV.out _).mono ?_
  rintro e w2 ⟨rfl, hb⟩
  replace K := Lib.hid (K.out.below hb)
  clear hb j1 j2 j3 j4
  obtain ⟨⟨j1, j2, j3, j4⟩, -⟩ := K.out.1.2.2.1.four
  have s1 : ¬ 256 < (ow : Int) := by omega
  have s2 : ¬ 256 < (oh : Int) := by omega
  go_wp2_with fail
  refine (TK.out _).mono ?_
  rintro e w3 ⟨rfl, rfl⟩
  clear j1 j2 j3 j4 s1 s2
  obtain ⟨⟨k1, k2, k3, k4, k5, k6⟩, -⟩ := K.out.1.2.1.six
  go_wp2_with fail
  refine (TI.out _).mono ?_
  rintro e w4 ⟨rfl, hb⟩
  replace K := Lib.hid (K.out.below hb)
  clear hb k1 k2 k3 k4 k5 k6
  go_upto_region 11 with fail
  have H11 := Lib.hid (Bx.new w4 31 #[.int .i64 bk.a, .int .i64 bk.b, .int .i64 bk.c, .int .i64 bk.d, .int .i64 bk.e, .int .i64 bk.f])
  have hlo11 : w.heap.size + 4 ≤ w4.heap.size := by have := K.out.1.2.2.2.1.lt; omega
  replace K := Lib.hid (K.out.below (bel1 w4 (.cells #[.int .i64 bk.a, .int .i64 bk.b, .int .i64 bk.c, .int .i64 bk.d, .int .i64 bk.e, .int .i64 bk.f] 31)))
  generalize World.alloc w4 _ = w5 at *
  generalize w4.heap.size = g11 at *
  obtain ⟨⟨j1, j2, j3, j4⟩, -⟩ := K.out.1.2.2.1.four
  go_wp2_with fail
  refine (TE.out _).mono ?_
  rintro e w6 ⟨rfl, hb⟩
  replace K := Lib.hid (K.out.below hb); replace H11 := Lib.hid (H11.out.below hb)
  clear hb j1 j2 j3 j4 TC TV TK TI TE
  obtain ⟨⟨o1, o2, o3, o4⟩, -⟩ := K.out.1.2.2.1.four
  go_upto_region 16 with fail
  have HT0 := Lib.hid (Bx.new w6 24 #[.int .i64 (ow : Int), .int .i64 (oh : Int), .slice none 0 0])
  have HBT := Lib.hid (bel1 w6 (.cells #[.int .i64 (ow : Int), .int .i64 (oh : Int), .slice none 0 0] 24))
  have hlk := K.out.1.2.2.2.1.lt
  have hsz6 := K.out.2.size
  have hl11 := H11.out.lt
  generalize World.alloc w6 _ = w7 at *
  have hL := grid_len_nat ow oh f
  have hG := fun x y (hx : x < ow) (hy : y < oh) => grid_nat (a := ow) (b := oh) f (x := x) (y := y) hx hy
  have HL := Lib.hid hL; have HG := Lib.hid hG
  clear hL hG
  generalize hLL : gridL (ow : Int) (oh : Int) f = L at *
  have HLL := Lib.hid hLL
  clear hLL o1 o2 o3 o4
  have KK := Lib.hid (show ∀ wr, Below w6.heap.size w6 wr → Fr w _ wr from fun wr hb => K.out.below hb)
  have K11 := Lib.hid (show ∀ wr, Below w6.heap.size w6 wr → Bx wr g11 31 #[.int .i64 bk.a, .int .i64 bk.b, .int .i64 bk.c, .int .i64 bk.d, .int .i64 bk.e, .int .i64 bk.f] from fun wr hb => H11.out.below hb)
  go_upto_region 17 with fail
  go_loopg [14] oh (OutRel (ow : Int) (oh : Int) L w6.heap.size w6 ow oh)
  case atStart => exact ⟨0, Nat.zero_le _, rfl, rfl, by rw [Nat.zero_mul]; exact GridRel.start HT0.out HBT.out⟩
  case round =>
    clear HT0 HBT K H11
    obtain ⟨Y, hY, rfl, rfl, hgr⟩ := hrel
    obtain ⟨v, hbx', hrw, hbr⟩ := id hgr
    obtain ⟨⟨o1, o2, o3, o4⟩, -⟩ := (KK.out _ hbr).1.2.2.1.four
    by_cases hlt : Y < oh
    · have hlti : (Y : Int) < (oh : Int) := by omega
      go_upto_region 20 with fail
      clear o1 o2 o3 o4 hbx' hrw hbr
      go_loopg [15] ow (InRel (ow : Int) (oh : Int) L w6.heap.size w6 ow Y)
      case atStart => exact ⟨0, Nat.zero_le _, rfl, rfl, hgr⟩
      case round =>
        clear hgr
        obtain ⟨X, hX, rfl, rfl, hgr⟩ := hrel
        obtain ⟨v, hbx', hrw, hbr⟩ := id hgr
        obtain ⟨⟨o1, o2, o3, o4⟩, -⟩ := (KK.out _ hbr).1.2.2.1.four
        by_cases hlt2 : X < ow
        · have hlti2 : (X : Int) < (ow : Int) := by omega
          have HQ := Lib.hid (grid_idx hlt2 hlt)
          have HF := Lib.hid (HG.out X Y hlt2 hlt)
          have TPn := Lib.hid (TAp.out X Y hlt2 hlt); have TSn := Lib.hid (TAt.out X Y hlt2 hlt)
          have HBX := Lib.hid hbx'; have HRW := Lib.hid hrw; have HBR := Lib.hid hbr
          have KR := Lib.hid (KK.out _ hbr)
          obtain ⟨⟨k1, k2, k3, k4, k5, k6⟩, -⟩ := (K11.out _ hbr).six
          clear hgr hbx' hrw hbr
          have m1 := wrap_in (ox + (X : Int)) (by omega); have m2 := wrap_in ((ox + (X : Int)) * 65536) (by omega); have m3 := wrap_in ((ox + (X : Int)) * 65536 + 32768) (by omega)
          have m4 := wrap_in (oy + (Y : Int)) (by omega); have m5 := wrap_in ((oy + (Y : Int)) * 65536) (by omega); have m6 := wrap_in ((oy + (Y : Int)) * 65536 + 32768) (by omega)
          have HXE := Lib.hid (IntWalk.wrap64_in ((X : Int) + 1) (by omega))
          generalize P1 X Y = p1 at *
          generalize P2 X Y = p2 at *
          generalize f X Y = pz at *
          go_wp2_with fail
          refine (TPn.out _).mono ?_
          rintro e w8 ⟨rfl, hb⟩
          clear o1 o2 o3 o4 k1 k2 k3 k4 k5 k6 m1 m2 m3 m4 m5 m6 TPn
          go_upto_region 23 with fail
          have H16 := Lib.hid (Bx.new w8 49 #[.int .i64 p1, .int .i64 p2])
          have HBW := Lib.hid (bel_alloc hb (.cells #[.int .i64 p1, .int .i64 p2] 49))
          clear hb
          generalize World.alloc w8 _ = w9 at *
          generalize w8.heap.size = g16 at *
          have hbx9 := HBX.out.below HBW.out; have hrw9 := HRW.out.below HBW.out
          have hB9 : Below w6.heap.size w6 w9 := HBR.out.trans (HBW.out.mono HBR.out.size)
          have HBX9 := Lib.hid hbx9; have HRW9 := Lib.hid hrw9
          have hlr := hbx9.lt
          have hq := Nat.le_of_lt HQ.out
          rw [← HL.out] at hq
          have hQL : Y * ow + X < L.length := by rw [HL.out]; exact HQ.out
          obtain ⟨A1, cap1, rfl⟩ := hrw9.nshape (take_len hq)
          obtain ⟨⟨t1, t2, t3⟩, _, _, _⟩ := hbx9.three
          obtain ⟨⟨i1, i2, i3⟩, -⟩ := (KK.out _ hB9).1.1.three
          obtain ⟨⟨d1, d2⟩, -⟩ := H16.out.two
          have HAT := Lib.hid (TSn.out w9.drew (KK.out _ hB9).2.drew)
          have hBr' : Below w6.heap.size w6 w9.drew := hB9.drew
          have hszr : w6.heap.size ≤ w9.drew.heap.size := hB9.size
          have HQL := Lib.hid hQL
          clear hbx9 hrw9 hB9 HBX HRW HBR HBW KR H16 TSn hq hQL
          go_region_law (first
            | (refine samp_step _ (by rfl) _ _ _ _ _ (by rfl) pz _ _ _ _ (by rfl) (by rfl) (by rfl) (by rfl) HAT.out ?_; intro w16 hb6; have hB6 := hBr'.trans (hb6.mono hszr); have hlt6 := Nat.lt_of_lt_of_le hlr hb6.size; obtain ⟨⟨t4, t5, t6⟩, _, _, _⟩ := (HBX9.out.drew.below hb6).three)
            | (refine rppush_step _ (by rfl) _ _ (by rfl) (w6.heap.size + 1) _ _ (by rfl) (HRW9.out.drew.below hb6) pz _ (by rfl) (by rfl) (by rw [take_len (Nat.le_of_lt HQL.out), HL.out] at *; exact qbig (Nat.le_of_lt HQ.out) how2 hoh2) (by have := hb6.size; exact Nat.le_trans (show w6.heap.size + 1 ≤ w9.heap.size by omega) this) ?_; intro v' w18 hown8 hb8; have hB9 := hB6.trans (hb8.mono (Nat.le_succ _)); obtain ⟨A5, cap5, rfl⟩ := hown8.nshape (n := Y * ow + X + 1) (by rw [List.length_append, take_len (Nat.le_of_lt HQL.out)]; rfl); have hB8 := (HBX9.out.drew.below hb6).low (Nat.lt_succ_self _) hb8; obtain ⟨⟨s1, s2, s3⟩, sf1, sf2, sf3⟩ := hB8.three))
          all_goals
            go_wp2_with fail
            go_roundg (ow - (X + 1))
            case measure => omega
            case rel => exact ⟨X + 1, by omega, rfl, by go_num, GridRel.step (HBX9.out.drew.below hb6) hB6 hown8 hb8 HQL.out HF.out⟩
        · obtain rfl : X = ow := by omega
          have HGR := Lib.hid hgr
          clear hgr hbx' hrw hbr
          go_wp2_with fail
          go_roundg (oh - (Y + 1))
          case measure => omega
          case rel => exact ⟨Y + 1, by omega, rfl, by go_num, by rw [Nat.add_mul, Nat.one_mul]; exact HGR.out⟩
    · obtain rfl : Y = oh := by omega
      have hall : L.take (Y * ow) = L := by rw [Nat.mul_comm, ← HL.out, List.take_length]
      rw [hall] at hrw
      obtain ⟨A1, cap1, rfl⟩ := hrw.shape
      have hc8 := (KK.out _ hbr).1.2.2.2.1
      obtain ⟨⟨r1, r2, r3⟩, f1, f2, f3⟩ := hc8.three
      obtain ⟨⟨m1, m2, m3⟩, -⟩ := hbx'.three
      have HR := Lib.hid hrw
      have HK := Lib.hid (KK.out _ hbr).2
      clear hrw hbr hc8 hbx' hgr hall
      go_wp2_with fail
      refine bodyPost_ret (v := .tuple #[.agg #[.int .i64 (ow : Int), .int .i64 (Y : Int), .slice A1 L.length cap1], .int .i64 0]) (by simp [results, Try.results15, go_sem, r1, r2, r3]) rfl ?_
      have hg5 : w.heap.size + 1 + 1 + 1 < w6.heap.size + 1 := by omega
      have hg6 : w.heap.size ≤ w6.heap.size + 1 := by omega
      have e := HLL.out
      subst e
      refine ⟨A1, _, cap1, rfl, ?_, ?_⟩
      · exact PRow.set3 HR.out hg5 hg6 _ _ _
      · exact set3_below HK.out (by omega) _ _ _
end Go.Proofs.Ytineinmghajmnaa
