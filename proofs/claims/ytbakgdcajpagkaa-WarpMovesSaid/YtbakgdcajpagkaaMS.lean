/- The reference's Draw. -/
import Derived.Test.YtbakgdcajpagkaaMQ
import Derived.Test.YtbakgdcajpagkaaMI
import Derived.Test.YtbakgdcajpagkaaMR
import Derived.Test.YtbakgdcajpagkaaML
import Derived.Test.YtbakgdcajpagkaaMM
import Derived.Deep.CutBlock
import Derived.Deep.LoopGhost
import Derived.Deep.RegionLaw
import Derived.StillTailTactics
namespace Go.Proofs.Ytbakgdcajpagkaa
open Go.RowKit
theorem qbig {q a b : Nat} (h : q ≤ a * b) (ha : a ≤ 256) (hb : b ≤ 256) : q ≤ 1000000000000 := by
  have : a * b ≤ 256 * 256 := Nat.mul_le_mul ha hb
  omega
/-- The pixel of a place. -/
def gdot (px : Int → Int → Px) (kind x y dx dy : Int) : Px := wmean (wpre px (tapFirst kind (x * 65536 + 32768 + dx)) (tapFirst kind (y * 65536 + 32768 + dy)) (taps kind (x * 65536 + 32768 + dx)) (taps kind (y * 65536 + 32768 + dy)) (taps kind (y * 65536 + 32768 + dy)).length 0)
theorem fr_six' (w : World) (a b c d e f : Array Value) (ta tb tc td te tf : TypeId) (w0 : World) (hw : w0 = (((((w.alloc (.cells a ta)).alloc (.cells b tb)).alloc (.cells c tc)).alloc (.cells d td)).alloc (.cells e te)).alloc (.cells f tf)) : Fr w [(ta, a), (tb, b), (tc, c), (td, d), (te, e), (tf, f)] w0 := by
  obtain ⟨⟨k1, k2, k3, k4, -⟩, hB⟩ := fr_four w a b c d ta tb tc td _ rfl
  subst hw
  have n5 := Bx.new ((((w.alloc (.cells a ta)).alloc (.cells b tb)).alloc (.cells c tc)).alloc (.cells d td)) te e
  have n6 := Bx.new (((((w.alloc (.cells a ta)).alloc (.cells b tb)).alloc (.cells c tc)).alloc (.cells d td)).alloc (.cells e te)) tf f
  simp only [World.size_alloc] at n5 n6
  exact ⟨⟨(k1.alloc _).alloc _, (k2.alloc _).alloc _, (k3.alloc _).alloc _, (k4.alloc _).alloc _, n5.alloc _, n6, trivial⟩, bel_alloc (bel_alloc hB _) _⟩
/-- append(s, p) on a slice of pixels of the call's own, behind the block of the one element: where the new slice lies. -/
theorem ppush_at (w : World) {ops : Array Oper} {rest : List Oper} {o : Oper} {a : Act} {Q : Exit → Act → World → Prop} (hgd : o.guard = none) (s x : Operand)
    (ho : o.op = .call { callee := .builtin .append, args := #[s, x], argTypes := #[38, 38] }) (B : Nat) (v : Value) (ps : List Px) (hs : a.eval s = v) (hown : PRow w B v ps)
    (p : Px) (gx : Nat) (hx : a.eval x = .slice (some ⟨gx, 0, none⟩) 1 1) (hgx : gx = w.heap.size) (hl : ps.length ≤ 1000000) (hB : B ≤ w.heap.size)
    (h : ∀ v' w', PRow w' B v' (ps ++ [p]) → w.grownBy w' v.ownBlock → (∀ k, v'.ownBlock = some k → v.ownBlock = some k ∨ w.heap.size ≤ k) → wpList Try.prog ops Q rest (a.put o.dst v') w') :
    wpList Try.prog ops Q (o :: rest) a (w.alloc (.cells #[.int .i64 p.r, .int .i64 p.g, .int .i64 p.b, .int .i64 p.a] 48)) := by
  subst hgx
  obtain ⟨i0, hi0, hz0, hz1, hz2⟩ := info_parts Try.infoPx
  refine wpList_append_own_at _ hgd s x 38 ho B 48 i0 _ 4 32 Try.underlying38 hi0 hz0 hz1 hz2 rfl (by decide) v _ _ hs (hown.alloc _) ⟨w.heap.size, 0, none⟩ 1 1 [.int .i64 p.r, .int .i64 p.g, .int .i64 p.b, .int .i64 p.a] hx rfl ?_ ?_ ?_ ?_ (Nat.le_trans hB (by simp)) ?_
  · intro j u hj
    match j, hj with
    | 0, hj => simp at hj; subst hj; simp [Addr.add]
    | 1, hj => simp at hj; subst hj; simp [Addr.add]
    | 2, hj => simp at hj; subst hj; simp [Addr.add]
    | 3, hj => simp at hj; subst hj; simp [Addr.add]
  · intro u hu; simp at hu; rcases hu with rfl | rfl | rfl | rfl <;> rfl
  · unfold maxLen; omega
  · omega
  · intro v' w' hown' hg _ hat
    refine h v' w' ?_ ?_ ?_
    · unfold PRow FRow
      rw [List.length_append, flat4_append, List.map_append]
      exact hown'
    · have h0 := World.grownBy_alloc w (.cells #[.int .i64 p.r, .int .i64 p.g, .int .i64 p.b, .int .i64 p.a] 48) v.ownBlock
      exact ⟨hg.os.trans h0.os, hg.tape.trans h0.tape, hg.output.trans h0.output, Nat.le_trans h0.size hg.size, fun k hk hn => (hg.block k (Nat.lt_of_lt_of_le hk h0.size) hn).trans (h0.block k hk hn)⟩
    · intro k hk
      rcases hat with e | e
      · left; rw [← e, hk]
      · right; rw [hk] at e; injection e with e; rw [e]; simp
/-- append(v, y) inside a region that draws its order: where the new slice lies. -/
theorem ipush_at_step (w : World) {ops : Array Oper} {o : Oper} {a : Act} {K : Act → World → Prop} {Q : Exit → Act → World → Prop} {F : Prop} (hgd : o.guard = none) (so x : Operand)
    (ho : o.op = .call { callee := .builtin .append, args := #[so, x], argTypes := #[63, 63] }) (B : Nat) (v : Value) (xs : List Int) (hv : a.eval so = v) (hown : IRow w B v xs)
    (g : Nat) (y : Int) (hx : a.eval x = .slice (some ⟨g, 0, none⟩) 1 1) (hc : w.cell? ⟨g, 0, none⟩ = some (.int .i64 y)) (hl : xs.length ≤ 1000000000000) (hB : B ≤ w.heap.size)
    (h : ∀ v' w', IRow w' B v' (xs ++ [y]) → w.grownBy w' v.ownBlock → (∀ k, v'.ownBlock = some k → v.ownBlock = some k ∨ w.heap.size ≤ k) → K (a.put o.dst v') w') : if Region.wanted o (yielded ops a.tmps) = true then Oper.wp Try.prog o a w K Q else F := by
  have hw : Region.wanted o (yielded ops a.tmps) = true := by simp [Region.wanted, hgd]
  rw [if_pos hw]
  obtain ⟨i0, hi0, hz0, hz1, hz2⟩ := info_parts Try.infoInt
  obtain ⟨v', w', hr, h2, h3, h4, h5⟩ := run_append_own_at (P := Try.prog) w B 63 o.type 3 i0 (.int .i64 0) 1 8 Try.underlying63 hi0 hz0 hz1 hz2 rfl (by decide) v _ _ hown ⟨g, 0, none⟩ 1 1 [.int .i64 y] rfl (by
    intro j u hj
    match j, hj with
    | 0, hj => simp at hj; subst hj; simpa [Addr.add] using hc) (by intro u hu; simp at hu; subst hu; rfl) (by unfold maxLen; omega) (by omega) hB
  unfold Oper.wp execOp
  simp only [ho, resolve, invoke, builtin, Sem.run_bind, Sem.run_pure, Result.andThen_ok, List.map_toArray, List.map_cons, List.map_nil, hv, hx, hr]
  refine h v' w' ?_ h3 fun k hk => ?_
  · unfold IRow
    simpa using h2
  · rcases h5 with e | e
    · left; rw [← e, hk]
    · right; rw [hk] at e; injection e with e; rw [e]; exact Nat.le_refl _
/-- Two slices of the call's own, one of weights and one of pixels, that lie apart. -/
structure Two (xs : List Int) (ps : List Px) (wb : World) (vw vp : Value) (w : World) : Prop where
  x : IRow w wb.heap.size vw xs
  p : PRow w wb.heap.size vp ps
  ne : ∀ k, vw.ownBlock = some k → vp.ownBlock ≠ some k
  b : Below wb.heap.size wb w
section
variable {xs : List Int} {ps : List Px} {wb w w' : World} {vw vp v' : Value}
theorem Two.start (w : World) : Two [] [] w (.slice none 0 0) (.slice none 0 0) w := ⟨IRow.nil _ _, PRow.nil _ _, fun k h => (by cases h), Below.refl _ _⟩
theorem Two.below (h : Two xs ps wb vw vp w) (hb : Below w.heap.size w w') : Two xs ps wb vw vp w' := ⟨h.x.below hb, h.p.below hb, h.ne, bel_trans h.b hb⟩
theorem Two.drew (h : Two xs ps wb vw vp w) : Two xs ps wb vw vp w.drew := h.below (Below.refl _ _).drew
theorem below_grown {B : Nat} {a : World} {row : Option Nat} (h : Below B a w) (hg : w.grownBy w' row) (hB : B ≤ w.heap.size) (hr : ∀ k, row = some k → B ≤ k) : Below B a w' := h.grown hg hB hr
theorem prow_lt {B : Nat} (h : PRow w B vp ps) {k : Nat} (hk : vp.ownBlock = some k) : B ≤ k ∧ k < w.heap.size := World.ownsRow.lt h k hk
theorem prow_kept {B : Nat} {row : Option Nat} (h : PRow w B vp ps) (hg : w.grownBy w' row) (hne : ∀ k, vp.ownBlock = some k → row ≠ some k) : PRow w' B vp ps := by
  refine World.ownsRow.kept h hg ?_
  cases e : vp.ownBlock with
  | none => exact .inl rfl
  | some k => exact .inr (fun e' => hne k e e'.symm)
theorem Two.pushX (h : Two xs ps wb vw vp w) {ys : List Int} (hx : IRow w' wb.heap.size v' ys) (hg : w.grownBy w' vw.ownBlock) (ha : ∀ k, v'.ownBlock = some k → vw.ownBlock = some k ∨ w.heap.size ≤ k) : Two ys ps wb v' vp w' := by
  refine ⟨hx, prow_kept h.p hg fun k hk e => h.ne k e hk, fun k hk e => ?_, h.b.grown hg h.b.size fun k hk => (irow_lt h.x hk).1⟩
  rcases ha k hk with e1 | e1
  · exact h.ne k e1 e
  · have := (prow_lt h.p e).2; omega
theorem Two.pushP (h : Two xs ps wb vw vp w) {qs : List Px} (hp : PRow w' wb.heap.size v' qs) (hg : w.grownBy w' vp.ownBlock) (ha : ∀ k, v'.ownBlock = some k → vp.ownBlock = some k ∨ w.heap.size ≤ k) : Two xs qs wb vw v' w' := by
  refine ⟨irow_kept h.x hg fun k hk e => h.ne k hk e, hp, fun k hk e => ?_, h.b.grown hg h.b.size fun k hk => (prow_lt h.p hk).1⟩
  rcases ha k e with e1 | e1
  · exact h.ne k hk e1
  · have := (irow_lt h.x hk).2; omega
end
def WoRel (W H : Int) (l : List Px) (gt : Nat) (wb : World) (a b : Nat) (oy : Int) (gh : Nat) (i : Value) (wr : World) : Prop := ∃ y : Nat, y ≤ b ∧ gh = b - y ∧ i = .int .i64 (oy + y) ∧ GridRel W H l gt wb (y * a) wr
def WiRel (W H : Int) (l : List Px) (gt : Nat) (wb : World) (a y : Nat) (ox : Int) (gh : Nat) (i : Value) (wr : World) : Prop := ∃ x : Nat, x ≤ a ∧ gh = a - x ∧ i = .int .i64 (ox + x) ∧ GridRel W H l gt wb (y * a + x) wr
def RoRel (px : Int → Int → Px) (fx fy : Int) (us vs : List Int) (wb : World) (gh : Nat) (vw vp i : Value) (wr : World) : Prop :=
  ∃ k : Nat, k ≤ vs.length ∧ gh = vs.length - k ∧ i = .int .i64 k ∧ Two ((wpre px fx fy us vs k 0).map (·.1)) ((wpre px fx fy us vs k 0).map (·.2)) wb vw vp wr
def RiRel (px : Int → Int → Px) (fx fy : Int) (us vs : List Int) (k : Nat) (wb : World) (gh : Nat) (vw vp i : Value) (wr : World) : Prop :=
  ∃ j : Nat, j ≤ us.length ∧ gh = us.length - j ∧ i = .int .i64 j ∧ Two ((wpre px fx fy us vs k j).map (·.1)) ((wpre px fx fy us vs k j).map (·.2)) wb vw vp wr
/-- The reference's Blend, of slices that hold something. -/
theorem rblend_val (L : List (Int × Px)) (v1 v2 : Value) (w : World) (hS : Small L) (h0 : 0 < L.length) (h1 : Ints w w.heap.size v1 (L.map (·.1))) (h2 : Pixs w w.heap.size v2 (L.map (·.2))) :
    Calls Try.prog 56 #[v1, v2] w (PxPost (wmean L) w) := by
  have g1 := h1; have g2 := h2
  obtain ⟨B1, d1, e1, -, q1⟩ := h1
  obtain ⟨B2, d2, e2, -, q2⟩ := h2
  subst e1 e2
  exact rblend_any L _ _ _ _ _ _ w hS h0 g1 g2
/-- A call of Blend inside a region that draws its order. -/
theorem blend_step (w : World) {ops : Array Oper} {o : Oper} {a : Act} {K : Act → World → Prop} {Q : Exit → Act → World → Prop} {F : Prop} (hgd : o.guard = none) (i x : Nat)
    (ho : o.op = .call { callee := .value (.func 56), args := #[.tmp i, .tmp x], argTypes := #[63, 38] }) (u : Px) (v1 v2 : Value)
    (h1 : a.tmps[i]?.getD undef = v1) (h2 : a.tmps[x]?.getD undef = v2)
    (hc : Calls Try.prog 56 #[v1, v2] w (PxPost u w))
    (h : ∀ w', Below w.heap.size w w' → K (a.put o.dst (.agg #[.int .i64 u.r, .int .i64 u.g, .int .i64 u.b, .int .i64 u.a])) w') :
    if Region.wanted o (yielded ops a.tmps) = true then Oper.wp Try.prog o a w K Q else F := by
  have hw : Region.wanted o (yielded ops a.tmps) = true := by simp [Region.wanted, hgd]
  rw [if_pos hw]
  unfold Oper.wp
  simp [execOp, ho, resolve, invoke, h1, h2, go_sem]
  refine hc.mono ?_
  rintro e w' ⟨rfl, hb⟩
  exact h w' hb
/-- append(v, p) inside a region that draws its order, p in a new block. -/
theorem rppush_step (w : World) {ops : Array Oper} {o : Oper} {a : Act} {K : Act → World → Prop} {Q : Exit → Act → World → Prop} {F : Prop} (hgd : o.guard = none) (s x : Operand)
    (ho : o.op = .call { callee := .builtin .append, args := #[s, x], argTypes := #[38, 38] }) (B : Nat) (v : Value) (ps : List Px) (hs : a.eval s = v) (hown : PRow w B v ps)
    (p : Px) (gx : Nat) (hx : a.eval x = .slice (some ⟨gx, 0, none⟩) 1 1) (hgx : gx = w.heap.size) (hl : ps.length ≤ 1000000000000) (hB : B ≤ w.heap.size)
    (h : ∀ v' w', PRow w' B v' (ps ++ [p]) → Below B w w' → K (a.put o.dst v') w') :
    if Region.wanted o (yielded ops a.tmps) = true then Oper.wp Try.prog o a (w.alloc (.cells #[.int .i64 p.r, .int .i64 p.g, .int .i64 p.b, .int .i64 p.a] 48)) K Q else F := by
  subst hgx
  obtain ⟨i0, hi0, hz0, hz1, hz2⟩ := info_parts Try.infoPx
  refine fpush_step 48 4 38 32 i0 _ Try.underlying38 hi0 hz0 hz1 hz2 rfl (by omega) (by omega) _ hgd s x ho B v ps.length (flat4 ps) hs (FRow.alloc hown _) w.heap.size [p.r, p.g, p.b, p.a] hx rfl ?_ hl (Nat.le_trans hB (by simp)) fun v' w' h1 h2 => h v' w' ?_ (((Below.refl _ _).alloc hB _).trans h2)
  · exact cells_new w 48 [p.r, p.g, p.b, p.a]
  · unfold PRow
    rw [List.length_append, flat4_append]
    exact h1
set_option maxRecDepth 100000 in
set_option maxHeartbeats 8000000 in
theorem rdraw_e1 (W H ax ay bx by' bw bh C R S kind ox oy ow oh : Int) (sl : Value) (A : Option Addr) (c : Nat) (ps : List Px) (E : Int) (w : World)
    (hE : (E != 0) = true)
    (TC : ∀ w', Below w.heap.size w w' → Calls Try.prog 53 #[.agg #[.int .i64 W, .int .i64 H, .slice A ps.length c]] w' fun e w'' => e = .returned (.int .i64 E) ∧ Below w'.heap.size w' w'') :
    Calls Try.prog 20 #[.agg #[.int .i64 W, .int .i64 H, .slice A ps.length c], .agg #[.int .i64 ax, .int .i64 ay], .agg #[.int .i64 bx, .int .i64 by', .int .i64 bw, .int .i64 bh], .agg #[.int .i64 C, .int .i64 R, .int .i64 S, sl], .int .i64 kind, .agg #[.int .i64 ox, .int .i64 oy, .int .i64 (ow : Int), .int .i64 (oh : Int)]] w (ImPost E 0 0 [] w) := by
  replace TC := Lib.hid TC
  go_enter Try.func20, Try.ntmps20
  go_upto_region 1 with fail
  have K := Lib.hid (fr_six' w #[.int .i64 W, .int .i64 H, .slice A ps.length c] #[.int .i64 ax, .int .i64 ay] #[.int .i64 bx, .int .i64 by', .int .i64 bw, .int .i64 bh] #[.int .i64 C, .int .i64 R, .int .i64 S, sl] #[.int .i64 ox, .int .i64 oy, .int .i64 (ow : Int), .int .i64 (oh : Int)] #[.int .i64 0, .int .i64 0, .slice none 0 0] 40 28 34 24 34 40 _ rfl)
  generalize World.alloc (World.alloc (World.alloc (World.alloc (World.alloc (w.alloc _) _) _) _) _) _ = w0 at *
  obtain ⟨⟨i1, i2, i3⟩, -⟩ := K.out.1.1.three
  go_wp2_with fail
  refine (TC.out _ K.out.2).mono ?_
  rintro e w1 ⟨rfl, hb⟩
  replace K := Lib.hid (K.out.below hb)
  clear hb i1 i2 i3
  have HB := Lib.hid K.out.2
  obtain ⟨⟨r1, r2, r3⟩, f1, f2, f3⟩ := K.out.1.2.2.2.2.2.1.three
  go_wp2_with fail
  refine bodyPost_ret (v := .tuple #[.agg #[.int .i64 0, .int .i64 0, .slice none 0 0], .int .i64 E]) (by simp [results, Try.results20, go_sem, r1, r2, r3]) rfl ?_
  exact ⟨_, _, _, rfl, PRow.nil _ _, set3_below HB.out (by omega) _ _ _⟩
set_option maxRecDepth 100000 in
set_option maxHeartbeats 8000000 in
theorem rdraw_e2 (W H ax ay bx by' bw bh C R S kind ox oy ow oh : Int) (sl : Value) (A : Option Addr) (c : Nat) (ps : List Px) (E : Int) (w : World)
    (hE : (E != 0) = true)
    (TC : ∀ w', Below w.heap.size w w' → Calls Try.prog 53 #[.agg #[.int .i64 W, .int .i64 H, .slice A ps.length c]] w' fun e w'' => e = .returned (.int .i64 0) ∧ Below w'.heap.size w' w'')
    (TN : ∀ w', Below w.heap.size w w' → Calls Try.prog 18 #[.agg #[.int .i64 C, .int .i64 R, .int .i64 S, sl], .int .i64 kind, .agg #[.int .i64 ox, .int .i64 oy, .int .i64 (ow : Int), .int .i64 (oh : Int)], .agg #[.int .i64 bx, .int .i64 by', .int .i64 bw, .int .i64 bh]] w' fun e w'' => e = .returned (.tuple #[.agg #[.int .i64 0, .int .i64 0, .int .i64 0, .int .i64 0], .int .i64 E]) ∧ Below w'.heap.size w' w'') :
    Calls Try.prog 20 #[.agg #[.int .i64 W, .int .i64 H, .slice A ps.length c], .agg #[.int .i64 ax, .int .i64 ay], .agg #[.int .i64 bx, .int .i64 by', .int .i64 bw, .int .i64 bh], .agg #[.int .i64 C, .int .i64 R, .int .i64 S, sl], .int .i64 kind, .agg #[.int .i64 ox, .int .i64 oy, .int .i64 (ow : Int), .int .i64 (oh : Int)]] w (ImPost E 0 0 [] w) := by
  replace TC := Lib.hid TC; replace TN := Lib.hid TN
  go_enter Try.func20, Try.ntmps20
  go_upto_region 1 with fail
  have K := Lib.hid (fr_six' w #[.int .i64 W, .int .i64 H, .slice A ps.length c] #[.int .i64 ax, .int .i64 ay] #[.int .i64 bx, .int .i64 by', .int .i64 bw, .int .i64 bh] #[.int .i64 C, .int .i64 R, .int .i64 S, sl] #[.int .i64 ox, .int .i64 oy, .int .i64 (ow : Int), .int .i64 (oh : Int)] #[.int .i64 0, .int .i64 0, .slice none 0 0] 40 28 34 24 34 40 _ rfl)
  generalize World.alloc (World.alloc (World.alloc (World.alloc (World.alloc (w.alloc _) _) _) _) _) _ = w0 at *
  obtain ⟨⟨i1, i2, i3⟩, -⟩ := K.out.1.1.three
  go_wp2_with fail
  refine (TC.out _ K.out.2).mono ?_
  rintro e w1 ⟨rfl, hb⟩
  replace K := Lib.hid (K.out.below hb)
  clear hb i1 i2 i3
  obtain ⟨⟨b1, b2, b3, b4⟩, -⟩ := K.out.1.2.2.1.four
  obtain ⟨⟨p1, p2, p3, p4⟩, -⟩ := K.out.1.2.2.2.1.four
  obtain ⟨⟨o1, o2, o3, o4⟩, -⟩ := K.out.1.2.2.2.2.1.four
  go_wp2_with fail
  refine (TN.out _ K.out.2).mono ?_
  rintro e w2 ⟨rfl, hb⟩
  replace K := Lib.hid (K.out.below hb)
  clear hb b1 b2 b3 b4 p1 p2 p3 p4 o1 o2 o3 o4
  go_upto_region 5 with fail
  have K15 := Lib.hid (Bx.new w2 34 #[.int .i64 0, .int .i64 0, .int .i64 0, .int .i64 0])
  replace K := Lib.hid (K.out.below (bel1 w2 (.cells #[.int .i64 0, .int .i64 0, .int .i64 0, .int .i64 0] 34)))
  generalize World.alloc w2 _ = w3 at *
  generalize w2.heap.size = g15 at *
  have HB := Lib.hid K.out.2
  obtain ⟨⟨r1, r2, r3⟩, f1, f2, f3⟩ := K.out.1.2.2.2.2.2.1.three
  go_wp2_with fail
  refine bodyPost_ret (v := .tuple #[.agg #[.int .i64 0, .int .i64 0, .slice none 0 0], .int .i64 E]) (by simp [results, Try.results20, go_sem, r1, r2, r3]) rfl ?_
  exact ⟨_, _, _, rfl, PRow.nil _ _, set3_below HB.out (by omega) _ _ _⟩
set_option maxRecDepth 100000 in
set_option maxHeartbeats 8000000 in
theorem rdraw_e3 (W H ax ay bx by' bw bh C R S kind ox oy ow oh : Int) (sl : Value) (A : Option Addr) (c : Nat) (ps : List Px) (nx ny nw nh : Int) (w : World)
    (TC : ∀ w', Below w.heap.size w w' → Calls Try.prog 53 #[.agg #[.int .i64 W, .int .i64 H, .slice A ps.length c]] w' fun e w'' => e = .returned (.int .i64 0) ∧ Below w'.heap.size w' w'')
    (TN : ∀ w', Below w.heap.size w w' → Calls Try.prog 18 #[.agg #[.int .i64 C, .int .i64 R, .int .i64 S, sl], .int .i64 kind, .agg #[.int .i64 ox, .int .i64 oy, .int .i64 (ow : Int), .int .i64 (oh : Int)], .agg #[.int .i64 bx, .int .i64 by', .int .i64 bw, .int .i64 bh]] w' fun e w'' => e = .returned (.tuple #[.agg #[.int .i64 nx, .int .i64 ny, .int .i64 nw, .int .i64 nh], .int .i64 0]) ∧ Below w'.heap.size w' w'')
    (hsh : nx < ax ∨ ny < ay ∨ ax < nx + nw - W ∨ ay < ny + nh - H)
    (hW : 0 ≤ W ∧ W ≤ 1000000) (hH : 0 ≤ H ∧ H ≤ 1000000) (hnx : -4194304 ≤ nx ∧ nx ≤ 4194304) (hny : -4194304 ≤ ny ∧ ny ≤ 4194304) (hnw : 0 ≤ nw ∧ nw ≤ 4194304) (hnh : 0 ≤ nh ∧ nh ≤ 4194304) :
    Calls Try.prog 20 #[.agg #[.int .i64 W, .int .i64 H, .slice A ps.length c], .agg #[.int .i64 ax, .int .i64 ay], .agg #[.int .i64 bx, .int .i64 by', .int .i64 bw, .int .i64 bh], .agg #[.int .i64 C, .int .i64 R, .int .i64 S, sl], .int .i64 kind, .agg #[.int .i64 ox, .int .i64 oy, .int .i64 (ow : Int), .int .i64 (oh : Int)]] w (ImPost 15 0 0 [] w) := by
  replace TC := Lib.hid TC; replace TN := Lib.hid TN
  go_enter Try.func20, Try.ntmps20
  go_upto_region 1 with fail
  have K := Lib.hid (fr_six' w #[.int .i64 W, .int .i64 H, .slice A ps.length c] #[.int .i64 ax, .int .i64 ay] #[.int .i64 bx, .int .i64 by', .int .i64 bw, .int .i64 bh] #[.int .i64 C, .int .i64 R, .int .i64 S, sl] #[.int .i64 ox, .int .i64 oy, .int .i64 (ow : Int), .int .i64 (oh : Int)] #[.int .i64 0, .int .i64 0, .slice none 0 0] 40 28 34 24 34 40 _ rfl)
  generalize World.alloc (World.alloc (World.alloc (World.alloc (World.alloc (w.alloc _) _) _) _) _) _ = w0 at *
  obtain ⟨⟨i1, i2, i3⟩, -⟩ := K.out.1.1.three
  go_wp2_with fail
  refine (TC.out _ K.out.2).mono ?_
  rintro e w1 ⟨rfl, hb⟩
  replace K := Lib.hid (K.out.below hb)
  clear hb i1 i2 i3
  obtain ⟨⟨b1, b2, b3, b4⟩, -⟩ := K.out.1.2.2.1.four
  obtain ⟨⟨p1, p2, p3, p4⟩, -⟩ := K.out.1.2.2.2.1.four
  obtain ⟨⟨o1, o2, o3, o4⟩, -⟩ := K.out.1.2.2.2.2.1.four
  go_wp2_with fail
  refine (TN.out _ K.out.2).mono ?_
  rintro e w2 ⟨rfl, hb⟩
  replace K := Lib.hid (K.out.below hb)
  clear hb b1 b2 b3 b4 p1 p2 p3 p4 o1 o2 o3 o4
  go_upto_region 5 with fail
  have K15 := Lib.hid (Bx.new w2 34 #[.int .i64 nx, .int .i64 ny, .int .i64 nw, .int .i64 nh])
  replace K := Lib.hid (K.out.below (bel1 w2 (.cells #[.int .i64 nx, .int .i64 ny, .int .i64 nw, .int .i64 nh] 34)))
  generalize World.alloc w2 _ = w3 at *
  generalize w2.heap.size = g15 at *
  obtain ⟨⟨i1, i2, i3⟩, -⟩ := K.out.1.1.three
  obtain ⟨⟨a1, a2⟩, -⟩ := K.out.1.2.1.two
  obtain ⟨⟨n1, n2, n3, n4⟩, -⟩ := K15.out.four
  have q1 := wrap_in (nx + nw) (by omega); have q2 := wrap_in (nx + nw - W) (by omega); have q3 := wrap_in (ny + nh) (by omega); have q4 := wrap_in (ny + nh - H) (by omega)
  have HB := Lib.hid K.out.2
  obtain ⟨⟨r1, r2, r3⟩, f1, f2, f3⟩ := K.out.1.2.2.2.2.2.1.three
  clear hW hH hnx hny hnw hnh K K15
  rcases (show nx < ax ∨ (¬ nx < ax ∧ ny < ay) ∨ (¬ nx < ax ∧ ¬ ny < ay ∧ ax < nx + nw - W) ∨ (¬ nx < ax ∧ ¬ ny < ay ∧ ¬ ax < nx + nw - W ∧ ay < ny + nh - H) by omega) with h1 | ⟨h1, h2⟩ | ⟨h1, h2, h3⟩ | ⟨h1, h2, h3, h4⟩
  all_goals
    clear hsh
    go_wp2_with fail
    refine bodyPost_ret (v := .tuple #[.agg #[.int .i64 0, .int .i64 0, .slice none 0 0], .int .i64 15]) (by simp [results, Try.results20, go_sem, r1, r2, r3]) rfl ?_
    exact ⟨_, _, _, rfl, PRow.nil _ _, set3_below HB.out (by omega) _ _ _⟩
end Go.Proofs.Ytbakgdcajpagkaa
