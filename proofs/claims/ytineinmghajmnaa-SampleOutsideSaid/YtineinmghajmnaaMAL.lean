/- The steps of a head without an operation that makes memory, over a list of operations. No program in sight. -/
import Derived.Test.YtineinmghajmnaaMAJ
import Derived.Test.YtineinmghajmnaaMAD
import Derived.Test.YtineinmghajmnaaMD
import Derived.Test.YtineinmghajmnaaMAA
import Derived.Test.YtineinmghajmnaaMAF
import Derived.Test.YtineinmghajmnaaMAI
import Derived.Laws.AppendOwn
import Derived.Laws.AppendOwnNone
import Derived.Deep.LoopGhost
import Derived.Deep.CutBlock
import Derived.Deep.RegionHeld3
namespace Go.Proofs.Ytineinmghajmnaa
open Go
variable {P : Program} {md : Region.Mode} {I : World → Prop}
theorem wpJs_val {Q : Act → Prop} {a : Act} {l : List Oper} {o : Oper} {i : Nat} {is : List Nat} (ho : l[i]? = some o) (v : Value) (hw : Region.wanted o (yielded l.toArray a.tmps) = true) (hr : ∀ w, I w → (execOp a.eval o).run P w = .ok (.value v) w) (h : wpIs P l.toArray I Q is (a.put o.dst v)) : wpIs P l.toArray I Q (i :: is) a :=
  ⟨o, v, by simpa using ho, ⟨hw, fun w hi => .inl (hr w hi)⟩, h⟩
theorem wpJs_call {Q : Act → Prop} {a : Act} {l : List Oper} {o : Oper} {i : Nat} {is : List Nat} (ho : l[i]? = some o) (v : Value) (f : FuncId) (args : Array Value) (hw : Region.wanted o (yielded l.toArray a.tmps) = true) (hr : ∀ w, (execOp a.eval o).run P w = .ok (.enter f args) w) (hc : ∀ w, I w → Calls P f args w fun e w' => e = .returned v ∧ I w')
    (h : wpIs P l.toArray I Q is (a.put o.dst v)) : wpIs P l.toArray I Q (i :: is) a :=
  ⟨o, v, by simpa using ho, ⟨hw, fun w hi => .inr ⟨f, args, hr w, hc w hi⟩⟩, h⟩
theorem wp_orderJ {Q : Exit → Act → World → Prop} {a : Act} {w : World} {g : Nat} {l : List Oper} (hd : Nat → Bool) (t0 : Nat) (l0 lF : Array Bool) (ks : List Nat) (hsel : Region.noSelect l.toArray = true) (hs : sinkJ md l.toArray hd l0 t0 = true)
    (h0 : closedJ md l.toArray l0 = true) (hB : headJ md l.toArray hd lF ks l0 = true) (hI : I w)
    (h : wpIs P l.toArray I (fun a' => ∀ w', I w' → wpAny P md l.toArray Q g lF a' w') ks a) : wpAny P md l.toArray Q (ks.length + g) l0 a w :=
  wpAny_orderJ hd t0 l0 lF ks hsel hs h0 hB hI h
end Go.Proofs.Ytineinmghajmnaa
namespace Go.Proofs.Ytineinmghajmnaa
open Go.RowKit
/-- A rectangle has a pixel. -/
def Rk.has (r : Rk) (X Y : Int) : Bool := decide (r.x ≤ X ∧ X < r.x + r.w ∧ r.y ≤ Y ∧ Y < r.y + r.h)
set_option maxHeartbeats 4000000 in
theorem has_any (r : Rk) (X Y : Int) (w : World) (hv : rvalid r.x r.y r.w r.h = true) :
    Calls Try.prog 23 #[.agg #[.int .i64 r.x, .int .i64 r.y, .int .i64 r.w, .int .i64 r.h], .agg #[.int .i64 X, .int .i64 Y]] w fun e w' => e = .returned (.bool (r.has X Y)) ∧ Below w.heap.size w w' := by
  have TV := Lib.hid (fun w => valid_any r.x r.y r.w r.h w)
  rw [hv] at TV
  have sv := (rvalid_iff _ _ _ _).1 hv
  have e1 := wrap_in (r.x + r.w) (by omega); have e2 := wrap_in (r.y + r.h) (by omega)
  have hh : (r.has X Y = false ∧ X < r.x) ∨ (r.has X Y = false ∧ r.x ≤ X ∧ r.x + r.w ≤ X) ∨ (r.has X Y = false ∧ r.x ≤ X ∧ X < r.x + r.w ∧ Y < r.y) ∨ (r.has X Y = false ∧ r.x ≤ X ∧ X < r.x + r.w ∧ r.y ≤ Y ∧ r.y + r.h ≤ Y) ∨ (r.has X Y = true ∧ r.x ≤ X ∧ X < r.x + r.w ∧ r.y ≤ Y ∧ Y < r.y + r.h) := by
    unfold Rk.has
    simp only [decide_eq_true_eq, decide_eq_false_iff_not]
    omega
  clear hv sv
  rcases hh with ⟨h, h1⟩ | ⟨h, h1, h2⟩ | ⟨h, h1, h2, h3⟩ | ⟨h, h1, h2, h3, h4⟩ | ⟨h, h1, h2, h3, h4⟩
  all_goals
    rw [h]
    clear h
    go_enter Try.func23, Try.ntmps23
    go_upto_region 1 with fail
    have K := Lib.hid (fr_two w #[.int .i64 r.x, .int .i64 r.y, .int .i64 r.w, .int .i64 r.h] #[.int .i64 X, .int .i64 Y] 33 49 _ rfl)
    generalize World.alloc (World.alloc w _) _ = w0 at *
    obtain ⟨⟨i1, i2, i3, i4⟩, -⟩ := K.out.1.1.four
    go_wp2_with fail
    refine (TV.out _).mono ?_
    rintro e w1 ⟨rfl, hb⟩
    replace K := Lib.hid (K.out.below hb)
    clear i1 i2 i3 i4 hb
    obtain ⟨⟨i1, i2, i3, i4⟩, -⟩ := K.out.1.1.four
    obtain ⟨⟨j1, j2⟩, -⟩ := K.out.1.2.1.two
    have HB := Lib.hid K.out.2
    clear K
    go_wp2_with fail
    go_ret
    refine ⟨?_, HB.out⟩
    first | rfl | (simp; omega)
set_option maxRecDepth 100000 in
set_option maxHeartbeats 8000000 in
theorem soutside_e (W H kind E W1 H1 : Int) (VP : Bool) (a : Af) (o : Rk) (p : Px) (A : Option Addr) (len c : Nat) (L : List Px) (w : World) (tt : (E != 0) = true ∨ ((E != 0) = false ∧ VP = false))
    (T1 : ∀ w', Below w.heap.size w w' → Calls Try.prog 14 #[.agg #[.int .i64 W, .int .i64 H, .slice A len c], .agg #[.int .i64 a.a, .int .i64 a.b, .int .i64 a.c, .int .i64 a.d, .int .i64 a.e, .int .i64 a.f], .int .i64 kind, .agg #[.int .i64 o.x, .int .i64 o.y, .int .i64 o.w, .int .i64 o.h]] w' (ImPost E W1 H1 L w'))
    (TV : ∀ w', Calls Try.prog 21 #[.agg #[.int .i64 p.r, .int .i64 p.g, .int .i64 p.b, .int .i64 p.a]] w' fun e w'' => e = .returned (.bool VP) ∧ Below w'.heap.size w' w'')
    (T7 : ∀ w', Calls Try.prog 11 #[] w' fun e w'' => e = .returned (.bool true) ∧ Below w'.heap.size w' w'') :
    Calls Try.prog 8 #[.agg #[.int .i64 W, .int .i64 H, .slice A len c], .agg #[.int .i64 a.a, .int .i64 a.b, .int .i64 a.c, .int .i64 a.d, .int .i64 a.e, .int .i64 a.f], .int .i64 kind, .agg #[.int .i64 o.x, .int .i64 o.y, .int .i64 o.w, .int .i64 o.h], .agg #[.int .i64 p.r, .int .i64 p.g, .int .i64 p.b, .int .i64 p.a]] w (YesPost w) := by
  replace T1 := Lib.hid T1; replace TV := Lib.hid TV; replace T7 := Lib.hid T7; replace tt := Lib.hid tt
  go_enter Try.func8, Try.ntmps8
  go_upto_region 1 with fail
  have K := Lib.hid (fr_four w #[.int .i64 W, .int .i64 H, .slice A len c] #[.int .i64 a.a, .int .i64 a.b, .int .i64 a.c, .int .i64 a.d, .int .i64 a.e, .int .i64 a.f] #[.int .i64 o.x, .int .i64 o.y, .int .i64 o.w, .int .i64 o.h] #[.int .i64 p.r, .int .i64 p.g, .int .i64 p.b, .int .i64 p.a] 24 31 33 27 _ rfl)
  generalize World.alloc (World.alloc (World.alloc (w.alloc _) _) _) _ = w0 at *
  obtain ⟨⟨a1, a2, a3⟩, -⟩ := K.out.1.1.three
  obtain ⟨⟨b1, b2, b3, b4, b5, b6⟩, -⟩ := K.out.1.2.1.six
  obtain ⟨⟨i1, i2, i3, i4⟩, -⟩ := K.out.1.2.2.1.four
  go_wp2_with fail
  refine (T1.out _ K.out.2).mono ?_
  rintro e w1 ⟨A1, n1, c1, rfl, hr1, hb⟩
  replace K := Lib.hid (K.out.below hb)
  clear hb a1 a2 a3 b1 b2 b3 b4 b5 b6 i1 i2 i3 i4
  go_upto_region 2 with fail
  have K11 := Lib.hid (Bx.new w1 24 #[.int .i64 W1, .int .i64 H1, .slice A1 n1 c1])
  have hb := bel1 w1 (.cells #[.int .i64 W1, .int .i64 H1, .slice A1 n1 c1] 24)
  replace K := Lib.hid (K.out.below hb)
  have P1 := Lib.hid (hr1.pixs.on hb)
  clear hb hr1
  generalize World.alloc w1 _ = w2 at *
  generalize w1.heap.size = g11 at *
  go_wp2_with fail
  refine (T7.out _).mono ?_
  rintro e w3 ⟨rfl, hb⟩
  replace K := Lib.hid (K.out.below hb); replace K11 := Lib.hid (K11.out.below hb); replace P1 := Lib.hid (P1.out.on hb)
  clear hb
  clear K11 P1
  rcases tt.out with d | ⟨d, rfl⟩
  · clear tt
    go_wp2_with fail
    refine (T7.out _).mono ?_
    rintro e w4 ⟨rfl, hb⟩
    have HB := Lib.hid (bel_trans K.out.2 hb)
    clear hb K
    go_wp2_with fail
    go_ret
    exact ⟨by simp, HB.out⟩
  · clear tt
    obtain ⟨⟨i1, i2, i3, i4⟩, -⟩ := K.out.1.2.2.2.1.four
    go_wp2_with fail
    refine (TV.out _).mono ?_
    rintro e w4 ⟨rfl, hb⟩
    replace K := Lib.hid (K.out.below hb)
    clear hb i1 i2 i3 i4
    go_wp2_with fail
    refine (T7.out _).mono ?_
    rintro e w5 ⟨rfl, hb⟩
    have HB := Lib.hid (bel_trans K.out.2 hb)
    clear hb K
    go_wp2_with fail
    go_ret
    exact ⟨by simp, HB.out⟩

set_option maxRecDepth 100000 in
theorem pappend_step (w : World) {ops : Array Oper} {o : Oper} {a : Act} {K : Act → World → Prop} {Q : Exit → Act → World → Prop} {F : Prop} (hgd : o.guard = none) (s x : Operand)
    (ho : o.op = .call { callee := .builtin .append, args := #[s, x], argTypes := #[22, 22] }) (hs : a.eval s = .slice none 0 0)
    (A : Option Addr) (n c : Nat) (ps : List Px) (hx : a.eval x = .slice A n c) (hn : ps.length = n) (hpix : Pixs w w.heap.size (.slice A n c) ps) (hnil : A = none → c = 0) (hb : n * 32 ≤ 140737488355328)
    (h : ∀ v' w', PRow w' w.heap.size v' ps → Below w.heap.size w w' → K (a.put o.dst v') w') : if Region.wanted o (yielded ops a.tmps) = true then Oper.wp Try.prog o a w K Q else F := by
  have hw : Region.wanted o (yielded ops a.tmps) = true := by simp [Region.wanted, hgd]
  rw [if_pos hw]
  obtain ⟨i0, hi0, hz0, hz1, hz2⟩ := info_parts Try.infoPx
  subst hn
  obtain ⟨A', c', ev, hmx, hc⟩ := hpix
  injection ev with ev1 _ ev3
  subst ev1 ev3
  cases A with
  | none =>
    have hl : ps = [] := by
      rcases Nat.eq_zero_or_pos ps.length with d | d
      · exact List.eq_nil_of_length_eq_zero d
      · obtain ⟨b, o', e, _⟩ := hc 0 d
        cases e
    subst hl
    obtain rfl := hnil rfl
    have hrun := run_append_owned_none (P := Try.prog) (w := w) w.heap.size 22 o.type 27 i0 4 Try.underlying22 hi0 _ 0 [] (World.ownsRow_nil _ _ _ _)
    unfold Oper.wp
    simp only [List.length_nil] at hx
    simp [execOp, ho, resolve, invoke, builtin, hs, hx, hrun, Result.andThen]
    exact h _ w (PRow.nil _ _) (Below.refl _ _)
  | some ad =>
    refine wp_append_own _ s x 22 ho w.heap.size 27 i0 _ 4 32 Try.underlying22 hi0 hz0 hz1 hz2 rfl (by decide) (.slice none 0 0) 0 [] hs (World.ownsRow_nil _ _ _ _) ad ps.length c ((flat4 ps).map (Value.int .i64)) hx (by rw [List.length_map, flat4_length]) ?_ ?_ ?_ ?_ (Nat.le_refl _) ?_
    · intro j u hj
      have hj2 : j < ps.length * 4 := by
        have := (List.getElem?_eq_some_iff.1 hj).1
        rw [List.length_map, flat4_length] at this; exact this
      obtain ⟨b, o', e, _, c1, c2, c3, c4⟩ := hc (j / 4) (by omega)
      injection e with e
      subst e
      have hadd : (⟨b, o', none⟩ : Addr).add j = ⟨b, o' + j, none⟩ := by simp [Addr.add]
      rw [hadd]
      obtain ⟨f1, f2, f3, f4⟩ := flat4_get ps (j / 4) (by omega)
      rw [List.getElem?_map] at hj
      rcases (show j = j / 4 * 4 ∨ j = j / 4 * 4 + 1 ∨ j = j / 4 * 4 + 2 ∨ j = j / 4 * 4 + 3 by omega) with e | e | e | e
      · rw [e, f1] at hj; rw [e]; exact c1.trans hj
      · rw [e, f2] at hj; rw [e]; exact c2.trans hj
      · rw [e, f3] at hj; rw [e]; exact c3.trans hj
      · rw [e, f4] at hj; rw [e]; exact c4.trans hj
    · intro u hu
      obtain ⟨y, _, rfl⟩ := List.mem_map.1 hu
      rfl
    · unfold maxLen; omega
    · omega
    · intro v' w' hown hg _
      refine h v' w' ?_ ((Below.refl _ _).grown hg (Nat.le_refl _) fun k hk => by cases hk)
      unfold PRow FRow
      simpa using hown
/-- The first k pixels of J, then those of ps. -/
def mix (J ps : List Px) (k : Nat) : List Px := (List.range ps.length).map fun i => if i < k then pat J i else pat ps i
theorem mix_zero (J ps : List Px) : mix J ps 0 = ps := by
  unfold mix
  apply List.ext_getElem
  · simp
  · intro i h1 h2
    simp [pat, h2]
theorem mix_length (J ps : List Px) (k : Nat) : (mix J ps k).length = ps.length := by simp [mix]
theorem mix_all {J ps : List Px} (h : J.length = ps.length) : mix J ps ps.length = J := by
  unfold mix
  apply List.ext_getElem
  · simp [h]
  · intro i h1 h2
    have h3 : i < ps.length := by omega
    simp [pat, h3, h2]
theorem mix_set {J ps : List Px} {k : Nat} : (mix J ps k).set k (pat J k) = mix J ps (k + 1) := by
  unfold mix
  apply List.ext_getElem
  · simp
  · intro i h1 h2
    rw [List.getElem_set]
    simp only [List.getElem_map, List.getElem_range]
    by_cases h : k = i
    · subst h; rw [if_pos rfl, if_pos (by omega)]
    · rw [if_neg h]
      by_cases h3 : i < k
      · rw [if_pos h3, if_pos (by omega)]
      · rw [if_neg h3, if_neg (by omega)]
theorem mix_keep {J ps : List Px} {k : Nat} (h : pat J k = pat ps k) : mix J ps (k + 1) = mix J ps k := by
  unfold mix
  apply List.map_congr_left
  intro i _
  by_cases h1 : i < k
  · rw [if_pos (by omega), if_pos h1]
  · by_cases h2 : i = k
    · subst h2; rw [if_pos (by omega), if_neg h1, h]
    · rw [if_neg (by omega), if_neg h1]
def OneI (wr w : World) : Prop := Below wr.heap.size wr w ∧ True
theorem OneI.call {wr w w' : World} (h : OneI wr w) (hb : Below w.heap.size w w') : OneI wr w' := ⟨bel_trans h.1 hb, trivial⟩
def MixRel (J ps : List Px) (g B n cap : Nat) (w0 : World) (gh : Nat) (i : Value) (wr : World) : Prop :=
  ∃ k : Nat, k ≤ n ∧ gh = n - k ∧ i = .int .i64 k ∧ PRow wr B (.slice (some ⟨g, 0, none⟩) n cap) (mix J ps k) ∧ KB w0.heap.size g w0 wr
/-- What the region that copies the image leaves. -/
def AppMid (W H : Int) (ps : List Px) (w : World) (v : Value) (wx : World) : Prop := ∃ gb u, v = .pointer (some ⟨gb, 0, none⟩) ∧ Bx wx gb 24 #[.int .i64 W, .int .i64 H, u] ∧ PRow wx w.heap.size u ps ∧ w.heap.size ≤ gb ∧ (∀ k, u.ownBlock = some k → k ≠ gb) ∧ Below w.heap.size w wx
theorem row_lt {w : World} {B : Nat} {v : Value} {ps : List Px} (h : PRow w B v ps) {k : Nat} (hk : v.ownBlock = some k) : B ≤ k ∧ k < w.heap.size := World.ownsRow.lt h k hk
theorem appMid_1 {W H : Int} {ps : List Px} {w w1 : World} {u : Value} (hb : Below w.heap.size w w1) (hr : PRow w1 w.heap.size u ps) :
    AppMid W H ps w (.pointer (some ⟨w1.heap.size, 0, none⟩)) (w1.alloc (.cells #[.int .i64 W, .int .i64 H, u] 24)) :=
  ⟨_, u, rfl, Bx.new _ _ _, hr.alloc _, hb.size, fun k hk => by have := (row_lt hr hk).2; omega, bel_alloc hb _⟩
theorem appMid_2 {W H : Int} {ps : List Px} {w w1 : World} {u : Value} (hb : Below w.heap.size w w1) (hz : Bx w1 w.heap.size 24 #[.int .i64 0, .int .i64 0, .slice none 0 0]) (hr : PRow w1 (w.heap.size + 1) u ps) :
    AppMid W H ps w (.pointer (some ⟨w.heap.size, 0, none⟩)) (((w1.setCell ⟨w.heap.size, 0, none⟩ (.int .i64 W)).setCell ⟨w.heap.size, 1, none⟩ (.int .i64 H)).setCell ⟨w.heap.size, 2, none⟩ u) :=
  ⟨_, u, rfl, hz.set3 _ _ _, hr.set3 (Nat.lt_succ_self _) (Nat.le_succ _) _ _ _, Nat.le_refl _, fun k hk => by have := (row_lt hr hk).1; omega, set3_below hb (Nat.le_refl _) _ _ _⟩
set_option maxRecDepth 100000 in
set_option maxHeartbeats 8000000 in
theorem soutside_ok (W H kind W1 H1 : Int) (a : Af) (o nr : Rk) (p : Px) (A : Option Addr) (len c : Nat) (ps J L : List Px) (w : World)
    (hps : ps.length = len) (hpx : Pixs w w.heap.size (.slice A len c) ps) (hnil : A = none → c = 0) (hl9 : len ≤ 65536) (hW : len = 0 ∨ (0 < W ∧ W ≤ 256)) (hnv : rvalid nr.x nr.y nr.w nr.h = true) (hJ : J.length = len)
    (HJ : ∀ k : Nat, k < len → pat J k = if nr.has ((k : Int) % W) ((k : Int) / W) = true then pat ps k else p)
    (T1 : ∀ w', Below w.heap.size w w' → Calls Try.prog 14 #[.agg #[.int .i64 W, .int .i64 H, .slice A len c], .agg #[.int .i64 a.a, .int .i64 a.b, .int .i64 a.c, .int .i64 a.d, .int .i64 a.e, .int .i64 a.f], .int .i64 kind, .agg #[.int .i64 o.x, .int .i64 o.y, .int .i64 o.w, .int .i64 o.h]] w' (ImPost 0 W1 H1 L w'))
    (TV : ∀ w', Calls Try.prog 21 #[.agg #[.int .i64 p.r, .int .i64 p.g, .int .i64 p.b, .int .i64 p.a]] w' fun e w'' => e = .returned (.bool true) ∧ Below w'.heap.size w' w'')
    (TC : ∀ w', Below w.heap.size w w' → Calls Try.prog 22 #[.agg #[.int .i64 W, .int .i64 H, .slice A len c]] w' fun e w'' => e = .returned (.int .i64 0) ∧ Below w'.heap.size w' w'')
    (TN : ∀ w', Calls Try.prog 17 #[.agg #[.int .i64 a.a, .int .i64 a.b, .int .i64 a.c, .int .i64 a.d, .int .i64 a.e, .int .i64 a.f], .int .i64 kind, .agg #[.int .i64 o.x, .int .i64 o.y, .int .i64 o.w, .int .i64 o.h]] w' (RkE 0 nr w'))
    (T2 : ∀ w' A' n' c', Pixs w' w'.heap.size (.slice A' n' c') J → Calls Try.prog 14 #[.agg #[.int .i64 W, .int .i64 H, .slice A' n' c'], .agg #[.int .i64 a.a, .int .i64 a.b, .int .i64 a.c, .int .i64 a.d, .int .i64 a.e, .int .i64 a.f], .int .i64 kind, .agg #[.int .i64 o.x, .int .i64 o.y, .int .i64 o.w, .int .i64 o.h]] w' (ImPost 0 W1 H1 L w'))
    (T7 : ∀ w', Calls Try.prog 11 #[] w' fun e w'' => e = .returned (.bool true) ∧ Below w'.heap.size w' w'') :
    Calls Try.prog 8 #[.agg #[.int .i64 W, .int .i64 H, .slice A len c], .agg #[.int .i64 a.a, .int .i64 a.b, .int .i64 a.c, .int .i64 a.d, .int .i64 a.e, .int .i64 a.f], .int .i64 kind, .agg #[.int .i64 o.x, .int .i64 o.y, .int .i64 o.w, .int .i64 o.h], .agg #[.int .i64 p.r, .int .i64 p.g, .int .i64 p.b, .int .i64 p.a]] w (YesPost w) := by
  replace T1 := Lib.hid T1; replace TV := Lib.hid TV; replace T7 := Lib.hid T7; replace TC := Lib.hid TC; replace TN := Lib.hid TN; replace T2 := Lib.hid T2
  replace hpx := Lib.hid hpx; replace hJ := Lib.hid hJ; replace HJ := Lib.hid HJ; replace hps := Lib.hid hps; replace hW := Lib.hid hW; replace hnil := Lib.hid hnil
  have hhas := Lib.hid (fun X Y w => has_any nr X Y w hnv); clear hnv
  go_enter Try.func8, Try.ntmps8
  go_upto_region 1 with fail
  have K := Lib.hid (fr_four w #[.int .i64 W, .int .i64 H, .slice A len c] #[.int .i64 a.a, .int .i64 a.b, .int .i64 a.c, .int .i64 a.d, .int .i64 a.e, .int .i64 a.f] #[.int .i64 o.x, .int .i64 o.y, .int .i64 o.w, .int .i64 o.h] #[.int .i64 p.r, .int .i64 p.g, .int .i64 p.b, .int .i64 p.a] 24 31 33 27 _ rfl)
  generalize World.alloc (World.alloc (World.alloc (w.alloc _) _) _) _ = w0 at *
  obtain ⟨⟨a1, a2, a3⟩, -⟩ := K.out.1.1.three
  obtain ⟨⟨b1, b2, b3, b4, b5, b6⟩, -⟩ := K.out.1.2.1.six
  obtain ⟨⟨i1, i2, i3, i4⟩, -⟩ := K.out.1.2.2.1.four
  go_wp2_with fail
  refine (T1.out _ K.out.2).mono ?_
  rintro e w1 ⟨A1, n1, c1, rfl, hr1, hb⟩
  replace K := Lib.hid (K.out.below hb)
  clear hb a1 a2 a3 b1 b2 b3 b4 b5 b6 i1 i2 i3 i4
  go_upto_region 2 with fail
  have K11 := Lib.hid (Bx.new w1 24 #[.int .i64 W1, .int .i64 H1, .slice A1 n1 c1])
  have hb := bel1 w1 (.cells #[.int .i64 W1, .int .i64 H1, .slice A1 n1 c1] 24)
  replace K := Lib.hid (K.out.below hb)
  have P1 := Lib.hid (hr1.pixs.on hb)
  clear hb hr1
  generalize World.alloc w1 _ = w2 at *
  generalize w1.heap.size = g11 at *
  go_wp2_with fail
  refine (T7.out _).mono ?_
  rintro e w3 ⟨rfl, hb⟩
  replace K := Lib.hid (K.out.below hb); replace K11 := Lib.hid (K11.out.below hb); replace P1 := Lib.hid (P1.out.on hb)
  clear hb
  obtain ⟨⟨i1, i2, i3, i4⟩, -⟩ := K.out.1.2.2.2.1.four
  go_wp2_with fail
  refine (TV.out _).mono ?_
  rintro e w4 ⟨rfl, hb⟩
  replace K := Lib.hid (K.out.below hb); replace K11 := Lib.hid (K11.out.below hb); replace P1 := Lib.hid (P1.out.on hb)
  clear hb i1 i2 i3 i4
  obtain ⟨⟨a1, a2, a3⟩, -⟩ := K.out.1.1.three
  go_wp2_with fail
  refine (TC.out _ K.out.2).mono ?_
  rintro e w5 ⟨rfl, hb⟩
  replace K := Lib.hid (K.out.below hb); replace K11 := Lib.hid (K11.out.below hb); replace P1 := Lib.hid (P1.out.on hb)
  clear hb a1 a2 a3
  obtain ⟨⟨b1, b2, b3, b4, b5, b6⟩, -⟩ := K.out.1.2.1.six
  obtain ⟨⟨i1, i2, i3, i4⟩, -⟩ := K.out.1.2.2.1.four
  go_wp2_with fail
  refine (TN.out _).mono ?_
  rintro e w6 ⟨rfl, hb⟩
  replace K := Lib.hid (K.out.below hb); replace K11 := Lib.hid (K11.out.below hb); replace P1 := Lib.hid (P1.out.on hb)
  clear hb b1 b2 b3 b4 b5 b6 i1 i2 i3 i4 TC TN TV T1
  go_upto_region 5 with fail
  have K13 := Lib.hid (Bx.new w6 33 #[.int .i64 nr.x, .int .i64 nr.y, .int .i64 nr.w, .int .i64 nr.h])
  have hb := bel1 w6 (.cells #[.int .i64 nr.x, .int .i64 nr.y, .int .i64 nr.w, .int .i64 nr.h] 33)
  replace K := Lib.hid (K.out.below hb); replace K11 := Lib.hid (K11.out.below hb); replace P1 := Lib.hid (P1.out.on hb)
  clear hb
  generalize World.alloc w6 _ = w7 at *
  generalize w6.heap.size = g13 at *
  go_cut [14] (AppMid W H ps w7)
  case first =>
    have HSA := Lib.hid (show ∀ wq, Below w7.heap.size w7 wq → wq.cell? ⟨w.heap.size, 0, none⟩ = some (.int .i64 W) ∧ wq.cell? ⟨w.heap.size, 1, none⟩ = some (.int .i64 H) ∧ wq.cell? ⟨w.heap.size, 2, none⟩ = some (.slice A len c) from fun wq hb => (K.out.below hb).1.1.three.1)
    have HPX := Lib.hid (show ∀ wq, Below w7.heap.size w7 wq → Pixs wq wq.heap.size (.slice A len c) ps from fun wq hb => hpx.out.on (bel_trans K.out.2 hb))
    have hBv : Below w7.heap.size w7 w7.drew := (Below.refl _ _).drew
    have hS0 := HSA.out _ hBv
    have hz9 : len * 32 ≤ 140737488355328 := by omega
    clear K K11 P1 T2 T7 hhas HJ
    go_region_held3 (fun wq => wq.cell? ⟨w.heap.size, 0, none⟩ = some (.int .i64 W) ∧ wq.cell? ⟨w.heap.size, 1, none⟩ = some (.int .i64 H) ∧ wq.cell? ⟨w.heap.size, 2, none⟩ = some (.slice A len c))
      (first | assumption | exact hS0 | exact HSA.out _ hBv | exact HSA.out _ (bel_alloc hBv _) | exact HSA.out _ (Below.drew (bel1 _ _)) | exact HSA.out _ (set3_below hBv (Nat.le_refl _) _ _ _) | go_keep)
      (first
        | (refine pappend_step (w7.drew) (by rfl) _ _ (by rfl) (by rfl) A len c ps (by rfl) hps.out (HPX.out _ hBv) hnil.out hz9 ?_; intro v5 wv hr5 hbv; obtain ⟨A5, c5, rfl⟩ := hr5.shape; have hr5' : PRow wv w7.heap.size (.slice A5 ps.length c5) ps := hr5; have hBv := bel_trans hBv hbv)
        | (refine pappend_step ((w7.alloc (.cells #[.int .i64 0, .int .i64 0, .slice none 0 0] 24)).drew) (by rfl) _ _ (by rfl) (by rfl) A len c ps (by rfl) hps.out (HPX.out _ (Below.drew (bel1 _ _))) hnil.out hz9 ?_; intro v5 wv hr5 hbv; obtain ⟨A5, c5, rfl⟩ := hr5.shape; have hN := Bx.below (Bx.drew (Bx.new w7 24 #[.int .i64 0, .int .i64 0, .slice none 0 0])) hbv; have hr5' := hr5; rw [show (World.drew (w7.alloc (.cells #[.int .i64 0, .int .i64 0, .slice none 0 0] 24))).heap.size = w7.heap.size + 1 from World.size_alloc _ _] at hr5'; have hBv := bel_trans (Below.drew (bel1 _ _)) hbv; obtain ⟨⟨z1, z2, z3⟩, y1, y2, y3⟩ := hN.three))
    all_goals (try go_wp2_with fail)
    all_goals go_meet
    all_goals first
      | (with_reducible exact appMid_1 hBv hr5')
      | (with_reducible exact appMid_2 hBv hN hr5')
  case rest =>
  obtain ⟨gb, u, rfl, hbI, hrow, hgb, hne, hBm⟩ := hcut
  obtain ⟨A5, c5, rfl⟩ := hrow.nshape hps.out
  have P1b := Lib.hid (P1.out.below hBm); have hszm := hBm.size
  have hl13 := K13.out.lt; have hl11 := K11.out.lt; have hlK := K.out.1.2.2.2.1.lt
  replace K := Lib.hid (K.out.below hBm); replace K11 := Lib.hid (K11.out.below hBm); replace P1 := Lib.hid (P1.out.on hBm); replace K13 := Lib.hid (K13.out.below hBm)
  have hcase : len = 0 ∨ (0 < len ∧ 0 < W ∧ W ≤ 256) := by
    rcases hW.out with h | h
    · exact .inl h
    · rcases Nat.eq_zero_or_pos len with h0 | h0
      · exact .inl h0
      · exact .inr ⟨h0, h⟩
  clear hW hpx hnil
  rcases hcase with h0 | ⟨h0, hW⟩
  · have d : ((len : Int) != 0) = false := by simp [h0]
    obtain ⟨⟨z1, z2, z3⟩, -⟩ := hbI.three
    have HBI := Lib.hid hbI; have HRW := Lib.hid hrow
    clear hbI hrow hBm hgb hne hl13 hl11 hlK
    go_upto_region 9 with fail
    clear d z1 z2 z3
    subst h0
    go_loopg [73] 0 (MvRel 0 wc)
    case atStart => exact ⟨0, Nat.zero_le _, rfl, rfl, Below.refl _ _⟩
    case round =>
      obtain ⟨y, hy, rfl, rfl, hby⟩ := hrel
      obtain rfl : y = 0 := by omega
      obtain rfl := List.eq_nil_of_length_eq_zero hJ.out
      obtain rfl := List.eq_nil_of_length_eq_zero hps.out
      have hb := hby
      have HRJ := Lib.hid (HRW.out.pixs.on hb)
      replace K := Lib.hid (K.out.below hb); replace K11 := Lib.hid (K11.out.below hb); replace P1 := Lib.hid (P1.out.on hb); replace HBI := Lib.hid (HBI.out.below hb)
      clear hb hby HRW
      obtain ⟨⟨z1, z2, z3⟩, -⟩ := HBI.out.three
      obtain ⟨⟨b1, b2, b3, b4, b5, b6⟩, -⟩ := K.out.1.2.1.six
      obtain ⟨⟨i1, i2, i3, i4⟩, -⟩ := K.out.1.2.2.1.four
      go_wp2_with fail
      refine (T2.out _ _ _ _ HRJ.out).mono ?_
      rintro e wd ⟨A2, n2, c2, rfl, hr2, hb⟩
      replace K := Lib.hid (K.out.below hb); replace K11 := Lib.hid (K11.out.below hb); replace P1 := Lib.hid (P1.out.on hb)
      clear hb z1 z2 z3 b1 b2 b3 b4 b5 b6 i1 i2 i3 i4 T2 HBI HRJ
      go_upto_region 15 with fail
      have K16 := Lib.hid (Bx.new wd 24 #[.int .i64 W1, .int .i64 H1, .slice A2 n2 c2])
      have hb := bel1 wd (.cells #[.int .i64 W1, .int .i64 H1, .slice A2 n2 c2] 24)
      replace K := Lib.hid (K.out.below hb); replace K11 := Lib.hid (K11.out.below hb); replace P1 := Lib.hid (P1.out.on hb)
      have P2 := Lib.hid (hr2.pixs.on hb)
      clear hb hr2
      generalize World.alloc wd _ = wz at *
      generalize wd.heap.size = g16 at *
      obtain ⟨⟨a1, a2, a3⟩, -⟩ := K11.out.three
      obtain ⟨⟨z1, z2, z3⟩, -⟩ := K16.out.three
      have HB := Lib.hid K.out.2
      clear K K11 K16
      go_wp2_with fail
      refine (isame_any _ _ _ _ _ _ _ _ _ P1.out P2.out).mono ?_
      rintro e wf ⟨rfl, hb⟩
      rw [decide_eq_true (show _ ∧ _ ∧ _ from ⟨rfl, rfl, rfl⟩)]
      replace HB := Lib.hid (bel_trans HB.out hb)
      clear hb a1 a2 a3 z1 z2 z3 P1 P2
      go_wp2_with fail
      go_ret
      exact ⟨by simp, HB.out⟩
  · have d : ((len : Int) != 0) = true := by simp; omega
    have d2 : ¬ W < 1 := by omega
    obtain ⟨⟨z1, z2, z3⟩, -⟩ := hbI.three
    have hmx := hrow.pixs.max
    obtain ⟨g5, cap5, ev, hg1, hg2⟩ := FRow.form hrow (by rw [hps.out]; omega)
    injection ev with ev1 ev2 ev3
    subst ev1 ev3
    have hgne : g5 ≠ gb := hne g5 rfl
    have hlo := hrow.lo
    have HZ := Lib.hid (show w.heap.size + 4 ≤ g5 ∧ g11 ≠ g5 ∧ g13 ≠ g5 ∧ gb ≠ g5 ∧ w7.heap.size ≤ g5 from ⟨by omega, by omega, by omega, fun h => hgne h.symm, hlo.1⟩)
    have HBI := Lib.hid hbI; have HRW := Lib.hid hrow
    clear hbI hrow hBm hgb hne hl13 hl11 hlK hg1 hg2 hgne hlo ev2 hmx
    go_upto_region 9 with fail
    clear d z1 z2 z3 d2
    go_loopg [73] len (MixRel J ps g5 w7.heap.size len c5 wc)
    case atStart => exact ⟨0, Nat.zero_le _, rfl, rfl, by rw [mix_zero]; exact HRW.out, KB.refl _ _ _⟩
    case round =>
      obtain ⟨k, hk, rfl, rfl, hrw, hkb⟩ := hrel
      have KR := Lib.hid (K.out.kb hkb HZ.out.1)
      have R11 := Lib.hid (hkb.bx K11.out K11.out.lt HZ.out.2.1)
      have R13 := Lib.hid (hkb.bx K13.out K13.out.lt HZ.out.2.2.1)
      have RBI := Lib.hid (hkb.bx HBI.out HBI.out.lt HZ.out.2.2.2.1)
      have hsz := hkb.size
      have HRW2 := Lib.hid hrw; have HKB := Lib.hid hkb
      clear hrw hkb
      by_cases hlt : k < len
      · have hk0 : (0 : Int) ≤ (k : Int) := by omega
        have hk1 : (k : Int) < (len : Int) := by omega
        have hq := HJ.out k hlt
        have m0 : 0 ≤ (k : Int) % W ∧ (k : Int) % W < W := ⟨Int.emod_nonneg _ (by omega), Int.emod_lt_of_pos _ (by omega)⟩
        have m1 : 0 ≤ (k : Int) / W ∧ (k : Int) / W ≤ (k : Int) := ⟨Int.ediv_nonneg hk0 (by omega), Int.ediv_le_self _ hk0⟩
        have hk8 : k ≤ 65536 := by omega
        have x7 := wrap_in ((k : Int) % W) (by omega); have x8 := wrap_in ((k : Int) / W) (by omega)
        have y1 : (k : Int).tmod W = (k : Int) % W := Int.tmod_eq_emod_of_nonneg hk0
        have y2 : (k : Int).tdiv W = (k : Int) / W := Int.tdiv_eq_ediv_of_nonneg hk0
        have y4 : (W = 0) = False := by simp; omega
        clear m0 m1
        have HQ := Lib.hid hq
        clear hq
        have TH := Lib.hid (hhas.out ((k : Int) % W) ((k : Int) / W))
        generalize nr.has ((k : Int) % W) ((k : Int) / W) = hv at *
        go_upto_region 11 with fail
        have HIM := Lib.hid (show ∀ wq, Below wr.heap.size wr wq → (wq.cell? ⟨g13, 0, none⟩ = some (.int .i64 nr.x) ∧ wq.cell? ⟨g13, 1, none⟩ = some (.int .i64 nr.y) ∧ wq.cell? ⟨g13, 2, none⟩ = some (.int .i64 nr.w) ∧ wq.cell? ⟨g13, 3, none⟩ = some (.int .i64 nr.h)) ∧ wq.cell? ⟨gb, 0, none⟩ = some (.int .i64 W) from fun wq hq => ⟨(R13.out.below hq).four.1, (RBI.out.below hq).three.1.1⟩)
        have HI := Lib.hid (show OneI wr wr.drew from ⟨(Below.refl _ _).drew, trivial⟩)
        refine wp_region_any (by kernel_rfl) ?_
        refine wp_orderJ (I := OneI wr) (fun i => decide (i < 11)) 11 _ ((Array.replicate 12 true).set! 11 false) [0, 1, 2, 3, 4, 5, 6, 7, 8, 9, 10] (g := 1) (by decide +kernel) (by decide +kernel) (by decide +kernel) (by decide +kernel) HI.out ?_
        try go_frame
        refine wpJs_val rfl (.agg #[.int .i64 nr.x, .int .i64 nr.y, .int .i64 nr.w, .int .i64 nr.h]) rfl (fun wq hq => ?_) ?_
        · obtain ⟨⟨i1, i2, i3, i4⟩, j1⟩ := HIM.out _ hq.1; clear hq; go_simp
        go_frame
        refine wpJs_val rfl (.int .i64 ((k : Int))) rfl (fun wq hq => ?_) ?_
        · obtain ⟨⟨i1, i2, i3, i4⟩, j1⟩ := HIM.out _ hq.1; clear hq; go_simp
        go_frame
        refine wpJs_val rfl (.pointer (some ⟨gb, 0, none⟩)) rfl (fun wq hq => ?_) ?_
        · obtain ⟨⟨i1, i2, i3, i4⟩, j1⟩ := HIM.out _ hq.1; clear hq; go_simp
        go_frame
        refine wpJs_val rfl (.int .i64 (W)) rfl (fun wq hq => ?_) ?_
        · obtain ⟨⟨i1, i2, i3, i4⟩, j1⟩ := HIM.out _ hq.1; clear hq; go_simp
        go_frame
        refine wpJs_val rfl (.int .i64 ((k : Int) % W)) rfl (fun wq hq => ?_) ?_
        · obtain ⟨⟨i1, i2, i3, i4⟩, j1⟩ := HIM.out _ hq.1; clear hq; go_simp
        go_frame
        refine wpJs_val rfl (.int .i64 ((k : Int))) rfl (fun wq hq => ?_) ?_
        · obtain ⟨⟨i1, i2, i3, i4⟩, j1⟩ := HIM.out _ hq.1; clear hq; go_simp
        go_frame
        refine wpJs_val rfl (.pointer (some ⟨gb, 0, none⟩)) rfl (fun wq hq => ?_) ?_
        · obtain ⟨⟨i1, i2, i3, i4⟩, j1⟩ := HIM.out _ hq.1; clear hq; go_simp
        go_frame
        refine wpJs_val rfl (.int .i64 (W)) rfl (fun wq hq => ?_) ?_
        · obtain ⟨⟨i1, i2, i3, i4⟩, j1⟩ := HIM.out _ hq.1; clear hq; go_simp
        go_frame
        refine wpJs_val rfl (.int .i64 ((k : Int) / W)) rfl (fun wq hq => ?_) ?_
        · obtain ⟨⟨i1, i2, i3, i4⟩, j1⟩ := HIM.out _ hq.1; clear hq; go_simp
        go_frame
        refine wpJs_val rfl (.agg #[.int .i64 ((k : Int) % W), .int .i64 ((k : Int) / W)]) rfl (fun wq hq => ?_) ?_
        · obtain ⟨⟨i1, i2, i3, i4⟩, j1⟩ := HIM.out _ hq.1; clear hq; go_simp
        go_frame
        refine wpJs_call rfl (.bool hv) 23 #[.agg #[.int .i64 nr.x, .int .i64 nr.y, .int .i64 nr.w, .int .i64 nr.h], .agg #[.int .i64 ((k : Int) % W), .int .i64 ((k : Int) / W)]] rfl (fun wq => ?_) (fun wq hq => (TH.out wq).mono fun e w' hh => ⟨hh.1, hq.call hh.2⟩) ?_
        · go_simp
        go_frame
        intro wq hq
        refine wp_seqJ (is := [11]) _ _ _ (.cons rfl .nil) (by decide +kernel) ?_
        have hq1 := hq.1
        clear hq HIM HI TH x7 x8 y1 y2 y4
        try go_frame
        have KQ := Lib.hid (KR.out.below hq1); have HBQ := Lib.hid (RBI.out.below hq1)
        have HKBQ := Lib.hid (HKB.out.below hq1 hsz)
        have hrq := HRW2.out.below hq1
        clear hq1 KR R11 R13 RBI HRW2 HKB
        cases hv with
        | true =>
          have hkeep := mix_keep (J := J) (ps := ps) (k := k) (by have := HQ.out; rw [if_pos rfl] at this; exact this)
          rw [← hkeep] at hrq
          have HRQ := Lib.hid hrq
          clear hrq hkeep
          go_wp2_with fail
          go_roundg (len - (k + 1))
          case measure => omega
          case rel => exact ⟨k + 1, by omega, rfl, by go_num, HRQ.out, HKBQ.out⟩
        | false =>
          have hqk : pat J k = p := by have := HQ.out; rw [if_neg (by simp)] at this; exact this
          obtain ⟨⟨x1, x2, x3, x4⟩, xf1, xf2, xf3, xf4⟩ := hrq.at4 hlt
          have hput := hrq.put k hlt p
          rw [← hqk, mix_set, hqk] at hput
          have HPUT := Lib.hid hput
          have HK4 := Lib.hid (HKBQ.out.set4 (k * 4) (k * 4 + 1) (k * 4 + 2) (k * 4 + 3) (.int .i64 p.r) (.int .i64 p.g) (.int .i64 p.b) (.int .i64 p.a))
          clear hrq hput hqk
          obtain ⟨⟨z1, z2, z3⟩, -⟩ := HBQ.out.three
          obtain ⟨⟨i1, i2, i3, i4⟩, -⟩ := KQ.out.1.2.2.2.1.four
          go_wp2_with fail
          go_roundg (len - (k + 1))
          case measure => omega
          case rel => exact ⟨k + 1, by omega, rfl, by go_num, HPUT.out, HK4.out⟩
      · obtain rfl : k = len := by omega
        have hall := mix_all (J := J) (ps := ps) (by rw [hJ.out, hps.out])
        rw [hps.out] at hall
        have hrj := HRW2.out
        rw [hall] at hrj
        have HRJ := Lib.hid hrj.pixs
        have hP1 := (HKB.out.pixs P1b.out HZ.out.2.2.2.2 hszm).more (show w7.heap.size ≤ wr.heap.size by omega)
        replace P1 := Lib.hid hP1
        replace K := KR; replace K11 := R11; replace HBI := RBI
        clear hall hrj hP1 HRW2 HKB R13 K13 P1b
        obtain ⟨⟨z1, z2, z3⟩, -⟩ := HBI.out.three
        obtain ⟨⟨b1, b2, b3, b4, b5, b6⟩, -⟩ := K.out.1.2.1.six
        obtain ⟨⟨i1, i2, i3, i4⟩, -⟩ := K.out.1.2.2.1.four
        go_wp2_with fail
        refine (T2.out _ _ _ _ HRJ.out).mono ?_
        rintro e wd ⟨A2, n2, c2, rfl, hr2, hb⟩
        replace K := Lib.hid (K.out.below hb); replace K11 := Lib.hid (K11.out.below hb); replace P1 := Lib.hid (P1.out.on hb)
        clear hb z1 z2 z3 b1 b2 b3 b4 b5 b6 i1 i2 i3 i4 T2 HBI HRJ
        go_upto_region 15 with fail
        have K16 := Lib.hid (Bx.new wd 24 #[.int .i64 W1, .int .i64 H1, .slice A2 n2 c2])
        have hb := bel1 wd (.cells #[.int .i64 W1, .int .i64 H1, .slice A2 n2 c2] 24)
        replace K := Lib.hid (K.out.below hb); replace K11 := Lib.hid (K11.out.below hb); replace P1 := Lib.hid (P1.out.on hb)
        have P2 := Lib.hid (hr2.pixs.on hb)
        clear hb hr2
        generalize World.alloc wd _ = wz at *
        generalize wd.heap.size = g16 at *
        obtain ⟨⟨a1, a2, a3⟩, -⟩ := K11.out.three
        obtain ⟨⟨z1, z2, z3⟩, -⟩ := K16.out.three
        have HB := Lib.hid K.out.2
        clear K K11 K16
        go_wp2_with fail
        refine (isame_any _ _ _ _ _ _ _ _ _ P1.out P2.out).mono ?_
        rintro e wf ⟨rfl, hb⟩
        rw [decide_eq_true (show _ ∧ _ ∧ _ from ⟨rfl, rfl, rfl⟩)]
        replace HB := Lib.hid (bel_trans HB.out hb)
        clear hb a1 a2 a3 z1 z2 z3 P1 P2
        go_wp2_with fail
        go_ret
        exact ⟨by simp, HB.out⟩
end Go.Proofs.Ytineinmghajmnaa
