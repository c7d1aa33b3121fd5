/- The reference's Draw, for any input. -/
import Derived.Test.YtbakgdcajpagkaaMT
import Derived.Test.YtbakgdcajpagkaaMO
import Derived.Test.YtbakgdcajpagkaaMR
import Derived.Test.YtbakgdcajpagkaaMB
import Derived.Deep.LoopGhost
import Derived.Test.YtbakgdcajpagkaaMA
import Derived.ProofKit
import Derived.Deep.Slices
import Derived.Deep.Fields
import Derived.Lib.SmallJoins
import Derived.Below
import Derived.Test.YtbakgdcajpagkaaME
import Derived.Test.YtbakgdcajpagkaaMD
namespace Go.Proofs.Ytbakgdcajpagkaa
open Go.RowKit
theorem wpic_grid (W ax ay : Int) (b : Rk) (ps : List Px) (C R S : Int) (ks : List (Int × Int)) (kind : Int) (o : Rk) (hw : 0 ≤ o.w) (hh : 0 ≤ o.h) :
    wpic W ax ay b ps C R S ks kind o = gridL o.w o.h (fun X Y => wdot W ax ay b ps C R S ks kind (o.x + X) (o.y + Y)) := by
  unfold wpic gridL
  rw [show (o.w * o.h).toNat = o.w.toNat * o.h.toNat from Int.toNat_mul hw hh]
set_option maxHeartbeats 2000000 in
theorem rdraw_any (W H ax ay : Int) (A : Option Addr) (c : Nat) (ps : List Px) (b : Rk) (C R S : Int) (A' : Option Addr) (c' : Nat) (ks : List (Int × Int)) (kind : Int) (o : Rk) (w : World) (hp : Pixs w w.heap.size (.slice A ps.length c) ps) (h : Knots w w.heap.size (.slice A' ks.length c') ks) :
    Calls Try.prog 20 #[.agg #[.int .i64 W, .int .i64 H, .slice A ps.length c], .agg #[.int .i64 ax, .int .i64 ay], .agg #[.int .i64 b.x, .int .i64 b.y, .int .i64 b.w, .int .i64 b.h], .agg #[.int .i64 C, .int .i64 R, .int .i64 S, .slice A' ks.length c'], .int .i64 kind, .agg #[.int .i64 o.x, .int .i64 o.y, .int .i64 o.w, .int .i64 o.h]] w (ImOut (wDE W H ax ay ps b C R S ks kind o) o.w o.h (wpic W ax ay b ps C R S ks kind o) w) := by
  have TC := fun w' (hb : Below w.heap.size w w') => richeck_any W H A ps.length c ps w' (hp.on hb)
  have TN := fun w' (hb : Below w.heap.size w w') => rneeds_any C R S A' c' ks kind o b w' (h.on hb)
  by_cases h1 : ichk W H ps = 0
  rotate_left
  · have e1 : wDE W H ax ay ps b C R S ks kind o = ichk W H ps := by unfold wDE; rw [if_neg h1]
    rw [e1, imOut_err h1]
    exact rdraw_e1 W H ax ay _ _ _ _ C R S kind _ _ _ _ _ A c ps _ w (by simpa using h1) TC
  rw [h1] at TC
  by_cases h2 : wNE C R S ks kind o b = 0
  rotate_left
  · have e1 : wDE W H ax ay ps b C R S ks kind o = wNE C R S ks kind o b := by unfold wDE; rw [if_pos h1, if_neg h2]
    have e2 : wNR C R S ks kind o b = Rk.zero := by unfold wNR; rw [if_neg h2]
    rw [e1, imOut_err h2]
    rw [e2] at TN
    exact rdraw_e2 W H ax ay _ _ _ _ C R S kind _ _ _ _ _ A c ps _ w (by simpa using h2) TC TN
  have io := (ichk_iff W H ps).1 h1
  have no := wNE_iff.1 h2
  have fo := full_bd no.eo; have fb := full_bd no.eb
  have hr := wreach_bd no.w
  have hsp := spt_le kind
  have hin := io.w0; have hin1 := io.w1; have hin2 := io.h0; have hin3 := io.h1
  have fn : (wNR C R S ks kind o b).empty = false := by
    unfold wNR
    rw [if_pos h2]
    exact full_need no.eo no.eb no.x0 no.x1 no.y0 no.y1 (by omega)
  have fn2 := full_bd fn
  rw [h2] at TN
  have hsh : shows W H ax ay (wNR C R S ks kind o b) = true ↔ (¬ (wNR C R S ks kind o b).x < ax ∧ ¬ (wNR C R S ks kind o b).y < ay ∧ ¬ ax < (wNR C R S ks kind o b).x + (wNR C R S ks kind o b).w - W ∧ ¬ ay < (wNR C R S ks kind o b).y + (wNR C R S ks kind o b).h - H) := by
    unfold shows
    simp only [Bool.and_eq_true, decide_eq_true_eq]
    omega
  by_cases h3 : shows W H ax ay (wNR C R S ks kind o b) = true
  rotate_left
  · have e1 : wDE W H ax ay ps b C R S ks kind o = 15 := by unfold wDE; rw [if_pos h1, if_pos h2, if_neg h3]
    rw [e1, imOut_err (by omega)]
    refine rdraw_e3 W H ax ay _ _ _ _ C R S kind _ _ _ _ _ A c ps _ _ _ _ w TC TN ?_ (by omega) (by omega) (by omega) (by omega) (by omega) (by omega)
    rw [hsh] at h3
    omega
  have ok : DOk W H ax ay ps b C R S ks kind o := ⟨io, no, h3⟩
  have q := ok.eqs
  have x0 := no.x0; have x1 := no.x1; have y0 := no.y0; have y1 := no.y1
  rw [wDE_iff.2 ok, imOut_ok, wpic_grid _ _ _ _ _ _ _ _ _ _ _ (by omega) (by omega)]
  obtain ⟨s1, s2, s3, s4⟩ := hsh.1 h3
  have hw : ((o.w.toNat : Nat) : Int) = o.w := Int.toNat_of_nonneg (by omega)
  have hh : ((o.h.toNat : Nat) : Int) = o.h := Int.toNat_of_nonneg (by omega)
  have key := rdraw_ok W H ax ay b.x b.y b.w b.h C R S kind o.x o.y o.w.toNat o.h.toNat (.slice A' ks.length c') A c ps _ _ _ _ (wpx W ax ay b ps) (fun x y => (wat C R S ks x y).1) (fun x y => (wat C R S ks x y).2) w TC
    (by rw [hw, hh]; exact TN) s1 s2 s3 s4 (by omega) (by omega) (by omega) (by omega) (by omega) (by omega) (by omega) (by omega) (by omega) (by omega) (by omega) (by omega) (by omega) (by omega) (by omega) (by omega) (by omega)
    (wpx_ok io) (fun x y => by have := wat_bd no.w x y; omega) no.v
    (fun x y w' hb => rat_any C R S A' c' ks _ _ w' (h.on hb))
    (fun X Y hX hY j k hj hk w' hb => by
      have hd := wat_bd no.w (o.x + (X : Int)) (o.y + (Y : Int))
      try dsimp only
      have tx := tap_near no.v (x := o.x + (X : Int)) (by omega) hr.1 hd.1 j hj
      have ty := tap_near no.v (x := o.y + (Y : Int)) (by omega) hr.1 hd.2 k hk
      clear hj hk hd
      generalize tapFirst kind ((o.x + (X : Int)) * 65536 + 32768 + (wat C R S ks (o.x + (X : Int)) (o.y + (Y : Int))).1) + (j : Int) = P at *
      generalize tapFirst kind ((o.y + (Y : Int)) * 65536 + 32768 + (wat C R S ks (o.x + (X : Int)) (o.y + (Y : Int))).2) + (k : Int) = Q at *
      have cx : 0 ≤ bcl b.x b.w P - ax ∧ bcl b.x b.w P - ax < W := by unfold bcl; omega
      have cy : 0 ≤ bcl b.y b.h Q - ay ∧ bcl b.y b.h Q - ay < H := by unfold bcl; omega
      have key := rpat_any W H A c ps (bcl b.x b.w P - ax) (bcl b.y b.h Q - ay) w' (hp.on hb)
      unfold atP at key
      rw [if_pos h1, pick_in ⟨cx.1, cx.2, cy.1, cy.2⟩] at key
      exact key)
  rw [hw, hh] at key
  exact key
end Go.Proofs.Ytbakgdcajpagkaa
namespace Go.Proofs.Ytbakgdcajpagkaa
open Go.RowKit
theorem Px.ext' {a b : Px} (h : a.r = b.r ∧ a.g = b.g ∧ a.b = b.b ∧ a.a = b.a) : a = b := by
  obtain ⟨h1, h2, h3, h4⟩ := h
  cases a; cases b; simp_all
instance : DecidableEq Px := fun a b => decidable_of_iff (a.r = b.r ∧ a.g = b.g ∧ a.b = b.b ∧ a.a = b.a) ⟨Px.ext', fun h => by subst h; exact ⟨rfl, rfl, rfl, rfl⟩⟩
theorem px_ne {a b : Px} (h : a ≠ b) : (a.r == b.r) = false ∨ ((a.r == b.r) = true ∧ (a.g == b.g) = false) ∨ ((a.r == b.r) = true ∧ (a.g == b.g) = true ∧ (a.b == b.b) = false) ∨ ((a.r == b.r) = true ∧ (a.g == b.g) = true ∧ (a.b == b.b) = true ∧ (a.a == b.a) = false) := by
  by_cases h1 : a.r = b.r
  · by_cases h2 : a.g = b.g
    · by_cases h3 : a.b = b.b
      · by_cases h4 : a.a = b.a
        · exact absurd (Px.ext' ⟨h1, h2, h3, h4⟩) h
        · simp [h1, h2, h3, h4]
      · simp [h1, h2, h3]
    · simp [h1, h2]
  · simp [h1]
def ISameRel (xs ys : List Px) (w : World) (g : Nat) (i : Value) (wr : World) : Prop :=
  ∃ k : Nat, k ≤ xs.length ∧ g = xs.length - k ∧ i = .int .i64 k ∧ (∀ j, j < k → pat xs j = pat ys j) ∧ ∃ m, wr = w.drewN m
theorem pxs_eq_of {xs ys : List Px} (hl : xs.length = ys.length) (h : ∀ j, j < xs.length → pat xs j = pat ys j) : xs = ys := by
  apply List.ext_getElem hl
  intro i h1 h2
  have := h i h1
  simpa [pat, h1, h2] using this

set_option maxHeartbeats 4000000 in
theorem isame_any (W H W' H' : Int) (v1 v2 : Value) (xs ys : List Px) (w : World) (h1 : Pixs w w.heap.size v1 xs) (h2 : Pixs w w.heap.size v2 ys) :
    Calls Try.prog 21 #[.agg #[.int .i64 W, .int .i64 H, v1], .agg #[.int .i64 W', .int .i64 H', v2]] w
      fun e w' => e = .returned (.bool (decide (W = W' ∧ H = H' ∧ xs = ys))) ∧ Below w.heap.size w w' := by
  obtain ⟨A1, c1, rfl, l1, r1⟩ := h1
  obtain ⟨A2, c2, rfl, l2, r2⟩ := h2
  have R1 := Lib.hid r1; clear r1
  have R2 := Lib.hid r2; clear r2
  obtain ⟨hb1, hb2, hB⟩ := two_boxes w #[.int .i64 W, .int .i64 H, .slice A1 xs.length c1] #[.int .i64 W', .int .i64 H', .slice A2 ys.length c2] 40 40 _ rfl
  have HB1 := Lib.hid hb1; have HB2 := Lib.hid hb2; have HBW := Lib.hid hB; clear hb1 hb2 hB
  by_cases hne : W = W' ∧ H = H' ∧ xs.length = ys.length
  rotate_left
  · rcases (show (W != W') = true ∨ ((W != W') = false ∧ (H != H') = true) ∨ ((W != W') = false ∧ (H != H') = false ∧ ((xs.length : Int) != ys.length) = true) by
      by_cases e1 : W = W'
      · by_cases e2 : H = H'
        · right; right
          refine ⟨by simp [e1], by simp [e2], ?_⟩
          simp only [bne_iff_ne]
          intro e; exact hne ⟨e1, e2, by omega⟩
        · right; left; simp [e1, e2]
      · left; simp [e1]) with t1 | ⟨t1, t2⟩ | ⟨t1, t2, t3⟩
    all_goals
      have HNE := Lib.hid hne
      clear hne
      go_enter Try.func21, Try.ntmps21
      go_wp2_with fail
      go_ret
      refine ⟨ret_bool ?_, HBW.out⟩
      symm
      rw [decide_eq_false_iff_not]
      intro e
      exact HNE.out ⟨e.1, e.2.1, by rw [e.2.2]⟩
  · obtain ⟨rfl, rfl, hl⟩ := hne
    have t3 : ((xs.length : Int) != ys.length) = false := by simp [hl]
    have HL := Lib.hid hl; clear hl
    go_enter Try.func21, Try.ntmps21
    go_wp2_with fail
    generalize World.alloc (w.alloc _) _ = w0 at *
    go_loopg [30] xs.length (ISameRel xs ys w0)
    case atStart => exact ⟨0, Nat.zero_le _, rfl, rfl, fun j hj => absurd hj (by omega), 0, rfl⟩
    case round =>
      obtain ⟨k, hk, rfl, rfl, hj, m, rfl⟩ := hrel
      have HJ := Lib.hid hj; clear hj
      obtain ⟨⟨b1, b2, b3⟩, _, _, _⟩ := HB1.out.three
      obtain ⟨⟨d1, d2, d3⟩, _, _, _⟩ := HB2.out.three
      by_cases hlt : k < xs.length
      · obtain ⟨b, o, rfl, hb, p1, p2, p3, p4⟩ := R1.out k hlt
        have hlt2 : k < ys.length := by have := HL.out; omega
        obtain ⟨b', o', rfl, hb', q1, q2, q3, q4⟩ := R2.out k hlt2
        replace p1 := (HBW.out.cell (p := ⟨b, o + k * 4, none⟩) hb).trans p1
        replace p2 := (HBW.out.cell (p := ⟨b, o + k * 4 + 1, none⟩) hb).trans p2
        replace p3 := (HBW.out.cell (p := ⟨b, o + k * 4 + 2, none⟩) hb).trans p3
        replace p4 := (HBW.out.cell (p := ⟨b, o + k * 4 + 3, none⟩) hb).trans p4
        replace q1 := (HBW.out.cell (p := ⟨b', o' + k * 4, none⟩) hb').trans q1
        replace q2 := (HBW.out.cell (p := ⟨b', o' + k * 4 + 1, none⟩) hb').trans q2
        replace q3 := (HBW.out.cell (p := ⟨b', o' + k * 4 + 2, none⟩) hb').trans q3
        replace q4 := (HBW.out.cell (p := ⟨b', o' + k * 4 + 3, none⟩) hb').trans q4
        clear hb hb'
        have hk0 : (0 : Int) ≤ (k : Int) := by omega
        have hk1 : (k : Int) < (xs.length : Int) := by omega
        have hk2 : (k : Int) < (ys.length : Int) := by omega
        generalize hx : pat xs k = x at *
        generalize hy : pat ys k = y at *
        have HX := Lib.hid hx; clear hx
        have HY := Lib.hid hy; clear hy
        by_cases hxy : x = y
        · subst hxy
          go_wp2_with fail
          go_quiet (fail)
          go_wp2_with fail
          go_roundg (xs.length - (k + 1))
          case measure => omega
          case rel =>
            refine ⟨k + 1, by omega, rfl, by go_num, fun j hj => ?_, _, rfl⟩
            by_cases e : j = k
            · subst e; rw [HX.out, HY.out]
            · exact HJ.out j (by omega)
        · have HXY := Lib.hid hxy
          rcases px_ne hxy with t1 | ⟨t1, t2⟩ | ⟨t1, t2, t3⟩ | ⟨t1, t2, t3, t4⟩
          all_goals
            clear hxy
            go_wp2_with fail
            go_quiet (fail)
            go_wp2_with fail
            go_ret
            refine ⟨ret_bool ?_, Below.drewN' (Below.drewN' HBW.out _) _⟩
            symm
            rw [decide_eq_false_iff_not]
            intro e
            exact HXY.out (HX.out.symm.trans ((congrArg (fun l => pat l k) e.2.2).trans HY.out))
      · go_wp2_with fail
        go_ret
        refine ⟨ret_bool ?_, Below.drewN' HBW.out _⟩
        symm
        rw [decide_eq_true_eq]
        exact ⟨by trivial, by trivial, pxs_eq_of HL.out fun j hj => HJ.out j (by omega)⟩
end Go.Proofs.Ytbakgdcajpagkaa
namespace Go.Proofs.Ytbakgdcajpagkaa
open Go.ChangeShapes Go.WideShapes Go.RowKit Go.Deep

theorem spot_none {w : World} {a : Addr} {v : Value} (h : w.cell? a = some v) : a.spot = none := World.cell?_spot h
theorem add_eq {b o : Nat} (j : Nat) : (⟨b, o, none⟩ : Addr).add j = ⟨b, o + j, none⟩ := by
  unfold Addr.add
  by_cases h : j = 0
  · subst h; rfl
  · rw [if_neg h]
theorem cell_of_trod_int {H : Type} {enc : TypeId × Value → H} {w : World} {base : Nat} {spare : Nat → Bool} {held : Bool} {n : Nat} {cs : List Value} {y : Option (DataW H × List MemPlace)} {i k : Nat} (hi : i < k) (hl : cs.length = k)
    (h : DataW.trod enc Try.prog w base spare held n 3 ((cs.drop i).take 1) = y) (hy : y ≠ none) : ∃ x : Int, cs[i]? = some (.int .i64 x) := by
  cases hyy : y with
  | none => exact absurd hyy hy
  | some q =>
    rw [hyy] at h
    obtain ⟨x, hx, _, _⟩ := DataW.trod_int Try.underlying3 h
    rw [List.drop_eq_getElem_cons (by omega)] at hx
    refine ⟨x, ?_⟩
    rw [List.getElem?_eq_getElem (by omega)]
    simp only [List.take_succ_cons, List.take_zero, List.cons.injEq, and_true] at hx
    rw [hx]
/-- A number of type int. -/
def in64 (x : Int) : Prop := -9223372036854775808 ≤ x ∧ x ≤ 9223372036854775807
theorem in64_of {x : Int} (h : (Lit.int .i64 x).wf = true) : in64 x := by
  simp [Lit.wf, IntKind.min, IntKind.max, IntKind.signed, IntKind.bits] at h
  exact ⟨by omega, by omega⟩
set_option maxRecDepth 100000 in
/-- A slice of pixels, opened. -/
theorem open_pixs {H : Type} {enc : TypeId × Value → H} {W : World} {base n0 : Nat} {v : Value} {x : DataW H × List MemPlace}
    (h : DataW.trod enc Try.prog W base (fun _ => true) true n0 38 [v] = some x) : ∃ A n c ps, v = .slice A n c ∧ Pixs W W.heap.size (.slice A n c) ps := by
  rcases open_slice Try.underlying38 h with ⟨hcs, _⟩ | ⟨a, len, cap, m, n, D, Pl, hcs, hb, hl, hm, hmm, hx, hi⟩
  · simp at hcs
    subst hcs
    exact ⟨none, 0, 0, [], rfl, Pixs.nil _ _⟩
  · simp at hcs
    subst hcs
    refine ⟨some a, len, cap, ?_⟩
    have hC : Try.prog.cellsOf 48 = 4 := by kernel_rfl
    have hcell : ∀ i, i < len → ∃ x y z t : Int, W.cell? ((a.add (i * 4)).add 0) = some (.int .i64 x) ∧ W.cell? ((a.add (i * 4)).add 1) = some (.int .i64 y) ∧ W.cell? ((a.add (i * 4)).add 2) = some (.int .i64 z) ∧ W.cell? ((a.add (i * 4)).add 3) = some (.int .i64 t) := by
      intro i hil
      obtain ⟨cs, hc, ht⟩ := hi i (by rw [hmm]; split <;> omega)
      rw [hC] at hc
      obtain ⟨_, hcl, hat⟩ := World.cells?_some hc
      obtain ⟨ys, n', _, _, _, hyl, hg⟩ := DataW.trod_struct Try.underlying48 ht
      have hyl : ys.length = 4 := hyl
      have g0 := hg 0 _ rfl
      have g1 := hg 1 _ rfl
      have g2 := hg 2 _ rfl
      have g3 := hg 3 _ rfl
      obtain ⟨x, hx⟩ := cell_of_trod_int (i := 0) (by omega) hcl g0 (by rw [List.getElem?_eq_getElem (by omega)]; simp)
      obtain ⟨y, hy⟩ := cell_of_trod_int (i := 1) (by omega) hcl g1 (by rw [List.getElem?_eq_getElem (by omega)]; simp)
      obtain ⟨z, hz⟩ := cell_of_trod_int (i := 2) (by omega) hcl g2 (by rw [List.getElem?_eq_getElem (by omega)]; simp)
      obtain ⟨t, ht⟩ := cell_of_trod_int (i := 3) (by omega) hcl g3 (by rw [List.getElem?_eq_getElem (by omega)]; simp)
      exact ⟨x, y, z, t, (hat 0 (by omega)).trans hx, (hat 1 (by omega)).trans hy, (hat 2 (by omega)).trans hz, (hat 3 (by omega)).trans ht⟩
    by_cases h0 : len = 0
    · subst h0
      exact ⟨[], rfl, some a, cap, rfl, by simp, fun i hi => absurd hi (by simp)⟩
    · obtain ⟨x0, _, _, _, hx0, _⟩ := hcell 0 (by omega)
      obtain ⟨b, o, sp⟩ := a
      have hsp : sp = none := by
        have := spot_none hx0
        simpa [Addr.add] using this
      subst hsp
      simp only [add_eq] at hcell hx0
      refine ⟨(List.range len).map fun i => ⟨intOf ((W.cell? ⟨b, o + i * 4, none⟩).getD undef), intOf ((W.cell? ⟨b, o + i * 4 + 1, none⟩).getD undef), intOf ((W.cell? ⟨b, o + i * 4 + 2, none⟩).getD undef), intOf ((W.cell? ⟨b, o + i * 4 + 3, none⟩).getD undef)⟩, rfl, some ⟨b, o, none⟩, cap, by simp, by unfold maxLen at hm; simp; omega, fun i hi => ⟨b, o, rfl, ?_, ?_⟩⟩
      · exact World.block_lt_of_cell? W _ hx0
      · have hil : i < len := by simpa using hi
        obtain ⟨x, y, z, t, h1, h2, h3, h4⟩ := hcell i hil
        simp only [Nat.add_zero] at h1
        rw [h1, h2, h3, h4]
        simp [pat, hil, h1, h2, h3, h4, intOf]
/-- An image, a point, a pixel as values. -/
def ImgV (w : World) (v : Value) (x : Int × Int × List Px) : Prop := (∃ A n c, v = .agg #[.int .i64 x.1, .int .i64 x.2.1, .slice A n c] ∧ Pixs w w.heap.size (.slice A n c) x.2.2) ∧ in64 x.1 ∧ in64 x.2.1
def PxV (v : Value) (p : Px) : Prop := v = .agg #[.int .i64 p.r, .int .i64 p.g, .int .i64 p.b, .int .i64 p.a] ∧ in64 p.r ∧ in64 p.g ∧ in64 p.b ∧ in64 p.a
section
variable {H : Type} {enc : TypeId × Value → H} {W : World} {base b0 : Nat} {r : Reach} {v : Value} {d : DataW H} {p : List MemPlace}
theorem open_img (hv : Value.okWide Try.prog W r b0 40 v) (h : DataW.Trod enc Try.prog W base (fun _ => true) true 40 v d p) : ∃ x, ImgV W v x := by
  obtain ⟨v0, v1, v2, y0, y1, y2, n, rfl, _, _, t0, t1, t2⟩ := Joins.open_agg3 Try.underlying40 (by kernel_rfl) (by kernel_rfl) hv h
  obtain ⟨a, ha, _, wa⟩ := DataW.trod_int Try.underlying3 t0
  obtain ⟨b, hb, _, wb⟩ := DataW.trod_int Try.underlying3 t1
  obtain ⟨A, n, c, ps, rfl, hp⟩ := open_pixs t2
  injection ha with ha _
  injection hb with hb _
  subst ha hb
  exact ⟨(a, b, ps), ⟨A, n, c, rfl, hp⟩, in64_of wa, in64_of wb⟩
theorem open_px (hv : Value.okWide Try.prog W r b0 48 v) (h : DataW.Trod enc Try.prog W base (fun _ => true) true 48 v d p) : ∃ x, PxV v x := by
  obtain ⟨v0, v1, v2, v3, y0, y1, y2, y3, n, rfl, _, _, t0, t1, t2, t3⟩ := Joins.open_agg4 Try.underlying48 (by kernel_rfl) (by kernel_rfl) hv h
  obtain ⟨a, ha, _, wa⟩ := DataW.trod_int Try.underlying3 t0
  obtain ⟨b, hb, _, wb⟩ := DataW.trod_int Try.underlying3 t1
  obtain ⟨c, hc, _, wc⟩ := DataW.trod_int Try.underlying3 t2
  obtain ⟨e, he, _, we⟩ := DataW.trod_int Try.underlying3 t3
  injection ha with ha _
  injection hb with hb _
  injection hc with hc _
  injection he with he _
  subst ha hb hc he
  exact ⟨⟨a, b, c, e⟩, rfl, in64_of wa, in64_of wb, in64_of wc, in64_of we⟩
end
end Go.Proofs.Ytbakgdcajpagkaa
namespace Go.Proofs.Ytbakgdcajpagkaa
open Go.ChangeShapes Go.WideShapes Go.RowKit Go.Deep
set_option maxRecDepth 100000 in
/-- A slice of points, opened. -/
theorem open_pts {H : Type} {enc : TypeId × Value → H} {W : World} {base n0 : Nat} {v : Value} {x : DataW H × List MemPlace}
    (h : DataW.trod enc Try.prog W base (fun _ => true) true n0 22 [v] = some x) : ∃ ks, Knots W W.heap.size v ks := by
  rcases open_slice Try.underlying22 h with ⟨hcs, _⟩ | ⟨a, len, cap, m, n, D, Pl, hcs, hb, hl, hm, hmm, hx, hi⟩
  · simp at hcs
    subst hcs
    exact ⟨[], Knots.nil _ _⟩
  · simp at hcs
    subst hcs
    have hC : Try.prog.cellsOf 28 = 2 := by kernel_rfl
    have hcell : ∀ i, i < len → ∃ x y : Int, W.cell? ((a.add (i * 2)).add 0) = some (.int .i64 x) ∧ W.cell? ((a.add (i * 2)).add 1) = some (.int .i64 y) := by
      intro i hil
      obtain ⟨cs, hc, ht⟩ := hi i (by rw [hmm]; split <;> omega)
      rw [hC] at hc
      obtain ⟨_, hcl, hat⟩ := World.cells?_some hc
      obtain ⟨ys, n', _, _, _, hyl, hg⟩ := DataW.trod_struct Try.underlying28 ht
      have hyl : ys.length = 2 := hyl
      have g0 := hg 0 _ rfl
      have g1 := hg 1 _ rfl
      obtain ⟨x, hx⟩ := cell_of_trod_int (i := 0) (by omega) hcl g0 (by rw [List.getElem?_eq_getElem (by omega)]; simp)
      obtain ⟨y, hy⟩ := cell_of_trod_int (i := 1) (by omega) hcl g1 (by rw [List.getElem?_eq_getElem (by omega)]; simp)
      exact ⟨x, y, (hat 0 (by omega)).trans hx, (hat 1 (by omega)).trans hy⟩
    by_cases h0 : len = 0
    · subst h0
      exact ⟨[], some a, cap, rfl, by simp, fun i hi => absurd hi (by simp)⟩
    · obtain ⟨x0, _, hx0, _⟩ := hcell 0 (by omega)
      obtain ⟨b, o, sp⟩ := a
      have hsp : sp = none := by
        have := spot_none hx0
        simpa [Addr.add] using this
      subst hsp
      simp only [add_eq] at hcell hx0
      refine ⟨(List.range len).map fun i => (intOf ((W.cell? ⟨b, o + i * 2, none⟩).getD undef), intOf ((W.cell? ⟨b, o + i * 2 + 1, none⟩).getD undef)), some ⟨b, o, none⟩, cap, by simp, by unfold maxLen at hm; simp; omega, fun i hi => ⟨b, o, rfl, ?_, ?_, ?_⟩⟩
      · exact World.block_lt_of_cell? W _ hx0
      · have hil : i < len := by simpa using hi
        obtain ⟨x, y, h1, h2⟩ := hcell i hil
        simp only [Nat.add_zero] at h1
        rw [h1]
        simp [kx, hil, h1, intOf]
      · have hil : i < len := by simpa using hi
        obtain ⟨x, y, h1, h2⟩ := hcell i hil
        rw [h2]
        simp [ky, hil, h2, intOf]
/-- A warp as a value: columns, rows, step, displacements. -/
def WarpV (w : World) (v : Value) (x : Int × Int × Int × List (Int × Int)) : Prop := (∃ A c, v = .agg #[.int .i64 x.1, .int .i64 x.2.1, .int .i64 x.2.2.1, .slice A x.2.2.2.length c] ∧ Knots w w.heap.size (.slice A x.2.2.2.length c) x.2.2.2) ∧ in64 x.1 ∧ in64 x.2.1 ∧ in64 x.2.2.1
def RkV (v : Value) (r : Rk) : Prop := v = .agg #[.int .i64 r.x, .int .i64 r.y, .int .i64 r.w, .int .i64 r.h] ∧ in64 r.x ∧ in64 r.y ∧ in64 r.w ∧ in64 r.h
def PtV (v : Value) (p : Int × Int) : Prop := v = .agg #[.int .i64 p.1, .int .i64 p.2] ∧ in64 p.1 ∧ in64 p.2
section
variable {H : Type} {enc : TypeId × Value → H} {W : World} {base b0 : Nat} {r : Reach} {v : Value} {d : DataW H} {p : List MemPlace}
theorem open_warp (hv : Value.okWide Try.prog W r b0 24 v) (h : DataW.Trod enc Try.prog W base (fun _ => true) true 24 v d p) : ∃ x, WarpV W v x := by
  obtain ⟨v0, v1, v2, v3, y0, y1, y2, y3, n, rfl, _, _, t0, t1, t2, t3⟩ := Joins.open_agg4 Try.underlying24 (by kernel_rfl) (by kernel_rfl) hv h
  obtain ⟨a, ha, _, wa⟩ := DataW.trod_int Try.underlying3 t0
  obtain ⟨b, hb, _, wb⟩ := DataW.trod_int Try.underlying3 t1
  obtain ⟨c, hc, _, wc⟩ := DataW.trod_int Try.underlying3 t2
  obtain ⟨ks, hk⟩ := open_pts t3
  obtain ⟨A, cc, rfl, hk2⟩ := id hk
  injection ha with ha _
  injection hb with hb _
  injection hc with hc _
  subst ha hb hc
  exact ⟨(a, b, c, ks), ⟨A, cc, rfl, hk⟩, in64_of wa, in64_of wb, in64_of wc⟩
theorem open_rk (hv : Value.okWide Try.prog W r b0 34 v) (h : DataW.Trod enc Try.prog W base (fun _ => true) true 34 v d p) : ∃ x, RkV v x := by
  obtain ⟨v0, v1, v2, v3, y0, y1, y2, y3, n, rfl, _, _, t0, t1, t2, t3⟩ := Joins.open_agg4 Try.underlying34 (by kernel_rfl) (by kernel_rfl) hv h
  obtain ⟨a, ha, _, wa⟩ := DataW.trod_int Try.underlying3 t0
  obtain ⟨b, hb, _, wb⟩ := DataW.trod_int Try.underlying3 t1
  obtain ⟨c, hc, _, wc⟩ := DataW.trod_int Try.underlying3 t2
  obtain ⟨e, he, _, we⟩ := DataW.trod_int Try.underlying3 t3
  injection ha with ha _
  injection hb with hb _
  injection hc with hc _
  injection he with he _
  subst ha hb hc he
  exact ⟨⟨a, b, c, e⟩, rfl, in64_of wa, in64_of wb, in64_of wc, in64_of we⟩
theorem open_pt (hv : Value.okWide Try.prog W r b0 28 v) (h : DataW.Trod enc Try.prog W base (fun _ => true) true 28 v d p) : ∃ x, PtV v x := by
  obtain ⟨v0, v1, y0, y1, n, rfl, _, _, t0, t1⟩ := Joins.open_agg2 Try.underlying28 (by kernel_rfl) (by kernel_rfl) hv h
  obtain ⟨a, ha, _, wa⟩ := DataW.trod_int Try.underlying3 t0
  obtain ⟨b, hb, _, wb⟩ := DataW.trod_int Try.underlying3 t1
  injection ha with ha _
  injection hb with hb _
  subst ha hb
  exact ⟨(a, b), rfl, in64_of wa, in64_of wb⟩
end
end Go.Proofs.Ytbakgdcajpagkaa
