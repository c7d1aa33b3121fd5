/- The law's same: two images are compared. -/
import Derived.Test.YtineinmghajmnaaMB
import Derived.Deep.LoopGhost
import Derived.Test.YtineinmghajmnaaMS
import Derived.Deep.DeepCutAuto
namespace Go.Proofs.Ytineinmghajmnaa
open Go.RowKit
theorem Px.ext' {a b : Px} (h : a.r = b.r ∧ a.g = b.g ∧ a.b = b.b ∧ a.a = b.a) : a = b := by
  obtain ⟨h1, h2, h3, h4⟩ := h
  cases a; cases b; simp_all
instance : DecidableEq Px := fun a b => decidable_of_iff (a.r = b.r ∧ a.g = b.g ∧ a.b = b.b ∧ a.a = b.a) ⟨Px.ext', fun h => by subst h; exact ⟨rfl, rfl, rfl, rfl⟩⟩
theorem px_ne {a b : Px} (h : a ≠ b) : (a.r == b.r) = false ∨ ((a.r == b.r) = true ∧ (a.g == b.g) = false) ∨ ((a.r == b.r) = true ∧ (a.g == b.g) = true ∧ (a.b == b.b) = false) ∨ ((a.r == b.r) = true ∧ (a.g == b.g) = true ∧ (a.b == b.b) = true ∧ (a.a == b.a) = false) := by
  by_cases h1 : a.r = b.r
  · by_cases h2 : a.g = b.g
    · by_cases h3 : a.b = b.b
      · by_cases h4 : a.a = b.a
        · exact absurd (Px.ext' ⟨h1, h2, h3, h4⟩) h
        · simp [h1, h2, h3, h4]
      · simp [h1, h2, h3]
    · simp [h1, h2]
  · simp [h1]
def ISameRel (xs ys : List Px) (w : World) (g : Nat) (i : Value) (wr : World) : Prop :=
  ∃ k : Nat, k ≤ xs.length ∧ g = xs.length - k ∧ i = .int .i64 k ∧ (∀ j, j < k → pat xs j = pat ys j) ∧ ∃ m, wr = w.drewN m
theorem pxs_eq_of {xs ys : List Px} (hl : xs.length = ys.length) (h : ∀ j, j < xs.length → pat xs j = pat ys j) : xs = ys := by
  apply List.ext_getElem hl
  intro i h1 h2
  have := h i h1
  simpa [pat, h1, h2] using this

set_option maxHeartbeats 4000000 in
theorem isame_any (W H W' H' : Int) (v1 v2 : Value) (xs ys : List Px) (w : World) (h1 : Pixs w w.heap.size v1 xs) (h2 : Pixs w w.heap.size v2 ys) :
    Calls Try.prog 16 #[.agg #[.int .i64 W, .int .i64 H, v1], .agg #[.int .i64 W', .int .i64 H', v2]] w
      fun e w' => e = .returned (.bool (decide (W = W' ∧ H = H' ∧ xs = ys))) ∧ Below w.heap.size w w' := by
  obtain ⟨A1, c1, rfl, l1, r1⟩ := h1
  obtain ⟨A2, c2, rfl, l2, r2⟩ := h2
  have R1 := Lib.hid r1; clear r1
  have R2 := Lib.hid r2; clear r2
  obtain ⟨hb1, hb2, hB⟩ := two_boxes w #[.int .i64 W, .int .i64 H, .slice A1 xs.length c1] #[.int .i64 W', .int .i64 H', .slice A2 ys.length c2] 24 24 _ rfl
  have HB1 := Lib.hid hb1; have HB2 := Lib.hid hb2; have HBW := Lib.hid hB; clear hb1 hb2 hB
  by_cases hne : W = W' ∧ H = H' ∧ xs.length = ys.length
  rotate_left
  · rcases (show (W != W') = true ∨ ((W != W') = false ∧ (H != H') = true) ∨ ((W != W') = false ∧ (H != H') = false ∧ ((xs.length : Int) != ys.length) = true) by
      by_cases e1 : W = W'
      · by_cases e2 : H = H'
        · right; right
          refine ⟨by simp [e1], by simp [e2], ?_⟩
          simp only [bne_iff_ne]
          intro e; exact hne ⟨e1, e2, by omega⟩
        · right; left; simp [e1, e2]
      · left; simp [e1]) with t1 | ⟨t1, t2⟩ | ⟨t1, t2, t3⟩
    all_goals
      have HNE := Lib.hid hne
      clear hne
      go_enter Try.func16, Try.ntmps16
      go_wp2_with fail
      go_ret
      refine ⟨ret_bool ?_, HBW.out⟩
      symm
      rw [decide_eq_false_iff_not]
      intro e
      exact HNE.out ⟨e.1, e.2.1, by rw [e.2.2]⟩
  · obtain ⟨rfl, rfl, hl⟩ := hne
    have t3 : ((xs.length : Int) != ys.length) = false := by simp [hl]
    have HL := Lib.hid hl; clear hl
    go_enter Try.func16, Try.ntmps16
    go_wp2_with fail
    generalize World.alloc (w.alloc _) _ = w0 at *
    go_loopg [30] xs.length (ISameRel xs ys w0)
    case atStart => exact ⟨0, Nat.zero_le _, rfl, rfl, fun j hj => absurd hj (by omega), 0, rfl⟩
    case round =>
      obtain ⟨k, hk, rfl, rfl, hj, m, rfl⟩ := hrel
      have HJ := Lib.hid hj; clear hj
      obtain ⟨⟨b1, b2, b3⟩, _, _, _⟩ := HB1.out.three
      obtain ⟨⟨d1, d2, d3⟩, _, _, _⟩ := HB2.out.three
      by_cases hlt : k < xs.length
      · obtain ⟨b, o, rfl, hb, p1, p2, p3, p4⟩ := R1.out k hlt
        have hlt2 : k < ys.length := by have := HL.out; omega
        obtain ⟨b', o', rfl, hb', q1, q2, q3, q4⟩ := R2.out k hlt2
        replace p1 := (HBW.out.cell (p := ⟨b, o + k * 4, none⟩) hb).trans p1
        replace p2 := (HBW.out.cell (p := ⟨b, o + k * 4 + 1, none⟩) hb).trans p2
        replace p3 := (HBW.out.cell (p := ⟨b, o + k * 4 + 2, none⟩) hb).trans p3
        replace p4 := (HBW.out.cell (p := ⟨b, o + k * 4 + 3, none⟩) hb).trans p4
        replace q1 := (HBW.out.cell (p := ⟨b', o' + k * 4, none⟩) hb').trans q1
        replace q2 := (HBW.out.cell (p := ⟨b', o' + k * 4 + 1, none⟩) hb').trans q2
        replace q3 := (HBW.out.cell (p := ⟨b', o' + k * 4 + 2, none⟩) hb').trans q3
        replace q4 := (HBW.out.cell (p := ⟨b', o' + k * 4 + 3, none⟩) hb').trans q4
        clear hb hb'
        have hk0 : (0 : Int) ≤ (k : Int) := by omega
        have hk1 : (k : Int) < (xs.length : Int) := by omega
        have hk2 : (k : Int) < (ys.length : Int) := by omega
        generalize hx : pat xs k = x at *
        generalize hy : pat ys k = y at *
        have HX := Lib.hid hx; clear hx
        have HY := Lib.hid hy; clear hy
        by_cases hxy : x = y
        · subst hxy
          go_wp2_with fail
          go_quiet (fail)
          go_wp2_with fail
          go_roundg (xs.length - (k + 1))
          case measure => omega
          case rel =>
            refine ⟨k + 1, by omega, rfl, by go_num, fun j hj => ?_, _, rfl⟩
            by_cases e : j = k
            · subst e; rw [HX.out, HY.out]
            · exact HJ.out j (by omega)
        · have HXY := Lib.hid hxy
          rcases px_ne hxy with t1 | ⟨t1, t2⟩ | ⟨t1, t2, t3⟩ | ⟨t1, t2, t3, t4⟩
          all_goals
            clear hxy
            go_wp2_with fail
            go_quiet (fail)
            go_wp2_with fail
            go_ret
            refine ⟨ret_bool ?_, Below.drewN' (Below.drewN' HBW.out _) _⟩
            symm
            rw [decide_eq_false_iff_not]
            intro e
            exact HXY.out (HX.out.symm.trans ((congrArg (fun l => pat l k) e.2.2).trans HY.out))
      · go_wp2_with fail
        go_ret
        refine ⟨ret_bool ?_, Below.drewN' HBW.out _⟩
        symm
        rw [decide_eq_true_eq]
        exact ⟨by trivial, by trivial, pxs_eq_of HL.out fun j hj => HJ.out j (by omega)⟩
end Go.Proofs.Ytineinmghajmnaa
namespace Go.Proofs.Ytineinmghajmnaa
open Go.RowKit
/-- The law holds. -/
def YesPost (w : World) (e : Ending) (w' : World) : Prop := e = .returned (.bool true) ∧ Below w.heap.size w w'
theorem lit_pixs {w : World} {g : Nat} {t : TypeId} {ps : List Px} (hb : Bx w g t ((flat4 ps).map (Value.int .i64)).toArray) (hl : ps.length ≤ 100) : Pixs w w.heap.size (.slice (some ⟨g, 0, none⟩) ps.length ps.length) ps := by
  refine ⟨_, _, rfl, by omega, fun i hi => ⟨g, 0, rfl, hb.lt, ?_⟩⟩
  obtain ⟨f1, f2, f3, f4⟩ := flat4_get ps i hi
  simp only [Nat.zero_add]
  refine ⟨hb.cell ?_, hb.cell ?_, hb.cell ?_, hb.cell ?_⟩
  · simp [f1]
  · simp [f2]
  · simp [f3]
  · simp [f4]
theorem Bx.put3 {w : World} {g : Nat} {t : TypeId} {a b c : Value} (h : Bx w g t #[a, b, c]) (a' b' c' : Value) : Bx (((w.setCell ⟨g, 0, none⟩ a').setCell ⟨g, 1, none⟩ b').setCell ⟨g, 2, none⟩ c') g t #[a', b', c'] := by
  have := ((h.set 0 a').set 1 b').set 2 c'
  simpa using this
def exI : List Px := [⟨65535, 0, 0, 65535⟩, ⟨0, 0, 0, 65535⟩]
def exD : List Px := [⟨65535, 0, 0, 65535⟩, ⟨65535, 0, 0, 65535⟩, ⟨0, 0, 0, 65535⟩, ⟨0, 0, 0, 65535⟩, ⟨65535, 0, 0, 65535⟩, ⟨65535, 0, 0, 65535⟩, ⟨0, 0, 0, 65535⟩, ⟨0, 0, 0, 65535⟩]
def exH : List Px := [⟨32768, 0, 0, 65535⟩]
/-- Behind the four calls of At. -/
def AwMid (w0 : World) (v : Value) (w' : World) : Prop := v = .bool false ∧ Below w0.heap.size w0 w'
set_option maxRecDepth 100000 in
set_option maxHeartbeats 8000000 in
theorem awake_core (w : World)
    (TA1 : ∀ A c w, Pixs w w.heap.size (.slice A 2 c) exI → Calls Try.prog 12 #[.agg #[.int .i64 2, .int .i64 1, .slice A 2 c], .int .i64 1, .int .i64 65536, .int .i64 32768] w (PxPost ⟨32768, 0, 0, 65535⟩ w))
    (TA2 : ∀ A c w, Pixs w w.heap.size (.slice A 2 c) exI → Calls Try.prog 12 #[.agg #[.int .i64 2, .int .i64 1, .slice A 2 c], .int .i64 1, .int .i64 0, .int .i64 32768] w (PxPost ⟨65535, 0, 0, 32768⟩ w))
    (TA3 : ∀ A c w, Pixs w w.heap.size (.slice A 2 c) exI → Calls Try.prog 12 #[.agg #[.int .i64 2, .int .i64 1, .slice A 2 c], .int .i64 0, .int .i64 65536, .int .i64 0] w (PxPost ⟨0, 0, 0, 65535⟩ w))
    (TA4 : ∀ A c w, Pixs w w.heap.size (.slice A 2 c) exI → Calls Try.prog 12 #[.agg #[.int .i64 2, .int .i64 1, .slice A 2 c], .int .i64 0, .int .i64 (-1), .int .i64 0] w (PxPost ⟨0, 0, 0, 0⟩ w))
    (TD : ∀ A c w, Pixs w w.heap.size (.slice A 2 c) exI → Calls Try.prog 14 #[.agg #[.int .i64 2, .int .i64 1, .slice A 2 c], .agg #[.int .i64 131072, .int .i64 0, .int .i64 0, .int .i64 131072, .int .i64 0, .int .i64 0], .int .i64 0, .agg #[.int .i64 0, .int .i64 0, .int .i64 4, .int .i64 2]] w (ImPost 0 4 2 exD w))
    (TN : ∀ w, Calls Try.prog 17 #[.agg #[.int .i64 65536, .int .i64 0, .int .i64 0, .int .i64 65536, .int .i64 0, .int .i64 0], .int .i64 1, .agg #[.int .i64 0, .int .i64 0, .int .i64 4, .int .i64 4]] w (RkE 0 ⟨-2, -2, 8, 8⟩ w))
    (TR : ∀ A c w, Pixs w w.heap.size (.slice A 2 c) exI → Calls Try.prog 19 #[.agg #[.int .i64 2, .int .i64 1, .slice A 2 c], .int .i64 1, .int .i64 1, .int .i64 1] w (ImPost 0 1 1 exH w)) :
    Calls Try.prog 11 #[] w fun e w' => e = .returned (.bool true) ∧ Below w.heap.size w w' := by
  replace TA1 := Lib.hid TA1; replace TA2 := Lib.hid TA2; replace TA3 := Lib.hid TA3; replace TA4 := Lib.hid TA4; replace TD := Lib.hid TD; replace TN := Lib.hid TN; replace TR := Lib.hid TR
  go_enter Try.func11, Try.ntmps11
  go_upto_region 4 with fail
  have K := Lib.hid (fr_five w #[.int .i64 65535, .int .i64 0, .int .i64 0, .int .i64 65535] #[.int .i64 0, .int .i64 0, .int .i64 0, .int .i64 65535] #[.int .i64 65535, .int .i64 0, .int .i64 0, .int .i64 65535, .int .i64 0, .int .i64 0, .int .i64 0, .int .i64 65535] #[.int .i64 2, .int .i64 1, .slice (some ⟨w.heap.size + 1 + 1, 0, none⟩) 2 2] #[.int .i64 32768, .int .i64 0, .int .i64 0, .int .i64 65535] 27 27 27 24 27 _ rfl)
  generalize World.alloc (World.alloc (World.alloc (World.alloc (World.alloc w _) _) _) _) _ = w0 at *
  have HP := Lib.hid (show Pixs w0 w0.heap.size (.slice (some ⟨w.heap.size + 1 + 1, 0, none⟩) 2 2) exI from lit_pixs (ps := exI) K.out.1.2.2.1 (by decide))
  have HSA := Lib.hid (show ∀ wq, Below w0.heap.size w0 wq → (wq.cell? ⟨w.heap.size + 1 + 1 + 1, 0, none⟩ = some (.int .i64 2) ∧ wq.cell? ⟨w.heap.size + 1 + 1 + 1, 1, none⟩ = some (.int .i64 1) ∧ wq.cell? ⟨w.heap.size + 1 + 1 + 1, 2, none⟩ = some (.slice (some ⟨w.heap.size + 1 + 1, 0, none⟩) 2 2)) ∧ (wq.cell? ⟨w.heap.size + 1 + 1 + 1 + 1, 0, none⟩ = some (.int .i64 32768) ∧ wq.cell? ⟨w.heap.size + 1 + 1 + 1 + 1, 1, none⟩ = some (.int .i64 0) ∧ wq.cell? ⟨w.heap.size + 1 + 1 + 1 + 1, 2, none⟩ = some (.int .i64 0) ∧ wq.cell? ⟨w.heap.size + 1 + 1 + 1 + 1, 3, none⟩ = some (.int .i64 65535)) ∧ (wq.cell? ⟨w.heap.size + 1, 0, none⟩ = some (.int .i64 0) ∧ wq.cell? ⟨w.heap.size + 1, 1, none⟩ = some (.int .i64 0) ∧ wq.cell? ⟨w.heap.size + 1, 2, none⟩ = some (.int .i64 0) ∧ wq.cell? ⟨w.heap.size + 1, 3, none⟩ = some (.int .i64 65535)) from fun wq hq => ⟨(K.out.below hq).1.2.2.2.1.three.1, (K.out.below hq).1.2.2.2.2.1.four.1, (K.out.below hq).1.2.1.four.1⟩)
  have C1 := Lib.hid (show ∀ wq, Below w0.heap.size w0 wq → _ from fun wq hq => TA1.out _ _ wq (HP.out.on hq))
  have C2 := Lib.hid (show ∀ wq, Below w0.heap.size w0 wq → _ from fun wq hq => TA2.out _ _ wq (HP.out.on hq))
  have C3 := Lib.hid (show ∀ wq, Below w0.heap.size w0 wq → _ from fun wq hq => TA3.out _ _ wq (HP.out.on hq))
  have C4 := Lib.hid (show ∀ wq, Below w0.heap.size w0 wq → _ from fun wq hq => TA4.out _ _ wq (HP.out.on hq))
  have hBv : Below w0.heap.size w0 w0.drew := (Below.refl _ _).drew
  have hS0 := HSA.out _ hBv
  go_cut [36] (AwMid w0)
  case first =>
    clear TA1 TA2 TA3 TA4 TD TN TR K HP
    go_region_held3 (fun wq => (wq.cell? ⟨w.heap.size + 1 + 1 + 1, 0, none⟩ = some (.int .i64 2) ∧ wq.cell? ⟨w.heap.size + 1 + 1 + 1, 1, none⟩ = some (.int .i64 1) ∧ wq.cell? ⟨w.heap.size + 1 + 1 + 1, 2, none⟩ = some (.slice (some ⟨w.heap.size + 1 + 1, 0, none⟩) 2 2)) ∧ (wq.cell? ⟨w.heap.size + 1 + 1 + 1 + 1, 0, none⟩ = some (.int .i64 32768) ∧ wq.cell? ⟨w.heap.size + 1 + 1 + 1 + 1, 1, none⟩ = some (.int .i64 0) ∧ wq.cell? ⟨w.heap.size + 1 + 1 + 1 + 1, 2, none⟩ = some (.int .i64 0) ∧ wq.cell? ⟨w.heap.size + 1 + 1 + 1 + 1, 3, none⟩ = some (.int .i64 65535)) ∧ (wq.cell? ⟨w.heap.size + 1, 0, none⟩ = some (.int .i64 0) ∧ wq.cell? ⟨w.heap.size + 1, 1, none⟩ = some (.int .i64 0) ∧ wq.cell? ⟨w.heap.size + 1, 2, none⟩ = some (.int .i64 0) ∧ wq.cell? ⟨w.heap.size + 1, 3, none⟩ = some (.int .i64 65535)))
      (first | assumption | exact hS0 | exact HSA.out _ hBv | go_keep)
      (first | ((with_reducible refine (C1.out _ hBv).mono ?_); rintro e wv ⟨rfl, hbv⟩; have hBv := bel_trans hBv hbv) | ((with_reducible refine (C2.out _ hBv).mono ?_); rintro e wv ⟨rfl, hbv⟩; have hBv := bel_trans hBv hbv) | ((with_reducible refine (C3.out _ hBv).mono ?_); rintro e wv ⟨rfl, hbv⟩; have hBv := bel_trans hBv hbv) | ((with_reducible refine (C4.out _ hBv).mono ?_); rintro e wv ⟨rfl, hbv⟩; have hBv := bel_trans hBv hbv))
    all_goals (try go_wp2_with fail)
    all_goals go_meet
    all_goals exact ⟨rfl, hBv⟩
  case rest =>
  obtain ⟨rfl, hB⟩ := hcut
  replace K := Lib.hid (K.out.below hB)
  have HP1 := Lib.hid (HP.out.on hB)
  clear HP hB hBv hS0 HSA C1 C2 C3 C4 TA1 TA2 TA3 TA4
  obtain ⟨⟨i1, i2, i3⟩, -⟩ := K.out.1.2.2.2.1.three
  go_wp2_with fail
  refine (TD.out _ _ _ HP1.out).mono ?_
  rintro e w2 ⟨A5, n5, c5, rfl, hrow, hb⟩
  have KD := Lib.hid (K.out.below hb)
  go_upto_region 7 with fail
  have H5 := Lib.hid (Bx.new w2 24 #[.int .i64 4, .int .i64 2, .slice A5 n5 c5])
  have hb3 := bel_alloc hb (.cells #[.int .i64 4, .int .i64 2, .slice A5 n5 c5] 24)
  have HQ := Lib.hid (hrow.pixs.on (bel1 w2 (.cells #[.int .i64 4, .int .i64 2, .slice A5 n5 c5] 24)))
  replace K := Lib.hid (K.out.below hb3); replace HP1 := Lib.hid (HP1.out.on hb3)
  have HD := Lib.hid (bel1 w2 (.cells #[.int .i64 4, .int .i64 2, .slice A5 n5 c5] 24))
  clear hb hb3 hrow i1 i2 i3 TD
  generalize World.alloc w2 _ = w3 at *
  generalize hgD : w2.heap.size = g5 at *
  have HGD := Lib.hid hgD
  clear hgD
  obtain ⟨⟨i1, i2, i3⟩, -⟩ := H5.out.three
  obtain ⟨⟨a1, a2, a3, a4⟩, -⟩ := K.out.1.1.four
  obtain ⟨⟨b1, b2, b3, b4⟩, -⟩ := K.out.1.2.1.four
  have HLD := Lib.hid (show Pixs (w3.alloc (.cells #[.int .i64 65535, .int .i64 0, .int .i64 0, .int .i64 65535, .int .i64 65535, .int .i64 0, .int .i64 0, .int .i64 65535, .int .i64 0, .int .i64 0, .int .i64 0, .int .i64 65535, .int .i64 0, .int .i64 0, .int .i64 0, .int .i64 65535, .int .i64 65535, .int .i64 0, .int .i64 0, .int .i64 65535, .int .i64 65535, .int .i64 0, .int .i64 0, .int .i64 65535, .int .i64 0, .int .i64 0, .int .i64 0, .int .i64 65535, .int .i64 0, .int .i64 0, .int .i64 0, .int .i64 65535] 27)) (w3.alloc (.cells #[.int .i64 65535, .int .i64 0, .int .i64 0, .int .i64 65535, .int .i64 65535, .int .i64 0, .int .i64 0, .int .i64 65535, .int .i64 0, .int .i64 0, .int .i64 0, .int .i64 65535, .int .i64 0, .int .i64 0, .int .i64 0, .int .i64 65535, .int .i64 65535, .int .i64 0, .int .i64 0, .int .i64 65535, .int .i64 65535, .int .i64 0, .int .i64 0, .int .i64 65535, .int .i64 0, .int .i64 0, .int .i64 0, .int .i64 65535, .int .i64 0, .int .i64 0, .int .i64 0, .int .i64 65535] 27)).heap.size (.slice (some ⟨w3.heap.size, 0, none⟩) 8 8) exD from lit_pixs (ps := exD) (Bx.new w3 27 #[.int .i64 65535, .int .i64 0, .int .i64 0, .int .i64 65535, .int .i64 65535, .int .i64 0, .int .i64 0, .int .i64 65535, .int .i64 0, .int .i64 0, .int .i64 0, .int .i64 65535, .int .i64 0, .int .i64 0, .int .i64 0, .int .i64 65535, .int .i64 65535, .int .i64 0, .int .i64 0, .int .i64 65535, .int .i64 65535, .int .i64 0, .int .i64 0, .int .i64 65535, .int .i64 0, .int .i64 0, .int .i64 0, .int .i64 65535, .int .i64 0, .int .i64 0, .int .i64 0, .int .i64 65535]) (by decide))
  have HQ2 := Lib.hid (HQ.out.on (bel1 w3 (.cells #[.int .i64 65535, .int .i64 0, .int .i64 0, .int .i64 65535, .int .i64 65535, .int .i64 0, .int .i64 0, .int .i64 65535, .int .i64 0, .int .i64 0, .int .i64 0, .int .i64 65535, .int .i64 0, .int .i64 0, .int .i64 0, .int .i64 65535, .int .i64 65535, .int .i64 0, .int .i64 0, .int .i64 65535, .int .i64 65535, .int .i64 0, .int .i64 0, .int .i64 65535, .int .i64 0, .int .i64 0, .int .i64 0, .int .i64 65535, .int .i64 0, .int .i64 0, .int .i64 0, .int .i64 65535] 27)))
  have hb3 := bel1 w3 (.cells #[.int .i64 65535, .int .i64 0, .int .i64 0, .int .i64 65535, .int .i64 65535, .int .i64 0, .int .i64 0, .int .i64 65535, .int .i64 0, .int .i64 0, .int .i64 0, .int .i64 65535, .int .i64 0, .int .i64 0, .int .i64 0, .int .i64 65535, .int .i64 65535, .int .i64 0, .int .i64 0, .int .i64 65535, .int .i64 65535, .int .i64 0, .int .i64 0, .int .i64 65535, .int .i64 0, .int .i64 0, .int .i64 0, .int .i64 65535, .int .i64 0, .int .i64 0, .int .i64 0, .int .i64 65535] 27)
  go_wp2_with fail
  refine (isame_any 4 2 4 2 _ _ exD exD _ HQ2.out HLD.out).mono ?_
  rintro e w4 ⟨rfl, hb⟩
  rw [show decide ((4 : Int) = 4 ∧ (2 : Int) = 2 ∧ exD = exD) = true by simp]
  replace hb := bel_trans hb3 hb
  replace HD := Lib.hid (HD.out.trans (hb.mono (Nat.le_of_lt H5.out.lt)))
  replace K := Lib.hid (K.out.below hb); replace HP1 := Lib.hid (HP1.out.on hb); replace H5 := Lib.hid (H5.out.below hb)
  clear hb hb3 HLD HQ HQ2 i1 i2 i3 a1 a2 a3 a4 b1 b2 b3 b4
  go_wp2_with fail
  refine (TN.out _).mono ?_
  rintro e w5 ⟨rfl, hb⟩
  replace HD := Lib.hid (HD.out.trans (hb.mono (Nat.le_of_lt H5.out.lt)))
  replace K := Lib.hid (K.out.below hb); replace HP1 := Lib.hid (HP1.out.on hb); replace H5 := Lib.hid (H5.out.below hb)
  clear hb TN
  go_upto_region 10 with fail
  have H7 := Lib.hid (Bx.new w5 33 #[.int .i64 (-2), .int .i64 (-2), .int .i64 8, .int .i64 8])
  have hb := bel1 w5 (.cells #[.int .i64 (-2), .int .i64 (-2), .int .i64 8, .int .i64 8] 33)
  replace HD := Lib.hid (HD.out.trans (hb.mono (Nat.le_of_lt H5.out.lt)))
  replace K := Lib.hid (K.out.below hb); replace HP1 := Lib.hid (HP1.out.on hb); replace H5 := Lib.hid (H5.out.below hb)
  clear hb
  generalize World.alloc w5 _ = w6 at *
  generalize w5.heap.size = g7 at *
  obtain ⟨⟨j1, j2, j3, j4⟩, -⟩ := H7.out.four
  obtain ⟨⟨i1, i2, i3⟩, -⟩ := K.out.1.2.2.2.1.three
  go_upto_region 12 with fail
  clear j1 j2 j3 j4
  have hg5 := H5.out.lt
  have H5K := H5
  go_wp2_with fail
  refine (TR.out _ _ _ HP1.out).mono ?_
  rintro e w7 ⟨A8, n8, c8, rfl, hrow, hb⟩
  replace HD := Lib.hid (HD.out.trans (hb.mono (Nat.le_of_lt H5.out.lt)))
  replace H5 := Lib.hid (H5.out.below hb)
  clear i1 i2 i3 TR K HP1 H7 hb
  obtain ⟨⟨i1, i2, i3⟩, y1, y2, y3⟩ := H5.out.three
  go_upto_region 13 with fail
  clear i1 i2 i3 y1 y2 y3
  have H8 := H5.out.put3 (.int .i64 1) (.int .i64 1) (.slice A8 n8 c8)
  have hr8 := hrow.set3 hg5 (Nat.le_refl _) (.int .i64 1) (.int .i64 1) (.slice A8 n8 c8)
  have hD8 := ((HD.out.setCell (p := ⟨g5, 0, none⟩) (Nat.le_refl _) (.int .i64 1)).setCell (p := ⟨g5, 1, none⟩) (Nat.le_refl _) (.int .i64 1)).setCell (p := ⟨g5, 2, none⟩) (Nat.le_refl _) (.slice A8 n8 c8)
  generalize World.setCell (World.setCell (World.setCell w7 _ _) _ _) _ _ = w8 at *
  have K8 := KD.out.below (by rw [HGD.out]; exact hD8)
  obtain ⟨⟨i1, i2, i3⟩, -⟩ := H8.three
  obtain ⟨⟨j1, j2, j3, j4⟩, -⟩ := K8.1.2.2.2.2.1.four
  have HB := Lib.hid K8.2
  have HLD := Lib.hid (show Pixs (w8.alloc (.cells #[.int .i64 32768, .int .i64 0, .int .i64 0, .int .i64 65535] 27)) (w8.alloc (.cells #[.int .i64 32768, .int .i64 0, .int .i64 0, .int .i64 65535] 27)).heap.size (.slice (some ⟨w8.heap.size, 0, none⟩) 1 1) exH from lit_pixs (ps := exH) (Bx.new w8 27 #[.int .i64 32768, .int .i64 0, .int .i64 0, .int .i64 65535]) (by decide))
  have HQ2 := Lib.hid (hr8.pixs.on (bel1 w8 (.cells #[.int .i64 32768, .int .i64 0, .int .i64 0, .int .i64 65535] 27)))
  have hb3 := bel1 w8 (.cells #[.int .i64 32768, .int .i64 0, .int .i64 0, .int .i64 65535] 27)
  clear K8 H8 hr8 hD8 hrow hg5 H5K
  go_wp2_with fail
  refine (isame_any 1 1 1 1 _ _ exH exH _ HQ2.out HLD.out).mono ?_
  rintro e w9 ⟨rfl, hb⟩
  rw [show decide ((1 : Int) = 1 ∧ (1 : Int) = 1 ∧ exH = exH) = true by simp]
  replace HB := Lib.hid (bel_trans HB.out (bel_trans hb3 hb))
  clear hb hb3 HLD HQ2 i1 i2 i3 j1 j2 j3 j4
  go_wp2_with fail
  go_ret
  exact ⟨rfl, HB.out⟩
end Go.Proofs.Ytineinmghajmnaa
namespace Go.Proofs.Ytineinmghajmnaa
open Go.RowKit
set_option maxRecDepth 100000 in
set_option maxHeartbeats 8000000 in
theorem sats_core (W H kind x y : Int) (vi : Value) (u : Px) (w : World)
    (T1 : ∀ w', Below w.heap.size w w' → Calls Try.prog 12 #[.agg #[.int .i64 W, .int .i64 H, vi], .int .i64 kind, .int .i64 x, .int .i64 y] w' (PxPost u w'))
    (T2 : ∀ w', Below w.heap.size w w' → Calls Try.prog 13 #[.agg #[.int .i64 W, .int .i64 H, vi], .int .i64 kind, .int .i64 x, .int .i64 y] w' (PxPost u w'))
    (T7 : ∀ w', Calls Try.prog 11 #[] w' fun e w'' => e = .returned (.bool true) ∧ Below w'.heap.size w' w'') :
    Calls Try.prog 3 #[.agg #[.int .i64 W, .int .i64 H, vi], .int .i64 kind, .int .i64 x, .int .i64 y] w (YesPost w) := by
  replace T1 := Lib.hid T1; replace T2 := Lib.hid T2; replace T7 := Lib.hid T7
  go_enter Try.func3, Try.ntmps3
  go_upto_region 1 with fail
  obtain ⟨hb1, hB, -⟩ := one_box w #[.int .i64 W, .int .i64 H, vi] 24 _ rfl
  generalize World.alloc w _ = w0 at *
  have HSA := Lib.hid (show ∀ wq, Below w0.heap.size w0 wq → wq.cell? ⟨w.heap.size, 0, none⟩ = some (.int .i64 W) ∧ wq.cell? ⟨w.heap.size, 1, none⟩ = some (.int .i64 H) ∧ wq.cell? ⟨w.heap.size, 2, none⟩ = some vi from fun wq hq => (hb1.below hq).three.1)
  have C1 := Lib.hid (show ∀ wq, Below w0.heap.size w0 wq → Calls Try.prog 12 #[.agg #[.int .i64 W, .int .i64 H, vi], .int .i64 kind, .int .i64 x, .int .i64 y] wq (PxPost u wq) from fun wq hq => T1.out wq (bel_trans hB hq))
  have C2 := Lib.hid (show ∀ wq, Below w0.heap.size w0 wq → Calls Try.prog 13 #[.agg #[.int .i64 W, .int .i64 H, vi], .int .i64 kind, .int .i64 x, .int .i64 y] wq (PxPost u wq) from fun wq hq => T2.out wq (bel_trans hB hq))
  have hBv : Below w0.heap.size w0 w0.drew := (Below.refl _ _).drew
  have hS0 := HSA.out _ hBv
  have HB := Lib.hid hB
  clear hb1 hB T1 T2
  go_region_held3 (fun wq => wq.cell? ⟨w.heap.size, 0, none⟩ = some (.int .i64 W) ∧ wq.cell? ⟨w.heap.size, 1, none⟩ = some (.int .i64 H) ∧ wq.cell? ⟨w.heap.size, 2, none⟩ = some vi)
    (first | assumption | exact hS0 | exact HSA.out _ hBv | go_keep)
    (first | ((with_reducible refine (C1.out _ hBv).mono ?_); rintro e wv ⟨rfl, hbv⟩; have hBv := bel_trans hBv hbv) | ((with_reducible refine (C2.out _ hBv).mono ?_); rintro e wv ⟨rfl, hbv⟩; have hBv := bel_trans hBv hbv) | ((with_reducible refine (T7.out _).mono ?_); rintro e wv ⟨rfl, hbv⟩; have hBv := bel_trans hBv hbv))
  all_goals
    go_wp2_with fail
    go_ret
    exact ⟨by simp, bel_trans HB.out hBv⟩
set_option maxRecDepth 100000 in
set_option maxHeartbeats 8000000 in
theorem sdraws_core (W H kind E W' H' : Int) (a : Af) (o : Rk) (vi : Value) (L : List Px) (w : World)
    (T1 : ∀ w', Below w.heap.size w w' → Calls Try.prog 14 #[.agg #[.int .i64 W, .int .i64 H, vi], .agg #[.int .i64 a.a, .int .i64 a.b, .int .i64 a.c, .int .i64 a.d, .int .i64 a.e, .int .i64 a.f], .int .i64 kind, .agg #[.int .i64 o.x, .int .i64 o.y, .int .i64 o.w, .int .i64 o.h]] w' (ImPost E W' H' L w'))
    (T2 : ∀ w', Below w.heap.size w w' → Calls Try.prog 15 #[.agg #[.int .i64 W, .int .i64 H, vi], .agg #[.int .i64 a.a, .int .i64 a.b, .int .i64 a.c, .int .i64 a.d, .int .i64 a.e, .int .i64 a.f], .int .i64 kind, .agg #[.int .i64 o.x, .int .i64 o.y, .int .i64 o.w, .int .i64 o.h]] w' (ImPost E W' H' L w'))
    (T7 : ∀ w', Calls Try.prog 11 #[] w' fun e w'' => e = .returned (.bool true) ∧ Below w'.heap.size w' w'') :
    Calls Try.prog 4 #[.agg #[.int .i64 W, .int .i64 H, vi], .agg #[.int .i64 a.a, .int .i64 a.b, .int .i64 a.c, .int .i64 a.d, .int .i64 a.e, .int .i64 a.f], .int .i64 kind, .agg #[.int .i64 o.x, .int .i64 o.y, .int .i64 o.w, .int .i64 o.h]] w (YesPost w) := by
  replace T1 := Lib.hid T1; replace T2 := Lib.hid T2; replace T7 := Lib.hid T7
  go_enter Try.func4, Try.ntmps4
  go_upto_region 1 with fail
  have K := Lib.hid (fr_three w #[.int .i64 W, .int .i64 H, vi] #[.int .i64 a.a, .int .i64 a.b, .int .i64 a.c, .int .i64 a.d, .int .i64 a.e, .int .i64 a.f] #[.int .i64 o.x, .int .i64 o.y, .int .i64 o.w, .int .i64 o.h] 24 31 33 _ rfl)
  generalize World.alloc (World.alloc (w.alloc _) _) _ = w0 at *
  obtain ⟨⟨a1, a2, a3⟩, -⟩ := K.out.1.1.three
  obtain ⟨⟨b1, b2, b3, b4, b5, b6⟩, -⟩ := K.out.1.2.1.six
  obtain ⟨⟨i1, i2, i3, i4⟩, -⟩ := K.out.1.2.2.1.four
  go_wp2_with fail
  refine (T1.out _ K.out.2).mono ?_
  rintro e w1 ⟨A1, n1, c1, rfl, hr1, hb⟩
  replace K := Lib.hid (K.out.below hb)
  clear hb a1 a2 a3 b1 b2 b3 b4 b5 b6 i1 i2 i3 i4
  go_upto_region 2 with fail
  have K13 := Lib.hid (Bx.new w1 24 #[.int .i64 W', .int .i64 H', .slice A1 n1 c1])
  have hb2 := bel1 w1 (.cells #[.int .i64 W', .int .i64 H', .slice A1 n1 c1] 24)
  replace K := Lib.hid (K.out.below hb2)
  have P1 := Lib.hid (hr1.pixs.on hb2)
  clear hb2 hr1
  generalize World.alloc w1 _ = w2 at *
  generalize w1.heap.size = g13 at *
  obtain ⟨⟨a1, a2, a3⟩, -⟩ := K.out.1.1.three
  obtain ⟨⟨b1, b2, b3, b4, b5, b6⟩, -⟩ := K.out.1.2.1.six
  obtain ⟨⟨i1, i2, i3, i4⟩, -⟩ := K.out.1.2.2.1.four
  go_wp2_with fail
  refine (T2.out _ K.out.2).mono ?_
  rintro e w3 ⟨A2, n2, c2, rfl, hr2, hb⟩
  replace K := Lib.hid (K.out.below hb); replace K13 := Lib.hid (K13.out.below hb); replace P1 := Lib.hid (P1.out.on hb)
  clear hb a1 a2 a3 b1 b2 b3 b4 b5 b6 i1 i2 i3 i4
  go_upto_region 3 with fail
  have K15 := Lib.hid (Bx.new w3 24 #[.int .i64 W', .int .i64 H', .slice A2 n2 c2])
  have hb4 := bel1 w3 (.cells #[.int .i64 W', .int .i64 H', .slice A2 n2 c2] 24)
  have P2 := Lib.hid (hr2.pixs.on hb4)
  replace K := Lib.hid (K.out.below hb4); replace K13 := Lib.hid (K13.out.below hb4); replace P1 := Lib.hid (P1.out.on hb4)
  clear hb4 hr2
  generalize World.alloc w3 _ = w4 at *
  generalize w3.heap.size = g15 at *
  go_wp2_with fail
  refine (T7.out _).mono ?_
  rintro e w6 ⟨rfl, hb⟩
  replace K := Lib.hid (K.out.below hb); replace K13 := Lib.hid (K13.out.below hb); replace P1 := Lib.hid (P1.out.on hb); replace K15 := Lib.hid (K15.out.below hb); replace P2 := Lib.hid (P2.out.on hb)
  obtain ⟨⟨a1, a2, a3⟩, -⟩ := K13.out.three
  obtain ⟨⟨b1, b2, b3⟩, -⟩ := K15.out.three
  have HB := Lib.hid K.out.2
  clear K K13 K15 hb
  go_wp2_with fail
  refine (isame_any W' H' W' H' _ _ L L _ P1.out P2.out).mono ?_
  rintro e w5 ⟨rfl, hb⟩
  rw [show decide (W' = W' ∧ H' = H' ∧ L = L) = true by simp]
  clear a1 a2 a3 b1 b2 b3 P1 P2
  replace HB := Lib.hid (bel_trans HB.out hb)
  clear hb
  go_wp2_with fail
  go_ret
  exact ⟨by simp, HB.out⟩
set_option maxRecDepth 100000 in
set_option maxHeartbeats 8000000 in
theorem ssizes_core (W H kind p q E W' H' : Int) (vi : Value) (L : List Px) (w : World)
    (T1 : ∀ w', Below w.heap.size w w' → Calls Try.prog 19 #[.agg #[.int .i64 W, .int .i64 H, vi], .int .i64 p, .int .i64 q, .int .i64 kind] w' (ImPost E W' H' L w'))
    (T2 : ∀ w', Below w.heap.size w w' → Calls Try.prog 20 #[.agg #[.int .i64 W, .int .i64 H, vi], .int .i64 p, .int .i64 q, .int .i64 kind] w' (ImPost E W' H' L w'))
    (T7 : ∀ w', Calls Try.prog 11 #[] w' fun e w'' => e = .returned (.bool true) ∧ Below w'.heap.size w' w'') :
    Calls Try.prog 6 #[.agg #[.int .i64 W, .int .i64 H, vi], .int .i64 p, .int .i64 q, .int .i64 kind] w (YesPost w) := by
  replace T1 := Lib.hid T1; replace T2 := Lib.hid T2; replace T7 := Lib.hid T7
  go_enter Try.func6, Try.ntmps6
  go_upto_region 1 with fail
  have K := Lib.hid (show Fr w [(24, #[.int .i64 W, .int .i64 H, vi])] (w.alloc (.cells #[.int .i64 W, .int .i64 H, vi] 24)) from ⟨⟨Bx.new _ _ _, trivial⟩, bel1 _ _⟩)
  generalize World.alloc w _ = w0 at *
  obtain ⟨⟨a1, a2, a3⟩, -⟩ := K.out.1.1.three
  go_wp2_with fail
  refine (T1.out _ K.out.2).mono ?_
  rintro e w1 ⟨A1, n1, c1, rfl, hr1, hb⟩
  replace K := Lib.hid (K.out.below hb)
  clear hb a1 a2 a3
  go_upto_region 2 with fail
  have K13 := Lib.hid (Bx.new w1 24 #[.int .i64 W', .int .i64 H', .slice A1 n1 c1])
  have hb2 := bel1 w1 (.cells #[.int .i64 W', .int .i64 H', .slice A1 n1 c1] 24)
  replace K := Lib.hid (K.out.below hb2)
  have P1 := Lib.hid (hr1.pixs.on hb2)
  clear hb2 hr1
  generalize World.alloc w1 _ = w2 at *
  generalize w1.heap.size = g13 at *
  obtain ⟨⟨a1, a2, a3⟩, -⟩ := K.out.1.1.three
  go_wp2_with fail
  refine (T2.out _ K.out.2).mono ?_
  rintro e w3 ⟨A2, n2, c2, rfl, hr2, hb⟩
  replace K := Lib.hid (K.out.below hb); replace K13 := Lib.hid (K13.out.below hb); replace P1 := Lib.hid (P1.out.on hb)
  clear hb a1 a2 a3
  go_upto_region 3 with fail
  have K15 := Lib.hid (Bx.new w3 24 #[.int .i64 W', .int .i64 H', .slice A2 n2 c2])
  have hb4 := bel1 w3 (.cells #[.int .i64 W', .int .i64 H', .slice A2 n2 c2] 24)
  have P2 := Lib.hid (hr2.pixs.on hb4)
  replace K := Lib.hid (K.out.below hb4); replace K13 := Lib.hid (K13.out.below hb4); replace P1 := Lib.hid (P1.out.on hb4)
  clear hb4 hr2
  generalize World.alloc w3 _ = w4 at *
  generalize w3.heap.size = g15 at *
  go_wp2_with fail
  refine (T7.out _).mono ?_
  rintro e w6 ⟨rfl, hb⟩
  replace K := Lib.hid (K.out.below hb); replace K13 := Lib.hid (K13.out.below hb); replace P1 := Lib.hid (P1.out.on hb); replace K15 := Lib.hid (K15.out.below hb); replace P2 := Lib.hid (P2.out.on hb)
  obtain ⟨⟨a1, a2, a3⟩, -⟩ := K13.out.three
  obtain ⟨⟨b1, b2, b3⟩, -⟩ := K15.out.three
  have HB := Lib.hid K.out.2
  clear K K13 K15 hb
  go_wp2_with fail
  refine (isame_any W' H' W' H' _ _ L L _ P1.out P2.out).mono ?_
  rintro e w5 ⟨rfl, hb⟩
  rw [show decide (W' = W' ∧ H' = H' ∧ L = L) = true by simp]
  clear a1 a2 a3 b1 b2 b3 P1 P2
  replace HB := Lib.hid (bel_trans HB.out hb)
  clear hb
  go_wp2_with fail
  go_ret
  exact ⟨by simp, HB.out⟩
set_option maxRecDepth 100000 in
set_option maxHeartbeats 8000000 in
theorem sneeds_core (kind E : Int) (a : Af) (o r : Rk) (w : World)
    (T1 : ∀ w', Calls Try.prog 17 #[.agg #[.int .i64 a.a, .int .i64 a.b, .int .i64 a.c, .int .i64 a.d, .int .i64 a.e, .int .i64 a.f], .int .i64 kind, .agg #[.int .i64 o.x, .int .i64 o.y, .int .i64 o.w, .int .i64 o.h]] w' (RkE E r w'))
    (T2 : ∀ w', Calls Try.prog 18 #[.agg #[.int .i64 a.a, .int .i64 a.b, .int .i64 a.c, .int .i64 a.d, .int .i64 a.e, .int .i64 a.f], .int .i64 kind, .agg #[.int .i64 o.x, .int .i64 o.y, .int .i64 o.w, .int .i64 o.h]] w' (RkE E r w'))
    (T7 : ∀ w', Calls Try.prog 11 #[] w' fun e w'' => e = .returned (.bool true) ∧ Below w'.heap.size w' w'') :
    Calls Try.prog 5 #[.agg #[.int .i64 a.a, .int .i64 a.b, .int .i64 a.c, .int .i64 a.d, .int .i64 a.e, .int .i64 a.f], .int .i64 kind, .agg #[.int .i64 o.x, .int .i64 o.y, .int .i64 o.w, .int .i64 o.h]] w (YesPost w) := by
  replace T1 := Lib.hid T1; replace T2 := Lib.hid T2; replace T7 := Lib.hid T7
  go_enter Try.func5, Try.ntmps5
  go_upto_region 1 with fail
  have K := Lib.hid (fr_two w #[.int .i64 a.a, .int .i64 a.b, .int .i64 a.c, .int .i64 a.d, .int .i64 a.e, .int .i64 a.f] #[.int .i64 o.x, .int .i64 o.y, .int .i64 o.w, .int .i64 o.h] 31 33 _ rfl)
  generalize World.alloc (w.alloc _) _ = w0 at *
  obtain ⟨⟨b1, b2, b3, b4, b5, b6⟩, -⟩ := K.out.1.1.six
  obtain ⟨⟨i1, i2, i3, i4⟩, -⟩ := K.out.1.2.1.four
  go_wp2_with fail
  refine (T1.out _).mono ?_
  rintro e w1 ⟨rfl, hb⟩
  replace K := Lib.hid (K.out.below hb)
  clear hb b1 b2 b3 b4 b5 b6 i1 i2 i3 i4
  go_upto_region 2 with fail
  have K7 := Lib.hid (Bx.new w1 33 #[.int .i64 r.x, .int .i64 r.y, .int .i64 r.w, .int .i64 r.h])
  have hb2 := bel1 w1 (.cells #[.int .i64 r.x, .int .i64 r.y, .int .i64 r.w, .int .i64 r.h] 33)
  replace K := Lib.hid (K.out.below hb2)
  clear hb2
  generalize World.alloc w1 _ = w2 at *
  generalize w1.heap.size = g7 at *
  obtain ⟨⟨b1, b2, b3, b4, b5, b6⟩, -⟩ := K.out.1.1.six
  obtain ⟨⟨i1, i2, i3, i4⟩, -⟩ := K.out.1.2.1.four
  go_wp2_with fail
  refine (T2.out _).mono ?_
  rintro e w3 ⟨rfl, hb⟩
  replace K := Lib.hid (K.out.below hb); replace K7 := Lib.hid (K7.out.below hb)
  clear hb b1 b2 b3 b4 b5 b6 i1 i2 i3 i4
  go_upto_region 3 with fail
  have K9 := Lib.hid (Bx.new w3 33 #[.int .i64 r.x, .int .i64 r.y, .int .i64 r.w, .int .i64 r.h])
  have hb4 := bel1 w3 (.cells #[.int .i64 r.x, .int .i64 r.y, .int .i64 r.w, .int .i64 r.h] 33)
  replace K := Lib.hid (K.out.below hb4); replace K7 := Lib.hid (K7.out.below hb4)
  clear hb4
  generalize World.alloc w3 _ = w4 at *
  generalize w3.heap.size = g9 at *
  go_wp2_with fail
  refine (T7.out _).mono ?_
  rintro e w6 ⟨rfl, hb⟩
  replace K := Lib.hid (K.out.below hb); replace K7 := Lib.hid (K7.out.below hb); replace K9 := Lib.hid (K9.out.below hb)
  obtain ⟨⟨a1, a2, a3, a4⟩, -⟩ := K7.out.four
  obtain ⟨⟨b1, b2, b3, b4⟩, -⟩ := K9.out.four
  have HB := Lib.hid K.out.2
  clear K K7 K9 hb
  go_wp2_with fail
  go_ret
  exact ⟨by simp, HB.out⟩
end Go.Proofs.Ytineinmghajmnaa
