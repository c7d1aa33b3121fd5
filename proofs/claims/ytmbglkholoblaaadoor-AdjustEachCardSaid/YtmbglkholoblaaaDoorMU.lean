/- Two nested loops that append the pixels of a raster one after the other: words for them. -/
import Derived.Test.YtmbglkholoblaaaDoorMD
import Derived.Test.YtmbglkholoblaaaDoorMB
import Derived.Test.YtmbglkholoblaaaDoorMN
import Derived.Deep.DeepCutAuto
import Derived.Test.YtmbglkholoblaaaDoorMT
import Derived.Deep.RegionLaw
namespace Go.Proofs.YtmbglkholoblaaaDoor
open Go.RowKit

/-- The image at box gt holds the first q pixels of l; all blocks below gt are as in wb. -/
def GridRel (W H : Int) (l : List Px) (gt : Nat) (wb : World) (q : Nat) (wr : World) : Prop :=
  ∃ v, Bx wr gt 45 #[.int .i64 W, .int .i64 H, v] ∧ PRow wr (gt + 1) v (l.take q) ∧ Below gt wb wr
/-- The heads of the outer and of the inner loop. -/
def OutRel (W H : Int) (l : List Px) (gt : Nat) (wb : World) (a b : Nat) (gh : Nat) (i : Value) (wr : World) : Prop := ∃ y : Nat, y ≤ b ∧ gh = b - y ∧ i = .int .i64 y ∧ GridRel W H l gt wb (y * a) wr
def InRel (W H : Int) (l : List Px) (gt : Nat) (wb : World) (a y : Nat) (gh : Nat) (i : Value) (wr : World) : Prop := ∃ x : Nat, x ≤ a ∧ gh = a - x ∧ i = .int .i64 x ∧ GridRel W H l gt wb (y * a + x) wr
def OneRel (W H : Int) (l : List Px) (gt : Nat) (wb : World) (gh : Nat) (i : Value) (wr : World) : Prop := ∃ x : Nat, x ≤ l.length ∧ gh = l.length - x ∧ i = .int .i64 x ∧ GridRel W H l gt wb x wr
theorem take_succ_pat (l : List Px) (k : Nat) (h : k < l.length) : l.take (k + 1) = l.take k ++ [pat l k] := by
  rw [List.take_succ_eq_append_getElem h]
  simp [pat, h]
section
variable {W H : Int} {l : List Px} {gt : Nat} {wb w w' : World} {q : Nat}
theorem GridRel.start (hb : Bx w gt 45 #[.int .i64 W, .int .i64 H, .slice none 0 0]) (h : Below gt wb w) : GridRel W H l gt wb 0 w := ⟨_, hb, PRow.nil _ _, h⟩
theorem GridRel.step {v' : Value} {u : Px} {vs : Value} {w7 w8 : World} (hb : Bx w7 gt 45 #[.int .i64 W, .int .i64 H, vs]) (hB : Below gt wb w7) (hr : PRow w8 (gt + 1) v' (l.take q ++ [u])) (h8 : Below (gt + 1) w7 w8) (hq : q < l.length) (hu : pat l q = u) :
    GridRel W H l gt wb (q + 1) (w8.setCell ⟨gt, 2, none⟩ v') := by
  refine ⟨v', ?_, ?_, ?_⟩
  · have := (hb.low (Nat.lt_succ_self _) h8).set 2 v'
    exact this
  · rw [take_succ_pat l q hq, hu]
    exact hr.set (Nat.lt_succ_self _) (Nat.le_refl _)
  · exact (hB.trans (h8.mono (Nat.le_succ _))).setCell (p := ⟨gt, 2, none⟩) (Nat.le_refl _) _
end
theorem PRow.nshape {w : World} {B : Nat} {v : Value} {ps : List Px} (h : PRow w B v ps) {n : Nat} (hn : ps.length = n) : ∃ A cap, v = .slice A n cap := by subst hn; exact h.shape
theorem take_len {l : List Px} {q : Nat} (h : q ≤ l.length) : (l.take q).length = q := by rw [List.length_take]; omega
end Go.Proofs.YtmbglkholoblaaaDoor
namespace Go.Proofs.YtmbglkholoblaaaDoor
open Go.RowKit

theorem Px.ext' {a b : Px} (h : a.r = b.r ∧ a.g = b.g ∧ a.b = b.b ∧ a.a = b.a) : a = b := by
  obtain ⟨h1, h2, h3, h4⟩ := h
  cases a; cases b; simp_all
instance : DecidableEq Px := fun a b => decidable_of_iff (a.r = b.r ∧ a.g = b.g ∧ a.b = b.b ∧ a.a = b.a) ⟨Px.ext', fun h => by subst h; exact ⟨rfl, rfl, rfl, rfl⟩⟩
theorem px_ne {a b : Px} (h : a ≠ b) : (a.r == b.r) = false ∨ ((a.r == b.r) = true ∧ (a.g == b.g) = false) ∨ ((a.r == b.r) = true ∧ (a.g == b.g) = true ∧ (a.b == b.b) = false) ∨ ((a.r == b.r) = true ∧ (a.g == b.g) = true ∧ (a.b == b.b) = true ∧ (a.a == b.a) = false) := by
  by_cases h1 : a.r = b.r
  · by_cases h2 : a.g = b.g
    · by_cases h3 : a.b = b.b
      · by_cases h4 : a.a = b.a
        · exact absurd (Px.ext' ⟨h1, h2, h3, h4⟩) h
        · simp [h1, h2, h3, h4]
      · simp [h1, h2, h3]
    · simp [h1, h2]
  · simp [h1]
def ISameRel (xs ys : List Px) (w : World) (g : Nat) (i : Value) (wr : World) : Prop :=
  ∃ k : Nat, k ≤ xs.length ∧ g = xs.length - k ∧ i = .int .i64 k ∧ (∀ j, j < k → pat xs j = pat ys j) ∧ ∃ m, wr = w.drewN m
theorem pxs_eq_of {xs ys : List Px} (hl : xs.length = ys.length) (h : ∀ j, j < xs.length → pat xs j = pat ys j) : xs = ys := by
  apply List.ext_getElem hl
  intro i h1 h2
  have := h i h1
  simpa [pat, h1, h2] using this

set_option maxHeartbeats 4000000 in
theorem isame_any (W H W' H' : Int) (v1 v2 : Value) (xs ys : List Px) (w : World) (h1 : Pixs w w.heap.size v1 xs) (h2 : Pixs w w.heap.size v2 ys) :
    Calls Tryd.prog 26 #[.agg #[.int .i64 W, .int .i64 H, v1], .agg #[.int .i64 W', .int .i64 H', v2]] w
      fun e w' => e = .returned (.bool (decide (W = W' ∧ H = H' ∧ xs = ys))) ∧ Below w.heap.size w w' := by
  obtain ⟨A1, c1, rfl, l1, r1⟩ := h1
  obtain ⟨A2, c2, rfl, l2, r2⟩ := h2
  have R1 := Lib.hid r1; clear r1
  have R2 := Lib.hid r2; clear r2
  obtain ⟨hb1, hb2, hB⟩ := two_boxes w #[.int .i64 W, .int .i64 H, .slice A1 xs.length c1] #[.int .i64 W', .int .i64 H', .slice A2 ys.length c2] 45 45 _ rfl
  have HB1 := Lib.hid hb1; have HB2 := Lib.hid hb2; have HBW := Lib.hid hB; clear hb1 hb2 hB
  by_cases hne : W = W' ∧ H = H' ∧ xs.length = ys.length
  rotate_left
  · rcases (show (W != W') = true ∨ ((W != W') = false ∧ (H != H') = true) ∨ ((W != W') = false ∧ (H != H') = false ∧ ((xs.length : Int) != ys.length) = true) by
      by_cases e1 : W = W'
      · by_cases e2 : H = H'
        · right; right
          refine ⟨by simp [e1], by simp [e2], ?_⟩
          simp only [bne_iff_ne]
          intro e; exact hne ⟨e1, e2, by omega⟩
        · right; left; simp [e1, e2]
      · left; simp [e1]) with t1 | ⟨t1, t2⟩ | ⟨t1, t2, t3⟩
    all_goals
      have HNE := Lib.hid hne
      clear hne
      go_enter Tryd.func26, Tryd.ntmps26
      go_wp2_with fail
      go_ret
      refine ⟨ret_bool ?_, HBW.out⟩
      symm
      rw [decide_eq_false_iff_not]
      intro e
      exact HNE.out ⟨e.1, e.2.1, by rw [e.2.2]⟩
  · obtain ⟨rfl, rfl, hl⟩ := hne
    have t3 : ((xs.length : Int) != ys.length) = false := by simp [hl]
    have HL := Lib.hid hl; clear hl
    go_enter Tryd.func26, Tryd.ntmps26
    go_wp2_with fail
    generalize World.alloc (w.alloc _) _ = w0 at *
    go_loopg [30] xs.length (ISameRel xs ys w0)
    case atStart => exact ⟨0, Nat.zero_le _, rfl, rfl, fun j hj => absurd hj (by omega), 0, rfl⟩
    case round =>
      obtain ⟨k, hk, rfl, rfl, hj, m, rfl⟩ := hrel
      have HJ := Lib.hid hj; clear hj
      obtain ⟨⟨b1, b2, b3⟩, _, _, _⟩ := HB1.out.three
      obtain ⟨⟨d1, d2, d3⟩, _, _, _⟩ := HB2.out.three
      by_cases hlt : k < xs.length
      · obtain ⟨b, o, rfl, hb, p1, p2, p3, p4⟩ := R1.out k hlt
        have hlt2 : k < ys.length := by have := HL.out; omega
        obtain ⟨b', o', rfl, hb', q1, q2, q3, q4⟩ := R2.out k hlt2
        replace p1 := (HBW.out.cell (p := ⟨b, o + k * 4, none⟩) hb).trans p1
        replace p2 := (HBW.out.cell (p := ⟨b, o + k * 4 + 1, none⟩) hb).trans p2
        replace p3 := (HBW.out.cell (p := ⟨b, o + k * 4 + 2, none⟩) hb).trans p3
        replace p4 := (HBW.out.cell (p := ⟨b, o + k * 4 + 3, none⟩) hb).trans p4
        replace q1 := (HBW.out.cell (p := ⟨b', o' + k * 4, none⟩) hb').trans q1
        replace q2 := (HBW.out.cell (p := ⟨b', o' + k * 4 + 1, none⟩) hb').trans q2
        replace q3 := (HBW.out.cell (p := ⟨b', o' + k * 4 + 2, none⟩) hb').trans q3
        replace q4 := (HBW.out.cell (p := ⟨b', o' + k * 4 + 3, none⟩) hb').trans q4
        clear hb hb'
        have hk0 : (0 : Int) ≤ (k : Int) := by omega
        have hk1 : (k : Int) < (xs.length : Int) := by omega
        have hk2 : (k : Int) < (ys.length : Int) := by omega
        generalize hx : pat xs k = x at *
        generalize hy : pat ys k = y at *
        have HX := Lib.hid hx; clear hx
        have HY := Lib.hid hy; clear hy
        by_cases hxy : x = y
        · subst hxy
          go_wp2_with fail
          go_quiet (fail)
          go_wp2_with fail
          go_roundg (xs.length - (k + 1))
          case measure => omega
          case rel =>
            refine ⟨k + 1, by omega, rfl, by go_num, fun j hj => ?_, _, rfl⟩
            by_cases e : j = k
            · subst e; rw [HX.out, HY.out]
            · exact HJ.out j (by omega)
        · have HXY := Lib.hid hxy
          rcases px_ne hxy with t1 | ⟨t1, t2⟩ | ⟨t1, t2, t3⟩ | ⟨t1, t2, t3, t4⟩
          all_goals
            clear hxy
            go_wp2_with fail
            go_quiet (fail)
            go_wp2_with fail
            go_ret
            refine ⟨ret_bool ?_, Below.drewN' (Below.drewN' HBW.out _) _⟩
            symm
            rw [decide_eq_false_iff_not]
            intro e
            exact HXY.out (HX.out.symm.trans ((congrArg (fun l => pat l k) e.2.2).trans HY.out))
      · go_wp2_with fail
        go_ret
        refine ⟨ret_bool ?_, Below.drewN' HBW.out _⟩
        symm
        rw [decide_eq_true_eq]
        exact ⟨by trivial, by trivial, pxs_eq_of HL.out fun j hj => HJ.out j (by omega)⟩
end Go.Proofs.YtmbglkholoblaaaDoor
namespace Go.Proofs.YtmbglkholoblaaaDoor
open Go.RowKit

def ierr (k : Int) (l : List Int) (ss : List (Int × Px)) (W H : Int) (ps : List Px) : Int := if achk k l ss = 0 then ichk W H ps else achk k l ss
theorem mk_pixels (n : Nat) (hn : n ≤ 1000000) : ∃ M : Array Value, (∀ w : World, (Instr.makeSlice 43 (.int .i64 (n : Int)) (.int .i64 (n : Int))).run Tryd.prog w = .ok (.slice (some ⟨w.heap.size, 0, none⟩) n n) (w.alloc (.cells M 25))) ∧
    ∀ (w : World) (B : Nat), B ≤ w.heap.size → PRow (w.alloc (.cells M 25)) B (.slice (some ⟨w.heap.size, 0, none⟩) n n) (List.replicate n Px.zero) := by
  obtain ⟨i0, hi0, hz0, hz1, hz2⟩ := info_parts Tryd.infoPx
  refine ⟨madeCells (Value.agg #[.int .i64 0, .int .i64 0, .int .i64 0, .int .i64 0]).cells (n * 4), fun w => ?_, fun w B hB => ?_⟩
  · have hb : (i0.bytes : Int) * (n : Int) ≤ 281474976710656 := by rw [hz2]; omega
    have := run_make (P := Tryd.prog) w 43 25 i0 _ Tryd.underlying43 hi0 hz0 .i64 .i64 n n (by omega) (Int.le_refl _) hb (by omega)
    rw [hz1] at this
    simpa using this
  · have h := World.ownsRow_lit (e := 25) (size := 4) (base := B) w (madeCells (Value.agg #[.int .i64 0, .int .i64 0, .int .i64 0, .int .i64 0]).cells (n * 4)) n hB (by unfold maxLen; omega) (size_madeCells _ _)
    unfold PRow FRow
    rw [List.length_replicate, flat4_rep, ← toList_made (Value.agg #[.int .i64 0, .int .i64 0, .int .i64 0, .int .i64 0]) 4 n rfl (by omega)]
    exact h
set_option maxRecDepth 100000 in
set_option maxHeartbeats 4000000 in
theorem aimage_no (k : Int) (A : Option Addr) (n c : Nat) (A' : Option Addr) (n' c' : Nat) (W H : Int) (v : Value) (w : World) (E E2 E3 : Int)
    (hE : (E ≠ 0 ∧ E3 = E) ∨ (E = 0 ∧ E2 ≠ 0 ∧ E3 = E2))
    (TC : ∀ w', Below w.heap.size w w' → Calls Tryd.prog 20 #[.int .i64 k, .slice A n c, .slice A' n' c'] w' fun e w'' => e = .returned (.int .i64 E) ∧ Below w'.heap.size w' w'')
    (TI : ∀ w', Below w.heap.size w w' → Calls Tryd.prog 46 #[.agg #[.int .i64 W, .int .i64 H, v]] w' fun e w'' => e = .returned (.int .i64 E2) ∧ Below w'.heap.size w' w'') :
    Calls Tryd.prog 24 #[.int .i64 k, .slice A n c, .slice A' n' c', .agg #[.int .i64 W, .int .i64 H, v]] w (ImPost E3 0 0 [] w) := by
  have HTC := Lib.hid TC; have HTI := Lib.hid TI; clear TC TI
  go_enter Tryd.func24, Tryd.ntmps24
  go_upto_region 1 with fail
  obtain ⟨hb7, hb8, hB⟩ := two_boxes w #[.int .i64 W, .int .i64 H, v] #[.int .i64 0, .int .i64 0, .slice none 0 0] 45 45 _ rfl
  generalize World.alloc (World.alloc w _) _ = w0 at *
  go_wp2_with fail
  refine (HTC.out _ hB).mono ?_
  rintro e w1 ⟨rfl, hbb⟩
  replace hb7 := hb7.below hbb; replace hb8 := hb8.below hbb; replace hB := bel_trans hB hbb
  clear hbb
  rcases hE with ⟨hE, rfl⟩ | ⟨rfl, hE, rfl⟩
  · have hne : (E3 != 0) = true := by simp [hE]
    clear hE
    obtain ⟨⟨r1, r2, r3⟩, f1, f2, f3⟩ := hb8.three
    clear hb7 hb8
    go_wp2_with fail
    refine bodyPost_ret (v := .tuple #[.agg #[.int .i64 0, .int .i64 0, .slice none 0 0], .int .i64 E3]) (by simp [results, Tryd.results24, go_sem, r1, r2, r3]) rfl ?_
    exact ⟨_, _, _, rfl, PRow.nil _ _, set3_below hB (Nat.le_succ _) _ _ _⟩
  · have hne : (E3 != 0) = true := by simp [hE]
    clear hE
    obtain ⟨⟨i1, i2, i3⟩, -⟩ := hb7.three
    go_wp2_with fail
    refine (HTI.out _ hB).mono ?_
    rintro e w2 ⟨rfl, hbb⟩
    replace hb8 := hb8.below hbb; replace hB := bel_trans hB hbb
    obtain ⟨⟨r1, r2, r3⟩, f1, f2, f3⟩ := hb8.three
    clear hb7 hb8 hbb i1 i2 i3
    go_wp2_with fail
    refine bodyPost_ret (v := .tuple #[.agg #[.int .i64 0, .int .i64 0, .slice none 0 0], .int .i64 E3]) (by simp [results, Tryd.results24, go_sem, r1, r2, r3]) rfl ?_
    exact ⟨_, _, _, rfl, PRow.nil _ _, set3_below hB (Nat.le_succ _) _ _ _⟩
/-- Behind the statement that makes the result. -/
def ImgMid (W H : Int) (n : Nat) (w : World) (v : Value) (wx : World) : Prop := ∃ gb gp, v = .pointer (some ⟨gb, 0, none⟩) ∧ Bx wx gb 45 #[.int .i64 W, .int .i64 H, .slice (some ⟨gp, 0, none⟩) n n] ∧ PRow wx w.heap.size (.slice (some ⟨gp, 0, none⟩) n n) (List.replicate n Px.zero) ∧ w.heap.size ≤ gb ∧ gb ≠ gp ∧ Below w.heap.size w wx
theorem imgMid_1 {W H : Int} {n : Nat} {w : World} {M : Array Value} (hM : PRow (w.alloc (.cells M 25)) w.heap.size (.slice (some ⟨w.heap.size, 0, none⟩) n n) (List.replicate n Px.zero)) :
    ImgMid W H n w (.pointer (some ⟨w.heap.size + 1, 0, none⟩)) (((w.alloc (.cells M 25)).alloc (.cells #[.int .i64 W, .int .i64 H, .slice (some ⟨w.heap.size, 0, none⟩) n n] 45)).drew) := by
  have hb := Bx.new (w.alloc (.cells M 25)) 45 #[.int .i64 W, .int .i64 H, .slice (some ⟨w.heap.size, 0, none⟩) n n]
  rw [World.size_alloc] at hb
  exact ⟨_, _, rfl, hb.drew, (hM.alloc _).drew, by omega, by omega, (bel_alloc (bel1 _ _) _).drew⟩
theorem imgMid_2 {W H : Int} {n : Nat} {w : World} {M : Array Value} (hM : ∀ (w : World) (B : Nat), B ≤ w.heap.size → PRow (w.alloc (.cells M 25)) B (.slice (some ⟨w.heap.size, 0, none⟩) n n) (List.replicate n Px.zero)) :
    ImgMid W H n w (.pointer (some ⟨w.heap.size, 0, none⟩)) (((w.alloc (.cells #[.int .i64 W, .int .i64 H, .slice (some ⟨w.heap.size + 1, 0, none⟩) n n] 45)).alloc (.cells M 25)).drew) := by
  have hb := Bx.new w 45 #[.int .i64 W, .int .i64 H, .slice (some ⟨w.heap.size + 1, 0, none⟩) n n]
  have hr := hM (w.alloc (.cells #[.int .i64 W, .int .i64 H, .slice (some ⟨w.heap.size + 1, 0, none⟩) n n] 45)) w.heap.size (by rw [World.size_alloc]; omega)
  rw [World.size_alloc] at hr
  exact ⟨_, _, rfl, (hb.alloc _).drew, hr.drew, Nat.le_refl _, by omega, (bel_alloc (bel1 _ _) _).drew⟩
theorem cv_of {w : World} {g j : Nat} {v : Value} (h : w.cell? ⟨g, j, none⟩ = some v) : w.cell? ⟨g, j, none⟩ = some (cv w g j) := by rw [cv, h]; rfl
def RowS (g k : Nat) (wq : World) : Prop := (wq.cell? ⟨g, k * 4, none⟩ = some (cv wq g (k * 4)) ∧ wq.cell? ⟨g, k * 4 + 1, none⟩ = some (cv wq g (k * 4 + 1)) ∧ wq.cell? ⟨g, k * 4 + 2, none⟩ = some (cv wq g (k * 4 + 2)) ∧ wq.cell? ⟨g, k * 4 + 3, none⟩ = some (cv wq g (k * 4 + 3))) ∧
  wq.frozen? ⟨g, k * 4, none⟩ = false ∧ wq.frozen? ⟨g, k * 4 + 1, none⟩ = false ∧ wq.frozen? ⟨g, k * 4 + 2, none⟩ = false ∧ wq.frozen? ⟨g, k * 4 + 3, none⟩ = false
theorem rowS_of {w : World} {B g n cap k : Nat} {ps : List Px} (h : PRow w B (.slice (some ⟨g, 0, none⟩) n cap) ps) (hk : k < n) : RowS g k w := by
  obtain ⟨⟨h1, h2, h3, h4⟩, hf⟩ := h.at4 hk
  exact ⟨⟨cv_of h1, cv_of h2, cv_of h3, cv_of h4⟩, hf⟩
set_option maxRecDepth 100000 in
set_option maxHeartbeats 8000000 in
theorem aimage_yes (k : Int) (A : Option Addr) (n c : Nat) (A' : Option Addr) (n' c' : Nat) (W H : Int) (B : Option Addr) (cc : Nat) (ps : List Px) (f : Px → Int × Int × Int) (h : Px → Px) (w : World) (hp : Pixs w w.heap.size (.slice B ps.length cc) ps) (hm : ps.length ≤ 65536)
    (TC : ∀ w', Below w.heap.size w w' → Calls Tryd.prog 20 #[.int .i64 k, .slice A n c, .slice A' n' c'] w' fun e w'' => e = .returned (.int .i64 0) ∧ Below w'.heap.size w' w'')
    (TI : ∀ w', Below w.heap.size w w' → Calls Tryd.prog 46 #[.agg #[.int .i64 W, .int .i64 H, .slice B ps.length cc]] w' fun e w'' => e = .returned (.int .i64 0) ∧ Below w'.heap.size w' w'')
    (TL : ∀ w', Below w.heap.size w w' → Calls Tryd.prog 28 #[.int .i64 k, .slice A n c, .slice A' n' c'] w' (ClPost f w'))
    (TA : ∀ F caps w' i, Ent F → FnP F caps f w' → i < ps.length → Calls Tryd.prog 27 #[.func (.func F) #[] caps, .agg #[.int .i64 (pat ps i).r, .int .i64 (pat ps i).g, .int .i64 (pat ps i).b, .int .i64 (pat ps i).a]] w' (PxPost (h (pat ps i)) w')) :
    Calls Tryd.prog 24 #[.int .i64 k, .slice A n c, .slice A' n' c', .agg #[.int .i64 W, .int .i64 H, .slice B ps.length cc]] w (ImPost 0 W H (ps.map h) w) := by
  have HTC := Lib.hid TC; have HTI := Lib.hid TI; have HTL := Lib.hid TL; have HTA := Lib.hid TA; have HP := Lib.hid hp; clear TC TI TL TA hp
  go_enter Tryd.func24, Tryd.ntmps24
  go_upto_region 1 with fail
  obtain ⟨hb7, hb8, hB⟩ := two_boxes w #[.int .i64 W, .int .i64 H, .slice B ps.length cc] #[.int .i64 0, .int .i64 0, .slice none 0 0] 45 45 _ rfl
  generalize World.alloc (World.alloc w _) _ = w0 at *
  go_wp2_with fail
  refine (HTC.out _ hB).mono ?_
  rintro e w1 ⟨rfl, hbb⟩
  replace hb7 := hb7.below hbb; replace hb8 := hb8.below hbb; replace hB := bel_trans hB hbb
  clear hbb
  obtain ⟨⟨i1, i2, i3⟩, -⟩ := hb7.three
  go_wp2_with fail
  refine (HTI.out _ hB).mono ?_
  rintro e w2 ⟨rfl, hbb⟩
  replace hb7 := hb7.below hbb; replace hb8 := hb8.below hbb; replace hB := bel_trans hB hbb
  clear hbb i1 i2 i3
  go_wp2_with fail
  refine (HTL.out _ hB).mono ?_
  rintro e w3 ⟨F, caps, rfl, hent, hfn, hbb⟩
  replace hb7 := hb7.below hbb; replace hb8 := hb8.below hbb; replace hB := bel_trans hB hbb
  have HENT := Lib.hid hent; have HFN := Lib.hid hfn
  clear hbb hent hfn
  obtain ⟨⟨i1, i2, i3⟩, -⟩ := hb7.three
  obtain ⟨M, hmk, hM⟩ := mk_pixels ps.length (by omega)
  have HM := Lib.hid hM; clear hM
  have hz7 := hb7.lt
  have Hz8 := Lib.hid hb8.lt
  go_upto_region 8 with fail
  go_cut [13] (ImgMid W H ps.length w3)
  case first =>
    go_region
    all_goals (try go_wp2_with fail)
    all_goals go_meet
    all_goals first
      | ((with_reducible refine imgMid_1 ?_); exact HM.out _ _ (Nat.le_refl _))
      | ((with_reducible refine imgMid_2 ?_); exact HM.out)
  case rest =>
    obtain ⟨gb, gp, rfl, hbI, hrow, hgb, hne, hBm⟩ := hcut
    replace hb7 := hb7.below hBm; replace hb8 := hb8.below hBm
    have hBc := bel_trans hB hBm
    have hlo := hrow.lo
    have hsz := hB.size
    have hz8 := hb8.lt; have hzI := hbI.lt
    clear i1 i2 i3 hmk HM
    obtain ⟨⟨i1, i2, i3⟩, -⟩ := hb7.three
    have HBM := Lib.hid hBm; have HBC := Lib.hid hBc; have HB7 := Lib.hid hb7; have HB8 := Lib.hid hb8; have HBI := Lib.hid hbI
    have hmap : (ps.map h).length = ps.length := by simp
    have HMAP := Lib.hid hmap
    have HPC := Lib.hid (HP.out.below hBc)
    have hz8' : w.heap.size + 1 < wc.heap.size := hz8
    have hzgp : w3.heap.size ≤ gp := hlo.1
    have hz7' : w.heap.size < w3.heap.size := hz7
    have hz8'' : w.heap.size + 1 < w3.heap.size := Hz8.out
    go_wp2_with fail
    clear i1 i2 i3 hBm hBc hb7 hb8 hbI
    go_loopg [46] ps.length (FillRel (ps.map h) gp w3.heap.size ps.length wc)
    case atStart => exact FillRel.start HMAP.out hrow
    case round =>
      obtain ⟨j, hj, hgh, rfl, hrw, hkb⟩ := hrel
      subst hgh
      rw [HMAP.out] at hj
      have hkI := hkb.bx HBI.out hzI hne
      by_cases hlt : j < ps.length
      · obtain ⟨A1, c1, ev, _, hcc⟩ := hkb.pixs HPC.out (by omega) HBC.out.size
        injection ev with u1 u2 u3
        subst u1
        obtain ⟨b, o, rfl, hb, p1, p2, p3, p4⟩ := hcc j hlt
        have hk0 : (0 : Int) ≤ (j : Int) := by omega
        have hk1 : (j : Int) < (ps.length : Int) := by omega
        have HU := Lib.hid (show pat (ps.map h) j = h (pat ps j) by simp [pat, hlt])
        have CA := Lib.hid (show ∀ wq, Below wr.heap.size wr wq → Calls Tryd.prog 27 #[.func (.func F) #[] caps, .agg #[.int .i64 (pat ps j).r, .int .i64 (pat ps j).g, .int .i64 (pat ps j).b, .int .i64 (pat ps j).a]] wq (PxPost (h (pat ps j)) wq) from
          fun wq hq => HTA.out F caps wq j HENT.out (HFN.out.on (bel_trans (hkb.toBelow HBM.out hzgp HBM.out.size) hq)) hlt)
        have HKB := Lib.hid hkb; have HRW := Lib.hid hrw
        have hzk := hkb.size
        clear hcc u2 u3 hb hkb hrw hrow
        generalize h (pat ps j) = u at *
        generalize pat ps j = p at *
        go_upto_region 12 with fail
        obtain ⟨hb15, hbb, -⟩ := one_box wr #[.int .i64 p.r, .int .i64 p.g, .int .i64 p.b, .int .i64 p.a] 25 _ rfl
        have hkI' := hkI.below hbb
        have hrx := HRW.out.below hbb
        have hng : wr.heap.size ≠ gp := by have := HRW.out.lo.2; omega
        generalize World.alloc wr _ = wx at *
        clear p1 p2 p3 p4
        have HBB := Lib.hid hbb
        have HSA := Lib.hid (show ∀ wq, Below wx.heap.size wx wq → wq.cell? ⟨gb, 2, none⟩ = some (.slice (some ⟨gp, 0, none⟩) ps.length ps.length) ∧ wq.cell? ⟨wr.heap.size, 0, none⟩ = some (.int .i64 p.r) ∧ wq.cell? ⟨wr.heap.size, 1, none⟩ = some (.int .i64 p.g) ∧ wq.cell? ⟨wr.heap.size, 2, none⟩ = some (.int .i64 p.b) ∧ wq.cell? ⟨wr.heap.size, 3, none⟩ = some (.int .i64 p.a) ∧ wq.cell? ⟨gp, j * 4, none⟩ = some (cv wq gp (j * 4)) ∧ wq.cell? ⟨gp, j * 4 + 1, none⟩ = some (cv wq gp (j * 4 + 1)) ∧ wq.cell? ⟨gp, j * 4 + 2, none⟩ = some (cv wq gp (j * 4 + 2)) ∧ wq.cell? ⟨gp, j * 4 + 3, none⟩ = some (cv wq gp (j * 4 + 3)) ∧ wq.frozen? ⟨gp, j * 4, none⟩ = false ∧ wq.frozen? ⟨gp, j * 4 + 1, none⟩ = false ∧ wq.frozen? ⟨gp, j * 4 + 2, none⟩ = false ∧ wq.frozen? ⟨gp, j * 4 + 3, none⟩ = false from
          fun wq hq => ⟨(hkI'.below hq).three.1.2.2, (hb15.below hq).four.1.1, (hb15.below hq).four.1.2.1, (hb15.below hq).four.1.2.2.1, (hb15.below hq).four.1.2.2.2, (rowS_of (hrx.below hq) hlt).1.1, (rowS_of (hrx.below hq) hlt).1.2.1, (rowS_of (hrx.below hq) hlt).1.2.2.1, (rowS_of (hrx.below hq) hlt).1.2.2.2, (rowS_of (hrx.below hq) hlt).2⟩)
        have HSP := Lib.hid (show ∀ wq', Below wx.heap.size wx wq' → ∀ wq, wq = ((((wq'.setCell ⟨gp, j * 4, none⟩ (.int .i64 u.r)).setCell ⟨gp, j * 4 + 1, none⟩ (.int .i64 u.g)).setCell ⟨gp, j * 4 + 2, none⟩ (.int .i64 u.b)).setCell ⟨gp, j * 4 + 3, none⟩ (.int .i64 u.a)) → wq.cell? ⟨gb, 2, none⟩ = some (.slice (some ⟨gp, 0, none⟩) ps.length ps.length) ∧ wq.cell? ⟨wr.heap.size, 0, none⟩ = some (.int .i64 p.r) ∧ wq.cell? ⟨wr.heap.size, 1, none⟩ = some (.int .i64 p.g) ∧ wq.cell? ⟨wr.heap.size, 2, none⟩ = some (.int .i64 p.b) ∧ wq.cell? ⟨wr.heap.size, 3, none⟩ = some (.int .i64 p.a) ∧ wq.cell? ⟨gp, j * 4, none⟩ = some (cv wq gp (j * 4)) ∧ wq.cell? ⟨gp, j * 4 + 1, none⟩ = some (cv wq gp (j * 4 + 1)) ∧ wq.cell? ⟨gp, j * 4 + 2, none⟩ = some (cv wq gp (j * 4 + 2)) ∧ wq.cell? ⟨gp, j * 4 + 3, none⟩ = some (cv wq gp (j * 4 + 3)) ∧ wq.frozen? ⟨gp, j * 4, none⟩ = false ∧ wq.frozen? ⟨gp, j * 4 + 1, none⟩ = false ∧ wq.frozen? ⟨gp, j * 4 + 2, none⟩ = false ∧ wq.frozen? ⟨gp, j * 4 + 3, none⟩ = false from
          fun wq' hq wq e => by
            subst e
            have hr := rowS_of ((hrx.below hq).put j hlt u) hlt
            have h1 := ((hkI'.below hq).other4 hne (j * 4) (j * 4 + 1) (j * 4 + 2) (j * 4 + 3) (.int .i64 u.r) (.int .i64 u.g) (.int .i64 u.b) (.int .i64 u.a)).three.1.2.2
            have h2 := ((hb15.below hq).other4 hng (j * 4) (j * 4 + 1) (j * 4 + 2) (j * 4 + 3) (.int .i64 u.r) (.int .i64 u.g) (.int .i64 u.b) (.int .i64 u.a)).four.1
            exact ⟨h1, h2.1, h2.2.1, h2.2.2.1, h2.2.2.2, hr.1.1, hr.1.2.1, hr.1.2.2.1, hr.1.2.2.2, hr.2⟩)
        have CB := Lib.hid (fun wq (hq : Below wx.heap.size wx wq) => CA.out wq (bel_trans HBB.out hq))
        have HRX := Lib.hid (fun wq (hq : Below wx.heap.size wx wq) => hrx.below hq)
        have hBv : Below wx.heap.size wx wx.drew := (Below.refl wx.heap.size wx).drew
        have hS0 := HSA.out _ hBv
        clear hkI hkI' hb15 hbb hrx
        go_region_held3 (fun wq => wq.cell? ⟨gb, 2, none⟩ = some (.slice (some ⟨gp, 0, none⟩) ps.length ps.length) ∧ wq.cell? ⟨wr.heap.size, 0, none⟩ = some (.int .i64 p.r) ∧ wq.cell? ⟨wr.heap.size, 1, none⟩ = some (.int .i64 p.g) ∧ wq.cell? ⟨wr.heap.size, 2, none⟩ = some (.int .i64 p.b) ∧ wq.cell? ⟨wr.heap.size, 3, none⟩ = some (.int .i64 p.a) ∧ wq.cell? ⟨gp, j * 4, none⟩ = some (cv wq gp (j * 4)) ∧ wq.cell? ⟨gp, j * 4 + 1, none⟩ = some (cv wq gp (j * 4 + 1)) ∧ wq.cell? ⟨gp, j * 4 + 2, none⟩ = some (cv wq gp (j * 4 + 2)) ∧ wq.cell? ⟨gp, j * 4 + 3, none⟩ = some (cv wq gp (j * 4 + 3)) ∧ wq.frozen? ⟨gp, j * 4, none⟩ = false ∧ wq.frozen? ⟨gp, j * 4 + 1, none⟩ = false ∧ wq.frozen? ⟨gp, j * 4 + 2, none⟩ = false ∧ wq.frozen? ⟨gp, j * 4 + 3, none⟩ = false)
          (first | assumption | exact hS0 | exact HSA.out _ hBv | exact HSP.out _ hBv _ rfl | go_keep)
          (first | ((with_reducible refine (CB.out _ hBv).mono ?_); rintro e wv ⟨rfl, hbv⟩; have hBv := bel_trans hBv hbv))
        go_wp2_with fail
        go_roundg (ps.length - (j + 1))
        case measure => rw [HMAP.out]; omega
        case rel =>
          refine ⟨j + 1, by rw [HMAP.out]; omega, by rw [HMAP.out], by go_num, part_put (by rw [HMAP.out]; exact hlt) HMAP.out (HRX.out _ hBv) HU.out, ?_⟩
          exact KB.set4 (HKB.out.below (bel_trans HBB.out hBv) hzk) _ _ _ _ _ _ _ _
      · obtain rfl : j = ps.length := by omega
        have hall := partD_all Px.zero (ps.map h)
        rw [HMAP.out] at hall
        rw [hall] at hrw
        have hc8 := hkb.bx HB8.out hz8 (by omega)
        obtain ⟨⟨r1, r2, r3⟩, f1, f2, f3⟩ := hc8.three
        obtain ⟨⟨m1, m2, m3⟩, -⟩ := hkI.three
        have HR := Lib.hid hrw
        have HK := Lib.hid (hkb.toBelow HBC.out (by omega) HBC.out.size)
        clear hrw hkb hc8 hkI hrow
        go_wp2_with fail
        refine bodyPost_ret (v := .tuple #[.agg #[.int .i64 W, .int .i64 H, .slice (some ⟨gp, 0, none⟩) ps.length ps.length], .int .i64 0]) (by simp [results, Tryd.results24, go_sem, r1, r2, r3]) rfl ?_
        exact ⟨_, _, _, rfl, HR.out.set3 (by omega) (by omega) _ _ _, set3_below HK.out (Nat.le_succ _) _ _ _⟩
theorem aimage_any (k : Int) (l : List Int) (ss : List (Int × Px)) (A : Option Addr) (c : Nat) (A' : Option Addr) (c' : Nat) (W H : Int) (B : Option Addr) (cc : Nat) (ps : List Px) (w : World) (hT : Tab w) (h : Ints w w.heap.size (.slice A l.length c) l) (hs : Stps w w.heap.size (.slice A' ss.length c') ss) (hp : Pixs w w.heap.size (.slice B ps.length cc) ps) :
    Calls Tryd.prog 24 #[.int .i64 k, .slice A l.length c, .slice A' ss.length c', .agg #[.int .i64 W, .int .i64 H, .slice B ps.length cc]] w (ImOut (ierr k l ss W H ps) W H (ps.map (appF k l ss)) w) := by
  have TC := fun w' (hb : Below w.heap.size w w') => acheck_any k l ss A c A' c' w' ((h.below hb).more hb.size) (hs.on hb)
  have TI := fun w' (hb : Below w.heap.size w w') => icheck_any W H B ps.length cc ps w' (hp.on hb)
  by_cases hE : achk k l ss = 0
  · have e : ierr k l ss W H ps = ichk W H ps := by unfold ierr; rw [if_pos hE]
    rw [e]
    by_cases hI : ichk W H ps = 0
    · rw [hI, imOut_ok]
      rw [hE] at TC
      rw [hI] at TI
      have a := (achk_iff k l ss).1 hE
      have io := (ichk_iff W H ps).1 hI
      refine aimage_yes k A _ c A' _ c' W H B cc ps (colF k l ss) (appF k l ss) w hp (by have := iok_len io; have := io.n; omega) TC TI (fun w' hb => colors_any k l ss w' a (hT.below hb) A _ c A' _ c' ((h.below hb).more hb.size) (hs.on hb)) (fun F caps w' i hent hf hi => ?_)
      have hok := io.ok i hi
      unfold appF
      by_cases ha : (pat ps i).a = 0
      · rw [if_pos ha]; exact applied_no F caps (pat ps i) ha w'
      · rw [if_neg ha]; exact applied_yes F caps (colF k l ss) (pat ps i) hok ha w' hent hf
    · rw [imOut_err hI]
      exact aimage_no k A _ c A' _ c' W H _ w _ _ _ (.inr ⟨hE, hI, rfl⟩) TC TI
  · have e : ierr k l ss W H ps = achk k l ss := by unfold ierr; rw [if_neg hE]
    rw [e, imOut_err hE]
    exact aimage_no k A _ c A' _ c' W H _ w _ _ _ (.inl ⟨hE, rfl⟩) TC TI
end Go.Proofs.YtmbglkholoblaaaDoor
namespace Go.Proofs.YtmbglkholoblaaaDoor
open Go.RowKit

/-- append(v, p) inside a region that draws its order, p in a new block. -/
theorem rppush_step (w : World) {ops : Array Oper} {o : Oper} {a : Act} {K : Act → World → Prop} {Q : Exit → Act → World → Prop} {F : Prop} (hgd : o.guard = none) (s x : Operand)
    (ho : o.op = .call { callee := .builtin .append, args := #[s, x], argTypes := #[43, 43] }) (B : Nat) (v : Value) (ps : List Px) (hs : a.eval s = v) (hown : PRow w B v ps)
    (p : Px) (gx : Nat) (hx : a.eval x = .slice (some ⟨gx, 0, none⟩) 1 1) (hgx : gx = w.heap.size) (hl : ps.length ≤ 1000000000000) (hB : B ≤ w.heap.size)
    (h : ∀ v' w', PRow w' B v' (ps ++ [p]) → Below B w w' → K (a.put o.dst v') w') :
    if Region.wanted o (yielded ops a.tmps) = true then Oper.wp Tryd.prog o a (w.alloc (.cells #[.int .i64 p.r, .int .i64 p.g, .int .i64 p.b, .int .i64 p.a] 25)) K Q else F := by
  subst hgx
  obtain ⟨i0, hi0, hz0, hz1, hz2⟩ := info_parts Tryd.infoPx
  refine fpush_step 25 4 43 32 i0 _ Tryd.underlying43 hi0 hz0 hz1 hz2 rfl (by omega) (by omega) _ hgd s x ho B v ps.length (flat4 ps) hs (FRow.alloc hown _) w.heap.size [p.r, p.g, p.b, p.a] hx rfl ?_ hl (Nat.le_trans hB (by simp)) fun v' w' h1 h2 => h v' w' ?_ (((Below.refl _ _).alloc hB _).trans h2)
  · exact cells_new w 25 [p.r, p.g, p.b, p.a]
  · unfold PRow
    rw [List.length_append, flat4_append]
    exact h1
/-- A call of apply inside a region that draws its order. -/
theorem apply_step (w : World) {ops : Array Oper} {o : Oper} {a : Act} {K : Act → World → Prop} {Q : Exit → Act → World → Prop} {F : Prop} (hgd : o.guard = none) (i x y z : Nat)
    (ho : o.op = .call { callee := .value (.func 30), args := #[.tmp i, .tmp x, .tmp y, .tmp z], argTypes := #[3, 22, 23, 25] }) (u : Px) (v1 v2 v3 v4 : Value)
    (h1 : a.tmps[i]?.getD undef = v1) (h2 : a.tmps[x]?.getD undef = v2) (h3 : a.tmps[y]?.getD undef = v3) (h4 : a.tmps[z]?.getD undef = v4)
    (hc : Calls Tryd.prog 30 #[v1, v2, v3, v4] w (PxPost u w))
    (h : ∀ w', Below w.heap.size w w' → K (a.put o.dst (.agg #[.int .i64 u.r, .int .i64 u.g, .int .i64 u.b, .int .i64 u.a])) w') :
    if Region.wanted o (yielded ops a.tmps) = true then Oper.wp Tryd.prog o a w K Q else F := by
  have hw : Region.wanted o (yielded ops a.tmps) = true := by simp [Region.wanted, hgd]
  rw [if_pos hw]
  unfold Oper.wp
  simp [execOp, ho, resolve, invoke, h1, h2, h3, h4, go_sem]
  refine hc.mono ?_
  rintro e w' ⟨rfl, hb⟩
  exact h w' hb
set_option maxRecDepth 100000 in
set_option maxHeartbeats 4000000 in
theorem rimage_no (k : Int) (A : Option Addr) (n c : Nat) (A' : Option Addr) (n' c' : Nat) (W H : Int) (v : Value) (w : World) (E E2 E3 : Int)
    (hE : (E ≠ 0 ∧ E3 = E) ∨ (E = 0 ∧ E2 ≠ 0 ∧ E3 = E2))
    (TC : ∀ w', Below w.heap.size w w' → Calls Tryd.prog 23 #[.int .i64 k, .slice A n c, .slice A' n' c'] w' fun e w'' => e = .returned (.int .i64 E) ∧ Below w'.heap.size w' w'')
    (TI : ∀ w', Below w.heap.size w w' → Calls Tryd.prog 47 #[.agg #[.int .i64 W, .int .i64 H, v]] w' fun e w'' => e = .returned (.int .i64 E2) ∧ Below w'.heap.size w' w'') :
    Calls Tryd.prog 25 #[.int .i64 k, .slice A n c, .slice A' n' c', .agg #[.int .i64 W, .int .i64 H, v]] w (ImPost E3 0 0 [] w) := by
  have HTC := Lib.hid TC; have HTI := Lib.hid TI; clear TC TI
  go_enter Tryd.func25, Tryd.ntmps25
  go_upto_region 1 with fail
  obtain ⟨hb7, hb8, hB⟩ := two_boxes w #[.int .i64 W, .int .i64 H, v] #[.int .i64 0, .int .i64 0, .slice none 0 0] 45 45 _ rfl
  generalize World.alloc (World.alloc w _) _ = w0 at *
  go_wp2_with fail
  refine (HTC.out _ hB).mono ?_
  rintro e w1 ⟨rfl, hbb⟩
  replace hb7 := hb7.below hbb; replace hb8 := hb8.below hbb; replace hB := bel_trans hB hbb
  clear hbb
  rcases hE with ⟨hE, rfl⟩ | ⟨rfl, hE, rfl⟩
  · have hne : (E3 != 0) = true := by simp [hE]
    clear hE
    obtain ⟨⟨r1, r2, r3⟩, f1, f2, f3⟩ := hb8.three
    clear hb7 hb8
    go_wp2_with fail
    refine bodyPost_ret (v := .tuple #[.agg #[.int .i64 0, .int .i64 0, .slice none 0 0], .int .i64 E3]) (by simp [results, Tryd.results25, go_sem, r1, r2, r3]) rfl ?_
    exact ⟨_, _, _, rfl, PRow.nil _ _, set3_below hB (Nat.le_succ _) _ _ _⟩
  · have hne : (E3 != 0) = true := by simp [hE]
    clear hE
    obtain ⟨⟨i1, i2, i3⟩, -⟩ := hb7.three
    go_wp2_with fail
    refine (HTI.out _ hB).mono ?_
    rintro e w2 ⟨rfl, hbb⟩
    replace hb8 := hb8.below hbb; replace hB := bel_trans hB hbb
    obtain ⟨⟨r1, r2, r3⟩, f1, f2, f3⟩ := hb8.three
    clear hb7 hb8 hbb i1 i2 i3
    go_wp2_with fail
    refine bodyPost_ret (v := .tuple #[.agg #[.int .i64 0, .int .i64 0, .slice none 0 0], .int .i64 E3]) (by simp [results, Tryd.results25, go_sem, r1, r2, r3]) rfl ?_
    exact ⟨_, _, _, rfl, PRow.nil _ _, set3_below hB (Nat.le_succ _) _ _ _⟩
set_option maxRecDepth 100000 in
set_option maxHeartbeats 8000000 in
theorem rimage_yes (k : Int) (A : Option Addr) (n c : Nat) (A' : Option Addr) (n' c' : Nat) (W H : Int) (B : Option Addr) (cc : Nat) (ps : List Px) (h : Px → Px) (w : World) (hp : Pixs w w.heap.size (.slice B ps.length cc) ps) (hm : ps.length ≤ 65536)
    (TC : ∀ w', Below w.heap.size w w' → Calls Tryd.prog 23 #[.int .i64 k, .slice A n c, .slice A' n' c'] w' fun e w'' => e = .returned (.int .i64 0) ∧ Below w'.heap.size w' w'')
    (TI : ∀ w', Below w.heap.size w w' → Calls Tryd.prog 47 #[.agg #[.int .i64 W, .int .i64 H, .slice B ps.length cc]] w' fun e w'' => e = .returned (.int .i64 0) ∧ Below w'.heap.size w' w'')
    (TA : ∀ w' i, Below w.heap.size w w' → i < ps.length → Calls Tryd.prog 30 #[.int .i64 k, .slice A n c, .slice A' n' c', .agg #[.int .i64 (pat ps i).r, .int .i64 (pat ps i).g, .int .i64 (pat ps i).b, .int .i64 (pat ps i).a]] w' (PxPost (h (pat ps i)) w')) :
    Calls Tryd.prog 25 #[.int .i64 k, .slice A n c, .slice A' n' c', .agg #[.int .i64 W, .int .i64 H, .slice B ps.length cc]] w (ImPost 0 W H (ps.map h) w) := by
  have HTC := Lib.hid TC; have HTI := Lib.hid TI; have HTA := Lib.hid TA; have HP := Lib.hid hp; clear TC TI TA hp
  have HMAP := Lib.hid (show (ps.map h).length = ps.length by simp)
  have HPAT := Lib.hid (show ∀ i, i < ps.length → pat (ps.map h) i = h (pat ps i) from fun i hi => by simp [pat, hi])
  generalize hL : ps.map h = L at *
  have HLL := Lib.hid hL; clear hL
  go_enter Tryd.func25, Tryd.ntmps25
  go_upto_region 1 with fail
  obtain ⟨hb7, hb8, hB⟩ := two_boxes w #[.int .i64 W, .int .i64 H, .slice B ps.length cc] #[.int .i64 0, .int .i64 0, .slice none 0 0] 45 45 _ rfl
  generalize World.alloc (World.alloc w _) _ = w0 at *
  go_wp2_with fail
  refine (HTC.out _ hB).mono ?_
  rintro e w1 ⟨rfl, hbb⟩
  replace hb7 := hb7.below hbb; replace hb8 := hb8.below hbb; replace hB := bel_trans hB hbb
  clear hbb
  obtain ⟨⟨i1, i2, i3⟩, -⟩ := hb7.three
  go_wp2_with fail
  refine (HTI.out _ hB).mono ?_
  rintro e w2 ⟨rfl, hbb⟩
  replace hb7 := hb7.below hbb; replace hb8 := hb8.below hbb; replace hB := bel_trans hB hbb
  clear hbb i1 i2 i3
  obtain ⟨⟨i1, i2, i3⟩, -⟩ := hb7.three
  go_upto_region 8 with fail
  have hz7 := hb7.lt; have hz8 := hb8.lt; have hzB := hB.size
  obtain ⟨hbt, hBt, -⟩ := one_box w2 #[.int .i64 W, .int .i64 H, .slice none 0 0] 45 _ rfl
  generalize World.alloc w2 _ = w3 at *
  clear i1 i2 i3
  have HB7 := Lib.hid hb7; have HB8 := Lib.hid hb8; have HB := Lib.hid hB
  clear hb7 hb8 hB
  go_wp2_with fail
  go_loopg [13] ps.length (OneRel W H L w2.heap.size w2)
  case atStart => exact ⟨0, Nat.zero_le _, by rw [HMAP.out]; rfl, rfl, GridRel.start hbt hBt⟩
  case round =>
    clear hbt hBt
    obtain ⟨j, hj, hgh, rfl, v, hbx, hrw, hbr⟩ := hrel
    subst hgh
    rw [HMAP.out] at hj
    have hlr := hbx.lt
    have hd7 := HB7.out.below hbr
    have hq : j ≤ L.length := by rw [HMAP.out]; exact hj
    obtain ⟨A1, cap1, rfl⟩ := hrw.nshape (take_len hq)
    by_cases hlt : j < ps.length
    · have hBr := bel_trans HB.out hbr
      obtain ⟨A2, c2, ev, _, hcc⟩ := HP.out.on hBr
      injection ev with u1 u2 u3
      subst u1
      obtain ⟨b, o, rfl, hb, p1, p2, p3, p4⟩ := hcc j hlt
      have hbw : b < w.heap.size := by
        obtain ⟨A3, c3, ev3, _, hc3⟩ := HP.out
        obtain ⟨b', o', e', hb', -⟩ := hc3 j hlt
        injection ev3 with x1 x2 x3
        rw [← x1] at e'
        injection e' with e'
        injection e' with y1 y2
        rw [y1]; exact hb'
      have hbw2 := Nat.lt_of_lt_of_le hbw hzB
      have hjl : j < L.length := by rw [HMAP.out]; exact hlt
      have hk0 : (0 : Int) ≤ (j : Int) := by omega
      have hk1 : (j : Int) < (ps.length : Int) := by omega
      have HU := Lib.hid (HPAT.out j hlt)
      have HAT := Lib.hid (HTA.out wr.drew j hBr.drew hlt)
      have HBX := Lib.hid hbx; have HRW := Lib.hid hrw; have HBR := Lib.hid hbr
      clear hcc u2 u3 hb hbr hrw
      generalize h (pat ps j) = u at *
      generalize pat ps j = p at *
      obtain ⟨⟨t1, t2, t3⟩, _, _, _⟩ := hbx.three
      obtain ⟨⟨d1, d2, d3⟩, _, _, _⟩ := hd7.three
      have HP1 := Lib.hid p1; have HP2 := Lib.hid p2; have HP3 := Lib.hid p3; have HP4 := Lib.hid p4
      have HD7 := Lib.hid hd7
      clear hbx hd7
      go_upto_region 11 with fail
      have hBr' : Below w2.heap.size w2 wr.drew := HBR.out.drew
      have hszr : w2.heap.size ≤ wr.drew.heap.size := HBR.out.size
      have hbwr : b < wr.drew.heap.size := Nat.lt_of_lt_of_le hbw2 hszr
      go_region_law (first
        | (refine apply_step _ (by rfl) _ _ _ _ (by rfl) u (.int .i64 k) (.slice A n c) (.slice A' n' c') (.agg #[.int .i64 p.r, .int .i64 p.g, .int .i64 p.b, .int .i64 p.a]) (by rfl) (by rfl) (by rfl) (by rfl) HAT.out ?_; intro w6 hb6; have hB6 := hBr'.trans (hb6.mono hszr); have hlt6 := Nat.lt_of_lt_of_le hlr hb6.size; obtain ⟨⟨t4, t5, t6⟩, _, _, _⟩ := (HBX.out.drew.below hb6).three)
        | (refine rppush_step _ (by rfl) _ _ (by rfl) (w2.heap.size + 1) _ _ (by rfl) (HRW.out.drew.below hb6) u _ (by rfl) (by rfl) (by rw [take_len (Nat.le_of_lt hjl)]; omega) (by have := hb6.size; exact Nat.le_trans (show w2.heap.size + 1 ≤ wr.heap.size by omega) this) ?_; intro v' w8 hown8 hb8; have hB9 := hB6.trans (hb8.mono (Nat.le_succ _)); obtain ⟨A5, cap5, rfl⟩ := hown8.nshape (n := j + 1) (by rw [List.length_append, take_len (Nat.le_of_lt hjl)]; rfl); have hB8 := (HBX.out.drew.below hb6).low (Nat.lt_succ_self _) hb8; obtain ⟨⟨s1, s2, s3⟩, sf1, sf2, sf3⟩ := hB8.three))
      all_goals
        go_wp2_with fail
        go_roundg (ps.length - (j + 1))
        case measure => rw [HMAP.out]; omega
        case rel => exact ⟨j + 1, by rw [HMAP.out]; omega, by rw [HMAP.out], by go_num, GridRel.step (HBX.out.drew.below hb6) hB6 hown8 hb8 hjl HU.out⟩
    · obtain rfl : j = ps.length := by omega
      have hall : L.take ps.length = L := by rw [← HMAP.out, List.take_length]
      rw [hall] at hrw
      have hc8 := HB8.out.below hbr
      obtain ⟨⟨r1, r2, r3⟩, f1, f2, f3⟩ := hc8.three
      obtain ⟨⟨m1, m2, m3⟩, -⟩ := hbx.three
      obtain ⟨⟨i1, i2, i3⟩, -⟩ := hd7.three
      have HR := Lib.hid hrw
      have HK := Lib.hid (bel_trans HB.out hbr)
      clear hrw hbr hc8 hbx hd7
      go_wp2_with fail
      refine bodyPost_ret (v := .tuple #[.agg #[.int .i64 W, .int .i64 H, .slice A1 ps.length cap1], .int .i64 0]) (by simp [results, Tryd.results25, go_sem, r1, r2, r3]) rfl ?_
      exact ⟨_, _, _, rfl, HR.out.set3 (by omega) (by omega) _ _ _, set3_below HK.out (Nat.le_succ _) _ _ _⟩
theorem rimage_any (k : Int) (l : List Int) (ss : List (Int × Px)) (A : Option Addr) (c : Nat) (A' : Option Addr) (c' : Nat) (W H : Int) (B : Option Addr) (cc : Nat) (ps : List Px) (w : World) (h : Ints w w.heap.size (.slice A l.length c) l) (hs : Stps w w.heap.size (.slice A' ss.length c') ss) (hp : Pixs w w.heap.size (.slice B ps.length cc) ps) :
    Calls Tryd.prog 25 #[.int .i64 k, .slice A l.length c, .slice A' ss.length c', .agg #[.int .i64 W, .int .i64 H, .slice B ps.length cc]] w (ImOut (ierr k l ss W H ps) W H (ps.map (appF k l ss)) w) := by
  have TC := fun w' (hb : Below w.heap.size w w') => r17check_any k l ss A c A' c' w' ((h.below hb).more hb.size) (hs.on hb)
  have TI := fun w' (hb : Below w.heap.size w w') => richeck_any W H B ps.length cc ps w' (hp.on hb)
  by_cases hE : achk k l ss = 0
  · have e : ierr k l ss W H ps = ichk W H ps := by unfold ierr; rw [if_pos hE]
    rw [e]
    by_cases hI : ichk W H ps = 0
    · rw [hI, imOut_ok]
      rw [hE] at TC
      rw [hI] at TI
      have a := (achk_iff k l ss).1 hE
      have io := (ichk_iff W H ps).1 hI
      exact rimage_yes k A _ c A' _ c' W H B cc ps (appF k l ss) w hp (by have := iok_len io; have := io.n; omega) TC TI (fun w' i hb hi => rapply_any k a A c A' c' (pat ps i) (io.ok i hi) w' ((h.below hb).more hb.size) (hs.on hb))
    · rw [imOut_err hI]
      exact rimage_no k A _ c A' _ c' W H _ w _ _ _ (.inr ⟨hE, hI, rfl⟩) TC TI
  · have e : ierr k l ss W H ps = achk k l ss := by unfold ierr; rw [if_neg hE]
    rw [e, imOut_err hE]
    exact rimage_no k A _ c A' _ c' W H _ w _ _ _ (.inl ⟨hE, rfl⟩) TC TI
end Go.Proofs.YtmbglkholoblaaaDoor
namespace Go.Proofs.YtmbglkholoblaaaDoor
open Go.RowKit

theorem isame_true (W H : Int) (v1 v2 : Value) (qs : List Px) (w : World) (h1 : Pixs w w.heap.size v1 qs) (h2 : Pixs w w.heap.size v2 qs) :
    Calls Tryd.prog 26 #[.agg #[.int .i64 W, .int .i64 H, v1], .agg #[.int .i64 W, .int .i64 H, v2]] w fun e w' => e = .returned (.bool true) ∧ Below w.heap.size w w' := by
  have := isame_any W H W H v1 v2 qs qs w h1 h2
  rw [decide_eq_true (⟨rfl, rfl, rfl⟩ : W = W ∧ H = H ∧ qs = qs)] at this
  exact this
set_option maxRecDepth 100000 in
set_option maxHeartbeats 4000000 in
theorem images_core (k : Int) (A : Option Addr) (n c : Nat) (A' : Option Addr) (n' c' : Nat) (W H : Int) (v : Value) (E W1 H1 : Int) (qs : List Px) (w : World)
    (T0 : ∀ w', Below w.heap.size w w' → Calls Tryd.prog 14 #[] w' fun e w'' => e = .returned (.bool true) ∧ Below w'.heap.size w' w'')
    (T1 : ∀ w', Below w.heap.size w w' → Calls Tryd.prog 24 #[.int .i64 k, .slice A n c, .slice A' n' c', .agg #[.int .i64 W, .int .i64 H, v]] w' (ImPost E W1 H1 qs w'))
    (T2 : ∀ w', Below w.heap.size w w' → Calls Tryd.prog 25 #[.int .i64 k, .slice A n c, .slice A' n' c', .agg #[.int .i64 W, .int .i64 H, v]] w' (ImPost E W1 H1 qs w')) :
    Calls Tryd.prog 10 #[.int .i64 k, .slice A n c, .slice A' n' c', .agg #[.int .i64 W, .int .i64 H, v]] w fun e w' => e = .returned (.bool true) ∧ Below w.heap.size w w' := by
  have HT0 := Lib.hid T0; have HT1 := Lib.hid T1; have HT2 := Lib.hid T2
  clear T0 T1 T2
  go_enter Tryd.func10, Tryd.ntmps10
  go_upto_region 1 with fail
  obtain ⟨hb7, hB, -⟩ := one_box w #[.int .i64 W, .int .i64 H, v] 45 _ rfl
  generalize World.alloc w _ = w0 at *
  obtain ⟨⟨i1, i2, i3⟩, -⟩ := hb7.three
  go_wp2_with fail
  refine (HT1.out _ hB).mono ?_
  rintro e w1 ⟨B1, n1, c1, rfl, hr1, hbb⟩
  have hp1 := hr1.pixs
  replace hb7 := hb7.below hbb; replace hB := bel_trans hB hbb
  clear hbb i1 i2 i3 hr1
  go_upto_region 2 with fail
  obtain ⟨hb9, hbb, -⟩ := one_box w1 #[.int .i64 W1, .int .i64 H1, .slice B1 n1 c1] 45 _ rfl
  generalize World.alloc w1 _ = w2 at *
  replace hp1 := hp1.on hbb; replace hb7 := hb7.below hbb; replace hB := bel_trans hB hbb
  clear hbb
  obtain ⟨⟨i1, i2, i3⟩, -⟩ := hb7.three
  go_wp2_with fail
  refine (HT2.out _ hB).mono ?_
  rintro e w3 ⟨B2, n2, c2, rfl, hr2, hbb⟩
  have hp2 := hr2.pixs
  replace hp1 := hp1.on hbb; replace hb9 := hb9.below hbb; replace hB := bel_trans hB hbb
  clear hbb i1 i2 i3 hr2 hb7
  go_upto_region 3 with fail
  obtain ⟨hb11, hbb, -⟩ := one_box w3 #[.int .i64 W1, .int .i64 H1, .slice B2 n2 c2] 45 _ rfl
  generalize World.alloc w3 _ = w4 at *
  replace hp1 := hp1.on hbb; replace hp2 := hp2.on hbb; replace hb9 := hb9.below hbb; replace hB := bel_trans hB hbb
  clear hbb
  have HP1 := Lib.hid hp1; have HP2 := Lib.hid hp2
  clear hp1 hp2
  go_wp2_with fail
  refine (HT0.out _ hB).mono ?_
  rintro e w5 ⟨rfl, hbb⟩
  have hp1 := HP1.out.on hbb; have hp2 := HP2.out.on hbb
  replace hb9 := hb9.below hbb; replace hb11 := hb11.below hbb; replace hB := bel_trans hB hbb
  obtain ⟨⟨i1, i2, i3⟩, -⟩ := hb9.three
  obtain ⟨⟨j1, j2, j3⟩, -⟩ := hb11.three
  have SM := Lib.hid (isame_true W1 H1 _ _ qs w5 hp1 hp2)
  clear hb9 hb11 hbb hp1 hp2 HP1 HP2
  go_wp2_with fail
  refine SM.out.mono ?_
  rintro e w6 ⟨rfl, hbb⟩
  go_wp2_with fail
  go_ret
  exact ⟨rfl, bel_trans hB hbb⟩
theorem walk_images (k : Int) (v1 : Value) (l : List Int) (v2 : Value) (ss : List (Int × Px)) (v3 : Value) (x : Int × Int × List Px) (w : World) (hT : Tab w) (_ : in64 k) (h1 : IntsV w v1 l) (h2 : StpsV w v2 ss) (h3 : ImgV w v3 x) :
    Calls Tryd.prog 10 #[.int .i64 k, v1, v2, v3] w fun e w' => e = .returned (.bool true) ∧ Below w.heap.size w w' := by
  obtain ⟨A, c, rfl, hi⟩ := h1
  obtain ⟨A', c', rfl, hs⟩ := h2
  obtain ⟨⟨B, n, cc, rfl, hp⟩, _⟩ := h3
  obtain rfl := hp.len
  exact images_core k A _ c A' _ c' x.1 x.2.1 _ _ _ _ _ w (fun w' hb => awake_any w' (hT.below hb))
    (fun w' hb => aimage_any k l ss A c A' c' x.1 x.2.1 B cc x.2.2 w' (hT.below hb) ((hi.below hb).more hb.size) (hs.on hb) (hp.on hb))
    (fun w' hb => rimage_any k l ss A c A' c' x.1 x.2.1 B cc x.2.2 w' ((hi.below hb).more hb.size) (hs.on hb) (hp.on hb))
/-- The loop over the pixels. -/
def EaRel (n : Nat) (w : World) (gh : Nat) (i : Value) (wr : World) : Prop := ∃ j : Nat, j ≤ n ∧ gh = n - j ∧ i = .int .i64 j ∧ Below w.heap.size w wr
set_option maxRecDepth 100000 in
set_option maxHeartbeats 4000000 in
theorem each_no (k : Int) (A : Option Addr) (n c : Nat) (A' : Option Addr) (n' c' : Nat) (W H : Int) (v : Value) (E : Int) (w : World) (hE : E ≠ 0)
    (T0 : ∀ w', Below w.heap.size w w' → Calls Tryd.prog 14 #[] w' fun e w'' => e = .returned (.bool true) ∧ Below w'.heap.size w' w'')
    (T1 : ∀ w', Below w.heap.size w w' → Calls Tryd.prog 24 #[.int .i64 k, .slice A n c, .slice A' n' c', .agg #[.int .i64 W, .int .i64 H, v]] w' (ImPost E 0 0 [] w')) :
    Calls Tryd.prog 11 #[.int .i64 k, .slice A n c, .slice A' n' c', .agg #[.int .i64 W, .int .i64 H, v]] w fun e w' => e = .returned (.bool true) ∧ Below w.heap.size w w' := by
  have HT0 := Lib.hid T0; have HT1 := Lib.hid T1
  have hne : (E != 0) = true := by simp [hE]
  clear T0 T1 hE
  go_enter Tryd.func11, Tryd.ntmps11
  go_upto_region 1 with fail
  obtain ⟨hb7, hB, -⟩ := one_box w #[.int .i64 W, .int .i64 H, v] 45 _ rfl
  generalize World.alloc w _ = w0 at *
  obtain ⟨⟨i1, i2, i3⟩, -⟩ := hb7.three
  go_wp2_with fail
  refine (HT1.out _ hB).mono ?_
  rintro e w1 ⟨B1, n1, c1, rfl, hr1, hbb⟩
  have hp1 := hr1.pixs
  replace hB := bel_trans hB hbb
  clear hbb i1 i2 i3 hr1 hb7
  go_upto_region 2 with fail
  obtain ⟨hb9, hbb, -⟩ := one_box w1 #[.int .i64 0, .int .i64 0, .slice B1 n1 c1] 45 _ rfl
  generalize World.alloc w1 _ = w2 at *
  replace hp1 := hp1.on hbb; replace hB := bel_trans hB hbb
  have HP1 := Lib.hid hp1
  clear hbb hp1
  go_wp2_with fail
  refine (HT0.out _ hB).mono ?_
  rintro e w3 ⟨rfl, hbb⟩
  have hp1 := HP1.out.on hbb
  replace hb9 := hb9.below hbb; replace hB := bel_trans hB hbb
  have HP2 := Lib.hid hp1
  clear hbb hp1 HP1
  go_wp2_with fail
  refine (HT0.out _ hB).mono ?_
  rintro e w4 ⟨rfl, hbb⟩
  have hp1 := HP2.out.on hbb
  replace hb9 := hb9.below hbb; replace hB := bel_trans hB hbb
  obtain ⟨⟨i1, i2, i3⟩, -⟩ := hb9.three
  have SM := Lib.hid (isame_true 0 0 _ (.slice none 0 0) [] w4 hp1 (Pixs.nil _ _))
  clear hb9 hbb hp1 HP2
  go_wp2_with fail
  refine SM.out.mono ?_
  rintro e w6 ⟨rfl, hbb⟩
  go_wp2_with fail
  go_ret
  exact ⟨rfl, bel_trans hB hbb⟩
set_option maxRecDepth 100000 in
set_option maxHeartbeats 8000000 in
theorem each_yes (k : Int) (A : Option Addr) (n c : Nat) (A' : Option Addr) (n' c' : Nat) (W H : Int) (B : Option Addr) (cc : Nat) (ps : List Px) (h : Px → Px) (w : World) (hp : Pixs w w.heap.size (.slice B ps.length cc) ps)
    (T0 : ∀ w', Below w.heap.size w w' → Calls Tryd.prog 14 #[] w' fun e w'' => e = .returned (.bool true) ∧ Below w'.heap.size w' w'')
    (T1 : ∀ w', Below w.heap.size w w' → Calls Tryd.prog 24 #[.int .i64 k, .slice A n c, .slice A' n' c', .agg #[.int .i64 W, .int .i64 H, .slice B ps.length cc]] w' (ImPost 0 W H (ps.map h) w'))
    (T2 : ∀ w' i, Below w.heap.size w w' → i < ps.length → Calls Tryd.prog 12 #[.int .i64 k, .slice A n c, .slice A' n' c', .agg #[.int .i64 (pat ps i).r, .int .i64 (pat ps i).g, .int .i64 (pat ps i).b, .int .i64 (pat ps i).a]] w' (PePost (h (pat ps i)) 0 w')) :
    Calls Tryd.prog 11 #[.int .i64 k, .slice A n c, .slice A' n' c', .agg #[.int .i64 W, .int .i64 H, .slice B ps.length cc]] w fun e w' => e = .returned (.bool true) ∧ Below w.heap.size w w' := by
  have HT0 := Lib.hid T0; have HT1 := Lib.hid T1; have HT2 := Lib.hid T2; have HP := Lib.hid hp
  have HMAP := Lib.hid (show (ps.map h).length = ps.length by simp)
  have HPAT := Lib.hid (show ∀ i, i < ps.length → pat (ps.map h) i = h (pat ps i) from fun i hi => by simp [pat, hi])
  clear T0 T1 T2 hp
  generalize ps.map h = L at *
  go_enter Tryd.func11, Tryd.ntmps11
  go_upto_region 1 with fail
  obtain ⟨hb7, hB, -⟩ := one_box w #[.int .i64 W, .int .i64 H, .slice B ps.length cc] 45 _ rfl
  generalize World.alloc w _ = w0 at *
  obtain ⟨⟨i1, i2, i3⟩, -⟩ := hb7.three
  go_wp2_with fail
  refine (HT1.out _ hB).mono ?_
  rintro e w1 ⟨B1, n1, c1, rfl, hr1, hbb⟩
  have hp1 := hr1.pixs
  obtain rfl : n1 = ps.length := hp1.len.symm.trans HMAP.out
  replace hb7 := hb7.below hbb; replace hB := bel_trans hB hbb
  clear hbb i1 i2 i3 hr1
  go_upto_region 2 with fail
  obtain ⟨hb9, hbb, -⟩ := one_box w1 #[.int .i64 W, .int .i64 H, .slice B1 ps.length c1] 45 _ rfl
  generalize World.alloc w1 _ = w2 at *
  replace hp1 := hp1.on hbb; replace hb7 := hb7.below hbb; replace hB := bel_trans hB hbb
  have HP1 := Lib.hid hp1
  clear hbb hp1
  go_wp2_with fail
  refine (HT0.out _ hB).mono ?_
  rintro e w3 ⟨rfl, hbb⟩
  have hp1 := HP1.out.on hbb
  replace hb7 := hb7.below hbb; replace hb9 := hb9.below hbb; replace hB := bel_trans hB hbb
  have HP2 := Lib.hid hp1; have HB7 := Lib.hid hb7; have HB9 := Lib.hid hb9; have HB := Lib.hid hB
  obtain ⟨⟨i1, i2, i3⟩, -⟩ := hb7.three
  obtain ⟨⟨j1, j2, j3⟩, -⟩ := hb9.three
  clear hbb hp1 HP1 hb7 hb9 hB
  go_wp2_with fail
  clear i1 i2 i3 j1 j2 j3
  go_loopg [59] ps.length (EaRel ps.length w3)
  case atStart => exact ⟨0, Nat.zero_le _, rfl, rfl, Below.refl _ _⟩
  case round =>
    obtain ⟨j, hj, rfl, rfl, hbr⟩ := hrel
    have HR := Lib.hid hbr
    by_cases hlt : j < ps.length
    · obtain ⟨A1, c2, ev, _, hcc⟩ := HP.out.on (bel_trans HB.out hbr)
      injection ev with u1 u2 u3
      subst u1
      obtain ⟨b, o, rfl, hb, p1, p2, p3, p4⟩ := hcc j hlt
      have hk0 : (0 : Int) ≤ (j : Int) := by omega
      have hk1 : (j : Int) < (ps.length : Int) := by omega
      have PX := Lib.hid (show ∀ wq, Below wr.heap.size wr wq → _ from fun wq hq => HT2.out wq j (bel_trans (bel_trans HB.out hbr) hq) hlt)
      have HU := Lib.hid (HPAT.out j hlt)
      clear hcc u2 u3 hb hbr
      generalize h (pat ps j) = u at *
      generalize pat ps j = p at *
      go_upto_region 9 with fail
      obtain ⟨hb12, hbb, -⟩ := one_box wr #[.int .i64 p.r, .int .i64 p.g, .int .i64 p.b, .int .i64 p.a] 25 _ rfl
      generalize World.alloc wr _ = wx at *
      obtain ⟨⟨i1, i2, i3, i4⟩, -⟩ := hb12.four
      clear p1 p2 p3 p4
      have HBB := Lib.hid hbb; clear hbb hb12
      go_wp2_with fail
      refine (PX.out _ HBB.out).mono ?_
      rintro e w6 ⟨rfl, hb6⟩
      have hB6 := bel_trans HR.out (bel_trans HBB.out hb6)
      clear i1 i2 i3 i4 hb6
      go_upto_region 10 with fail
      obtain ⟨hb13, hbb, -⟩ := one_box w6 #[.int .i64 u.r, .int .i64 u.g, .int .i64 u.b, .int .i64 u.a] 25 _ rfl
      generalize World.alloc w6 _ = w7 at *
      have hB7 := bel_trans hB6 hbb
      obtain ⟨⟨i1, i2, i3, i4⟩, -⟩ := hb13.four
      obtain ⟨⟨j1, j2, j3⟩, -⟩ := (HB9.out.below hB7).three
      obtain ⟨A3, c3, ev3, _, hc3⟩ := HP2.out.on hB7
      have hjl : j < L.length := by rw [HMAP.out]; exact hlt
      injection ev3 with v1 v2 v3
      subst v1
      obtain ⟨b', o', rfl, hb', q1, q2, q3, q4⟩ := hc3 j hjl
      rw [HU.out] at q1 q2 q3 q4
      have HB7x := Lib.hid hB7
      clear hc3 v2 v3 hb' hB6 hB7 hb13 hbb
      go_quiet (fail)
      go_wp2_with fail
      go_roundg (ps.length - (j + 1))
      case measure => omega
      case rel => exact ⟨j + 1, by omega, rfl, by go_num, Below.drewN' HB7x.out _⟩
    · obtain rfl : j = ps.length := by omega
      go_wp2_with fail
      go_ret
      exact ⟨rfl, bel_trans HB.out HR.out⟩
theorem walk_each (k : Int) (v1 : Value) (l : List Int) (v2 : Value) (ss : List (Int × Px)) (v3 : Value) (x : Int × Int × List Px) (w : World) (hT : Tab w) (_ : in64 k) (h1 : IntsV w v1 l) (h2 : StpsV w v2 ss) (h3 : ImgV w v3 x) :
    Calls Tryd.prog 11 #[.int .i64 k, v1, v2, v3] w fun e w' => e = .returned (.bool true) ∧ Below w.heap.size w w' := by
  obtain ⟨A, c, rfl, hi⟩ := h1
  obtain ⟨A', c', rfl, hs⟩ := h2
  obtain ⟨⟨B, n, cc, rfl, hp⟩, _⟩ := h3
  obtain rfl := hp.len
  have T1 := fun w' (hb : Below w.heap.size w w') => aimage_any k l ss A c A' c' x.1 x.2.1 B cc x.2.2 w' (hT.below hb) ((hi.below hb).more hb.size) (hs.on hb) (hp.on hb)
  by_cases hE : ierr k l ss x.1 x.2.1 x.2.2 = 0
  · rw [hE, imOut_ok] at T1
    have hA : achk k l ss = 0 ∧ ichk x.1 x.2.1 x.2.2 = 0 := by
      unfold ierr at hE
      by_cases hA : achk k l ss = 0
      · rw [if_pos hA] at hE; exact ⟨hA, hE⟩
      · rw [if_neg hA] at hE; exact absurd hE hA
    have io := (ichk_iff _ _ _).1 hA.2
    refine each_yes k A _ c A' _ c' x.1 x.2.1 B cc x.2.2 (appF k l ss) w hp (fun w' hb => awake_any w' (hT.below hb)) T1 (fun w' i hb hi' => ?_)
    have := apixel_any k l ss A c A' c' (pat x.2.2 i) w' (hT.below hb) ((hi.below hb).more hb.size) (hs.on hb)
    have e1 : perr k l ss (pat x.2.2 i) = 0 := by unfold perr; rw [if_pos hA.1, (pxOk_iff _).2 (io.ok i hi')]; rfl
    have e2 : pixF k l ss (pat x.2.2 i) = appF k l ss (pat x.2.2 i) := by unfold pixF; rw [if_pos e1]
    rw [e1, e2] at this
    exact this
  · rw [imOut_err hE] at T1
    exact each_no k A _ c A' _ c' x.1 x.2.1 _ _ w hE (fun w' hb => awake_any w' (hT.below hb)) T1
end Go.Proofs.YtmbglkholoblaaaDoor
