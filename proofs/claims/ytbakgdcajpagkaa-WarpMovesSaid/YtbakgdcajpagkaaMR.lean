/- A raster as a list: the pixel of each place, row by row. No program in sight. -/
import Derived.Test.YtbakgdcajpagkaaMB
namespace Go.Proofs.Ytbakgdcajpagkaa

/-- The pixels f x y of the places of a raster of w by h pixels, row by row. -/
def gridL (w h : Int) (f : Int → Int → Px) : List Px := (List.range (w * h).toNat).map fun k : Nat => f ((k : Int) % w) ((k : Int) / w)
theorem grid_length (w h : Int) (f : Int → Int → Px) : (gridL w h f).length = (w * h).toNat := by simp [gridL]
theorem grid_pat (w h : Int) (f : Int → Int → Px) (k : Nat) (hk : k < (w * h).toNat) : pat (gridL w h f) k = f ((k : Int) % w) ((k : Int) / w) := by
  simp [pat, gridL, hk]
theorem place_mod {w x y : Int} (h : 0 ≤ x ∧ x < w) : (y * w + x) % w = x ∧ (y * w + x) / w = y := by
  have hw : w ≠ 0 := by omega
  constructor
  · rw [Int.add_comm, Int.add_mul_emod_self_right]; exact Int.emod_eq_of_lt h.1 h.2
  · rw [Int.add_comm, Int.add_mul_ediv_right _ _ hw, Int.ediv_eq_zero_of_lt h.1 h.2, Int.zero_add]
theorem grid_at {w h : Int} (f : Int → Int → Px) {x y : Int} (hx : 0 ≤ x ∧ x < w) (hy : 0 ≤ y ∧ y < h) : pat (gridL w h f) (y * w + x).toNat = f x y := by
  have hi := idx_lt (W := w) (H := h) (x := x) (y := y) ⟨hx.1, hx.2, hy.1, hy.2⟩
  rw [grid_pat w h f _ (by omega), show (((y * w + x).toNat : Nat) : Int) = y * w + x by omega, (place_mod hx).1, (place_mod hx).2]
theorem take_succ_pat (l : List Px) (k : Nat) (h : k < l.length) : l.take (k + 1) = l.take k ++ [pat l k] := by
  rw [List.take_succ_eq_append_getElem h]
  simp [pat, h]
theorem list_ext_pat {l m : List Px} (hl : l.length = m.length) (h : ∀ k, k < l.length → pat l k = pat m k) : l = m := by
  apply List.ext_getElem hl
  intro i h1 h2
  have := h i h1
  simpa [pat, h1, h2] using this
theorem grid_congr {w h : Int} {f g : Int → Int → Px} (e : ∀ x y, 0 ≤ x → x < w → 0 ≤ y → y < h → f x y = g x y) (hw : 0 ≤ w) : gridL w h f = gridL w h g := by
  refine list_ext_pat (by rw [grid_length, grid_length]) fun k hk => ?_
  rw [grid_length] at hk
  rw [grid_pat _ _ _ _ hk, grid_pat _ _ _ _ hk]
  have hp : 0 < w * h := by omega
  have hw0 : 0 < w := by
    rcases Int.lt_or_eq_of_le hw with c | c
    · exact c
    · rw [← c, Int.zero_mul] at hp; omega
  refine e _ _ (Int.emod_nonneg _ (by omega)) (Int.emod_lt_of_pos _ hw0) (Int.ediv_nonneg (by omega) hw) ?_
  rw [Int.ediv_lt_iff_lt_mul hw0]
  rw [Int.mul_comm] at hp
  have : w * h = h * w := Int.mul_comm _ _
  omega
/-- The place of the pixel k. -/
theorem place_of {w h : Int} {k : Nat} (hk : k < (w * h).toNat) (hw : 0 < w) : (0 ≤ (k : Int) % w ∧ (k : Int) % w < w) ∧ 0 ≤ (k : Int) / w ∧ (k : Int) / w < h := by
  refine ⟨⟨Int.emod_nonneg _ (by omega), Int.emod_lt_of_pos _ hw⟩, Int.ediv_nonneg (by omega) (by omega), ?_⟩
  rw [Int.ediv_lt_iff_lt_mul hw]
  have : w * h = h * w := Int.mul_comm _ _
  omega
/-- A valid image is the raster of its own pixels. -/
theorem grid_pick {W H : Int} {ps : List Px} (i : IOk W H ps) : gridL W H (pick W H ps) = ps := by
  have hn := i.n
  refine list_ext_pat (by rw [grid_length]; omega) fun k hk => ?_
  rw [grid_length] at hk
  rw [grid_pat _ _ _ _ hk]
  have hw : 0 < W := by
    rcases Int.lt_or_eq_of_le i.w0 with c | c
    · exact c
    · rw [← c, Int.zero_mul] at hk; simp at hk
  have hp := place_of hk hw
  rw [pick_in ⟨hp.1.1, hp.1.2, hp.2.1, hp.2.2⟩]
  have := Int.mul_ediv_add_emod (k : Int) W
  congr 1
  rw [Int.mul_comm] at this
  omega
theorem pick_grid {w h : Int} (f : Int → Int → Px) {x y : Int} (hx : 0 ≤ x ∧ x < w) (hy : 0 ≤ y ∧ y < h) : pick w h (gridL w h f) x y = f x y := by
  rw [pick_in ⟨hx.1, hx.2, hy.1, hy.2⟩, grid_at f hx hy]
theorem pick_ok {W H : Int} {ps : List Px} (i : IOk W H ps) (x y : Int) : (pick W H ps x y).ok := by
  by_cases h : 0 ≤ x ∧ x < W ∧ 0 ≤ y ∧ y < H
  · rw [pick_in h]
    have := idx_lt h
    have := i.n
    exact i.ok _ (by omega)
  · rw [pick_out h]; decide
theorem grid_ok {W H : Int} {f : Int → Int → Px} (hW : 0 ≤ W) (hW1 : W ≤ 256) (hH : 0 ≤ H) (hH1 : H ≤ 256) (hz : W = 0 ↔ H = 0) (hf : ∀ x y, (f x y).ok) : IOk W H (gridL W H f) := by
  have h0 : 0 ≤ W * H := Int.mul_nonneg hW hH
  refine ⟨hW, hW1, hH, hH1, hz, by rw [grid_length]; omega, fun i hi => ?_⟩
  rw [grid_length] at hi
  rw [grid_pat _ _ _ _ hi]
  exact hf _ _
end Go.Proofs.Ytbakgdcajpagkaa
namespace Go.Proofs.Ytbakgdcajpagkaa
open Go.RowKit

set_option maxHeartbeats 2000000 in
theorem richeck_any (W H : Int) (A : Option Addr) (n c : Nat) (ps : List Px) (w : World) (h : Pixs w w.heap.size (.slice A n c) ps) :
    Calls Try.prog 53 #[.agg #[.int .i64 W, .int .i64 H, .slice A n c]] w fun e w' => e = .returned (.int .i64 (ichk W H ps)) ∧ Below w.heap.size w w' := by
  obtain rfl := h.len
  have hmx := h.max
  by_cases h1 : 0 ≤ W
  case neg =>
    have E := Lib.hid (show ichk W H ps = 15 by unfold ichk; rw [if_neg (fun e => by have := e.1; unfold sized at this; rw [decide_eq_true_eq] at this; omega)])
    go_enter Try.func53, Try.ntmps53
    go_wp2_with fail
    go_ret
    exact ⟨ret_int E.out.symm, bel_alloc (Below.refl _ _) _⟩
  by_cases h2 : W ≤ 256
  case neg =>
    have E := Lib.hid (show ichk W H ps = 15 by unfold ichk; rw [if_neg (fun e => by have := e.1; unfold sized at this; rw [decide_eq_true_eq] at this; omega)])
    go_enter Try.func53, Try.ntmps53
    go_wp2_with fail
    go_ret
    exact ⟨ret_int E.out.symm, bel_alloc (Below.refl _ _) _⟩
  by_cases h3 : 0 ≤ H
  case neg =>
    have E := Lib.hid (show ichk W H ps = 15 by unfold ichk; rw [if_neg (fun e => by have := e.1; unfold sized at this; rw [decide_eq_true_eq] at this; omega)])
    go_enter Try.func53, Try.ntmps53
    go_wp2_with fail
    go_ret
    exact ⟨ret_int E.out.symm, bel_alloc (Below.refl _ _) _⟩
  by_cases h4 : H ≤ 256
  case neg =>
    have E := Lib.hid (show ichk W H ps = 15 by unfold ichk; rw [if_neg (fun e => by have := e.1; unfold sized at this; rw [decide_eq_true_eq] at this; omega)])
    go_enter Try.func53, Try.ntmps53
    go_wp2_with fail
    go_ret
    exact ⟨ret_int E.out.symm, bel_alloc (Below.refl _ _) _⟩
  have hwh : 0 ≤ W * H ∧ W * H ≤ 65536 := by
    have e1 : W * H ≤ 256 * 256 := Int.mul_le_mul (by omega) (by omega) (by omega) (by omega)
    have e0 : 0 ≤ W * H := Int.mul_nonneg (by omega) (by omega)
    omega
  by_cases hz : (W = 0 ↔ H = 0)
  case neg =>
    have E := Lib.hid (show ichk W H ps = 15 by unfold ichk; rw [if_neg (fun e => by have := e.1; unfold sized at this; rw [decide_eq_true_eq] at this; exact hz this.2.2.2.2)])
    rcases (show (W = 0 ∧ H ≠ 0) ∨ (W ≠ 0 ∧ H = 0) by omega) with ⟨rfl, z2⟩ | ⟨z1, rfl⟩
    · have z2' : (H == 0) = false := by simp [z2]
      clear hz
      go_enter Try.func53, Try.ntmps53
      go_wp2_with fail
      go_ret
      exact ⟨ret_int E.out.symm, bel_alloc (Below.refl _ _) _⟩
    · have z1' : (W == 0) = false := by simp [z1]
      clear hz
      go_enter Try.func53, Try.ntmps53
      go_wp2_with fail
      go_ret
      exact ⟨ret_int E.out.symm, bel_alloc (Below.refl _ _) _⟩
  have hs : sized W H = true := by unfold sized; rw [decide_eq_true_eq]; exact ⟨h1, h2, h3, h4, hz⟩
  have hzz : ((W == 0) = true ∧ (H == 0) = true) ∨ ((W == 0) = false ∧ (H == 0) = false) := by
    by_cases e : W = 0
    · left; simp [e, hz.1 e]
    · right; simp [e]; omega
  clear hz
  by_cases hl : (ps.length : Int) = W * H
  case neg =>
    have E := Lib.hid (show ichk W H ps = 15 by unfold ichk; rw [if_neg (fun e => hl e.2)])
    have hne : ((ps.length : Int) != W * H) = true := by simp [hl]
    clear hs h hl
    rcases hzz with ⟨z1, z2⟩ | ⟨z1, z2⟩
    all_goals
      go_enter Try.func53, Try.ntmps53
      go_wp2_with fail
      go_ret
      exact ⟨ret_int E.out.symm, bel_alloc (Below.refl _ _) _⟩
  have E := Lib.hid (show ichk W H ps = if allOk ps then 0 else 2 by unfold ichk; rw [if_pos ⟨hs, hl⟩])
  have hne : ((ps.length : Int) != W * H) = false := by simp [hl]
  have hln : ps.length ≤ 65536 := by omega
  clear hs hl
  have HP := Lib.hid h; clear h
  have HP0 := Lib.hid (HP.out.alloc (.cells #[.int .i64 W, .int .i64 H, .slice A ps.length c] 40))
  have hB0 : Below w.heap.size w (w.alloc (.cells #[.int .i64 W, .int .i64 H, .slice A ps.length c] 40)) := bel_alloc (Below.refl _ _) _
  rcases hzz with ⟨z1, z2⟩ | ⟨z1, z2⟩
  all_goals
    go_enter Try.func53, Try.ntmps53
    go_wp2_with fail
    go_loopw [3] (ChkIRel ps (w.alloc (.cells #[.int .i64 W, .int .i64 H, .slice A ps.length c] 40))) (fun i _ => ps.length - (intOf i).toNat)
    case atStart => exact ⟨0, Nat.zero_le _, rfl, fun j hj => absurd hj (by omega), Below.refl _ _⟩
    case round =>
      obtain ⟨k, hk, rfl, hj, hbel⟩ := hrel
      have HJ := Lib.hid hj; clear hj
      have hbx : wr.cell? ⟨w.heap.size, 2, none⟩ = some (.slice A ps.length c) := (hbel.cell (p := ⟨w.heap.size, 2, none⟩) (by simp)).trans (by simp)
      by_cases hlt : k < ps.length
      · have hP := HP0.out.on hbel
        obtain ⟨A', c', ev, _, hc⟩ := hP
        obtain ⟨b, o, rfl, hb, c1, c2, c3, c4⟩ := hc k hlt
        injection ev with ev1 _ ev3
        subst ev1
        clear hc ev3
        have HNO := Lib.hid (allOk_no ps k hlt)
        generalize hp : pat ps k = p at *
        have HPK := Lib.hid hp; clear hp
        obtain ⟨r, g, bl, al⟩ := p
        simp only at c1 c2 c3 c4
        by_cases hok : (Px.mk r g bl al).ok
        · have HOK := Lib.hid ((pxOk_iff _).2 hok)
          have HO := Lib.hid hok; clear hok
          go_wp2_with fail
          refine (rpvalid_any _ _ _ _ _).mono ?_
          rintro e w4 ⟨rfl, hb4⟩
          rw [HOK.out]
          go_wp2_with fail
          go_roundw
          case rel =>
            refine ⟨k + 1, by omega, by go_num, fun j hj => ?_, bel_trans hbel hb4⟩
            by_cases e : j = k
            · subst e; rw [HPK.out]; exact HO.out
            · exact HJ.out j (by omega)
          case measure => simp [intOf]; omega
        · have HOK := Lib.hid (show pxOk ⟨r, g, bl, al⟩ = false by rw [Bool.eq_false_iff]; intro e; exact hok ((pxOk_iff _).1 e))
          have E2 := Lib.hid (HNO.out hok)
          go_wp2_with fail
          refine (rpvalid_any _ _ _ _ _).mono ?_
          rintro e w4 ⟨rfl, hb4⟩
          rw [HOK.out]
          go_wp2_with fail
          go_ret
          exact ⟨ret_int (by rw [E.out, E2.out]; rfl), bel_trans hB0 (bel_trans hbel hb4)⟩
      · have E2 := Lib.hid (show allOk ps = true by rw [allOk_iff]; intro i hi; exact HJ.out i (by omega))
        go_wp2_with fail
        go_ret
        exact ⟨ret_int (by rw [E.out, E2.out]; rfl), bel_trans hB0 hbel⟩
end Go.Proofs.Ytbakgdcajpagkaa
namespace Go.Proofs.Ytbakgdcajpagkaa
open Go.RowKit

/-- The image at box gt holds the first q pixels of l; all blocks below gt are as in wb. -/
def GridRel (W H : Int) (l : List Px) (gt : Nat) (wb : World) (q : Nat) (wr : World) : Prop :=
  ∃ v, Bx wr gt 40 #[.int .i64 W, .int .i64 H, v] ∧ PRow wr (gt + 1) v (l.take q) ∧ Below gt wb wr
/-- The heads of the outer and of the inner loop. -/
def OutRel (W H : Int) (l : List Px) (gt : Nat) (wb : World) (a b : Nat) (gh : Nat) (i : Value) (wr : World) : Prop := ∃ y : Nat, y ≤ b ∧ gh = b - y ∧ i = .int .i64 y ∧ GridRel W H l gt wb (y * a) wr
def InRel (W H : Int) (l : List Px) (gt : Nat) (wb : World) (a y : Nat) (gh : Nat) (i : Value) (wr : World) : Prop := ∃ x : Nat, x ≤ a ∧ gh = a - x ∧ i = .int .i64 x ∧ GridRel W H l gt wb (y * a + x) wr
def OneRel (W H : Int) (l : List Px) (gt : Nat) (wb : World) (gh : Nat) (i : Value) (wr : World) : Prop := ∃ x : Nat, x ≤ l.length ∧ gh = l.length - x ∧ i = .int .i64 x ∧ GridRel W H l gt wb x wr
section
variable {W H : Int} {l : List Px} {gt : Nat} {wb w w' : World} {q : Nat}
theorem GridRel.start (hb : Bx w gt 40 #[.int .i64 W, .int .i64 H, .slice none 0 0]) (h : Below gt wb w) : GridRel W H l gt wb 0 w := ⟨_, hb, PRow.nil _ _, h⟩
theorem GridRel.step {v' : Value} {u : Px} {vs : Value} {w7 w8 : World} (hb : Bx w7 gt 40 #[.int .i64 W, .int .i64 H, vs]) (hB : Below gt wb w7) (hr : PRow w8 (gt + 1) v' (l.take q ++ [u])) (h8 : Below (gt + 1) w7 w8) (hq : q < l.length) (hu : pat l q = u) :
    GridRel W H l gt wb (q + 1) (w8.setCell ⟨gt, 2, none⟩ v') := by
  refine ⟨v', ?_, ?_, ?_⟩
  · have := (hb.low (Nat.lt_succ_self _) h8).set 2 v'
    exact this
  · rw [take_succ_pat l q hq, hu]
    exact hr.set (Nat.lt_succ_self _) (Nat.le_refl _)
  · exact (hB.trans (h8.mono (Nat.le_succ _))).setCell (p := ⟨gt, 2, none⟩) (Nat.le_refl _) _
end
theorem grid_idx {a b x y : Nat} (hx : x < a) (hy : y < b) : y * a + x < a * b := by
  have : (y + 1) * a ≤ b * a := Nat.mul_le_mul_right _ (by omega)
  rw [Nat.add_mul, Nat.one_mul, Nat.mul_comm b a] at this
  omega
theorem grid_nat {a b : Nat} (f : Int → Int → Px) {x y : Nat} (hx : x < a) (hy : y < b) : pat (gridL a b f) (y * a + x) = f x y := by
  have := grid_at (w := (a : Int)) (h := (b : Int)) f (x := (x : Int)) (y := (y : Int)) (by omega) (by omega)
  rw [show ((y : Int) * (a : Int) + (x : Int)).toNat = y * a + x by rw [← Int.natCast_mul, ← Int.natCast_add]; exact Int.toNat_natCast _] at this
  exact this
theorem grid_len_nat (a b : Nat) (f : Int → Int → Px) : (gridL a b f).length = a * b := by
  rw [grid_length, ← Int.natCast_mul]; exact Int.toNat_natCast _
theorem PRow.nshape {w : World} {B : Nat} {v : Value} {ps : List Px} (h : PRow w B v ps) {n : Nat} (hn : ps.length = n) : ∃ A cap, v = .slice A n cap := by subst hn; exact h.shape
theorem take_len {l : List Px} {q : Nat} (h : q ≤ l.length) : (l.take q).length = q := by rw [List.length_take]; omega
theorem Bx.set4 {w : World} {g : Nat} {t : TypeId} {a' b' c' d' : Value} (h : Bx w g t #[a', b', c', d']) (a b c d : Value) : Bx ((((w.setCell ⟨g, 0, none⟩ a).setCell ⟨g, 1, none⟩ b).setCell ⟨g, 2, none⟩ c).setCell ⟨g, 3, none⟩ d) g t #[a, b, c, d] := by
  have := (((h.set 0 a).set 1 b).set 2 c).set 3 d
  exact this
theorem Bx.set3 {w : World} {g : Nat} {t : TypeId} {a' b' c' : Value} (h : Bx w g t #[a', b', c']) (a b c : Value) : Bx (((w.setCell ⟨g, 0, none⟩ a).setCell ⟨g, 1, none⟩ b).setCell ⟨g, 2, none⟩ c) g t #[a, b, c] := by
  have := ((h.set 0 a).set 1 b).set 2 c
  exact this
end Go.Proofs.Ytbakgdcajpagkaa
namespace Go.Proofs.Ytbakgdcajpagkaa
open Go.RowKit
attribute [local go_sem 2000] run_max2m run_min2m
def atP (W H : Int) (ps : List Px) (x y : Int) : Px := if ichk W H ps = 0 then pick W H ps x y else Px.zero
set_option maxHeartbeats 2000000 in
theorem rpat_any (W H : Int) (A : Option Addr) (c : Nat) (ps : List Px) (x y : Int) (w : World) (h : Pixs w w.heap.size (.slice A ps.length c) ps) :
    Calls Try.prog 55 #[.agg #[.int .i64 W, .int .i64 H, .slice A ps.length c], .int .i64 x, .int .i64 y] w (PxPost (atP W H ps x y) w) := by
  have HP := Lib.hid h; clear h
  have HD := Lib.hid (show ichk W H ps = 0 ∨ ichk W H ps ≠ 0 by omega)
  have HI := Lib.hid (ichk_iff W H ps)
  have HA := Lib.hid (show ∀ x y, atP W H ps x y = if ichk W H ps = 0 then pick W H ps x y else Px.zero from fun _ _ => rfl)
  have HC := Lib.hid (richeck_any W H A ps.length c ps)
  generalize ichk W H ps = ch at *
  go_enter Try.func55, Try.ntmps55
  go_upto_region 1 with fail
  obtain ⟨hb1, hb2, hB⟩ := two_boxes w #[.int .i64 W, .int .i64 H, .slice A ps.length c] #[.int .i64 0, .int .i64 0, .int .i64 0, .int .i64 0] 40 48 _ rfl
  generalize World.alloc (w.alloc _) _ = w0 at *
  obtain ⟨⟨i1, i2, i3⟩, _, _, _⟩ := hb1.three
  go_wp2_with fail
  refine (HC.out _ (HP.out.on hB)).mono ?_
  rintro e w1 ⟨rfl, hb⟩
  replace hb1 := hb1.below hb; replace hb2 := hb2.below hb; replace hB := bel_trans hB hb
  clear i1 i2 i3 hb
  rcases HD.out with rfl | hc
  · have hiok := HI.out.1 rfl
    have hw0 := hiok.w0; have hw1 := hiok.w1; have hh0 := hiok.h0; have hh1 := hiok.h1
    have HIO := Lib.hid hiok; clear hiok
    obtain ⟨⟨i1, i2, i3⟩, _, _, _⟩ := hb1.three
    go_wp2_with fail
    refine (pick_any W H A ps.length c ps _ _ _ HIO.out (HP.out.on hB)).mono ?_
    rintro e w2 ⟨rfl, hb⟩
    replace hb2 := hb2.below hb; replace hB := bel_trans hB hb
    clear i1 i2 i3 hb
    obtain ⟨⟨r1, r2, r3, r4⟩, rf1, rf2, rf3, rf4⟩ := hb2.four
    go_wp2_with fail
    refine bodyPost_ret (v := _) (by simp [results, Try.results55, go_sem, r1, r2, r3, r4]; rfl) rfl ⟨?_, set4_below hB (Nat.le_succ _) _ _ _ _ _ _ _ _⟩
    simp [HA.out]
  · have hne : (ch != 0) = true := by simp [hc]
    obtain ⟨⟨r1, r2, r3, r4⟩, rf1, rf2, rf3, rf4⟩ := hb2.four
    go_wp2_with fail
    refine bodyPost_ret (v := .agg #[.int .i64 0, .int .i64 0, .int .i64 0, .int .i64 0]) (by simp [results, Try.results55, go_sem, r1, r2, r3, r4]) rfl ⟨?_, set4_below hB (Nat.le_succ _) _ _ _ _ _ _ _ _⟩
    rw [HA.out, if_neg hc]; rfl
end Go.Proofs.Ytbakgdcajpagkaa
