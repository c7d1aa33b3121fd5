/- A raster as a list: the pixel of each place, row by row. No program in sight. -/
import Derived.Test.YtineinmghajmnaaMB
import Derived.Test.YtineinmghajmnaaMF
import Derived.Test.YtineinmghajmnaaML
namespace Go.Proofs.Ytineinmghajmnaa

/-- The pixels f x y of the places of a raster of w by h pixels, row by row. -/
def gridL (w h : Int) (f : Int → Int → Px) : List Px := (List.range (w * h).toNat).map fun k : Nat => f ((k : Int) % w) ((k : Int) / w)
theorem grid_length (w h : Int) (f : Int → Int → Px) : (gridL w h f).length = (w * h).toNat := by simp [gridL]
theorem grid_pat (w h : Int) (f : Int → Int → Px) (k : Nat) (hk : k < (w * h).toNat) : pat (gridL w h f) k = f ((k : Int) % w) ((k : Int) / w) := by
  simp [pat, gridL, hk]
theorem place_mod {w x y : Int} (h : 0 ≤ x ∧ x < w) : (y * w + x) % w = x ∧ (y * w + x) / w = y := by
  have hw : w ≠ 0 := by omega
  constructor
  · rw [Int.add_comm, Int.add_mul_emod_self_right]; exact Int.emod_eq_of_lt h.1 h.2
  · rw [Int.add_comm, Int.add_mul_ediv_right _ _ hw, Int.ediv_eq_zero_of_lt h.1 h.2, Int.zero_add]
theorem grid_at {w h : Int} (f : Int → Int → Px) {x y : Int} (hx : 0 ≤ x ∧ x < w) (hy : 0 ≤ y ∧ y < h) : pat (gridL w h f) (y * w + x).toNat = f x y := by
  have hi := idx_lt (W := w) (H := h) (x := x) (y := y) ⟨hx.1, hx.2, hy.1, hy.2⟩
  rw [grid_pat w h f _ (by omega), show (((y * w + x).toNat : Nat) : Int) = y * w + x by omega, (place_mod hx).1, (place_mod hx).2]
theorem take_succ_pat (l : List Px) (k : Nat) (h : k < l.length) : l.take (k + 1) = l.take k ++ [pat l k] := by
  rw [List.take_succ_eq_append_getElem h]
  simp [pat, h]
theorem list_ext_pat {l m : List Px} (hl : l.length = m.length) (h : ∀ k, k < l.length → pat l k = pat m k) : l = m := by
  apply List.ext_getElem hl
  intro i h1 h2
  have := h i h1
  simpa [pat, h1, h2] using this
theorem grid_congr {w h : Int} {f g : Int → Int → Px} (e : ∀ x y, 0 ≤ x → x < w → 0 ≤ y → y < h → f x y = g x y) (hw : 0 ≤ w) : gridL w h f = gridL w h g := by
  refine list_ext_pat (by rw [grid_length, grid_length]) fun k hk => ?_
  rw [grid_length] at hk
  rw [grid_pat _ _ _ _ hk, grid_pat _ _ _ _ hk]
  have hp : 0 < w * h := by omega
  have hw0 : 0 < w := by
    rcases Int.lt_or_eq_of_le hw with c | c
    · exact c
    · rw [← c, Int.zero_mul] at hp; omega
  refine e _ _ (Int.emod_nonneg _ (by omega)) (Int.emod_lt_of_pos _ hw0) (Int.ediv_nonneg (by omega) hw) ?_
  rw [Int.ediv_lt_iff_lt_mul hw0]
  rw [Int.mul_comm] at hp
  have : w * h = h * w := Int.mul_comm _ _
  omega
/-- The place of the pixel k. -/
theorem place_of {w h : Int} {k : Nat} (hk : k < (w * h).toNat) (hw : 0 < w) : (0 ≤ (k : Int) % w ∧ (k : Int) % w < w) ∧ 0 ≤ (k : Int) / w ∧ (k : Int) / w < h := by
  refine ⟨⟨Int.emod_nonneg _ (by omega), Int.emod_lt_of_pos _ hw⟩, Int.ediv_nonneg (by omega) (by omega), ?_⟩
  rw [Int.ediv_lt_iff_lt_mul hw]
  have : w * h = h * w := Int.mul_comm _ _
  omega
/-- A valid image is the raster of its own pixels. -/
theorem grid_pick {W H : Int} {ps : List Px} (i : IOk W H ps) : gridL W H (pick W H ps) = ps := by
  have hn := i.n
  refine list_ext_pat (by rw [grid_length]; omega) fun k hk => ?_
  rw [grid_length] at hk
  rw [grid_pat _ _ _ _ hk]
  have hw : 0 < W := by
    rcases Int.lt_or_eq_of_le i.w0 with c | c
    · exact c
    · rw [← c, Int.zero_mul] at hk; simp at hk
  have hp := place_of hk hw
  rw [pick_in ⟨hp.1.1, hp.1.2, hp.2.1, hp.2.2⟩]
  have := Int.mul_ediv_add_emod (k : Int) W
  congr 1
  rw [Int.mul_comm] at this
  omega
theorem pick_grid {w h : Int} (f : Int → Int → Px) {x y : Int} (hx : 0 ≤ x ∧ x < w) (hy : 0 ≤ y ∧ y < h) : pick w h (gridL w h f) x y = f x y := by
  rw [pick_in ⟨hx.1, hx.2, hy.1, hy.2⟩, grid_at f hx hy]
theorem pick_ok {W H : Int} {ps : List Px} (i : IOk W H ps) (x y : Int) : (pick W H ps x y).ok := by
  by_cases h : 0 ≤ x ∧ x < W ∧ 0 ≤ y ∧ y < H
  · rw [pick_in h]
    have := idx_lt h
    have := i.n
    exact i.ok _ (by omega)
  · rw [pick_out h]; decide
theorem grid_ok {W H : Int} {f : Int → Int → Px} (hW : 0 ≤ W) (hW1 : W ≤ 256) (hH : 0 ≤ H) (hH1 : H ≤ 256) (hz : W = 0 ↔ H = 0) (hf : ∀ x y, (f x y).ok) : IOk W H (gridL W H f) := by
  have h0 : 0 ≤ W * H := Int.mul_nonneg hW hH
  refine ⟨hW, hW1, hH, hH1, hz, by rw [grid_length]; omega, fun i hi => ?_⟩
  rw [grid_length] at hi
  rw [grid_pat _ _ _ _ hi]
  exact hf _ _
end Go.Proofs.Ytineinmghajmnaa
namespace Go.Proofs.Ytineinmghajmnaa
open Go.RowKit
/-- What At answers. -/
def sAt (W H : Int) (ps : List Px) (kind x y : Int) : Px := if vld kind = true ∧ ichk W H ps = 0 then samp (pick W H ps) kind (cl x) (cl y) else Px.zero
set_option maxRecDepth 100000 in
set_option maxHeartbeats 4000000 in
theorem pat_no (W H : Int) (v : Value) (kind x y E : Int) (V : Bool) (w : World) (tt : V = false ∨ (V = true ∧ (E != 0) = true))
    (TV : ∀ w, Calls Try.prog 28 #[.int .i64 kind] w fun e w' => e = .returned (.bool V) ∧ w = w')
    (TC : ∀ w', Below w.heap.size w w' → Calls Try.prog 22 #[.agg #[.int .i64 W, .int .i64 H, v]] w' fun e w'' => e = .returned (.int .i64 E) ∧ Below w'.heap.size w' w'') :
    Calls Try.prog 12 #[.agg #[.int .i64 W, .int .i64 H, v], .int .i64 kind, .int .i64 x, .int .i64 y] w (PxPost Px.zero w) := by
  replace TV := Lib.hid TV; replace TC := Lib.hid TC
  go_enter Try.func12, Try.ntmps12
  go_upto_region 1 with fail
  have K := Lib.hid (fr_two w #[.int .i64 W, .int .i64 H, v] #[.int .i64 0, .int .i64 0, .int .i64 0, .int .i64 0] 24 27 _ rfl)
  generalize World.alloc (World.alloc w _) _ = w0 at *
  obtain ⟨⟨i1, i2, i3⟩, -⟩ := K.out.1.1.three
  rcases tt with rfl | ⟨rfl, hE⟩
  · go_wp2_with fail
    refine (TV.out _).mono ?_
    rintro e w1 ⟨rfl, rfl⟩
    obtain ⟨⟨r1, r2, r3, r4⟩, f1, f2, f3, f4⟩ := K.out.1.2.1.four
    have HB := Lib.hid K.out.2
    clear K i1 i2 i3
    go_wp2_with fail
    refine bodyPost_ret (v := .agg #[.int .i64 0, .int .i64 0, .int .i64 0, .int .i64 0]) (by simp [results, Try.results12, go_sem, r1, r2, r3, r4]) rfl ⟨rfl, ?_⟩
    exact set4_below HB.out (by omega) _ _ _ _ _ _ _ _
  · go_wp2_with fail
    refine (TV.out _).mono ?_
    rintro e w1 ⟨rfl, rfl⟩
    go_wp2_with fail
    refine (TC.out _ K.out.2).mono ?_
    rintro e w1 ⟨rfl, hb⟩
    replace K := Lib.hid (K.out.below hb)
    obtain ⟨⟨r1, r2, r3, r4⟩, f1, f2, f3, f4⟩ := K.out.1.2.1.four
    have HB := Lib.hid K.out.2
    clear K i1 i2 i3 hb
    go_wp2_with fail
    refine bodyPost_ret (v := .agg #[.int .i64 0, .int .i64 0, .int .i64 0, .int .i64 0]) (by simp [results, Try.results12, go_sem, r1, r2, r3, r4]) rfl ⟨rfl, ?_⟩
    exact set4_below HB.out (by omega) _ _ _ _ _ _ _ _
set_option maxRecDepth 100000 in
set_option maxHeartbeats 4000000 in
theorem pat_yes (W H : Int) (v : Value) (kind x y cx cy : Int) (u : Px) (w : World)
    (TV : ∀ w, Calls Try.prog 28 #[.int .i64 kind] w fun e w' => e = .returned (.bool true) ∧ w = w')
    (TC : ∀ w', Below w.heap.size w w' → Calls Try.prog 22 #[.agg #[.int .i64 W, .int .i64 H, v]] w' fun e w'' => e = .returned (.int .i64 0) ∧ Below w'.heap.size w' w'')
    (C1 : ∀ w, Calls Try.prog 29 #[.int .i64 x, .int .i64 (-1099511627776), .int .i64 1099511627776] w fun e w' => e = .returned (.int .i64 cx) ∧ w = w') (C2 : ∀ w, Calls Try.prog 29 #[.int .i64 y, .int .i64 (-1099511627776), .int .i64 1099511627776] w fun e w' => e = .returned (.int .i64 cy) ∧ w = w')
    (TA : ∀ w' g, Below w.heap.size w w' → Bx w' g 24 #[.int .i64 W, .int .i64 H, v] → Calls Try.prog 30 #[.func (.func 61) #[] #[.pointer (some ⟨g, 0, none⟩)], .int .i64 kind, .int .i64 cx, .int .i64 cy] w' (PxPost u w')) :
    Calls Try.prog 12 #[.agg #[.int .i64 W, .int .i64 H, v], .int .i64 kind, .int .i64 x, .int .i64 y] w (PxPost u w) := by
  replace TV := Lib.hid TV; replace TC := Lib.hid TC; replace C1 := Lib.hid C1; replace C2 := Lib.hid C2; replace TA := Lib.hid TA
  go_enter Try.func12, Try.ntmps12
  go_upto_region 1 with fail
  have K := Lib.hid (fr_two w #[.int .i64 W, .int .i64 H, v] #[.int .i64 0, .int .i64 0, .int .i64 0, .int .i64 0] 24 27 _ rfl)
  generalize World.alloc (World.alloc w _) _ = w0 at *
  obtain ⟨⟨i1, i2, i3⟩, -⟩ := K.out.1.1.three
  go_wp2_with fail
  refine (TV.out _).mono ?_
  rintro e w1 ⟨rfl, rfl⟩
  go_wp2_with fail
  refine (TC.out _ K.out.2).mono ?_
  rintro e w1 ⟨rfl, hb⟩
  replace K := Lib.hid (K.out.below hb)
  clear i1 i2 i3 hb
  go_wp2_with fail
  refine (C1.out _).mono ?_
  rintro e w2 ⟨rfl, rfl⟩
  go_wp2_with fail
  refine (C2.out _).mono ?_
  rintro e w2 ⟨rfl, rfl⟩
  obtain ⟨⟨i1, i2, i3⟩, -⟩ := K.out.1.1.three
  go_wp2_with fail
  refine (inside_any _ _ _ _).mono ?_
  rintro e w3 ⟨rfl, hbx, hb⟩
  replace K := Lib.hid (K.out.below hb)
  have TAw := Lib.hid (TA.out w3 _ K.out.2 hbx)
  clear i1 i2 i3 hb hbx
  go_wp2_with fail
  refine (TAw.out).mono ?_
  rintro e w4 ⟨rfl, hb⟩
  replace K := Lib.hid (K.out.below hb)
  obtain ⟨⟨r1, r2, r3, r4⟩, f1, f2, f3, f4⟩ := K.out.1.2.1.four
  have HB := Lib.hid K.out.2
  clear K hb TAw
  go_wp2_with fail
  refine bodyPost_ret (v := .agg #[.int .i64 u.r, .int .i64 u.g, .int .i64 u.b, .int .i64 u.a]) (by simp [results, Try.results12, go_sem, r1, r2, r3, r4]) rfl ⟨rfl, ?_⟩
  exact set4_below HB.out (by omega) _ _ _ _ _ _ _ _
theorem psat_any (W H : Int) (A : Option Addr) (c : Nat) (ps : List Px) (kind x y : Int) (w : World) (hp : Pixs w w.heap.size (.slice A ps.length c) ps) :
    Calls Try.prog 12 #[.agg #[.int .i64 W, .int .i64 H, .slice A ps.length c], .int .i64 kind, .int .i64 x, .int .i64 y] w (PxPost (sAt W H ps kind x y) w) := by
  have TV := kvalid_any kind
  have TC := fun w' (hb : Below w.heap.size w w') => icheck_any W H A ps.length c ps w' (hp.on hb)
  unfold sAt
  by_cases hv : vld kind = true
  rotate_left
  · rw [if_neg (fun h => hv h.1)]
    rw [Bool.not_eq_true] at hv
    rw [hv] at TV
    exact pat_no W H _ kind x y _ false w (.inl rfl) TV TC
  rw [hv] at TV
  by_cases h1 : ichk W H ps = 0
  rotate_left
  · rw [if_neg (fun h => h1 h.2)]
    exact pat_no W H _ kind x y _ true w (.inr ⟨rfl, by simpa using h1⟩) TV TC
  rw [if_pos ⟨hv, h1⟩]
  rw [h1] at TC
  have io := (ichk_iff W H ps).1 h1
  refine pat_yes W H _ kind x y (cl x) (cl y) _ w TV TC (fun w => clamp_any x _ _ w) (fun w => clamp_any y _ _ w) (fun w' g hb hg => ?_)
  exact sat_any _ g kind (cl x) (cl y) (pick W H ps) w' (by unfold cl; omega) (by unfold cl; omega) hv ent_in (pick_ok io) (fun X Y w'' hb2 => in_any W H A c ps io X Y g w'' (hg.below hb2) ((hp.on hb).on hb2))
end Go.Proofs.Ytineinmghajmnaa
