/- The walk of AdjustTwice. -/
import Derived.Test.YtmbglkholoblaaaDoorMN
import Derived.Test.YtmbglkholoblaaaDoorMO
import Derived.Deep.DeepCutAuto
namespace Go.Proofs.YtmbglkholoblaaaDoor
open Go.RowKit

/-- Behind a statement x, e := Pixel(..): a new box holds m; the pixel's box b0 holds p. -/
def TwMid (p m : Px) (b0 : Nat) (w : World) (v e : Value) (wx : World) : Prop := ∃ g, v = .pointer (some ⟨g, 0, none⟩) ∧ e = .int .i64 0 ∧ Bx wx g 25 #[.int .i64 m.r, .int .i64 m.g, .int .i64 m.b, .int .i64 m.a] ∧ Bx wx b0 25 #[.int .i64 p.r, .int .i64 p.g, .int .i64 p.b, .int .i64 p.a] ∧ Below w.heap.size w wx
theorem twMid_of {p m : Px} {b0 g : Nat} {w wx : World} {a b c d : Value} (hN : Bx wx g 25 #[a, b, c, d]) (hP : Bx wx b0 25 #[.int .i64 p.r, .int .i64 p.g, .int .i64 p.b, .int .i64 p.a]) (hn : b0 < g) (hB : Below w.heap.size w wx) (hg : w.heap.size ≤ g) :
    TwMid p m b0 w (.pointer (some ⟨g, 0, none⟩)) (.int .i64 0) ((((wx.setCell ⟨g, 0, none⟩ (.int .i64 m.r)).setCell ⟨g, 1, none⟩ (.int .i64 m.g)).setCell ⟨g, 2, none⟩ (.int .i64 m.b)).setCell ⟨g, 3, none⟩ (.int .i64 m.a)) :=
  ⟨g, rfl, rfl, hN.put4 _ _ _ _, hP.other4 (by omega) _ _ _ _ _ _ _ _, set4_below hB hg _ _ _ _ _ _ _ _⟩
theorem twMid_last {p m : Px} {b0 : Nat} {w wx : World} (hP : Bx wx b0 25 #[.int .i64 p.r, .int .i64 p.g, .int .i64 p.b, .int .i64 p.a]) (hB : Below w.heap.size w wx) :
    TwMid p m b0 w (.pointer (some ⟨wx.heap.size, 0, none⟩)) (.int .i64 0) (wx.alloc (.cells #[.int .i64 m.r, .int .i64 m.g, .int .i64 m.b, .int .i64 m.a] 25)) :=
  ⟨_, rfl, rfl, Bx.new _ _ _, hP.alloc _, bel_alloc hB _⟩
/-- The loop over the three kinds. -/
def TwRel (w : World) (gh : Nat) (i : Value) (wr : World) : Prop := ∃ j : Nat, j ≤ 3 ∧ gh = 3 - j ∧ i = .int .i64 j ∧ Below w.heap.size w wr
/-- A kind with its list: done twice is the same as done once. -/
def TwOk (wb : World) (p : Px) (bK bL j : Nat) : Prop := ∃ (K : Int) (A : Option Addr) (n c : Nat) (m : Px), wb.cell? ⟨bK, j, none⟩ = some (.int .i64 K) ∧ wb.cell? ⟨bL, j, none⟩ = some (.slice A n c) ∧
  (∀ w', Below wb.heap.size wb w' → Calls Tryd.prog 12 #[.int .i64 K, .slice A n c, .slice none 0 0, .agg #[.int .i64 p.r, .int .i64 p.g, .int .i64 p.b, .int .i64 p.a]] w' (PePost m 0 w')) ∧
  (∀ w', Below wb.heap.size wb w' → Calls Tryd.prog 12 #[.int .i64 K, .slice A n c, .slice none 0 0, .agg #[.int .i64 m.r, .int .i64 m.g, .int .i64 m.b, .int .i64 m.a]] w' (PePost m 0 w'))
set_option maxRecDepth 100000 in
set_option maxHeartbeats 4000000 in
theorem twice_no (p : Px) (li a b c le : Int) (w : World) (hp : ¬ (pxOk p = true ∧ 1 ≤ p.a))
    (T0 : ∀ w', Below w.heap.size w w' → Calls Tryd.prog 14 #[] w' fun e w'' => e = .returned (.bool true) ∧ Below w'.heap.size w' w'') :
    Calls Tryd.prog 5 #[.agg #[.int .i64 p.r, .int .i64 p.g, .int .i64 p.b, .int .i64 p.a], .int .u16 li, .int .u16 a, .int .u16 b, .int .u16 c, .int .u8 le] w fun e w' => e = .returned (.bool true) ∧ Below w.heap.size w w' := by
  have HT0 := Lib.hid T0; clear T0
  have hq : (pxOk ⟨p.r, p.g, p.b, p.a⟩ = false) ∨ (pxOk ⟨p.r, p.g, p.b, p.a⟩ = true ∧ decide (p.a < 1) = true) := by
    rcases Bool.eq_false_or_eq_true (pxOk p) with h | h
    rotate_left
    · exact .inl h
    · exact .inr ⟨h, decide_eq_true (Int.not_le.mp fun x => hp ⟨h, x⟩)⟩
  have HQ := Lib.hid hq; clear hq hp
  go_enter Tryd.func5, Tryd.ntmps5
  go_upto_region 1 with fail
  obtain ⟨hb7, hB, -⟩ := one_box w #[.int .i64 p.r, .int .i64 p.g, .int .i64 p.b, .int .i64 p.a] 25 _ rfl
  generalize World.alloc w _ = w0 at *
  go_wp2_with fail
  refine (HT0.out _ hB).mono ?_
  rintro e w1 ⟨rfl, hbb⟩
  replace hb7 := hb7.below hbb; replace hB := bel_trans hB hbb
  clear hbb
  obtain ⟨⟨i1, i2, i3, i4⟩, -⟩ := hb7.four
  go_wp2_with fail
  refine (pvalid_any _ _ _ _ _).mono ?_
  rintro e w2 ⟨rfl, hbb⟩
  replace hb7 := hb7.below hbb; replace hB := bel_trans hB hbb
  clear hbb i1 i2 i3 i4
  rcases HQ.out with h | ⟨h, d1⟩
  · rw [h]
    clear h hb7 HQ
    go_wp2_with fail
    refine (HT0.out _ hB).mono ?_
    rintro e w3 ⟨rfl, hbb⟩
    go_wp2_with fail
    go_ret
    exact ⟨rfl, bel_trans hB hbb⟩
  · rw [h]
    obtain ⟨⟨-, -, -, i4⟩, -⟩ := hb7.four
    clear h hb7 HQ
    go_wp2_with fail
    refine (HT0.out _ hB).mono ?_
    rintro e w3 ⟨rfl, hbb⟩
    go_wp2_with fail
    go_ret
    exact ⟨rfl, bel_trans hB hbb⟩
theorem Ints.on {w w' : World} {v : Value} {xs : List Int} (h : Ints w w.heap.size v xs) (hb : Below w.heap.size w w') : Ints w' w'.heap.size v xs := (h.below hb).more hb.size
theorem ints1 (w : World) (x : Int) : Ints (w.alloc (.cells #[.int .i64 x] 3)) (w.alloc (.cells #[.int .i64 x] 3)).heap.size (.slice (some ⟨w.heap.size, 0, none⟩) 1 1) [x] := made_ints w [x] (by simp)
theorem ints3 (w : World) (x y z : Int) : Ints (w.alloc (.cells #[.int .i64 x, .int .i64 y, .int .i64 z] 3)) (w.alloc (.cells #[.int .i64 x, .int .i64 y, .int .i64 z] 3)).heap.size (.slice (some ⟨w.heap.size, 0, none⟩) 3 3) [x, y, z] := made_ints w [x, y, z] (by simp)
theorem tw_rows (w7 : World) (li l2 a b c2 : Int) (wd : World) (hwd : wd = (((w7.alloc (.cells #[.int .i64 li] 3)).alloc (.cells #[.int .i64 l2] 3)).alloc (.cells #[.int .i64 a, .int .i64 b, .int .i64 c2] 3)).alloc (.cells #[.slice (some ⟨w7.heap.size, 0, none⟩) 1 1, .slice (some ⟨w7.heap.size + 1, 0, none⟩) 1 1, .slice (some ⟨w7.heap.size + 1 + 1, 0, none⟩) 3 3] 22)) :
    Below w7.heap.size w7 wd ∧ Ints wd wd.heap.size (.slice (some ⟨w7.heap.size, 0, none⟩) 1 1) [li] ∧ Ints wd wd.heap.size (.slice (some ⟨w7.heap.size + 1, 0, none⟩) 1 1) [l2] ∧ Ints wd wd.heap.size (.slice (some ⟨w7.heap.size + 1 + 1, 0, none⟩) 3 3) [a, b, c2] ∧
    Bx wd (w7.heap.size + 1 + 1 + 1) 22 #[.slice (some ⟨w7.heap.size, 0, none⟩) 1 1, .slice (some ⟨w7.heap.size + 1, 0, none⟩) 1 1, .slice (some ⟨w7.heap.size + 1 + 1, 0, none⟩) 3 3] := by
  have s1 : ∀ (w : World) (o : Obj), (w.alloc o).heap.size = w.heap.size + 1 := fun w o => by simp
  have i1 := ints1 w7 li
  have i2 := ints1 (w7.alloc (.cells #[.int .i64 li] 3)) l2
  have i3 := ints3 ((w7.alloc (.cells #[.int .i64 li] 3)).alloc (.cells #[.int .i64 l2] 3)) a b c2
  have b2 := bel1 (w7.alloc (.cells #[.int .i64 li] 3)) (.cells #[.int .i64 l2] 3)
  have b3 := bel1 ((w7.alloc (.cells #[.int .i64 li] 3)).alloc (.cells #[.int .i64 l2] 3)) (.cells #[.int .i64 a, .int .i64 b, .int .i64 c2] 3)
  have b4 := bel1 (((w7.alloc (.cells #[.int .i64 li] 3)).alloc (.cells #[.int .i64 l2] 3)).alloc (.cells #[.int .i64 a, .int .i64 b, .int .i64 c2] 3)) (.cells #[.slice (some ⟨w7.heap.size, 0, none⟩) 1 1, .slice (some ⟨w7.heap.size + 1, 0, none⟩) 1 1, .slice (some ⟨w7.heap.size + 1 + 1, 0, none⟩) 3 3] 22)
  have hL := Bx.new (((w7.alloc (.cells #[.int .i64 li] 3)).alloc (.cells #[.int .i64 l2] 3)).alloc (.cells #[.int .i64 a, .int .i64 b, .int .i64 c2] 3)) 22 #[.slice (some ⟨w7.heap.size, 0, none⟩) 1 1, .slice (some ⟨w7.heap.size + 1, 0, none⟩) 1 1, .slice (some ⟨w7.heap.size + 1 + 1, 0, none⟩) 3 3]
  rw [← hwd] at hL b4
  have j1 := ((i1.on b2).on b3).on b4
  have j2 := (i2.on b3).on b4
  have j3 := i3.on b4
  rw [s1] at j2
  rw [s1, s1] at j3
  rw [s1, s1, s1] at hL
  exact ⟨bel_trans (bel_trans (bel_trans (bel1 _ _) b2) b3) b4, j1, j2, j3, hL⟩
theorem tw6 {li : Int} (h : 0 ≤ li ∧ li ≤ 65535) : achk 6 [li] [] = 0 := by
  rw [achk_iff]
  refine ⟨by decide, by decide, by simp [cntOk], by decide, by decide, ⟨fun i hi => ?_, fun h => absurd h.1 (by decide), fun i hi => absurd hi (by simp)⟩, fun h => absurd h.1 (by decide), fun h => absurd h (by decide), fun i hi => absurd hi (by simp)⟩
  obtain rfl : i = 0 := by simp at hi; omega
  show (0 : Int) ≤ li ∧ li ≤ 65535
  exact h
theorem tw7 {n : Int} (h : 2 ≤ n ∧ n ≤ 256) : achk 7 [n] [] = 0 := by
  rw [achk_iff]
  refine ⟨by decide, by decide, by simp [cntOk], by decide, by decide, ⟨fun i hi => ?_, fun h => absurd h.1 (by decide), fun i hi => absurd hi (by simp)⟩, fun h => absurd h.1 (by decide), fun h => absurd h (by decide), fun i hi => absurd hi (by simp)⟩
  obtain rfl : i = 0 := by simp at hi; omega
  show (2 : Int) ≤ n ∧ n ≤ 256
  exact h
theorem tw9 {a b c : Int} (ha : 0 ≤ a ∧ a ≤ 65535) (hb : 0 ≤ b ∧ b ≤ 65535) (hc : 1 ≤ c ∧ c ≤ 65535) : achk 9 [a, b, c] [] = 0 := by
  rw [achk_iff]
  refine ⟨by decide, by decide, by simp [cntOk], by decide, by decide, ⟨fun i hi => ?_, fun h => ?_, fun i hi => absurd hi (by simp)⟩, fun h => absurd h.1 (by decide), fun h => absurd h (by decide), fun i hi => absurd hi (by simp)⟩
  · rcases (show i = 0 ∨ i = 1 ∨ i = 2 by simp at hi; omega) with rfl | rfl | rfl
    · show (0 : Int) ≤ a ∧ a ≤ 65535; exact ha
    · show (0 : Int) ≤ b ∧ b ≤ 65535; exact hb
    · show (0 : Int) ≤ c ∧ c ≤ 65535; omega
  · have : c = 0 := h.2.2.2
    omega
set_option maxRecDepth 100000 in
set_option maxHeartbeats 16000000 in
theorem twice_yes (p q m6 m7 m9 : Px) (li a b c le : Int) (w : World) (hp : pxOk p = true) (ha : 1 ≤ p.a) (hli : 0 ≤ li ∧ li ≤ 65535) (haa : 0 ≤ a ∧ a ≤ 65535) (h0b : 0 ≤ b ∧ b ≤ 65535) (hcc : 0 ≤ c ∧ c ≤ 65535) (hle : 0 ≤ le ∧ le ≤ 255)
    (T0 : ∀ w', Below w.heap.size w w' → Calls Tryd.prog 14 #[] w' fun e w'' => e = .returned (.bool true) ∧ Below w'.heap.size w' w'')
    (T1 : ∀ w', Below w.heap.size w w' → Calls Tryd.prog 12 #[.int .i64 1, .slice none 0 0, .slice none 0 0, .agg #[.int .i64 p.r, .int .i64 p.g, .int .i64 p.b, .int .i64 p.a]] w' (PePost q 0 w'))
    (T2 : ∀ w', Below w.heap.size w w' → Calls Tryd.prog 12 #[.int .i64 1, .slice none 0 0, .slice none 0 0, .agg #[.int .i64 q.r, .int .i64 q.g, .int .i64 q.b, .int .i64 q.a]] w' (PePost p 0 w'))
    (T6 : ∀ A cc w', Below w.heap.size w w' → Ints w' w'.heap.size (.slice A 1 cc) [li] → Calls Tryd.prog 12 #[.int .i64 6, .slice A 1 cc, .slice none 0 0, .agg #[.int .i64 p.r, .int .i64 p.g, .int .i64 p.b, .int .i64 p.a]] w' (PePost m6 0 w') ∧ Calls Tryd.prog 12 #[.int .i64 6, .slice A 1 cc, .slice none 0 0, .agg #[.int .i64 m6.r, .int .i64 m6.g, .int .i64 m6.b, .int .i64 m6.a]] w' (PePost m6 0 w'))
    (T7 : ∀ A cc w', Below w.heap.size w w' → Ints w' w'.heap.size (.slice A 1 cc) [2 + le % 255] → Calls Tryd.prog 12 #[.int .i64 7, .slice A 1 cc, .slice none 0 0, .agg #[.int .i64 p.r, .int .i64 p.g, .int .i64 p.b, .int .i64 p.a]] w' (PePost m7 0 w') ∧ Calls Tryd.prog 12 #[.int .i64 7, .slice A 1 cc, .slice none 0 0, .agg #[.int .i64 m7.r, .int .i64 m7.g, .int .i64 m7.b, .int .i64 m7.a]] w' (PePost m7 0 w'))
    (T9 : ∀ A cc w', Below w.heap.size w w' → Ints w' w'.heap.size (.slice A 3 cc) [a, b, 1 + c % 65535] → Calls Tryd.prog 12 #[.int .i64 9, .slice A 3 cc, .slice none 0 0, .agg #[.int .i64 p.r, .int .i64 p.g, .int .i64 p.b, .int .i64 p.a]] w' (PePost m9 0 w') ∧ Calls Tryd.prog 12 #[.int .i64 9, .slice A 3 cc, .slice none 0 0, .agg #[.int .i64 m9.r, .int .i64 m9.g, .int .i64 m9.b, .int .i64 m9.a]] w' (PePost m9 0 w')) :
    Calls Tryd.prog 5 #[.agg #[.int .i64 p.r, .int .i64 p.g, .int .i64 p.b, .int .i64 p.a], .int .u16 li, .int .u16 a, .int .u16 b, .int .u16 c, .int .u8 le] w fun e w' => e = .returned (.bool true) ∧ Below w.heap.size w w' := by
  have HT0 := Lib.hid T0; have HT1 := Lib.hid T1; have HT2 := Lib.hid T2; have HT6 := Lib.hid T6; have HT7 := Lib.hid T7; have HT9 := Lib.hid T9; clear T0 T1 T2 T6 T7 T9
  have HP := Lib.hid (show pxOk ⟨p.r, p.g, p.b, p.a⟩ = true from hp)
  have d1 : decide (p.a < 1) = false := by simp; omega
  have r1 : le.tmod 255 = le % 255 := Int.tmod_eq_emod_of_nonneg (by omega)
  have r2 : c.tmod 65535 = c % 65535 := Int.tmod_eq_emod_of_nonneg (by omega)
  clear hp ha
  go_enter Tryd.func5, Tryd.ntmps5
  go_upto_region 1 with fail
  obtain ⟨hb7, hB, -⟩ := one_box w #[.int .i64 p.r, .int .i64 p.g, .int .i64 p.b, .int .i64 p.a] 25 _ rfl
  generalize World.alloc w _ = w0 at *
  go_wp2_with fail
  refine (HT0.out _ hB).mono ?_
  rintro e w1 ⟨rfl, hbb⟩
  replace hb7 := hb7.below hbb; replace hB := bel_trans hB hbb
  clear hbb
  obtain ⟨⟨i1, i2, i3, i4⟩, -⟩ := hb7.four
  go_wp2_with fail
  refine (pvalid_any _ _ _ _ _).mono ?_
  rintro e w2 ⟨rfl, hbb⟩
  rw [HP.out]
  replace hb7 := hb7.below hbb; replace hB := bel_trans hB hbb
  clear hbb i1 i2 i3 i4
  obtain ⟨⟨i1, i2, i3, i4⟩, -⟩ := hb7.four
  go_wp2_with fail
  refine (HT1.out _ hB).mono ?_
  rintro e w3 ⟨rfl, hbb⟩
  replace hb7 := hb7.below hbb; replace hB := bel_trans hB hbb
  clear hbb i1 i2 i3 i4 d1
  go_upto_region 4 with fail
  obtain ⟨hb13, hbb, -⟩ := one_box w3 #[.int .i64 q.r, .int .i64 q.g, .int .i64 q.b, .int .i64 q.a] 25 _ rfl
  have hne : w.heap.size ≠ w3.heap.size := by have := hb7.lt; omega
  have hge : w.heap.size ≤ w3.heap.size := hB.size
  generalize World.alloc w3 _ = w4 at *
  replace hb7 := hb7.below hbb; replace hB := bel_trans hB hbb
  clear hbb
  obtain ⟨⟨j1, j2, j3, j4⟩, -⟩ := hb13.four
  go_wp2_with fail
  refine (HT2.out _ hB).mono ?_
  rintro e w5 ⟨rfl, hbb⟩
  replace hb7 := hb7.below hbb; replace hb13 := hb13.below hbb; replace hB := bel_trans hB hbb
  clear hbb j1 j2 j3 j4
  obtain ⟨⟨j1, j2, j3, j4⟩, f1, f2, f3, f4⟩ := hb13.four
  go_upto_region 5 with fail
  clear j1 j2 j3 j4 f1 f2 f3 f4
  have hx7 := hb7.other4 hne 0 1 2 3 (.int .i64 p.r) (.int .i64 p.g) (.int .i64 p.b) (.int .i64 p.a)
  have hx13 := hb13.put4 (.int .i64 p.r) (.int .i64 p.g) (.int .i64 p.b) (.int .i64 p.a)
  have hxB := set4_below hB hge 0 1 2 3 (.int .i64 p.r) (.int .i64 p.g) (.int .i64 p.b) (.int .i64 p.a)
  generalize World.setCell _ _ _ = w6 at *
  clear hb7 hb13 hB hne hge
  obtain ⟨⟨i1, i2, i3, i4⟩, -⟩ := hx7.four
  obtain ⟨⟨j1, j2, j3, j4⟩, -⟩ := hx13.four
  go_upto_region 8 with fail
  obtain ⟨hbK, hbb, -⟩ := one_box w6 #[.int .i64 6, .int .i64 7, .int .i64 9] 3 _ rfl
  clear i1 i2 i3 i4 j1 j2 j3 j4 hx13
  have hx7 := hx7.below hbb; have hxB := bel_trans hxB hbb
  generalize World.alloc w6 _ = w7 at *
  clear hbb
  go_upto_region 9 with fail
  obtain ⟨hbb, I6, I7, I9, hL⟩ := tw_rows w7 li (2 + le % 255) a b (1 + c % 65535) _ rfl
  have hxK := hbK.below hbb
  replace hx7 := hx7.below hbb; replace hxB := bel_trans hxB hbb
  clear hbb hbK hli haa h0b hcc hle r1 r2
  generalize World.alloc (World.alloc (World.alloc (World.alloc w7 _) _) _) _ = wb at *
  have HOK := Lib.hid (show ∀ j, j < 3 → TwOk wb p w6.heap.size (w7.heap.size + 1 + 1 + 1) j from fun j hj => by
    rcases (show j = 0 ∨ j = 1 ∨ j = 2 by omega) with rfl | rfl | rfl
    · exact ⟨6, _, _, _, m6, hxK.cell (j := 0) rfl, hL.cell (j := 0) rfl, fun w' hb => (HT6.out _ _ w' (bel_trans hxB hb) (I6.on hb)).1, fun w' hb => (HT6.out _ _ w' (bel_trans hxB hb) (I6.on hb)).2⟩
    · exact ⟨7, _, _, _, m7, hxK.cell (j := 1) rfl, hL.cell (j := 1) rfl, fun w' hb => (HT7.out _ _ w' (bel_trans hxB hb) (I7.on hb)).1, fun w' hb => (HT7.out _ _ w' (bel_trans hxB hb) (I7.on hb)).2⟩
    · exact ⟨9, _, _, _, m9, hxK.cell (j := 2) rfl, hL.cell (j := 2) rfl, fun w' hb => (HT9.out _ _ w' (bel_trans hxB hb) (I9.on hb)).1, fun w' hb => (HT9.out _ _ w' (bel_trans hxB hb) (I9.on hb)).2⟩)
  have HB7 := Lib.hid hx7; have HB := Lib.hid hxB
  clear hx7 hxB hxK hL I6 I7 I9 HT0 HT1 HT2 HT6 HT7 HT9
  generalize w7.heap.size + 1 + 1 + 1 = bL at *
  generalize w6.heap.size = bK at *
  go_upto_region 10 with fail
  go_loopg [79] 3 (TwRel wb)
  case atStart => exact ⟨0, by omega, rfl, rfl, Below.refl _ _⟩
  case round =>
    obtain ⟨j, hj, rfl, rfl, hBX⟩ := hrel
    have HR := Lib.hid hBX
    by_cases hlt : j < 3
    · obtain ⟨K, A3, k3, c3, m, cK, cL, TP, TM⟩ := HOK.out j hlt
      have HTP := Lib.hid TP; have HTM := Lib.hid TM
      replace cK := (hBX.cell (p := ⟨bK, j, none⟩) (World.block_lt_of_cell? wb _ cK)).trans cK
      have hzb := World.block_lt_of_cell? wb _ cL
      have HCL := Lib.hid cL
      replace cL := (hBX.cell (p := ⟨bL, j, none⟩) hzb).trans cL
      have hk0 : (0 : Int) ≤ (j : Int) := by omega
      have hk1 : (j : Int) < 3 := by omega
      have hsrc := HB7.out.below hBX
      have hbs : w.heap.size < wb.heap.size := HB7.out.lt
      clear TP TM
      go_upto_region 12 with fail
      go_cut [20, 21] (TwMid p m w.heap.size wb)
      case first =>
        have hz0 := hsrc.lt
        have hzL := World.block_lt_of_cell? wr _ cL
        have hs2 := hsrc.drew
        have hbd := hBX.drew
        have hz := hs2.lt
        obtain ⟨⟨i1, i2, i3, i4⟩, -⟩ := hs2.four
        have aB := bel1 (World.drew wr) (.cells #[.int .i64 0, .int .i64 0, .int .i64 0, .int .i64 0] 25)
        obtain ⟨⟨n1, n2, n3, n4⟩, -⟩ := (hs2.below aB).four
        have l1 : (World.drew wr).cell? ⟨bL, j, none⟩ = some (.slice A3 k3 c3) := cL
        have l2 : ((wr.alloc (.cells #[.int .i64 0, .int .i64 0, .int .i64 0, .int .i64 0] 25)).drew).cell? ⟨bL, j, none⟩ = some (.slice A3 k3 c3) := (aB.cell (p := ⟨bL, j, none⟩) hzL).trans cL
        replace n1 : ((wr.alloc (.cells #[.int .i64 0, .int .i64 0, .int .i64 0, .int .i64 0] 25)).drew).cell? ⟨w.heap.size, 0, none⟩ = some (.int .i64 p.r) := n1
        replace n2 : ((wr.alloc (.cells #[.int .i64 0, .int .i64 0, .int .i64 0, .int .i64 0] 25)).drew).cell? ⟨w.heap.size, 1, none⟩ = some (.int .i64 p.g) := n2
        replace n3 : ((wr.alloc (.cells #[.int .i64 0, .int .i64 0, .int .i64 0, .int .i64 0] 25)).drew).cell? ⟨w.heap.size, 2, none⟩ = some (.int .i64 p.b) := n3
        replace n4 : ((wr.alloc (.cells #[.int .i64 0, .int .i64 0, .int .i64 0, .int .i64 0] 25)).drew).cell? ⟨w.heap.size, 3, none⟩ = some (.int .i64 p.a) := n4
        clear aB
        go_region_with (go_at_call 12; refine (HTP.out _ (by first | exact hbd | exact bel_alloc hbd _)).mono ?_; rintro e w4 ⟨rfl, hbw4⟩; (first | (have hnw := Bx.below (Bx.drew (Bx.new _ _ _)) hbw4) | (have hnw := Bx.below (Bx.new _ _ _) hbw4) | skip); (first | (have hbd := bel_trans hbd hbw4; have hs2 := hs2.below hbw4) | (have hbd := bel_trans (bel_alloc hbd _) hbw4; have hs2 := (hs2.alloc _).below hbw4)); have hz := hs2.lt; (try obtain ⟨⟨q1, q2, q3, q4⟩, qf1, qf2, qf3, qf4⟩ := hnw.four))
        all_goals (try go_wp2_with fail)
        all_goals go_meet
        all_goals first
          | ((with_reducible refine twMid_last ?_ ?_); exact hs2; exact hbd)
          | ((with_reducible refine twMid_of (a := .int .i64 0) (b := .int .i64 0) (c := .int .i64 0) (d := .int .i64 0) ?_ ?_ ?_ ?_ ?_); exact hnw; exact hs2; (first | exact hz0 | omega); exact hbd; (have := hBX.size; omega))
      case rest =>
        obtain ⟨g, rfl, rfl, hsrc, -, hBX⟩ := hcut
        have cL := (hBX.cell (p := ⟨bL, j, none⟩) hzb).trans HCL.out
        go_upto_region 13 with fail
        go_cut [22, 23] (TwMid m m g wb)
        case first =>
          have hz0 := hsrc.lt
          have hzL := World.block_lt_of_cell? wc _ cL
          have hs2 := hsrc.drew
          have hbd := hBX.drew
          have hz := hs2.lt
          obtain ⟨⟨i1, i2, i3, i4⟩, -⟩ := hs2.four
          have aB := bel1 (World.drew wc) (.cells #[.int .i64 0, .int .i64 0, .int .i64 0, .int .i64 0] 25)
          obtain ⟨⟨n1, n2, n3, n4⟩, -⟩ := (hs2.below aB).four
          have l1 : (World.drew wc).cell? ⟨bL, j, none⟩ = some (.slice A3 k3 c3) := cL
          have l2 : ((wc.alloc (.cells #[.int .i64 0, .int .i64 0, .int .i64 0, .int .i64 0] 25)).drew).cell? ⟨bL, j, none⟩ = some (.slice A3 k3 c3) := (aB.cell (p := ⟨bL, j, none⟩) hzL).trans cL
          replace n1 : ((wc.alloc (.cells #[.int .i64 0, .int .i64 0, .int .i64 0, .int .i64 0] 25)).drew).cell? ⟨g, 0, none⟩ = some (.int .i64 m.r) := n1
          replace n2 : ((wc.alloc (.cells #[.int .i64 0, .int .i64 0, .int .i64 0, .int .i64 0] 25)).drew).cell? ⟨g, 1, none⟩ = some (.int .i64 m.g) := n2
          replace n3 : ((wc.alloc (.cells #[.int .i64 0, .int .i64 0, .int .i64 0, .int .i64 0] 25)).drew).cell? ⟨g, 2, none⟩ = some (.int .i64 m.b) := n3
          replace n4 : ((wc.alloc (.cells #[.int .i64 0, .int .i64 0, .int .i64 0, .int .i64 0] 25)).drew).cell? ⟨g, 3, none⟩ = some (.int .i64 m.a) := n4
          clear aB
          go_region_with (go_at_call 12; refine (HTM.out _ (by first | exact hbd | exact bel_alloc hbd _)).mono ?_; rintro e w4 ⟨rfl, hbw4⟩; (first | (have hnw := Bx.below (Bx.drew (Bx.new _ _ _)) hbw4) | (have hnw := Bx.below (Bx.new _ _ _) hbw4) | skip); (first | (have hbd := bel_trans hbd hbw4; have hs2 := hs2.below hbw4) | (have hbd := bel_trans (bel_alloc hbd _) hbw4; have hs2 := (hs2.alloc _).below hbw4)); have hz := hs2.lt; (try obtain ⟨⟨q1, q2, q3, q4⟩, qf1, qf2, qf3, qf4⟩ := hnw.four))
          all_goals (try go_wp2_with fail)
          all_goals go_meet
          all_goals first
            | ((with_reducible refine twMid_last ?_ ?_); exact hs2; exact hbd)
            | ((with_reducible refine twMid_of (a := .int .i64 0) (b := .int .i64 0) (c := .int .i64 0) (d := .int .i64 0) ?_ ?_ ?_ ?_ ?_); exact hnw; exact hs2; (first | exact hz0 | omega); exact hbd; (have := hBX.size; omega))
        case rest =>
          obtain ⟨g', rfl, rfl, hm2, hm1, hB9⟩ := hcut
          obtain ⟨⟨i1, i2, i3, i4⟩, -⟩ := hm1.four
          obtain ⟨⟨j1, j2, j3, j4⟩, -⟩ := hm2.four
          have HB9 := Lib.hid hB9
          clear hm1 hm2 hB9
          go_wp2_with fail
          go_roundg (3 - (j + 1))
          case measure => omega
          case rel => exact ⟨j + 1, by omega, rfl, by go_num, HB9.out⟩
    · obtain rfl : j = 3 := by omega
      go_wp2_with fail
      go_ret
      exact ⟨rfl, bel_trans HB.out HR.out⟩
theorem u16_of {x : Int} (h : (Lit.int .u16 x).wf = true) : 0 ≤ x ∧ x ≤ 65535 := by
  simp [Lit.wf, IntKind.min, IntKind.max, IntKind.signed, IntKind.bits] at h
  exact ⟨by omega, by omega⟩
theorem u8_of {x : Int} (h : (Lit.int .u8 x).wf = true) : 0 ≤ x ∧ x ≤ 255 := by
  simp [Lit.wf, IntKind.min, IntKind.max, IntKind.signed, IntKind.bits] at h
  exact ⟨by omega, by omega⟩
theorem walk_twice (v0 : Value) (p : Px) (li a b c le : Int) (w : World) (hT : Tab w) (h0 : PxV v0 p) (h1 : 0 ≤ li ∧ li ≤ 65535) (h2 : 0 ≤ a ∧ a ≤ 65535) (h3 : 0 ≤ b ∧ b ≤ 65535) (h4 : 0 ≤ c ∧ c ≤ 65535) (h5 : 0 ≤ le ∧ le ≤ 255) :
    Calls Tryd.prog 5 #[v0, .int .u16 li, .int .u16 a, .int .u16 b, .int .u16 c, .int .u8 le] w fun e w' => e = .returned (.bool true) ∧ Below w.heap.size w w' := by
  obtain ⟨rfl, _⟩ := h0
  by_cases h : pxOk p = true ∧ 1 ≤ p.a
  rotate_left
  · exact twice_no p li a b c le w h (fun w' hb => awake_any w' (hT.below hb))
  have hok := (pxOk_iff p).1 h.1
  have ha : p.a ≠ 0 := by omega
  have key : ∀ (k : Int) (l : List Int), achk k l [] = 0 → ∀ (A : Option Addr) (cc : Nat) (w' : World), Below w.heap.size w w' → Ints w' w'.heap.size (.slice A l.length cc) l → ∀ x : Px, x.ok → Calls Tryd.prog 12 #[.int .i64 k, .slice A l.length cc, .slice none 0 0, .agg #[.int .i64 x.r, .int .i64 x.g, .int .i64 x.b, .int .i64 x.a]] w' (PePost (appF k l [] x) 0 w') := by
    intro k l hk A cc w' hb hi x hx
    have := apixel_any k l [] A cc none 0 x w' (hT.below hb) hi (Stps.nil _ _)
    have e1 : perr k l [] x = 0 := by unfold perr; rw [if_pos hk, (pxOk_iff x).2 hx]; rfl
    have e2 : pixF k l [] x = appF k l [] x := by unfold pixF; rw [if_pos e1]
    rw [e1, e2] at this
    exact this
  have c1 : achk 1 [] [] = 0 := by decide +kernel
  have c6 : achk 6 [li] [] = 0 := tw6 h1
  have c7 : achk 7 [2 + le % 255] [] = 0 := tw7 (by omega)
  have c9 : achk 9 [a, b, 1 + c % 65535] [] = 0 := tw9 h2 h3 (by omega)
  have o1 := (appF_ok ((achk_iff _ _ _).1 c1) hok).1
  have o6 := (appF_ok ((achk_iff _ _ _).1 c6) hok).1
  have o7 := (appF_ok ((achk_iff _ _ _).1 c7) hok).1
  have o9 := (appF_ok ((achk_iff _ _ _).1 c9) hok).1
  refine twice_yes p (appF 1 [] [] p) (appF 6 [li] [] p) (appF 7 [2 + le % 255] [] p) (appF 9 [a, b, 1 + c % 65535] [] p) li a b c le w h.1 h.2 h1 h2 h3 h4 h5 (fun w' hb => awake_any w' (hT.below hb))
    (fun w' hb => key 1 [] c1 none 0 w' hb (Ints.nil _ _) p hok) (fun w' hb => ?_) (fun A cc w' hb hi => ⟨key 6 [li] c6 A cc w' hb hi p hok, ?_⟩) (fun A cc w' hb hi => ⟨key 7 [2 + le % 255] c7 A cc w' hb hi p hok, ?_⟩) (fun A cc w' hb hi => ⟨key 9 [a, b, 1 + c % 65535] c9 A cc w' hb hi p hok, ?_⟩)
  · have := key 1 [] c1 none 0 w' hb (Ints.nil _ _) _ o1
    rw [inv_twice ha] at this
    exact this
  · have := key 6 [li] c6 A cc w' hb hi _ o6
    rw [thr_twice (l := [li]) hok ha h1] at this
    exact this
  · have := key 7 [2 + le % 255] c7 A cc w' hb hi _ o7
    rw [pos_twice (l := [2 + le % 255]) hok ha (by show 2 ≤ 2 + le % 255 ∧ 2 + le % 255 ≤ 256; omega)] at this
    exact this
  · have := key 9 [a, b, 1 + c % 65535] c9 A cc w' hb hi _ o9
    rw [gray_twice (l := [a, b, 1 + c % 65535]) ha (by show 0 < a + b + (1 + c % 65535); omega)] at this
    exact this
end Go.Proofs.YtmbglkholoblaaaDoor
