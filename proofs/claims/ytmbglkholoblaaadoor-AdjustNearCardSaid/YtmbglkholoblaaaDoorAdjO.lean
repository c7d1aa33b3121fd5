/- adjust.colors for every kind; applied. -/
import Derived.Test.YtmbglkholoblaaaDoorAdjN
namespace Go.Proofs.YtmbglkholoblaaaDoor
open Go.RowKit
attribute [local go_sem] run_store_fn

/-- Behind the statement that lays the sum. -/
def SumMid (s : Int) (w0 : World) (v7 : Value) (wx : World) : Prop := ∃ g, v7 = .pointer (some ⟨g, 0, none⟩) ∧ Bx wx g 3 #[.int .i64 s] ∧ Below w0.heap.size w0 wx
theorem sumMid_of (s : Int) (w0 : World) : SumMid s w0 (.pointer (some ⟨w0.heap.size, 0, none⟩)) (w0.alloc (.cells #[.int .i64 s] 3)).drew := ⟨_, rfl, (Bx.new w0 _ _).drew, (bel1 w0 _).drew⟩
set_option maxRecDepth 100000 in
set_option maxHeartbeats 2000000 in
theorem colors_9 (l : List Int) (ss : List (Int × Px)) (w : World) (A' : Option Addr) (n' c' : Nat) (a : AdjOk 9 l ss) (v : Value) (h : Ints w w.heap.size v l) : Calls Tryd.prog 28 #[.int .i64 9, v, .slice A' n' c'] w (ClPost (colF 9 l ss) w) := by
  have hl := a.len.2.2.2.2.1 rfl
  obtain ⟨b, o, c, rfl, hb, hc⟩ := ints_at h (by omega)
  have c0 := hc 0 (by omega); have c1 := hc 1 (by omega); have c2 := hc 2 (by omega)
  rw [Nat.add_zero] at c0
  obtain ⟨h0, h1, h2, h3⟩ := a.p9
  have E := Lib.hid (show ∀ p, colF 9 l ss p = (rdiv (dot3 (prm l 0) (prm l 1) (prm l 2) p) (prm l 0 + prm l 1 + prm l 2), rdiv (dot3 (prm l 0) (prm l 1) (prm l 2) p) (prm l 0 + prm l 1 + prm l 2), rdiv (dot3 (prm l 0) (prm l 1) (prm l 2) p) (prm l 0 + prm l 1 + prm l 2)) from fun p => by simp [colF])
  clear hc h a
  rw [hl]
  generalize colF 9 l ss = cf at *
  generalize prm l 0 = x0 at *; generalize prm l 1 = x1 at *; generalize prm l 2 = x2 at *
  have q1 : IntKind.i64.wrap (x0 + x1) = x0 + x1 := wrap_in _ (by omega)
  have q2 : IntKind.i64.wrap (x0 + x1 + x2) = x0 + x1 + x2 := wrap_in _ (by omega)
  go_enter Tryd.func28, Tryd.ntmps28
  go_upto_region 1 with fail
  obtain ⟨hb1, hb2, hB⟩ := two_boxes w #[.slice (some ⟨b, o, none⟩) 3 c] #[.slice A' n' c'] 22 23 _ rfl
  have j1 := hb1.cell (j := 0) rfl
  have d0 := (hB.cell (p := ⟨b, o, none⟩) hb).trans c0
  have d1 := (hB.cell (p := ⟨b, o + 1, none⟩) hb).trans c1
  have d2 := (hB.cell (p := ⟨b, o + 2, none⟩) hb).trans c2
  have hbl := Nat.lt_of_lt_of_le hb hB.size
  have hz := hb1.lt
  clear c0 c1 c2
  generalize World.alloc (World.alloc w _) _ = w0 at *
  go_upto_region 9 with fail
  go_cut [7] (SumMid (x0 + x1 + x2) w0)
  case first =>
    go_region
    all_goals (try go_wp2_with fail)
    all_goals go_meet
    all_goals exact sumMid_of _ _
  case rest =>
    obtain ⟨g7, rfl, hb7, hbb⟩ := hcut
    go_wp2_with fail
    go_ret
    refine ⟨_, _, rfl, ent_k4, fun w' hb' p hp => ?_, bel_trans hB hbb⟩
    rw [E.out]
    have hc : ∀ {i : Nat} {x : Value}, w0.cell? ⟨b, i, none⟩ = some x → w'.cell? ⟨b, i, none⟩ = some x := fun {i x} hx => (hb'.cell (p := ⟨b, i, none⟩) (Nat.lt_of_lt_of_le hbl hbb.size)).trans ((hbb.cell (p := ⟨b, i, none⟩) hbl).trans hx)
    exact k4_any b o c _ g7 x0 x1 x2 (x0 + x1 + x2) p w' hp h0 h1 h2 (by omega) (box_at (hb1.below hbb) hb') (box_at hb7 hb') (Nat.lt_of_lt_of_le hbl (Nat.le_trans hbb.size hb'.size)) (hc d0) (hc d1) (hc d2)
/-- colors, for an adjustment without error. -/
theorem colors_any (k : Int) (l : List Int) (ss : List (Int × Px)) (w : World) (a : AdjOk k l ss) (hT : Tab w) (A : Option Addr) (n c : Nat) (A' : Option Addr) (n' c' : Nat) (h : Ints w w.heap.size (.slice A n c) l) (hs : Stps w w.heap.size (.slice A' n' c') ss) :
    Calls Tryd.prog 28 #[.int .i64 k, .slice A n c, .slice A' n' c'] w (ClPost (colF k l ss) w) := by
  have h1 := a.lo; have h2 := a.hi
  have key : ∀ k', (k' = 1 ∨ k' = 2 ∨ k' = 3 ∨ k' = 4 ∨ k' = 7 ∨ k' = 11) → colF k' l ss = fun p => (sing k' l p.r, sing k' l p.g, sing k' l p.b) := by
    intro k' hk'
    funext p
    unfold colF
    rw [if_neg (by omega), if_neg (by omega), if_neg (by omega), if_neg (by omega), if_neg (by omega)]
  rcases (show k = 5 ∨ k = 6 ∨ k = 8 ∨ k = 9 ∨ k = 10 ∨ (k = 1 ∨ k = 2 ∨ k = 3 ∨ k = 4 ∨ k = 7 ∨ k = 11) by omega) with rfl | rfl | rfl | rfl | rfl | hk
  · exact colors_5 l ss w A' n' c' a _ h
  · exact colors_6 l ss w A' n' c' a _ h
  · exact colors_8 l ss w A' n' c' a _ h
  · exact colors_9 l ss w A' n' c' a _ h
  · exact colors_10 l ss w A' n' c' a A n c hs
  · rw [key k hk]
    refine colors_c w A' n' c' k hk A n c (sing k l) (fun w' hw' => ?_)
    have hi := (h.below hw').more hw'.size
    rcases hk with rfl | rfl | rfl | rfl | rfl | rfl
    · exact channel_1 l A n c w'
    · exact channel_2 l ss a _ w' hi
    · exact channel_3 l ss a _ w' hi
    · exact channel_4 l ss a _ w' hi
    · exact channel_7 l ss a _ w' hi
    · exact channel_11 l ss a _ w' (hT.below hw') hi
set_option maxRecDepth 100000 in
set_option maxHeartbeats 2000000 in
theorem applied_yes (F : Nat) (caps : Array Value) (f : Px → Int × Int × Int) (p : Px) (hp : p.ok) (ha : p.a ≠ 0) (w : World) (hent : Ent F) (hf : FnP F caps f w) :
    Calls Tryd.prog 27 #[.func (.func F) #[] caps, .agg #[.int .i64 p.r, .int .i64 p.g, .int .i64 p.b, .int .i64 p.a]] w (PxPost ⟨(f p).1, (f p).2.1, (f p).2.2, p.a⟩ w) := by
  have hent : ∀ (args : Array Value) (w : World), (callFunc F args).run Tryd.prog w = .ok (.enter F args) w := hent
  have HF := Lib.hid (fun w' hw' => hf w' hw' p hp); clear hf
  have ha0 : (p.a == 0) = false := by simp [ha]
  generalize f p = t at *
  obtain ⟨t1, t2, t3⟩ := t
  dsimp only
  clear ha hp
  go_enter Tryd.func27, Tryd.ntmps27
  go_upto_region 1 with fail
  obtain ⟨hb3, hb4, hB⟩ := two_boxes w #[.int .i64 p.r, .int .i64 p.g, .int .i64 p.b, .int .i64 p.a] #[.int .i64 0, .int .i64 0, .int .i64 0, .int .i64 0] 25 25 _ rfl
  generalize World.alloc (World.alloc w _) _ = w0 at *
  obtain ⟨⟨i1, i2, i3, i4⟩, -⟩ := hb3.four
  go_wp2_with fail
  refine (HF.out _ hB).mono ?_
  rintro e w1 ⟨al, rfl, hbb⟩
  replace hb3 := hb3.below hbb; replace hb4 := hb4.below hbb; replace hB := bel_trans hB hbb
  have hs1 := hb4.lt
  clear hbb i1 i2 i3 i4
  go_upto_region 4 with fail
  obtain ⟨hb5, hbb, -⟩ := one_box w1 #[.int .i64 t1, .int .i64 t2, .int .i64 t3, .int .i64 al] 25 _ rfl
  generalize World.alloc w1 _ = w2 at *
  replace hb3 := hb3.below hbb; replace hb4 := hb4.below hbb; replace hB := bel_trans hB hbb
  clear hbb
  obtain ⟨⟨i1, i2, i3, i4⟩, -⟩ := hb3.four
  obtain ⟨⟨j1, j2, j3, j4⟩, jf1, jf2, jf3, jf4⟩ := hb5.four
  go_upto_region 5 with fail
  have hb6 := hb5.set 3 (.int .i64 p.a)
  have hb7 := hb4.other (g' := w1.heap.size) (by omega) 3 (.int .i64 p.a)
  have hB7 := hB.setCell (p := ⟨w1.heap.size, 3, none⟩) (show w.heap.size ≤ w1.heap.size by omega) (.int .i64 p.a)
  clear i1 i2 i3 i4 j1 j2 j3 j4 jf1 jf2 jf3 jf4 hb3 hb4 hb5 hB
  generalize World.setCell _ _ _ = w3 at *
  replace hb6 : Bx w3 w1.heap.size 25 #[.int .i64 t1, .int .i64 t2, .int .i64 t3, .int .i64 p.a] := hb6
  obtain ⟨⟨j1, j2, j3, j4⟩, -⟩ := hb6.four
  obtain ⟨⟨r1, r2, r3, r4⟩, f1, f2, f3, f4⟩ := hb7.four
  go_wp2_with fail
  refine bodyPost_ret (v := .agg #[.int .i64 t1, .int .i64 t2, .int .i64 t3, .int .i64 p.a]) (by simp [results, Tryd.results27, go_sem, r1, r2, r3, r4]) rfl ⟨rfl, ?_⟩
  exact set4_below hB7 (by omega) _ _ _ _ _ _ _ _
set_option maxHeartbeats 1000000 in
theorem applied_no (F : Nat) (caps : Array Value) (p : Px) (ha : p.a = 0) (w : World) :
    Calls Tryd.prog 27 #[.func (.func F) #[] caps, .agg #[.int .i64 p.r, .int .i64 p.g, .int .i64 p.b, .int .i64 p.a]] w (PxPost Px.zero w) := by
  have ha0 : (p.a == 0) = true := by simp [ha]
  clear ha
  go_enter Tryd.func27, Tryd.ntmps27
  go_upto_region 1 with fail
  obtain ⟨hb3, hb4, hB⟩ := two_boxes w #[.int .i64 p.r, .int .i64 p.g, .int .i64 p.b, .int .i64 p.a] #[.int .i64 0, .int .i64 0, .int .i64 0, .int .i64 0] 25 25 _ rfl
  generalize World.alloc (World.alloc w _) _ = w0 at *
  obtain ⟨⟨i1, i2, i3, i4⟩, -⟩ := hb3.four
  obtain ⟨⟨r1, r2, r3, r4⟩, f1, f2, f3, f4⟩ := hb4.four
  go_wp2_with fail
  refine bodyPost_ret (v := .agg #[.int .i64 0, .int .i64 0, .int .i64 0, .int .i64 0]) (by simp [results, Tryd.results27, go_sem, r1, r2, r3, r4]) rfl ⟨rfl, ?_⟩
  exact set4_below hB (by omega) _ _ _ _ _ _ _ _
end Go.Proofs.YtmbglkholoblaaaDoor
