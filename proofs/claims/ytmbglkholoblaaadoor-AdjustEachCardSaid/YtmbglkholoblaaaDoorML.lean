/- adjust.colors: a function value that computes a color. -/
import Derived.Test.YtmbglkholoblaaaDoorMK
namespace Go.Proofs.YtmbglkholoblaaaDoor
open Go.RowKit

section
variable (P : Program) (w : World) (a : Addr) (m : Mode)
theorem run_store_fn (f : Fn) (x y : Array Value) : (store a (.func f x y) m).run P w = stored P w a (.func f x y) m := run_store P w a _ m rfl
end
attribute [local go_sem] run_store_fn
def ClPost (f : Px → Int × Int × Int) (w : World) (e : Ending) (w' : World) : Prop := ∃ F caps, e = .returned (.func (.func F) #[] caps) ∧ Ent F ∧ FnP F caps f w' ∧ Below w.heap.size w w'
theorem ent_k1 : Ent 48 := fun _ _ => by simp [go_sem]
theorem ent_k2 : Ent 50 := fun _ _ => by simp [go_sem]
theorem ent_k3 : Ent 53 := fun _ _ => by simp [go_sem]
theorem ent_k4 : Ent 55 := fun _ _ => by simp [go_sem]
theorem ent_k5 : Ent 56 := fun _ _ => by simp [go_sem]
theorem ent_k6 : Ent 59 := fun _ _ => by simp [go_sem]
section
variable (l : List Int) (ss : List (Int × Px)) (w : World) (A' : Option Addr) (n' c' : Nat)
set_option maxHeartbeats 1000000 in
theorem colors_5 (a : AdjOk 5 l ss) (v : Value) (h : Ints w w.heap.size v l) : Calls Tryd.prog 28 #[.int .i64 5, v, .slice A' n' c'] w (ClPost (colF 5 l ss) w) := by
  have hl := a.len.2.2.2.1 rfl
  obtain ⟨b, o, c, rfl, hb, hc⟩ := ints_at h (by omega)
  have HC := Lib.hid hc; clear hc h
  have HA := Lib.hid a; clear a
  rw [hl]
  go_enter Tryd.func28, Tryd.ntmps28
  go_upto_region 1 with fail
  obtain ⟨hb1, hb2, hB⟩ := two_boxes w #[.slice (some ⟨b, o, none⟩) 3 c] #[.slice A' n' c'] 22 23 _ rfl
  generalize World.alloc (World.alloc w _) _ = w0 at *
  go_wp2_with fail
  go_ret
  refine ⟨_, _, rfl, ent_k1, fun w' hb' p hp => ?_, hB⟩
  have hc : ∀ i w2, i < 3 → Below w'.heap.size w' w2 → w2.cell? ⟨b, o + i, none⟩ = some (.int .i64 (prm l i)) := fun i w2 hi hw2 =>
    ((hw2.cell (p := ⟨b, o + i, none⟩) (Nat.lt_of_lt_of_le hb (Nat.le_trans hB.size hb'.size))).trans (hb'.cell (p := ⟨b, o + i, none⟩) (Nat.lt_of_lt_of_le hb hB.size))).trans ((hB.cell (p := ⟨b, o + i, none⟩) hb).trans (HC.out i (by omega)))
  exact k1_core b o c _ p (hueF l p) w' (box_at hb1 hb') (fun w2 hw2 => turned_any b o c l ss HA.out p w2 (Nat.lt_of_lt_of_le hb (Nat.le_trans hB.size (Nat.le_trans hb'.size hw2.size))) (hc 0 w2 (by omega) hw2) (hc 1 w2 (by omega) hw2) (hc 2 w2 (by omega) hw2))
set_option maxHeartbeats 1000000 in
theorem colors_6 (a : AdjOk 6 l ss) (v : Value) (h : Ints w w.heap.size v l) : Calls Tryd.prog 28 #[.int .i64 6, v, .slice A' n' c'] w (ClPost (colF 6 l ss) w) := by
  have hl := a.len.2.2.2.2.2.1 rfl
  obtain ⟨b, o, c, rfl, hb, hc⟩ := ints_at h (by omega)
  have HC := Lib.hid hc; clear hc h a
  rw [hl]
  go_enter Tryd.func28, Tryd.ntmps28
  go_upto_region 1 with fail
  obtain ⟨hb1, hb2, hB⟩ := two_boxes w #[.slice (some ⟨b, o, none⟩) 1 c] #[.slice A' n' c'] 22 23 _ rfl
  generalize World.alloc (World.alloc w _) _ = w0 at *
  go_wp2_with fail
  go_ret
  refine ⟨_, _, rfl, ent_k2, fun w' hb' p hp => ?_, hB⟩
  have hc0 : w'.cell? ⟨b, o, none⟩ = some (.int .i64 (prm l 0)) := (hb'.cell (p := ⟨b, o, none⟩) (Nat.lt_of_lt_of_le hb hB.size)).trans ((hB.cell (p := ⟨b, o, none⟩) hb).trans (HC.out 0 (by omega)))
  have := k2_any b o c w.heap.size (prm l 0) (luma p) p w' rfl (box_at hb1 hb') (Nat.lt_of_lt_of_le hb (Nat.le_trans hB.size hb'.size)) hc0
  have e : colF 6 l ss p = if prm l 0 ≤ luma p then (65535, 65535, 65535) else (0, 0, 0) := by
    unfold colF thrF
    by_cases hx : prm l 0 ≤ luma p <;> simp [hx]
  rw [e]
  exact this
set_option maxHeartbeats 1000000 in
theorem colors_8 (a : AdjOk 8 l ss) (v : Value) (h : Ints w w.heap.size v l) : Calls Tryd.prog 28 #[.int .i64 8, v, .slice A' n' c'] w (ClPost (colF 8 l ss) w) := by
  have hl := a.len.2.2.2.2.2.2.2 rfl
  obtain ⟨b, o, c, rfl, hb, hc⟩ := ints_at h (by omega)
  have HC := Lib.hid hc; clear hc h
  have HA := Lib.hid a; clear a
  rw [hl]
  go_enter Tryd.func28, Tryd.ntmps28
  go_upto_region 1 with fail
  obtain ⟨hb1, hb2, hB⟩ := two_boxes w #[.slice (some ⟨b, o, none⟩) 9 c] #[.slice A' n' c'] 22 23 _ rfl
  generalize World.alloc (World.alloc w _) _ = w0 at *
  go_wp2_with fail
  go_ret
  refine ⟨_, _, rfl, ent_k3, fun w' hb' p hp => ?_, hB⟩
  have hc : ∀ w2, Below w'.heap.size w' w2 → ∀ i, i < 9 → w2.cell? ⟨b, o + i, none⟩ = some (.int .i64 (prm l i)) := fun w2 hw2 i hi =>
    ((hw2.cell (p := ⟨b, o + i, none⟩) (Nat.lt_of_lt_of_le hb (Nat.le_trans hB.size hb'.size))).trans (hb'.cell (p := ⟨b, o + i, none⟩) (Nat.lt_of_lt_of_le hb hB.size))).trans ((hB.cell (p := ⟨b, o + i, none⟩) hb).trans (HC.out i (by omega)))
  exact k3_core b o c _ p _ w' (box_at hb1 hb') (fun w2 hw2 => mixed_any b o c l ss HA.out p hp w2 (Nat.lt_of_lt_of_le hb (Nat.le_trans hB.size (Nat.le_trans hb'.size hw2.size))) (hc w2 hw2))
set_option maxHeartbeats 1000000 in
theorem colors_10 (a : AdjOk 10 l ss) (A : Option Addr) (n c : Nat) (h : Stps w w.heap.size (.slice A' n' c') ss) : Calls Tryd.prog 28 #[.int .i64 10, .slice A n c, .slice A' n' c'] w (ClPost (colF 10 l ss) w) := by
  have HA := Lib.hid a.stops; clear a
  have HS := Lib.hid h; clear h
  go_enter Tryd.func28, Tryd.ntmps28
  go_upto_region 1 with fail
  obtain ⟨hb1, hb2, hB⟩ := two_boxes w #[.slice A n c] #[.slice A' n' c'] 22 23 _ rfl
  generalize World.alloc (World.alloc w _) _ = w0 at *
  go_wp2_with fail
  go_ret
  refine ⟨_, _, rfl, ent_k5, fun w' hb' p hp => ?_, hB⟩
  exact k5_any _ A' n' c' (luma p) p (mapF ss (luma p)) w' rfl (box_at hb2 hb') (fun w2 hw2 => mapped_any ss HA.out _ _ w2 (((HS.out.on hB).on hb').on hw2) (luma_in hp).2)
set_option maxHeartbeats 1000000 in
theorem colors_c (k : Int) (hk : k = 1 ∨ k = 2 ∨ k = 3 ∨ k = 4 ∨ k = 7 ∨ k = 11) (A : Option Addr) (n c : Nat) (f : Int → Int) (T : ∀ w', Below w.heap.size w w' → Calls Tryd.prog 58 #[.int .i64 k, .slice A n c] w' (ChPost f w')) :
    Calls Tryd.prog 28 #[.int .i64 k, .slice A n c, .slice A' n' c'] w (ClPost (fun p => (f p.r, f p.g, f p.b)) w) := by
  have HT := Lib.hid T; clear T
  rcases hk with rfl | rfl | rfl | rfl | rfl | rfl
  all_goals
    go_enter Tryd.func28, Tryd.ntmps28
    go_upto_region 1 with fail
    obtain ⟨hb1, hb2, hB⟩ := two_boxes w #[.slice A n c] #[.slice A' n' c'] 22 23 _ rfl
    have j1 := hb1.cell (j := 0) rfl
    generalize World.alloc (World.alloc w _) _ = w0 at *
    go_wp2_with fail
    refine (HT.out _ hB).mono ?_
    rintro e w1 ⟨F, caps, rfl, hent, hfn, hbb⟩
    go_wp2_with fail
    obtain ⟨hb8, hB8, -⟩ := one_box w1 #[.func (.func F) #[] caps] 57 _ rfl
    generalize World.alloc w1 _ = w2 at *
    go_ret
    refine ⟨_, _, rfl, ent_k6, fun w' hb' p hp => ?_, bel_trans (bel_trans hB hbb) hB8⟩
    exact k6_any F caps f p hp _ w' hent ((hfn.on hB8).on hb') (box_at hb8 hb')
end
end Go.Proofs.YtmbglkholoblaaaDoor
namespace Go.Proofs.YtmbglkholoblaaaDoor
open Go.RowKit
attribute [local go_sem] run_store_fn

/-- Behind the statement that lays the sum. -/
def SumMid (s : Int) (w0 : World) (v7 : Value) (wx : World) : Prop := ∃ g, v7 = .pointer (some ⟨g, 0, none⟩) ∧ Bx wx g 3 #[.int .i64 s] ∧ Below w0.heap.size w0 wx
theorem sumMid_of (s : Int) (w0 : World) : SumMid s w0 (.pointer (some ⟨w0.heap.size, 0, none⟩)) (w0.alloc (.cells #[.int .i64 s] 3)).drew := ⟨_, rfl, (Bx.new w0 _ _).drew, (bel1 w0 _).drew⟩
set_option maxRecDepth 100000 in
set_option maxHeartbeats 2000000 in
theorem colors_9 (l : List Int) (ss : List (Int × Px)) (w : World) (A' : Option Addr) (n' c' : Nat) (a : AdjOk 9 l ss) (v : Value) (h : Ints w w.heap.size v l) : Calls Tryd.prog 28 #[.int .i64 9, v, .slice A' n' c'] w (ClPost (colF 9 l ss) w) := by
  have hl := a.len.2.2.2.2.1 rfl
  obtain ⟨b, o, c, rfl, hb, hc⟩ := ints_at h (by omega)
  have c0 := hc 0 (by omega); have c1 := hc 1 (by omega); have c2 := hc 2 (by omega)
  rw [Nat.add_zero] at c0
  obtain ⟨h0, h1, h2, h3⟩ := a.p9
  have E := Lib.hid (show ∀ p, colF 9 l ss p = (rdiv (dot3 (prm l 0) (prm l 1) (prm l 2) p) (prm l 0 + prm l 1 + prm l 2), rdiv (dot3 (prm l 0) (prm l 1) (prm l 2) p) (prm l 0 + prm l 1 + prm l 2), rdiv (dot3 (prm l 0) (prm l 1) (prm l 2) p) (prm l 0 + prm l 1 + prm l 2)) from fun p => by simp [colF])
  clear hc h a
  rw [hl]
  generalize colF 9 l ss = cf at *
  generalize prm l 0 = x0 at *; generalize prm l 1 = x1 at *; generalize prm l 2 = x2 at *
  have q1 : IntKind.i64.wrap (x0 + x1) = x0 + x1 := wrap_in _ (by omega)
  have q2 : IntKind.i64.wrap (x0 + x1 + x2) = x0 + x1 + x2 := wrap_in _ (by omega)
  go_enter Tryd.func28, Tryd.ntmps28
  go_upto_region 1 with fail
  obtain ⟨hb1, hb2, hB⟩ := two_boxes w #[.slice (some ⟨b, o, none⟩) 3 c] #[.slice A' n' c'] 22 23 _ rfl
  have j1 := hb1.cell (j := 0) rfl
  have d0 := (hB.cell (p := ⟨b, o, none⟩) hb).trans c0
  have d1 := (hB.cell (p := ⟨b, o + 1, none⟩) hb).trans c1
  have d2 := (hB.cell (p := ⟨b, o + 2, none⟩) hb).trans c2
  have hbl := Nat.lt_of_lt_of_le hb hB.size
  have hz := hb1.lt
  clear c0 c1 c2
  generalize World.alloc (World.alloc w _) _ = w0 at *
  go_upto_region 9 with fail
  go_cut [7] (SumMid (x0 + x1 + x2) w0)
  case first =>
    go_region
    all_goals (try go_wp2_with fail)
    all_goals go_meet
    all_goals exact sumMid_of _ _
  case rest =>
    obtain ⟨g7, rfl, hb7, hbb⟩ := hcut
    go_wp2_with fail
    go_ret
    refine ⟨_, _, rfl, ent_k4, fun w' hb' p hp => ?_, bel_trans hB hbb⟩
    rw [E.out]
    have hc : ∀ {i : Nat} {x : Value}, w0.cell? ⟨b, i, none⟩ = some x → w'.cell? ⟨b, i, none⟩ = some x := fun {i x} hx => (hb'.cell (p := ⟨b, i, none⟩) (Nat.lt_of_lt_of_le hbl hbb.size)).trans ((hbb.cell (p := ⟨b, i, none⟩) hbl).trans hx)
    exact k4_any b o c _ g7 x0 x1 x2 (x0 + x1 + x2) p w' hp h0 h1 h2 (by omega) (box_at (hb1.below hbb) hb') (box_at hb7 hb') (Nat.lt_of_lt_of_le hbl (Nat.le_trans hbb.size hb'.size)) (hc d0) (hc d1) (hc d2)
/-- colors, for an adjustment without error. -/
theorem colors_any (k : Int) (l : List Int) (ss : List (Int × Px)) (w : World) (a : AdjOk k l ss) (hT : Tab w) (A : Option Addr) (n c : Nat) (A' : Option Addr) (n' c' : Nat) (h : Ints w w.heap.size (.slice A n c) l) (hs : Stps w w.heap.size (.slice A' n' c') ss) :
    Calls Tryd.prog 28 #[.int .i64 k, .slice A n c, .slice A' n' c'] w (ClPost (colF k l ss) w) := by
  have h1 := a.lo; have h2 := a.hi
  have key : ∀ k', (k' = 1 ∨ k' = 2 ∨ k' = 3 ∨ k' = 4 ∨ k' = 7 ∨ k' = 11) → colF k' l ss = fun p => (sing k' l p.r, sing k' l p.g, sing k' l p.b) := by
    intro k' hk'
    funext p
    unfold colF
    rw [if_neg (by omega), if_neg (by omega), if_neg (by omega), if_neg (by omega), if_neg (by omega)]
  rcases (show k = 5 ∨ k = 6 ∨ k = 8 ∨ k = 9 ∨ k = 10 ∨ (k = 1 ∨ k = 2 ∨ k = 3 ∨ k = 4 ∨ k = 7 ∨ k = 11) by omega) with rfl | rfl | rfl | rfl | rfl | hk
  · exact colors_5 l ss w A' n' c' a _ h
  · exact colors_6 l ss w A' n' c' a _ h
  · exact colors_8 l ss w A' n' c' a _ h
  · exact colors_9 l ss w A' n' c' a _ h
  · exact colors_10 l ss w A' n' c' a A n c hs
  · rw [key k hk]
    refine colors_c w A' n' c' k hk A n c (sing k l) (fun w' hw' => ?_)
    have hi := (h.below hw').more hw'.size
    rcases hk with rfl | rfl | rfl | rfl | rfl | rfl
    · exact channel_1 l A n c w'
    · exact channel_2 l ss a _ w' hi
    · exact channel_3 l ss a _ w' hi
    · exact channel_4 l ss a _ w' hi
    · exact channel_7 l ss a _ w' hi
    · exact channel_11 l ss a _ w' (hT.below hw') hi
set_option maxRecDepth 100000 in
set_option maxHeartbeats 2000000 in
theorem applied_yes (F : Nat) (caps : Array Value) (f : Px → Int × Int × Int) (p : Px) (hp : p.ok) (ha : p.a ≠ 0) (w : World) (hent : Ent F) (hf : FnP F caps f w) :
    Calls Tryd.prog 27 #[.func (.func F) #[] caps, .agg #[.int .i64 p.r, .int .i64 p.g, .int .i64 p.b, .int .i64 p.a]] w (PxPost ⟨(f p).1, (f p).2.1, (f p).2.2, p.a⟩ w) := by
  have hent : ∀ (args : Array Value) (w : World), (callFunc F args).run Tryd.prog w = .ok (.enter F args) w := hent
  have HF := Lib.hid (fun w' hw' => hf w' hw' p hp); clear hf
  have ha0 : (p.a == 0) = false := by simp [ha]
  generalize f p = t at *
  obtain ⟨t1, t2, t3⟩ := t
  dsimp only
  clear ha hp
  go_enter Tryd.func27, Tryd.ntmps27
  go_upto_region 1 with fail
  obtain ⟨hb3, hb4, hB⟩ := two_boxes w #[.int .i64 p.r, .int .i64 p.g, .int .i64 p.b, .int .i64 p.a] #[.int .i64 0, .int .i64 0, .int .i64 0, .int .i64 0] 25 25 _ rfl
  generalize World.alloc (World.alloc w _) _ = w0 at *
  obtain ⟨⟨i1, i2, i3, i4⟩, -⟩ := hb3.four
  go_wp2_with fail
  refine (HF.out _ hB).mono ?_
  rintro e w1 ⟨al, rfl, hbb⟩
  replace hb3 := hb3.below hbb; replace hb4 := hb4.below hbb; replace hB := bel_trans hB hbb
  have hs1 := hb4.lt
  clear hbb i1 i2 i3 i4
  go_upto_region 4 with fail
  obtain ⟨hb5, hbb, -⟩ := one_box w1 #[.int .i64 t1, .int .i64 t2, .int .i64 t3, .int .i64 al] 25 _ rfl
  generalize World.alloc w1 _ = w2 at *
  replace hb3 := hb3.below hbb; replace hb4 := hb4.below hbb; replace hB := bel_trans hB hbb
  clear hbb
  obtain ⟨⟨i1, i2, i3, i4⟩, -⟩ := hb3.four
  obtain ⟨⟨j1, j2, j3, j4⟩, jf1, jf2, jf3, jf4⟩ := hb5.four
  go_upto_region 5 with fail
  have hb6 := hb5.set 3 (.int .i64 p.a)
  have hb7 := hb4.other (g' := w1.heap.size) (by omega) 3 (.int .i64 p.a)
  have hB7 := hB.setCell (p := ⟨w1.heap.size, 3, none⟩) (show w.heap.size ≤ w1.heap.size by omega) (.int .i64 p.a)
  clear i1 i2 i3 i4 j1 j2 j3 j4 jf1 jf2 jf3 jf4 hb3 hb4 hb5 hB
  generalize World.setCell _ _ _ = w3 at *
  replace hb6 : Bx w3 w1.heap.size 25 #[.int .i64 t1, .int .i64 t2, .int .i64 t3, .int .i64 p.a] := hb6
  obtain ⟨⟨j1, j2, j3, j4⟩, -⟩ := hb6.four
  obtain ⟨⟨r1, r2, r3, r4⟩, f1, f2, f3, f4⟩ := hb7.four
  go_wp2_with fail
  refine bodyPost_ret (v := .agg #[.int .i64 t1, .int .i64 t2, .int .i64 t3, .int .i64 p.a]) (by simp [results, Tryd.results27, go_sem, r1, r2, r3, r4]) rfl ⟨rfl, ?_⟩
  exact set4_below hB7 (by omega) _ _ _ _ _ _ _ _
set_option maxHeartbeats 1000000 in
theorem applied_no (F : Nat) (caps : Array Value) (p : Px) (ha : p.a = 0) (w : World) :
    Calls Tryd.prog 27 #[.func (.func F) #[] caps, .agg #[.int .i64 p.r, .int .i64 p.g, .int .i64 p.b, .int .i64 p.a]] w (PxPost Px.zero w) := by
  have ha0 : (p.a == 0) = true := by simp [ha]
  clear ha
  go_enter Tryd.func27, Tryd.ntmps27
  go_upto_region 1 with fail
  obtain ⟨hb3, hb4, hB⟩ := two_boxes w #[.int .i64 p.r, .int .i64 p.g, .int .i64 p.b, .int .i64 p.a] #[.int .i64 0, .int .i64 0, .int .i64 0, .int .i64 0] 25 25 _ rfl
  generalize World.alloc (World.alloc w _) _ = w0 at *
  obtain ⟨⟨i1, i2, i3, i4⟩, -⟩ := hb3.four
  obtain ⟨⟨r1, r2, r3, r4⟩, f1, f2, f3, f4⟩ := hb4.four
  go_wp2_with fail
  refine bodyPost_ret (v := .agg #[.int .i64 0, .int .i64 0, .int .i64 0, .int .i64 0]) (by simp [results, Tryd.results27, go_sem, r1, r2, r3, r4]) rfl ⟨rfl, ?_⟩
  exact set4_below hB (by omega) _ _ _ _ _ _ _ _
end Go.Proofs.YtmbglkholoblaaaDoor
namespace Go.Proofs.YtmbglkholoblaaaDoor
open Go.RowKit

theorem kinds {k : Int} (h1 : 1 ≤ k) (h2 : k ≤ 11) : k = 1 ∨ k = 2 ∨ k = 3 ∨ k = 4 ∨ k = 5 ∨ k = 6 ∨ k = 7 ∨ k = 8 ∨ k = 9 ∨ k = 10 ∨ k = 11 := by omega
theorem beq_nat (n m : Nat) : ((n : Int) == (m : Int)) = decide (n = m) := by
  by_cases h : n = m
  · simp [h]
  · simp [h]; omega
set_option maxHeartbeats 4000000 in
theorem counted_any (k : Int) (h1 : 1 ≤ k) (h2 : k ≤ 11) (n : Nat) (hn : n ≤ 9223372036854775807) (w : World) : Calls Tryd.prog 41 #[.int .i64 k, .int .i64 n] w fun e w' => e = .returned (.bool (cntOk k n)) ∧ w = w' := by
  rcases kinds h1 h2 with rfl | rfl | rfl | rfl | rfl | rfl | rfl | rfl | rfl | rfl | rfl
  case inr.inr.inl =>
    have E := Lib.hid (show cntOk 3 n = decide (4 ≤ n ∧ n ≤ 16 ∧ n % 2 = 0) from rfl)
    have ht : (n : Int).tmod 2 = (n : Int) % 2 := Int.tmod_eq_emod_of_nonneg (by omega)
    by_cases a : 4 ≤ n
    · have d1 : decide ((4 : Int) ≤ (n : Int)) = true := by simp; omega
      by_cases b : n ≤ 16
      · have d2 : decide ((n : Int) ≤ 16) = true := by simp; omega
        by_cases c : n % 2 = 0
        · have d3 : ((n : Int) % 2 == 0) = true := by simp; omega
          go_enter Tryd.func41, Tryd.ntmps41
          go_wp2
          go_ret
          exact ⟨ret_bool (by rw [E.out]; simp; omega), rfl⟩
        · have d3 : ((n : Int) % 2 == 0) = false := by simp; omega
          go_enter Tryd.func41, Tryd.ntmps41
          go_wp2
          go_ret
          exact ⟨ret_bool (by rw [E.out]; simp; omega), rfl⟩
      · have d2 : decide ((n : Int) ≤ 16) = false := by simp; omega
        go_enter Tryd.func41, Tryd.ntmps41
        go_wp2
        go_ret
        exact ⟨ret_bool (by rw [E.out]; simp; omega), rfl⟩
    · have d1 : decide ((4 : Int) ≤ (n : Int)) = false := by simp; omega
      go_enter Tryd.func41, Tryd.ntmps41
      go_wp2
      go_ret
      exact ⟨ret_bool (by rw [E.out]; simp; omega), rfl⟩
  all_goals
    go_enter Tryd.func41, Tryd.ntmps41
    go_wp2
    go_ret
    exact ⟨ret_bool (beq_nat n _), rfl⟩
set_option maxHeartbeats 8000000 in
theorem span_any (k : Int) (h1 : 1 ≤ k) (h2 : k ≤ 11) (n : Nat) (hn : n ≤ 9223372036854775807) (w : World) : Calls Tryd.prog 70 #[.int .i64 k, .int .i64 n] w fun e w' => e = .returned (.tuple #[.int .i64 (spLo k n), .int .i64 (spHi k n)]) ∧ w = w' := by
  have hc : n = 0 ∨ n = 1 ∨ n = 2 ∨ 3 ≤ n := by omega
  have E := Lib.hid (show 3 ≤ n → ∀ k', (1 ≤ k' ∧ k' ≤ 11) → spLo k' n = spLo k' 3 ∧ spHi k' n = spHi k' 3 from fun h k' hk => by
    unfold spLo spHi
    have a1 : ((n : Int) = 2) = False := by simp; omega
    have a2 : ((n : Int) = 1) = False := by simp; omega
    have a3 : (0 < (n : Int)) = True := by simp; omega
    have b1 : ((3 : Int) = 2) = False := by simp
    have b2 : ((3 : Int) = 1) = False := by simp
    have b3 : (0 < (3 : Int)) = True := by simp
    simp only [a1, a2, a3, b1, b2, b3]
    exact ⟨trivial, trivial⟩)
  rcases kinds h1 h2 with rfl | rfl | rfl | rfl | rfl | rfl | rfl | rfl | rfl | rfl | rfl
  all_goals
    rcases hc with rfl | rfl | rfl | hc
    case inr.inr.inr =>
      rw [(E.out hc _ (by omega)).1, (E.out hc _ (by omega)).2]
      have d1 : ((n : Int) == 2) = false := by simp; omega
      have d2 : ((n : Int) == 1) = false := by simp; omega
      have d3 : decide (0 < (n : Int)) = true := by simp; omega
      go_enter Tryd.func70, Tryd.ntmps70
      go_wp2
      go_ret2
      exact ⟨rfl, rfl⟩
    all_goals
      go_enter Tryd.func70, Tryd.ntmps70
      go_wp2
      go_ret2
      exact ⟨rfl, rfl⟩
end Go.Proofs.YtmbglkholoblaaaDoor
namespace Go.Proofs.YtmbglkholoblaaaDoor
open Go.RowKit

def R1Rel (k : Int) (l : List Int) (w : World) (gh : Nat) (i : Value) (wr : World) : Prop :=
  ∃ j : Nat, j ≤ l.length ∧ gh = l.length - j ∧ i = .int .i64 j ∧ wr = w ∧ ∀ j' : Nat, j' < j → spLo k j' ≤ prm l j' ∧ prm l j' ≤ spHi k j'
def R2Rel (ss : List (Int × Px)) (w : World) (gh : Nat) (i : Value) (wr : World) : Prop :=
  ∃ j : Nat, j ≤ ss.length ∧ gh = ss.length - j ∧ i = .int .i64 j ∧ Below w.heap.size w wr ∧ ∀ j' : Nat, j' < j → (0 ≤ sat ss j' ∧ sat ss j' ≤ 65535) ∧ (sco ss j').ok
/-- Gray weights that are all 0. -/
def gz (k : Int) (l : List Int) : Bool := decide (k = 9 ∧ prm l 0 = 0 ∧ prm l 1 = 0 ∧ prm l 2 = 0)
def GzMid (z : Bool) (w : World) (v : Value) (wx : World) : Prop := v = .bool z ∧ wx = w
theorem rngB_no1 {k : Int} {l : List Int} {ss : List (Int × Px)} (j : Nat) (h : j < l.length) (hn : ¬ (spLo k j ≤ prm l j ∧ prm l j ≤ spHi k j)) : rngB k l ss = false := by
  exact decide_eq_false fun hh => hn (hh.1 j h)
theorem rngB_no2 {k : Int} {l : List Int} {ss : List (Int × Px)} (h : gz k l = true) : rngB k l ss = false := by
  unfold gz at h; exact decide_eq_false fun hh => hh.2.1 (of_decide_eq_true h)
theorem rngB_no3 {k : Int} {l : List Int} {ss : List (Int × Px)} (j : Nat) (h : j < ss.length) (hn : ¬ ((0 ≤ sat ss j ∧ sat ss j ≤ 65535) ∧ (sco ss j).ok)) : rngB k l ss = false := by
  exact decide_eq_false fun hh => hn (hh.2.2 j h)
theorem rngB_yes {k : Int} {l : List Int} {ss : List (Int × Px)} (h1 : ∀ j : Nat, j < l.length → spLo k j ≤ prm l j ∧ prm l j ≤ spHi k j) (h2 : gz k l = false) (h3 : ∀ j : Nat, j < ss.length → (0 ≤ sat ss j ∧ sat ss j ≤ 65535) ∧ (sco ss j).ok) : rngB k l ss = true := by
  unfold gz at h2; exact decide_eq_true ⟨h1, of_decide_eq_false h2, h3⟩

set_option maxRecDepth 100000 in
set_option maxHeartbeats 4000000 in
theorem ranged_any (k : Int) (h1 : 1 ≤ k) (h2 : k ≤ 11) (l : List Int) (ss : List (Int × Px)) (h9 : k = 9 → l.length = 3) (A : Option Addr) (c : Nat) (A' : Option Addr) (c' : Nat) (w : World) (h : Ints w w.heap.size (.slice A l.length c) l) (hs : Stps w w.heap.size (.slice A' ss.length c') ss) :
    Calls Tryd.prog 42 #[.int .i64 k, .slice A l.length c, .slice A' ss.length c'] w fun e w' => e = .returned (.bool (rngB k l ss)) ∧ Below w.heap.size w w' := by
  have hlm : l.length ≤ 9223372036854775807 := by obtain ⟨_, _, _, hm, _⟩ := h; omega
  have hsm : ss.length ≤ 9223372036854775807 := by obtain ⟨_, _, _, hm, _⟩ := hs; omega
  have HI := Lib.hid h; have HS := Lib.hid hs; have H9 := Lib.hid h9
  clear h hs h9
  go_enter Tryd.func42, Tryd.ntmps42
  go_wp2_with fail
  go_loopg [15] l.length (R1Rel k l w)
  case atStart => exact ⟨0, Nat.zero_le _, rfl, rfl, rfl, fun j' hj' => absurd hj' (by omega)⟩
  case round =>
    obtain ⟨j, hj, rfl, rfl, rfl, hall⟩ := hrel
    have HALL := Lib.hid hall; clear hall
    by_cases hlt : j < l.length
    · obtain ⟨A1, c1, ev1, _, hca⟩ := HI.out
      injection ev1 with u1 u2 u3
      subst u1 u3
      obtain ⟨b, o, rfl, hb, y⟩ := hca j hlt
      have hp : l.getD j 0 = prm l j := rfl
      rw [hp] at y
      have hk0 : (0 : Int) ≤ (j : Int) := by omega
      have hk1 : (j : Int) < (l.length : Int) := by omega
      have SP := Lib.hid (span_any k h1 h2 j (by omega) wr)
      have EL := Lib.hid (rngB_no1 (k := k) (l := l) (ss := ss) j hlt)
      have EA := Lib.hid (show (spLo k j ≤ prm l j ∧ prm l j ≤ spHi k j) → ∀ j' : Nat, j' < j + 1 → spLo k j' ≤ prm l j' ∧ prm l j' ≤ spHi k j' from fun hh j' hj' => by
        rcases Nat.lt_or_ge j' j with d | d
        · exact HALL.out j' d
        · rw [show j' = j by omega]; exact hh)
      clear hca u2 hp
      generalize spLo k j = lo at *
      generalize spHi k j = hi at *
      generalize prm l j = p at *
      go_wp2_with fail
      refine SP.out.mono ?_
      rintro e w1 ⟨rfl, rfl⟩
      by_cases a : p < lo
      · have d1 : decide (p < lo) = true := by simp; exact a
        go_wp2_with fail
        go_ret
        exact ⟨ret_bool (EL.out (by omega)).symm, Below.refl _ _⟩
      · have d1 : decide (p < lo) = false := by simp; omega
        by_cases b : hi < p
        · have d2 : decide (hi < p) = true := by simp; exact b
          go_wp2_with fail
          go_ret
          exact ⟨ret_bool (EL.out (by omega)).symm, Below.refl _ _⟩
        · have d2 : decide (hi < p) = false := by simp; omega
          have EAA := Lib.hid (EA.out (by omega))
          go_wp2_with fail
          go_roundg (l.length - (j + 1))
          case measure => omega
          case rel => exact ⟨j + 1, by omega, rfl, by go_num, rfl, EAA.out⟩
    · obtain rfl : j = l.length := by omega
      have GZ := Lib.hid (show gz k l = decide (k = 9 ∧ prm l 0 = 0 ∧ prm l 1 = 0 ∧ prm l 2 = 0) from rfl)
      have E2 := Lib.hid (fun h => rngB_no2 (k := k) (l := l) (ss := ss) h)
      have E3 := Lib.hid (fun j h hn => rngB_no3 (k := k) (l := l) (ss := ss) j h hn)
      have E4 := Lib.hid (fun h2 h3 => rngB_yes (k := k) (l := l) (ss := ss) HALL.out h2 h3)
      go_upto_region 8 with fail
      obtain ⟨z, hz0⟩ : ∃ z, gz k l = z := ⟨_, rfl⟩
      rw [hz0] at GZ E2 E4
      have HZ := Lib.hid hz0; clear hz0
      go_cut [54] (GzMid z wr)
      case first =>
        by_cases hk : k = 9
        · subst hk
          have hl3 := H9.out rfl
          obtain ⟨b, o, c1, ev, hb, hc⟩ := ints_at HI.out (by omega)
          injection ev with u1 u2 u3
          subst u1 u3
          have c0 := hc 0 (by omega); have c1 := hc 1 (by omega); have c2 := hc 2 (by omega)
          rw [Nat.add_zero] at c0
          clear hc u2
          have hz : ∀ x : Int, (x = 0 ∧ (x == 0) = true) ∨ (x ≠ 0 ∧ (x == 0) = false) := fun x => by
            by_cases h : x = 0
            · exact .inl ⟨h, by simp [h]⟩
            · exact .inr ⟨h, by simp [h]⟩
          have z0 := hz (prm l 0); have z1 := hz (prm l 1); have z2 := hz (prm l 2)
          have hq0 : (0 : Int) < (l.length : Int) := by omega
          have hq1 : (1 : Int) < (l.length : Int) := by omega
          have hq2 : (2 : Int) < (l.length : Int) := by omega
          clear hz hl3
          generalize prm l 0 = x0 at *; generalize prm l 1 = x1 at *; generalize prm l 2 = x2 at *
          rcases z0 with ⟨y0, e0⟩ | ⟨y0, e0⟩
          · rcases z1 with ⟨y1, e1⟩ | ⟨y1, e1⟩
            · rcases z2 with ⟨y2, e2⟩ | ⟨y2, e2⟩
              · have hr : z = true := by rw [GZ.out]; exact decide_eq_true ⟨rfl, y0, y1, y2⟩
                have HR := Lib.hid hr
                clear y0 y1 y2 hr
                go_wp2_with fail
                go_meet
                exact ⟨by rw [HR.out], rfl⟩
              · have hr : z = false := by rw [GZ.out]; exact decide_eq_false fun h => y2 h.2.2.2
                have HR := Lib.hid hr
                clear y0 y1 y2 hr
                go_wp2_with fail
                go_meet
                exact ⟨by rw [HR.out], rfl⟩
            · have hr : z = false := by rw [GZ.out]; exact decide_eq_false fun h => y1 h.2.2.1
              have HR := Lib.hid hr
              clear y0 y1 z2 hr
              go_wp2_with fail
              go_meet
              exact ⟨by rw [HR.out], rfl⟩
          · have hr : z = false := by rw [GZ.out]; exact decide_eq_false fun h => y0 h.2.1
            have HR := Lib.hid hr
            clear y0 z1 z2 hr
            go_wp2_with fail
            go_meet
            exact ⟨by rw [HR.out], rfl⟩
        · have hkk : (k == 9) = false := by simp [hk]
          have HR := Lib.hid (show z = false by rw [GZ.out]; exact decide_eq_false fun h => hk h.1)
          go_wp2_with fail
          go_meet
          exact ⟨by rw [HR.out], rfl⟩
      case rest =>
        obtain ⟨rfl, rfl⟩ := hcut
        clear GZ HZ
        cases z
        · have E5 := Lib.hid (fun h3 => E4.out rfl h3)
          clear E2 E4 HALL HI
          have HX := Lib.hid (show Below wc.heap.size wc wc from Below.refl _ _)
          go_wp2_with fail
          go_loopg [57] ss.length (R2Rel ss wc)
          case atStart => exact ⟨0, Nat.zero_le _, rfl, rfl, HX.out, fun j' hj' => absurd hj' (by omega)⟩
          case round =>
            obtain ⟨j, hj, rfl, rfl, hbr, hall⟩ := hrel
            have HALL := Lib.hid hall; clear hall
            by_cases hlt : j < ss.length
            · obtain ⟨A2, c2, ev2, _, hcb⟩ := HS.out
              injection ev2 with u1 u2 u3
              subst u1 u3
              obtain ⟨b, o, rfl, hb, s0, s1, s2, s3, s4⟩ := hcb j hlt
              replace s0 := (hbr.cell (p := ⟨b, _, none⟩) hb).trans s0; replace s1 := (hbr.cell (p := ⟨b, _, none⟩) hb).trans s1; replace s2 := (hbr.cell (p := ⟨b, _, none⟩) hb).trans s2; replace s3 := (hbr.cell (p := ⟨b, _, none⟩) hb).trans s3; replace s4 := (hbr.cell (p := ⟨b, _, none⟩) hb).trans s4
              have hk0 : (0 : Int) ≤ (j : Int) := by omega
              have hk1 : (j : Int) < (ss.length : Int) := by omega
              have EL := Lib.hid (E3.out j hlt)
              have EA := Lib.hid (show ((0 ≤ sat ss j ∧ sat ss j ≤ 65535) ∧ (sco ss j).ok) → ∀ j' : Nat, j' < j + 1 → (0 ≤ sat ss j' ∧ sat ss j' ≤ 65535) ∧ (sco ss j').ok from fun hh j' hj' => by
                rcases Nat.lt_or_ge j' j with d | d
                · exact HALL.out j' d
                · rw [show j' = j by omega]; exact hh)
              clear hcb u2
              generalize sat ss j = s at *
              generalize sco ss j = q at *
              have HBR := Lib.hid hbr; clear hbr
              go_upto_region 13 with fail
              obtain ⟨hb12, hbb, -⟩ := one_box wr #[.int .i64 s, .int .i64 q.r, .int .i64 q.g, .int .i64 q.b, .int .i64 q.a] 63 _ rfl
              generalize World.alloc wr _ = wx at *
              obtain ⟨x0, x1, x2, x3, x4⟩ := hb12.five
              have HBX := Lib.hid (bel_trans HBR.out hbb)
              clear s0 s1 s2 s3 s4 hbb hb12 HBR
              have PV := Lib.hid (pvalid_any q.r q.g q.b q.a wx)
              by_cases a : s < 0
              · have d1 : decide (s < 0) = true := by simp; exact a
                go_wp2_with fail
                go_ret
                exact ⟨ret_bool (EL.out (fun h => by have := h.1.1; omega)).symm, HBX.out⟩
              · have d1 : decide (s < 0) = false := by simp; omega
                by_cases b' : 65535 < s
                · have d2 : decide (65535 < s) = true := by simp; exact b'
                  go_wp2_with fail
                  go_ret
                  exact ⟨ret_bool (EL.out (fun h => by have := h.1.2; omega)).symm, HBX.out⟩
                · have d2 : decide (65535 < s) = false := by simp; omega
                  by_cases pk : pxOk q = true
                  · have EAA := Lib.hid (EA.out ⟨by omega, (pxOk_iff q).1 pk⟩)
                    have PK := Lib.hid (show pxOk ⟨q.r, q.g, q.b, q.a⟩ = true from pk)
                    clear pk a b'
                    go_wp2_with (go_at_call 19; refine PV.out.mono ?_; rintro e w9 ⟨rfl, hb9⟩; rw [PK.out])
                    have HB9 := Lib.hid (bel_trans HBX.out hb9)
                    go_roundg (ss.length - (j + 1))
                    case measure => omega
                    case rel => exact ⟨j + 1, by omega, rfl, by go_num, HB9.out, EAA.out⟩
                  · have PK := Lib.hid (show pxOk ⟨q.r, q.g, q.b, q.a⟩ = false by simpa using pk)
                    have EL2 := Lib.hid (EL.out (fun h => pk ((pxOk_iff q).2 h.2)))
                    clear pk a b'
                    go_wp2_with (go_at_call 19; refine PV.out.mono ?_; rintro e w9 ⟨rfl, hb9⟩; rw [PK.out])
                    have HB9 := Lib.hid (bel_trans HBX.out hb9)
                    go_ret
                    exact ⟨ret_bool EL2.out.symm, HB9.out⟩
            · obtain rfl : j = ss.length := by omega
              have HBR := Lib.hid hbr; clear hbr
              go_wp2_with fail
              go_ret
              exact ⟨ret_bool (E5.out HALL.out).symm, HBR.out⟩
        · go_wp2_with fail
          go_ret
          exact ⟨ret_bool (E2.out trivial).symm, Below.refl _ _⟩
end Go.Proofs.YtmbglkholoblaaaDoor
