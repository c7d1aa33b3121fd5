/- adjust.colors: a function value that computes a color. -/
import Derived.Test.YtmbglkholoblaaaDoorAdjM
namespace Go.Proofs.YtmbglkholoblaaaDoor
open Go.RowKit

section
variable (P : Program) (w : World) (a : Addr) (m : Mode)
theorem run_store_fn (f : Fn) (x y : Array Value) : (store a (.func f x y) m).run P w = stored P w a (.func f x y) m := run_store P w a _ m rfl
end
attribute [local go_sem] run_store_fn
def ClPost (f : Px → Int × Int × Int) (w : World) (e : Ending) (w' : World) : Prop := ∃ F caps, e = .returned (.func (.func F) #[] caps) ∧ Ent F ∧ FnP F caps f w' ∧ Below w.heap.size w w'
theorem ent_k1 : Ent 48 := fun _ _ => by simp [go_sem]
theorem ent_k2 : Ent 50 := fun _ _ => by simp [go_sem]
theorem ent_k3 : Ent 53 := fun _ _ => by simp [go_sem]
theorem ent_k4 : Ent 55 := fun _ _ => by simp [go_sem]
theorem ent_k5 : Ent 56 := fun _ _ => by simp [go_sem]
theorem ent_k6 : Ent 59 := fun _ _ => by simp [go_sem]
section
variable (l : List Int) (ss : List (Int × Px)) (w : World) (A' : Option Addr) (n' c' : Nat)
set_option maxHeartbeats 1000000 in
theorem colors_5 (a : AdjOk 5 l ss) (v : Value) (h : Ints w w.heap.size v l) : Calls Tryd.prog 28 #[.int .i64 5, v, .slice A' n' c'] w (ClPost (colF 5 l ss) w) := by
  have hl := a.len.2.2.2.1 rfl
  obtain ⟨b, o, c, rfl, hb, hc⟩ := ints_at h (by omega)
  have HC := Lib.hid hc; clear hc h
  have HA := Lib.hid a; clear a
  rw [hl]
  go_enter Tryd.func28, Tryd.ntmps28
  go_upto_region 1 with fail
  obtain ⟨hb1, hb2, hB⟩ := two_boxes w #[.slice (some ⟨b, o, none⟩) 3 c] #[.slice A' n' c'] 22 23 _ rfl
  generalize World.alloc (World.alloc w _) _ = w0 at *
  go_wp2_with fail
  go_ret
  refine ⟨_, _, rfl, ent_k1, fun w' hb' p hp => ?_, hB⟩
  have hc : ∀ i w2, i < 3 → Below w'.heap.size w' w2 → w2.cell? ⟨b, o + i, none⟩ = some (.int .i64 (prm l i)) := fun i w2 hi hw2 =>
    ((hw2.cell (p := ⟨b, o + i, none⟩) (Nat.lt_of_lt_of_le hb (Nat.le_trans hB.size hb'.size))).trans (hb'.cell (p := ⟨b, o + i, none⟩) (Nat.lt_of_lt_of_le hb hB.size))).trans ((hB.cell (p := ⟨b, o + i, none⟩) hb).trans (HC.out i (by omega)))
  exact k1_core b o c _ p (hueF l p) w' (box_at hb1 hb') (fun w2 hw2 => turned_any b o c l ss HA.out p w2 (Nat.lt_of_lt_of_le hb (Nat.le_trans hB.size (Nat.le_trans hb'.size hw2.size))) (hc 0 w2 (by omega) hw2) (hc 1 w2 (by omega) hw2) (hc 2 w2 (by omega) hw2))
set_option maxHeartbeats 1000000 in
theorem colors_6 (a : AdjOk 6 l ss) (v : Value) (h : Ints w w.heap.size v l) : Calls Tryd.prog 28 #[.int .i64 6, v, .slice A' n' c'] w (ClPost (colF 6 l ss) w) := by
  have hl := a.len.2.2.2.2.2.1 rfl
  obtain ⟨b, o, c, rfl, hb, hc⟩ := ints_at h (by omega)
  have HC := Lib.hid hc; clear hc h a
  rw [hl]
  go_enter Tryd.func28, Tryd.ntmps28
  go_upto_region 1 with fail
  obtain ⟨hb1, hb2, hB⟩ := two_boxes w #[.slice (some ⟨b, o, none⟩) 1 c] #[.slice A' n' c'] 22 23 _ rfl
  generalize World.alloc (World.alloc w _) _ = w0 at *
  go_wp2_with fail
  go_ret
  refine ⟨_, _, rfl, ent_k2, fun w' hb' p hp => ?_, hB⟩
  have hc0 : w'.cell? ⟨b, o, none⟩ = some (.int .i64 (prm l 0)) := (hb'.cell (p := ⟨b, o, none⟩) (Nat.lt_of_lt_of_le hb hB.size)).trans ((hB.cell (p := ⟨b, o, none⟩) hb).trans (HC.out 0 (by omega)))
  have := k2_any b o c w.heap.size (prm l 0) (luma p) p w' rfl (box_at hb1 hb') (Nat.lt_of_lt_of_le hb (Nat.le_trans hB.size hb'.size)) hc0
  have e : colF 6 l ss p = if prm l 0 ≤ luma p then (65535, 65535, 65535) else (0, 0, 0) := by
    unfold colF thrF
    by_cases hx : prm l 0 ≤ luma p <;> simp [hx]
  rw [e]
  exact this
set_option maxHeartbeats 1000000 in
theorem colors_8 (a : AdjOk 8 l ss) (v : Value) (h : Ints w w.heap.size v l) : Calls Tryd.prog 28 #[.int .i64 8, v, .slice A' n' c'] w (ClPost (colF 8 l ss) w) := by
  have hl := a.len.2.2.2.2.2.2.2 rfl
  obtain ⟨b, o, c, rfl, hb, hc⟩ := ints_at h (by omega)
  have HC := Lib.hid hc; clear hc h
  have HA := Lib.hid a; clear a
  rw [hl]
  go_enter Tryd.func28, Tryd.ntmps28
  go_upto_region 1 with fail
  obtain ⟨hb1, hb2, hB⟩ := two_boxes w #[.slice (some ⟨b, o, none⟩) 9 c] #[.slice A' n' c'] 22 23 _ rfl
  generalize World.alloc (World.alloc w _) _ = w0 at *
  go_wp2_with fail
  go_ret
  refine ⟨_, _, rfl, ent_k3, fun w' hb' p hp => ?_, hB⟩
  have hc : ∀ w2, Below w'.heap.size w' w2 → ∀ i, i < 9 → w2.cell? ⟨b, o + i, none⟩ = some (.int .i64 (prm l i)) := fun w2 hw2 i hi =>
    ((hw2.cell (p := ⟨b, o + i, none⟩) (Nat.lt_of_lt_of_le hb (Nat.le_trans hB.size hb'.size))).trans (hb'.cell (p := ⟨b, o + i, none⟩) (Nat.lt_of_lt_of_le hb hB.size))).trans ((hB.cell (p := ⟨b, o + i, none⟩) hb).trans (HC.out i (by omega)))
  exact k3_core b o c _ p _ w' (box_at hb1 hb') (fun w2 hw2 => mixed_any b o c l ss HA.out p hp w2 (Nat.lt_of_lt_of_le hb (Nat.le_trans hB.size (Nat.le_trans hb'.size hw2.size))) (hc w2 hw2))
set_option maxHeartbeats 1000000 in
theorem colors_10 (a : AdjOk 10 l ss) (A : Option Addr) (n c : Nat) (h : Stps w w.heap.size (.slice A' n' c') ss) : Calls Tryd.prog 28 #[.int .i64 10, .slice A n c, .slice A' n' c'] w (ClPost (colF 10 l ss) w) := by
  have HA := Lib.hid a.stops; clear a
  have HS := Lib.hid h; clear h
  go_enter Tryd.func28, Tryd.ntmps28
  go_upto_region 1 with fail
  obtain ⟨hb1, hb2, hB⟩ := two_boxes w #[.slice A n c] #[.slice A' n' c'] 22 23 _ rfl
  generalize World.alloc (World.alloc w _) _ = w0 at *
  go_wp2_with fail
  go_ret
  refine ⟨_, _, rfl, ent_k5, fun w' hb' p hp => ?_, hB⟩
  exact k5_any _ A' n' c' (luma p) p (mapF ss (luma p)) w' rfl (box_at hb2 hb') (fun w2 hw2 => mapped_any ss HA.out _ _ w2 (((HS.out.on hB).on hb').on hw2) (luma_in hp).2)
set_option maxHeartbeats 1000000 in
theorem colors_c (k : Int) (hk : k = 1 ∨ k = 2 ∨ k = 3 ∨ k = 4 ∨ k = 7 ∨ k = 11) (A : Option Addr) (n c : Nat) (f : Int → Int) (T : ∀ w', Below w.heap.size w w' → Calls Tryd.prog 58 #[.int .i64 k, .slice A n c] w' (ChPost f w')) :
    Calls Tryd.prog 28 #[.int .i64 k, .slice A n c, .slice A' n' c'] w (ClPost (fun p => (f p.r, f p.g, f p.b)) w) := by
  have HT := Lib.hid T; clear T
  rcases hk with rfl | rfl | rfl | rfl | rfl | rfl
  all_goals
    go_enter Tryd.func28, Tryd.ntmps28
    go_upto_region 1 with fail
    obtain ⟨hb1, hb2, hB⟩ := two_boxes w #[.slice A n c] #[.slice A' n' c'] 22 23 _ rfl
    have j1 := hb1.cell (j := 0) rfl
    generalize World.alloc (World.alloc w _) _ = w0 at *
    go_wp2_with fail
    refine (HT.out _ hB).mono ?_
    rintro e w1 ⟨F, caps, rfl, hent, hfn, hbb⟩
    go_wp2_with fail
    obtain ⟨hb8, hB8, -⟩ := one_box w1 #[.func (.func F) #[] caps] 57 _ rfl
    generalize World.alloc w1 _ = w2 at *
    go_ret
    refine ⟨_, _, rfl, ent_k6, fun w' hb' p hp => ?_, bel_trans (bel_trans hB hbb) hB8⟩
    exact k6_any F caps f p hp _ w' hent ((hfn.on hB8).on hb') (box_at hb8 hb')
end
end Go.Proofs.YtmbglkholoblaaaDoor
