/- adjust.Pixel. -/
import Derived.Test.YtmbglkholoblaaaDoorAdjS
namespace Go.Proofs.YtmbglkholoblaaaDoor
open Go.RowKit

/-- A pixel and an error are returned. -/
def PePost (p : Px) (err : Int) (w : World) (e : Ending) (w' : World) : Prop := e = .returned (.tuple #[.agg #[.int .i64 p.r, .int .i64 p.g, .int .i64 p.b, .int .i64 p.a], .int .i64 err]) ∧ Below w.heap.size w w'
set_option maxRecDepth 100000 in
set_option maxHeartbeats 4000000 in
theorem pixel_no (k : Int) (A : Option Addr) (n c : Nat) (A' : Option Addr) (n' c' : Nat) (p : Px) (w : World) (E E2 : Int)
    (hE : (E ≠ 0 ∧ E2 = E) ∨ (E = 0 ∧ E2 = 2 ∧ pxOk p = false))
    (TC : ∀ w', Below w.heap.size w w' → Calls Tryd.prog 20 #[.int .i64 k, .slice A n c, .slice A' n' c'] w' fun e w'' => e = .returned (.int .i64 E) ∧ Below w'.heap.size w' w'') :
    Calls Tryd.prog 12 #[.int .i64 k, .slice A n c, .slice A' n' c', .agg #[.int .i64 p.r, .int .i64 p.g, .int .i64 p.b, .int .i64 p.a]] w (PePost Px.zero E2 w) := by
  have HTC := Lib.hid TC; clear TC
  go_enter Tryd.func12, Tryd.ntmps12
  go_upto_region 1 with fail
  obtain ⟨hb7, hb8, hB⟩ := two_boxes w #[.int .i64 p.r, .int .i64 p.g, .int .i64 p.b, .int .i64 p.a] #[.int .i64 0, .int .i64 0, .int .i64 0, .int .i64 0] 25 25 _ rfl
  generalize World.alloc (World.alloc w _) _ = w0 at *
  go_wp2_with fail
  refine (HTC.out _ hB).mono ?_
  rintro e w1 ⟨rfl, hbb⟩
  replace hb7 := hb7.below hbb; replace hb8 := hb8.below hbb; replace hB := bel_trans hB hbb
  clear hbb
  rcases hE with ⟨hE, rfl⟩ | ⟨rfl, rfl, hp⟩
  · have hne : (E2 != 0) = true := by simp [hE]
    clear hE
    obtain ⟨⟨r1, r2, r3, r4⟩, f1, f2, f3, f4⟩ := hb8.four
    clear hb7 hb8
    go_wp2_with fail
    refine bodyPost_ret (v := .tuple #[.agg #[.int .i64 0, .int .i64 0, .int .i64 0, .int .i64 0], .int .i64 E2]) (by simp [results, Tryd.results12, go_sem, r1, r2, r3, r4]) rfl ⟨rfl, ?_⟩
    exact set4_below hB (by omega) _ _ _ _ _ _ _ _
  · have HP := Lib.hid (show pxOk ⟨p.r, p.g, p.b, p.a⟩ = false from hp); clear hp
    obtain ⟨⟨i1, i2, i3, i4⟩, -⟩ := hb7.four
    go_wp2_with fail
    refine (pvalid_any _ _ _ _ _).mono ?_
    rintro e w2 ⟨rfl, hbb⟩
    rw [HP.out]
    replace hB := bel_trans hB hbb
    obtain ⟨⟨r1, r2, r3, r4⟩, f1, f2, f3, f4⟩ := (hb8.below hbb).four
    clear hb7 hb8 i1 i2 i3 i4 hbb
    go_wp2_with fail
    refine bodyPost_ret (v := .tuple #[.agg #[.int .i64 0, .int .i64 0, .int .i64 0, .int .i64 0], .int .i64 2]) (by simp [results, Tryd.results12, go_sem, r1, r2, r3, r4]) rfl ⟨rfl, ?_⟩
    exact set4_below hB (by omega) _ _ _ _ _ _ _ _
set_option maxRecDepth 100000 in
set_option maxHeartbeats 4000000 in
theorem pixel_yes (k : Int) (A : Option Addr) (n c : Nat) (A' : Option Addr) (n' c' : Nat) (p m : Px) (f : Px → Int × Int × Int) (w : World) (hp : pxOk p = true)
    (TC : ∀ w', Below w.heap.size w w' → Calls Tryd.prog 20 #[.int .i64 k, .slice A n c, .slice A' n' c'] w' fun e w'' => e = .returned (.int .i64 0) ∧ Below w'.heap.size w' w'')
    (TL : ∀ w', Below w.heap.size w w' → Calls Tryd.prog 28 #[.int .i64 k, .slice A n c, .slice A' n' c'] w' (ClPost f w'))
    (TA : ∀ F caps w', Ent F → FnP F caps f w' → Calls Tryd.prog 27 #[.func (.func F) #[] caps, .agg #[.int .i64 p.r, .int .i64 p.g, .int .i64 p.b, .int .i64 p.a]] w' (PxPost m w')) :
    Calls Tryd.prog 12 #[.int .i64 k, .slice A n c, .slice A' n' c', .agg #[.int .i64 p.r, .int .i64 p.g, .int .i64 p.b, .int .i64 p.a]] w (PePost m 0 w) := by
  have HTC := Lib.hid TC; have HTL := Lib.hid TL; have HTA := Lib.hid TA; clear TC TL TA
  have HP := Lib.hid (show pxOk ⟨p.r, p.g, p.b, p.a⟩ = true from hp); clear hp
  go_enter Tryd.func12, Tryd.ntmps12
  go_upto_region 1 with fail
  obtain ⟨hb7, hb8, hB⟩ := two_boxes w #[.int .i64 p.r, .int .i64 p.g, .int .i64 p.b, .int .i64 p.a] #[.int .i64 0, .int .i64 0, .int .i64 0, .int .i64 0] 25 25 _ rfl
  generalize World.alloc (World.alloc w _) _ = w0 at *
  go_wp2_with fail
  refine (HTC.out _ hB).mono ?_
  rintro e w1 ⟨rfl, hbb⟩
  replace hb7 := hb7.below hbb; replace hb8 := hb8.below hbb; replace hB := bel_trans hB hbb
  clear hbb
  obtain ⟨⟨i1, i2, i3, i4⟩, -⟩ := hb7.four
  go_wp2_with fail
  refine (pvalid_any _ _ _ _ _).mono ?_
  rintro e w2 ⟨rfl, hbb⟩
  rw [HP.out]
  replace hb7 := hb7.below hbb; replace hb8 := hb8.below hbb; replace hB := bel_trans hB hbb
  have hz := hb8.lt
  clear hbb i1 i2 i3 i4
  go_upto_region 6 with fail
  have HSA := Lib.hid (show ∀ wq, RS (w.heap.size + 1) w2 wq → RS (w.heap.size + 1) w2 wq ∧ wq.cell? ⟨w.heap.size, 0, none⟩ = some (.int .i64 p.r) ∧ wq.cell? ⟨w.heap.size, 1, none⟩ = some (.int .i64 p.g) ∧ wq.cell? ⟨w.heap.size, 2, none⟩ = some (.int .i64 p.b) ∧ wq.cell? ⟨w.heap.size, 3, none⟩ = some (.int .i64 p.a) ∧
      wq.cell? ⟨w.heap.size + 1, 0, none⟩ = some (cv wq (w.heap.size + 1) 0) ∧ wq.cell? ⟨w.heap.size + 1, 1, none⟩ = some (cv wq (w.heap.size + 1) 1) ∧ wq.cell? ⟨w.heap.size + 1, 2, none⟩ = some (cv wq (w.heap.size + 1) 2) ∧ wq.cell? ⟨w.heap.size + 1, 3, none⟩ = some (cv wq (w.heap.size + 1) 3) ∧
      wq.frozen? ⟨w.heap.size + 1, 0, none⟩ = false ∧ wq.frozen? ⟨w.heap.size + 1, 1, none⟩ = false ∧ wq.frozen? ⟨w.heap.size + 1, 2, none⟩ = false ∧ wq.frozen? ⟨w.heap.size + 1, 3, none⟩ = false from
    fun wq h => ⟨h, (h.bx hb7 (by omega)).four.1.1, (h.bx hb7 (by omega)).four.1.2.1, (h.bx hb7 (by omega)).four.1.2.2.1, (h.bx hb7 (by omega)).four.1.2.2.2, h.cvs.1.1, h.cvs.1.2.1, h.cvs.1.2.2.1, h.cvs.1.2.2.2, h.cvs.2⟩)
  have HSP := Lib.hid (fun wq (h : RS (w.heap.size + 1) w2 wq) a b c d => HSA.out _ (h.put a b c d))
  have HCL := Lib.hid (show ∀ wq, RS (w.heap.size + 1) w2 wq → Calls Tryd.prog 28 #[.int .i64 k, .slice A n c, .slice A' n' c'] wq (ClPost f wq) from fun wq h => HTL.out wq (h.bel hB (by omega)))
  have hBv : RS (w.heap.size + 1) w2 w2.drew := RS.start hb8
  have hS0 := HSA.out _ hBv
  have HB := Lib.hid hB
  clear hB hb7 hb8 HTL HTC
  go_region_held3 (fun wq => RS (w.heap.size + 1) w2 wq ∧ wq.cell? ⟨w.heap.size, 0, none⟩ = some (.int .i64 p.r) ∧ wq.cell? ⟨w.heap.size, 1, none⟩ = some (.int .i64 p.g) ∧ wq.cell? ⟨w.heap.size, 2, none⟩ = some (.int .i64 p.b) ∧ wq.cell? ⟨w.heap.size, 3, none⟩ = some (.int .i64 p.a) ∧
      wq.cell? ⟨w.heap.size + 1, 0, none⟩ = some (cv wq (w.heap.size + 1) 0) ∧ wq.cell? ⟨w.heap.size + 1, 1, none⟩ = some (cv wq (w.heap.size + 1) 1) ∧ wq.cell? ⟨w.heap.size + 1, 2, none⟩ = some (cv wq (w.heap.size + 1) 2) ∧ wq.cell? ⟨w.heap.size + 1, 3, none⟩ = some (cv wq (w.heap.size + 1) 3) ∧
      wq.frozen? ⟨w.heap.size + 1, 0, none⟩ = false ∧ wq.frozen? ⟨w.heap.size + 1, 1, none⟩ = false ∧ wq.frozen? ⟨w.heap.size + 1, 2, none⟩ = false ∧ wq.frozen? ⟨w.heap.size + 1, 3, none⟩ = false)
    (first | assumption | exact hS0 | exact HSA.out _ hBv | exact HSP.out _ hBv _ _ _ _ | go_keep)
    (first | ((with_reducible refine (HCL.out _ hBv).mono ?_); rintro e wv ⟨F, caps, rfl, hent, hfn, hbv⟩; have hBv := RS.call hBv hbv; have happ := HTA.out F caps wv hent hfn) | ((with_reducible refine happ.mono ?_); rintro e wv ⟨rfl, hbv⟩; have hBv := RS.call hBv hbv))
  obtain ⟨⟨r1, r2, r3, r4⟩, f1, f2, f3, f4⟩ := hBv.cvs
  go_wp2_with fail
  refine bodyPost_ret (v := .tuple #[.agg #[.int .i64 m.r, .int .i64 m.g, .int .i64 m.b, .int .i64 m.a], .int .i64 0]) (by simp [results, Tryd.results12, go_sem, r1, r2, r3, r4]) rfl ⟨rfl, ?_⟩
  exact set4_below (hBv.bel HB.out (by omega)) (by omega) _ _ _ _ _ _ _ _
/-- Pixel. -/
theorem apixel_any (k : Int) (l : List Int) (ss : List (Int × Px)) (A : Option Addr) (c : Nat) (A' : Option Addr) (c' : Nat) (p : Px) (w : World) (hT : Tab w) (h : Ints w w.heap.size (.slice A l.length c) l) (hs : Stps w w.heap.size (.slice A' ss.length c') ss) :
    Calls Tryd.prog 12 #[.int .i64 k, .slice A l.length c, .slice A' ss.length c', .agg #[.int .i64 p.r, .int .i64 p.g, .int .i64 p.b, .int .i64 p.a]] w (PePost (pixF k l ss p) (perr k l ss p) w) := by
  have TC := fun w' (hb : Below w.heap.size w w') => acheck_any k l ss A c A' c' w' ((h.below hb).more hb.size) (hs.on hb)
  by_cases hE : achk k l ss = 0
  · rw [hE] at TC
    cases hp : pxOk p
    · have e : perr k l ss p = 2 := by unfold perr; rw [if_pos hE, hp]; rfl
      have e2 : pixF k l ss p = Px.zero := by unfold pixF; rw [e]; rfl
      rw [e, e2]
      exact pixel_no k A _ c A' _ c' p w 0 2 (.inr ⟨rfl, rfl, hp⟩) TC
    · have e : perr k l ss p = 0 := by unfold perr; rw [if_pos hE, hp]; rfl
      have e2 : pixF k l ss p = appF k l ss p := by unfold pixF; rw [e]; rfl
      rw [e, e2]
      have a := (achk_iff k l ss).1 hE
      refine pixel_yes k A _ c A' _ c' p _ (colF k l ss) w hp TC (fun w' hb => colors_any k l ss w' a (hT.below hb) A _ c A' _ c' ((h.below hb).more hb.size) (hs.on hb)) (fun F caps w' hent hf => ?_)
      unfold appF
      by_cases ha : p.a = 0
      · rw [if_pos ha]; exact applied_no F caps p ha w'
      · rw [if_neg ha]; exact applied_yes F caps (colF k l ss) p ((pxOk_iff p).1 hp) ha w' hent hf
  · have e : perr k l ss p = achk k l ss := by unfold perr; rw [if_neg hE]
    have e2 : pixF k l ss p = Px.zero := by unfold pixF; rw [e, if_neg hE]
    rw [e, e2]
    exact pixel_no k A _ c A' _ c' p w _ _ (.inl ⟨hE, rfl⟩) TC
end Go.Proofs.YtmbglkholoblaaaDoor
