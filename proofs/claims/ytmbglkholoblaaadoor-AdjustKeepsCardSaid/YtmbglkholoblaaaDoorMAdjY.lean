/- The walk of AdjustKeeps. -/
import Derived.Test.YtmbglkholoblaaaDoorMN
import Derived.Test.YtmbglkholoblaaaDoorMO
namespace Go.Proofs.YtmbglkholoblaaaDoor
open Go.RowKit

set_option maxRecDepth 100000 in
set_option maxHeartbeats 4000000 in
theorem keeps_core (k : Int) (A : Option Addr) (n c : Nat) (A' : Option Addr) (n' c' : Nat) (p m : Px) (E C : Int) (w : World)
    (hE : (E ≠ 0 ∧ m = Px.zero) ∨ (E = 0 ∧ p.a = 0 ∧ m = Px.zero) ∨ (E = 0 ∧ p.a ≠ 0 ∧ C = 0 ∧ pxOk m = true ∧ m.a = p.a))
    (T0 : ∀ w', Below w.heap.size w w' → Calls Tryd.prog 14 #[] w' fun e w'' => e = .returned (.bool true) ∧ Below w'.heap.size w' w'')
    (T1 : ∀ w', Below w.heap.size w w' → Calls Tryd.prog 12 #[.int .i64 k, .slice A n c, .slice A' n' c', .agg #[.int .i64 p.r, .int .i64 p.g, .int .i64 p.b, .int .i64 p.a]] w' (PePost m E w'))
    (T2 : ∀ w', Below w.heap.size w w' → Calls Tryd.prog 20 #[.int .i64 k, .slice A n c, .slice A' n' c'] w' fun e w'' => e = .returned (.int .i64 C) ∧ Below w'.heap.size w' w'') :
    Calls Tryd.prog 6 #[.int .i64 k, .slice A n c, .slice A' n' c', .agg #[.int .i64 p.r, .int .i64 p.g, .int .i64 p.b, .int .i64 p.a]] w fun e w' => e = .returned (.bool true) ∧ Below w.heap.size w w' := by
  have HT0 := Lib.hid T0; have HT1 := Lib.hid T1; have HT2 := Lib.hid T2; have HE := Lib.hid hE
  clear T0 T1 T2 hE
  go_enter Tryd.func6, Tryd.ntmps6
  go_upto_region 1 with fail
  obtain ⟨hb7, hB, -⟩ := one_box w #[.int .i64 p.r, .int .i64 p.g, .int .i64 p.b, .int .i64 p.a] 25 _ rfl
  generalize World.alloc w _ = w0 at *
  obtain ⟨⟨i1, i2, i3, i4⟩, -⟩ := hb7.four
  go_wp2_with fail
  refine (HT1.out _ hB).mono ?_
  rintro e w1 ⟨rfl, hbb⟩
  replace hb7 := hb7.below hbb; replace hB := bel_trans hB hbb
  clear hbb i1 i2 i3 i4
  go_upto_region 2 with fail
  obtain ⟨hb9, hbb, -⟩ := one_box w1 #[.int .i64 m.r, .int .i64 m.g, .int .i64 m.b, .int .i64 m.a] 25 _ rfl
  generalize World.alloc w1 _ = w2 at *
  replace hb7 := hb7.below hbb; replace hB := bel_trans hB hbb
  clear hbb
  go_wp2_with fail
  refine (HT0.out _ hB).mono ?_
  rintro e w3 ⟨rfl, hbb⟩
  replace hb7 := hb7.below hbb; replace hb9 := hb9.below hbb; replace hB := bel_trans hB hbb
  clear hbb
  obtain ⟨⟨i1, i2, i3, i4⟩, -⟩ := hb7.four
  obtain ⟨⟨j1, j2, j3, j4⟩, -⟩ := hb9.four
  rcases HE.out with ⟨e1, rfl⟩ | ⟨rfl, e1, rfl⟩ | ⟨rfl, e1, rfl, e2, e3⟩
  · have d1 : (E != 0) = true := by simp [e1]
    clear e1 HE
    go_wp2_with fail
    go_ret
    exact ⟨by simp, hB⟩
  · have d1 : (p.a == 0) = true := by simp [e1]
    clear e1 HE
    go_wp2_with fail
    go_ret
    exact ⟨by simp, hB⟩
  · have d1 : (p.a == 0) = false := by simp [e1]
    have d2 : (m.a == p.a) = true := by simp [e3]
    have HP := Lib.hid (show pxOk ⟨m.r, m.g, m.b, m.a⟩ = true from e2)
    clear e1 e2 e3 HE i1 i2 i3 j1 j2 j3
    go_wp2_with fail
    refine (HT2.out _ hB).mono ?_
    rintro e w4 ⟨rfl, hbb⟩
    replace hb7 := hb7.below hbb; replace hb9 := hb9.below hbb; replace hB := bel_trans hB hbb
    clear hbb i4 j4
    obtain ⟨⟨j1, j2, j3, j4⟩, -⟩ := hb9.four
    go_wp2_with fail
    refine (pvalid_any _ _ _ _ _).mono ?_
    rintro e w5 ⟨rfl, hbb⟩
    rw [HP.out]
    replace hb7 := hb7.below hbb; replace hb9 := hb9.below hbb; replace hB := bel_trans hB hbb
    clear hbb j1 j2 j3 j4
    obtain ⟨⟨i1, i2, i3, i4⟩, -⟩ := hb7.four
    obtain ⟨⟨j1, j2, j3, j4⟩, -⟩ := hb9.four
    clear i1 i2 i3 j1 j2 j3
    go_wp2_with fail
    go_ret
    exact ⟨rfl, hB⟩
theorem walk_keeps (k : Int) (v1 : Value) (l : List Int) (v2 : Value) (ss : List (Int × Px)) (v3 : Value) (p : Px) (w : World) (hT : Tab w) (_ : in64 k) (h1 : IntsV w v1 l) (h2 : StpsV w v2 ss) (h3 : PxV v3 p) :
    Calls Tryd.prog 6 #[.int .i64 k, v1, v2, v3] w fun e w' => e = .returned (.bool true) ∧ Below w.heap.size w w' := by
  obtain ⟨A, c, rfl, hi⟩ := h1
  obtain ⟨A', c', rfl, hs⟩ := h2
  obtain ⟨rfl, _⟩ := h3
  refine keeps_core k A _ c A' _ c' p (pixF k l ss p) (perr k l ss p) (achk k l ss) w ?_ (fun w' hb => awake_any w' (hT.below hb))
    (fun w' hb => apixel_any k l ss A c A' c' p w' (hT.below hb) ((hi.below hb).more hb.size) (hs.on hb)) (fun w' hb => acheck_any k l ss A c A' c' w' ((hi.below hb).more hb.size) (hs.on hb))
  by_cases hE : perr k l ss p = 0
  · right
    have e : pixF k l ss p = appF k l ss p := by unfold pixF; rw [if_pos hE]
    by_cases ha : p.a = 0
    · left
      refine ⟨hE, ha, ?_⟩
      rw [e]; unfold appF; rw [if_pos ha]
    · right
      have hk : achk k l ss = 0 ∧ pxOk p = true := by
        unfold perr at hE
        by_cases hk : achk k l ss = 0
        · rw [if_pos hk] at hE
          refine ⟨hk, ?_⟩
          cases hp : pxOk p
          · rw [hp] at hE; simp at hE
          · rfl
        · rw [if_neg hk] at hE; exact absurd hE hk
      have a := (achk_iff k l ss).1 hk.1
      have := appF_ok a ((pxOk_iff p).1 hk.2)
      refine ⟨hE, ha, hk.1, ?_, ?_⟩
      · rw [e]; exact (pxOk_iff _).2 this.1
      · rw [e]; exact this.2 ha
  · left
    refine ⟨hE, ?_⟩
    unfold pixF
    rw [if_neg hE]
end Go.Proofs.YtmbglkholoblaaaDoor
