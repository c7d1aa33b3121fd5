/- The other color closures of adjust. -/
import Derived.Test.YtmbglkholoblaaaDoorAdjK
import Derived.Test.YtmbglkholoblaaaDoorAdjJ
import Derived.Test.YtmbglkholoblaaaDoorAdjH
namespace Go.Proofs.YtmbglkholoblaaaDoor
open Go.RowKit

theorem mapped_any (ss : List (Int × Px)) (q : StOk ss) (v : Value) (t : Int) (w : World) (h : Stps w w.heap.size v ss) (ht0 : 0 ≤ t ∧ t ≤ 65535) :
    Calls Tryd.prog 57 #[v, .int .i64 t] w (PxPost (mapF ss t) w) := by
  by_cases h1 : t ≤ sat ss 0
  · exact mapped_first ss q v t w h h1
  · by_cases h2 : sat ss (ss.length - 1) ≤ t
    · exact mapped_last ss q v t w h h1 h2
    · exact mapped_mid ss q v t w h ht0 h1 h2 (fun p q τ w' => mix_any p q τ w')

set_option maxHeartbeats 1000000 in
theorem k1_core (b o c g : Nat) (p m : Px) (w : World) (hb : w.cell? ⟨g, 0, none⟩ = some (.slice (some ⟨b, o, none⟩) 3 c))
    (T : ∀ w', Below w.heap.size w w' → Calls Tryd.prog 49 #[.slice (some ⟨b, o, none⟩) 3 c, .agg #[.int .i64 p.r, .int .i64 p.g, .int .i64 p.b, .int .i64 p.a]] w' (PxPost m w')) :
    Calls Tryd.prog 48 #[.agg #[.int .i64 p.r, .int .i64 p.g, .int .i64 p.b, .int .i64 p.a], .pointer (some ⟨g, 0, none⟩)] w (ColPost (m.r, m.g, m.b) w) := by
  have HT := Lib.hid T; clear T
  have hg : g < w.heap.size := World.block_lt_of_cell? w _ hb
  go_enter Tryd.func48, Tryd.ntmps48
  go_upto_region 1 with fail
  obtain ⟨hb2, hb3, hB⟩ := two_boxes w #[.int .i64 p.r, .int .i64 p.g, .int .i64 p.b, .int .i64 p.a] #[.int .i64 0, .int .i64 0, .int .i64 0, .int .i64 0] 25 25 _ rfl
  replace hb := (hB.cell (p := ⟨g, 0, none⟩) hg).trans hb
  generalize World.alloc (World.alloc w _) _ = w0 at *
  obtain ⟨⟨i1, i2, i3, i4⟩, -⟩ := hb2.four
  go_wp2_with fail
  refine (HT.out _ hB).mono ?_
  rintro e w1 ⟨rfl, hbb⟩
  obtain ⟨⟨r1, r2, r3, r4⟩, f1, f2, f3, f4⟩ := (hb3.below hbb).four
  have HBF := Lib.hid (bel_trans hB hbb)
  clear hbb hB hb2 hb3 i1 i2 i3 i4
  go_wp2_with fail
  refine bodyPost_ret (v := .agg #[.int .i64 m.r, .int .i64 m.g, .int .i64 m.b, .int .i64 m.a]) (by simp [results, Tryd.results48, go_sem, r1, r2, r3, r4]) rfl ⟨m.a, rfl, ?_⟩
  exact set4_below HBF.out (by omega) _ _ _ _ _ _ _ _
set_option maxHeartbeats 1000000 in
theorem k3_core (b o c g : Nat) (p m : Px) (w : World) (hb : w.cell? ⟨g, 0, none⟩ = some (.slice (some ⟨b, o, none⟩) 9 c))
    (T : ∀ w', Below w.heap.size w w' → Calls Tryd.prog 54 #[.slice (some ⟨b, o, none⟩) 9 c, .agg #[.int .i64 p.r, .int .i64 p.g, .int .i64 p.b, .int .i64 p.a]] w' (PxPost m w')) :
    Calls Tryd.prog 53 #[.agg #[.int .i64 p.r, .int .i64 p.g, .int .i64 p.b, .int .i64 p.a], .pointer (some ⟨g, 0, none⟩)] w (ColPost (m.r, m.g, m.b) w) := by
  have HT := Lib.hid T; clear T
  have hg : g < w.heap.size := World.block_lt_of_cell? w _ hb
  go_enter Tryd.func53, Tryd.ntmps53
  go_upto_region 1 with fail
  obtain ⟨hb2, hb3, hB⟩ := two_boxes w #[.int .i64 p.r, .int .i64 p.g, .int .i64 p.b, .int .i64 p.a] #[.int .i64 0, .int .i64 0, .int .i64 0, .int .i64 0] 25 25 _ rfl
  replace hb := (hB.cell (p := ⟨g, 0, none⟩) hg).trans hb
  generalize World.alloc (World.alloc w _) _ = w0 at *
  obtain ⟨⟨i1, i2, i3, i4⟩, -⟩ := hb2.four
  go_wp2_with fail
  refine (HT.out _ hB).mono ?_
  rintro e w1 ⟨rfl, hbb⟩
  obtain ⟨⟨r1, r2, r3, r4⟩, f1, f2, f3, f4⟩ := (hb3.below hbb).four
  have HBF := Lib.hid (bel_trans hB hbb)
  clear hbb hB hb2 hb3 i1 i2 i3 i4
  go_wp2_with fail
  refine bodyPost_ret (v := .agg #[.int .i64 m.r, .int .i64 m.g, .int .i64 m.b, .int .i64 m.a]) (by simp [results, Tryd.results53, go_sem, r1, r2, r3, r4]) rfl ⟨m.a, rfl, ?_⟩
  exact set4_below HBF.out (by omega) _ _ _ _ _ _ _ _
theorem m_bd {a x : Int} (ha : -262140 ≤ a ∧ a ≤ 262140) (hx : 0 ≤ x ∧ x ≤ 65535) : -17179344900 ≤ a * x ∧ a * x ≤ 17179344900 := by
  have e1 : a * x ≤ 262140 * x := Int.mul_le_mul_of_nonneg_right ha.2 hx.1
  have e2 : (-262140) * x ≤ a * x := Int.mul_le_mul_of_nonneg_right ha.1 hx.1
  omega
set_option maxHeartbeats 2000000 in
theorem m1_any (b o c g g' : Nat) (i : Nat) (hi : i = 0 ∨ i = 3 ∨ i = 6) (x0 x1 x2 : Int) (p : Px) (w : World) (hp : p.ok) (h0 : -262140 ≤ x0 ∧ x0 ≤ 262140) (h1 : -262140 ≤ x1 ∧ x1 ≤ 262140) (h2 : -262140 ≤ x2 ∧ x2 ≤ 262140)
    (hb : w.cell? ⟨g, 0, none⟩ = some (.slice (some ⟨b, o, none⟩) 9 c)) (i1 : w.cell? ⟨g', 0, none⟩ = some (.int .i64 p.r)) (i2 : w.cell? ⟨g', 1, none⟩ = some (.int .i64 p.g)) (i3 : w.cell? ⟨g', 2, none⟩ = some (.int .i64 p.b))
    (c0 : w.cell? ⟨b, o + i, none⟩ = some (.int .i64 x0)) (c1 : w.cell? ⟨b, o + (i + 1), none⟩ = some (.int .i64 x1)) (c2 : w.cell? ⟨b, o + (i + 2), none⟩ = some (.int .i64 x2)) :
    Calls Tryd.prog 73 #[.int .i64 i, .pointer (some ⟨g, 0, none⟩), .pointer (some ⟨g', 0, none⟩)] w fun e w' => e = .returned (.int .i64 (lim16 (rdiv (dot3 x0 x1 x2 p) 65535))) ∧ ∃ n, w' = w.drewN n := by
  have m0 := m_bd h0 hp.1; have m1 := m_bd h1 hp.2.1; have m2 := m_bd h2 hp.2.2.1
  have D := Lib.hid (fun w' => div_any (x0 * p.r + x1 * p.g + x2 * p.b) 65535 w' (by omega) (by omega) (by omega) (by omega))
  have E := Lib.hid (show rdiv (x0 * p.r + x1 * p.g + x2 * p.b) 65535 = rdiv (dot3 x0 x1 x2 p) 65535 from rfl)
  generalize rdiv (x0 * p.r + x1 * p.g + x2 * p.b) 65535 = q at *
  rw [← E.out]
  clear E hp
  rcases hi with rfl | rfl | rfl
  all_goals
    simp only [Nat.add_zero, Nat.zero_add, Nat.reduceAdd] at c0 c1 c2
    go_enter Tryd.func73, Tryd.ntmps73
    go_wp2_with fail
    go_quiet (first | (go_at_call 34; exact quiet_tol (D.out _) ⟨_, rfl⟩) | (go_at_call 39; exact quiet_tol (aunit_any _ _) ⟨_, rfl⟩))
    go_wp2_with fail
    go_ret
    exact ⟨rfl, _, rfl⟩
end Go.Proofs.YtmbglkholoblaaaDoor
