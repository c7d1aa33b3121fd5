/- The reference's table, quarter, sine, Turn, Rotate. -/
import Derived.Test.YtanlnigebbcajaaDoorAff24
import Derived.Great.BuildSlice
import Derived.Laws.Rows
namespace Go.Proofs.YtanlnigebbcajaaDoor
open Go.RowKit
attribute [local go_sem 2000] run_max2m run_min2m

theorem zero65 : ∃ Z : Array Value, Z.size = 65 ∧ ∀ w, Sem.run Tryd.prog (zeroValue 63) w = .ok (.agg Z) w := ⟨Array.replicate 65 (Value.int .i64 0), by kernel_rfl, fun _ => by kernel_rfl⟩
/-- The table as one value. -/
def tabV : Array Value := (sinesL.map (Value.int .i64)).toArray
theorem tabV_size : tabV.size = 65 := by kernel_rfl
theorem tabV_one : tabV.all (·.oneCell') = true := by kernel_rfl
theorem tabV_cell (i : Nat) (h : i < 65) : tabV[i]? = some (.int .i64 (sns i)) := by
  have hl : i < sinesL.length := h
  unfold tabV
  simp [sns, List.getD, List.getElem?_eq_getElem hl]
theorem setRow_alloc (w : World) (t : TypeId) (Z V : Array Value) : (w.alloc (.cells Z t)).setRow w.heap.size V = w.alloc (.cells V t) := by
  unfold World.setRow World.alloc
  congr 1
  apply Array.ext
  · simp
  · intro k h1 h2
    simp only [Array.getElem_modify]
    simp only [Array.getElem_push]
    simp at h1
    by_cases hk : w.heap.size = k
    · subst hk; simp
    · have : k < w.heap.size := by omega
      simp [hk, this]
theorem alloc_row (w : World) (t : TypeId) (Z : Array Value) : (w.alloc (.cells Z t)).heap[w.heap.size]? = some (.cells Z t (0, 0)) := by
  show (w.heap.push _)[w.heap.size]? = _
  simp
theorem tab_info : (Tryd.prog.info? 63).map (·.size) = some 65 := by kernel_rfl
theorem load65 (w : World) (g : Nat) (h : w.heap[g]? = some (.cells tabV 63 (0, 0))) : (loadVar 63 ⟨g, 0, none⟩).run Tryd.prog w = .ok (.agg tabV) w :=
  run_loadVar_row w g _ _ tabV _ _ h Tryd.underlying63 (by kernel_rfl) (by rw [tabV_size]; exact tab_info)
set_option maxRecDepth 100000 in
set_option maxHeartbeats 4000000 in
theorem rtable_any (w : World) : Calls Tryd.prog 59 #[] w fun z w' => z = .returned (.agg tabV) ∧ Below w.heap.size w w' := by
  obtain ⟨Z, hZ, hzv⟩ := zero65
  have hal := alloc_row w 63 tabV
  have hsz := tabV_size
  have hB : Below w.heap.size w (w.alloc (.cells tabV 63)) := (Below.refl _ _).alloc (Nat.le_refl _) _
  go_enter Tryd.func59, Tryd.ntmps59
  go_upto_region 1 with fail
  apply wp_region_list
  refine wpList_buildFlatArrTo rfl 63 3 65 _ rfl .i64 sinesL (some 1) rfl (by as_aux_lemma => kernel_rfl) (by as_aux_lemma => kernel_rfl) (by as_aux_lemma => kernel_rfl) (by as_aux_lemma => kernel_rfl) ?_
  change wpList _ _ _ _ ({ tmps := #[.pointer (some ⟨w.heap.size, 0, none⟩), .agg tabV], defers := [] } : Act) _
  refine wpList_store_rowTo rfl 63 _ _ rfl rfl w.heap.size tabV rfl rfl 63 Z (alloc_row _ _ _) (by rw [tabV_size]; exact tab_info) (by rw [tabV_size]; exact hZ) tabV_one ?_
  rw [setRow_alloc]
  clear hzv hZ
  generalize w.alloc (.cells tabV 63) = w1 at *
  go_wp2_with fail
  refine bodyPost_ret (v := .agg tabV) (results_cell_row rfl _ _ w.heap.size _ tabV _ _ rfl hal Tryd.underlying63 (by kernel_rfl) (by rw [hsz]; exact tab_info)) rfl ?_
  exact ⟨rfl, hB⟩
set_option maxRecDepth 100000 in
set_option maxHeartbeats 4000000 in
theorem rquarter_core (V Z : Array Value) (hV1 : V.all (·.oneCell') = true) (hV : V.size = 65) (hZ : Z.size = 65) (hzv : ∀ w, Sem.run Tryd.prog (zeroValue 63) w = .ok (.agg Z) w) (T : ∀ w, Calls Tryd.prog 59 #[] w fun z w' => z = .returned (.agg V) ∧ Below w.heap.size w w')
    (u : Int) (i : Nat) (x0 x1 d : Int) (w : World) (hu : 0 ≤ u ∧ u < 16384) (hi : u / 256 = (i : Int)) (h0 : 0 ≤ x0 ∧ x0 ≤ 65536) (h1 : 0 ≤ x1 ∧ x1 ≤ 65536) (hd : rdiv ((x1 - x0) * (u - 256 * (i : Int))) 256 = d)
    (c0 : V[i]? = some (.int .i64 x0)) (c1 : V[i + 1]? = some (.int .i64 x1)) :
    Calls Tryd.prog 58 #[.int .i64 u] w (SrPost (x0 + d) w) := by
  have hq := qtr_mul (t := u - 256 * (i : Int)) h0 h1 (by omega)
  have D := Lib.hid (show ∀ w, Calls Tryd.prog 45 #[.int .i64 ((x1 - x0) * (u - 256 * (i : Int))), .int .i64 256] w fun z w' => z = .returned (.int .i64 d) ∧ ∃ n, w' = w.drewN n from fun w => by
    have := rdiv_any ((x1 - x0) * (u - 256 * (i : Int))) 256 w (by omega) (by omega) (by omega) (by omega)
    rw [hd] at this
    exact this)
  rw [hd] at hq
  have q1 := wrap_in24 ((x1 - x0) * (u - 256 * (i : Int))) (by omega)
  have q2 := wrap_in24 (u - 256 * (i : Int)) (by omega)
  have q3 := wrap_in24 (256 * (i : Int)) (by omega)
  have q4 := wrap_in24 (x1 - x0) (by omega)
  have ht : u.tdiv 256 = (i : Int) := by rw [Int.tdiv_eq_ediv_of_nonneg hu.1]; exact hi
  have hg : ¬ u = 16384 := by omega
  have k0 : (0 : Int) ≤ (i : Int) := by omega
  have k1 : (i : Int) < 65 := by omega
  have k2 : (i : Int) + 1 < 65 := by omega
  obtain ⟨j, hj⟩ : ∃ j : Nat, j = i + 1 := ⟨_, rfl⟩
  rw [← hj] at c1
  have k3 : (i : Int) + 1 = (j : Int) := by omega
  have k4 : (0 : Int) ≤ (j : Int) := by omega
  have k5 : (j : Int) < 65 := by omega
  have k6 := wrap_in24 (j : Int) (by omega)
  have hdb := hq.2
  have hst : ∀ w : World, (storeCells ⟨w.heap.size, 0, none⟩ V.toList).run Tryd.prog (w.alloc (.cells Z 63)) = .ok () (w.alloc (.cells V 63)) := fun w => by
    rw [run_storeCells_from w.heap.size 63 V.toList 0 Z (w.alloc (.cells Z 63)) (alloc_row _ _ _) (by simp [hV, hZ]) (fun v hv => (Array.all_eq_true_iff_forall_mem.1 hV1) v (by simpa using hv))]
    rw [← setRow_alloc w _ Z V]
    simp
  have HC := Lib.hid (show ∀ (w : World) (k : Nat) (v : Value), V[k]? = some v → (w.alloc (.cells V 63)).cell? ⟨w.heap.size, k, none⟩ = some v from fun w k v h => by
    rw [cell_of_row _ _ _ V _ _ (alloc_row _ _ _)]; exact h)
  clear hd hq hi hj hV1 hZ
  have HT := Lib.hid T; clear T
  go_enter Tryd.func58, Tryd.ntmps58
  go_upto_region 1 with fail
  go_wp2_with ((go_at_call 59; refine (HT.out _).mono ?_; rintro z w4 ⟨rfl, hB⟩; have a0 := HC.out w4 i _ c0; have a1 := HC.out w4 j _ c1))
  have hB2 := hB.alloc hB.size (.cells V 63)
  clear hst HC HT hzv c0 c1 hV
  generalize w4.alloc (.cells V 63) = w5 at *
  generalize w4.heap.size = b at *
  clear hB
  go_quiet ((go_at_call 45; (with_reducible refine quiet_tolN (D.out _) ?_); exact fun _ => ⟨_, World.drewN_drewN _ _ _⟩))
  go_wp2_with fail
  go_ret
  exact ⟨rfl, Below.drewN' hB2 _⟩
set_option maxRecDepth 100000 in
set_option maxHeartbeats 4000000 in
theorem rquarter_top (V Z : Array Value) (hV1 : V.all (·.oneCell') = true) (hV : V.size = 65) (hZ : Z.size = 65) (hzv : ∀ w, Sem.run Tryd.prog (zeroValue 63) w = .ok (.agg Z) w) (T : ∀ w, Calls Tryd.prog 59 #[] w fun z w' => z = .returned (.agg V) ∧ Below w.heap.size w w')
    (w : World) (c0 : V[64]? = some (.int .i64 65536)) :
    Calls Tryd.prog 58 #[.int .i64 16384] w (SrPost 65536 w) := by
  have hst : ∀ w : World, (storeCells ⟨w.heap.size, 0, none⟩ V.toList).run Tryd.prog (w.alloc (.cells Z 63)) = .ok () (w.alloc (.cells V 63)) := fun w => by
    rw [run_storeCells_from w.heap.size 63 V.toList 0 Z (w.alloc (.cells Z 63)) (alloc_row _ _ _) (by simp [hV, hZ]) (fun v hv => (Array.all_eq_true_iff_forall_mem.1 hV1) v (by simpa using hv))]
    rw [← setRow_alloc w _ Z V]
    simp
  have HC := Lib.hid (show ∀ (w : World) (k : Nat) (v : Value), V[k]? = some v → (w.alloc (.cells V 63)).cell? ⟨w.heap.size, k, none⟩ = some v from fun w k v h => by
    rw [cell_of_row _ _ _ V _ _ (alloc_row _ _ _)]; exact h)
  clear hV1 hZ
  have HT := Lib.hid T; clear T
  go_enter Tryd.func58, Tryd.ntmps58
  go_upto_region 1 with fail
  go_wp2_with ((go_at_call 59; refine (HT.out _).mono ?_; rintro z w4 ⟨rfl, hB⟩; have a0 := HC.out w4 64 _ c0))
  go_ret
  exact ⟨rfl, hB.alloc hB.size (.cells V 63)⟩
theorem rquarter_any (u : Int) (w : World) (hu : 0 ≤ u ∧ u ≤ 16384) : Calls Tryd.prog 58 #[.int .i64 u] w (SrPost (qtr u) w) := by
  obtain ⟨Z, hZ, hzv⟩ := zero65
  by_cases h : u = 16384
  · subst h
    exact rquarter_top tabV Z tabV_one tabV_size hZ hzv rtable_any w (by rw [tabV_cell 64 (by omega)]; rfl)
  · have := rquarter_core tabV Z tabV_one tabV_size hZ hzv rtable_any u (u / 256).toNat (sns (u / 256).toNat) (sns ((u / 256).toNat + 1)) _ w (by omega) (by omega) (sns_bd _ (by omega)) (sns_bd _ (by omega)) rfl (tabV_cell _ (by omega)) (tabV_cell _ (by omega))
    unfold qtr
    rw [if_neg h]
    rw [show (((u / 256).toNat : Nat) : Int) = u / 256 by omega] at this
    exact this
theorem rsine_any (a : Int) (w : World) (ha : 0 ≤ a ∧ a ≤ 65535) : Calls Tryd.prog 54 #[.int .i64 a] w (SrPost (snF a) w) := by
  rcases (show a ≤ 16383 ∨ (16384 ≤ a ∧ a ≤ 32767) ∨ (32768 ≤ a ∧ a ≤ 49151) ∨ 49152 ≤ a by omega) with h | h | h | h
  · rw [snF_0 (by omega)]; exact rsine_0 a _ w (by omega) (qtr_bd (by omega)) (rquarter_any a w (by omega))
  · rw [snF_1 (by omega)]; exact rsine_1 a _ w (by omega) (qtr_bd (by omega)) (rquarter_any _ w (by omega))
  · rw [snF_2 (by omega)]; exact rsine_2 a _ w (by omega) (qtr_bd (by omega)) (rquarter_any _ w (by omega))
  · rw [snF_3 (by omega)]; exact rsine_3 a _ w (by omega) (qtr_bd (by omega)) (rquarter_any _ w (by omega))
set_option maxHeartbeats 4000000 in
theorem rturn_core (x r a b s t : Int) (w : World) (er : x.tmod 65536 = r) (hr : -65536 < r ∧ r < 65536) (ha : a = if r < 0 then r + 65536 else r) (hb : (a + 16384).tmod 65536 = b)
    (D1 : ∀ w, Calls Tryd.prog 54 #[.int .i64 a] w (SrPost s w)) (D2 : ∀ w, Calls Tryd.prog 54 #[.int .i64 b] w (SrPost t w)) :
    Calls Tryd.prog 43 #[.int .i64 x] w fun z w' => z = .returned (.tuple #[.int .i64 s, .int .i64 t]) ∧ Below w.heap.size w w' := by
  have H1 := Lib.hid D1; have H2 := Lib.hid D2; clear D1 D2
  by_cases hn : r < 0
  · rw [if_pos hn] at ha
    have ha' : r + 65536 = a := ha.symm
    have hab : 0 ≤ a ∧ a < 65536 := by omega
    clear ha
    go_enter Tryd.func43, Tryd.ntmps43
    go_wp2_with ((go_at_call 54; (first | ((with_reducible refine (H1.out _).mono ?_); rintro z w4 ⟨rfl, hB1⟩) | ((with_reducible refine (H2.out _).mono ?_); rintro z w5 ⟨rfl, hB2⟩))))
    all_goals refine bodyPost_ret (v := .tuple #[.int .i64 s, .int .i64 t]) (by simp [results, Tryd.results43, go_sem]) rfl ⟨rfl, (hB1.trans (hB2.mono hB1.size))⟩
  · rw [if_neg hn] at ha
    subst ha
    have hab : 0 ≤ a ∧ a < 65536 := by omega
    go_enter Tryd.func43, Tryd.ntmps43
    go_wp2_with ((go_at_call 54; (first | ((with_reducible refine (H1.out _).mono ?_); rintro z w4 ⟨rfl, hB1⟩) | ((with_reducible refine (H2.out _).mono ?_); rintro z w5 ⟨rfl, hB2⟩))))
    all_goals refine bodyPost_ret (v := .tuple #[.int .i64 s, .int .i64 t]) (by simp [results, Tryd.results43, go_sem]) rfl ⟨rfl, (hB1.trans (hB2.mono hB1.size))⟩
theorem rturn_any (x : Int) (w : World) :
    Calls Tryd.prog 43 #[.int .i64 x] w fun z w' => z = .returned (.tuple #[.int .i64 (trn x).1, .int .i64 (trn x).2]) ∧ Below w.heap.size w w' := by
  have hr := Int.tmod_lt_of_pos x (show (0 : Int) < 65536 by omega)
  have hr2 : -65536 < x.tmod 65536 := by
    have := Int.lt_tmod_of_pos x (show (0 : Int) < 65536 by omega)
    omega
  have e : (if x.tmod 65536 < 0 then x.tmod 65536 + 65536 else x.tmod 65536) = x % 65536 := by
    have h1 := Int.tmod_eq_emod (a := x) (b := 65536)
    split <;> (split at h1 <;> omega)
  have hb : (x % 65536 + 16384).tmod 65536 = (x % 65536 + 16384) % 65536 := Int.tmod_eq_emod_of_nonneg (by omega)
  exact rturn_core x _ (x % 65536) _ (snF (x % 65536)) (snF ((x % 65536 + 16384) % 65536)) w rfl ⟨hr2, hr⟩ e.symm hb (fun w => rsine_any _ w (by omega)) (fun w => rsine_any _ w (by omega))
set_option maxHeartbeats 1000000 in
theorem rrotate_any (x : Int) (w : World) :
    Calls Tryd.prog 23 #[.int .i64 x] w fun z w' => z = .returned (.agg #[.int .i64 (trn x).2, .int .i64 (trn x).1, .int .i64 (-(trn x).1), .int .i64 (trn x).2, .int .i64 0, .int .i64 0]) ∧ Below w.heap.size w w' := by
  have T := Lib.hid (fun w' => rturn_any x w')
  have hb1 : -131073 ≤ (trn x).1 ∧ (trn x).1 ≤ 131073 := snF_bd' (by omega)
  generalize (trn x).1 = s at *
  generalize (trn x).2 = t at *
  go_enter Tryd.func23, Tryd.ntmps23
  go_wp2_with fail
  refine (T.out _).mono ?_
  rintro z X ⟨rfl, hB⟩
  have K := Lib.hid ((Bx.new w 23 #[.int .i64 0, .int .i64 0, .int .i64 0, .int .i64 0, .int .i64 0, .int .i64 0]).below hB)
  have KB := Lib.hid ((bel_alloc (Below.refl w.heap.size w) (.cells #[.int .i64 0, .int .i64 0, .int .i64 0, .int .i64 0, .int .i64 0, .int .i64 0] 23)).trans (hB.mono (by simp)))
  clear hB
  obtain ⟨⟨c0, c1, c2, c3, c4, c5⟩, f0, f1, f2, f3, f4, f5⟩ := K.out.six
  go_wp2_with fail
  refine bodyPost_ret (v := .agg #[.int .i64 t, .int .i64 s, .int .i64 (-s), .int .i64 t, .int .i64 0, .int .i64 0]) (by simp [results, Tryd.results23, go_sem, c0, c1, c2, c3, c4, c5]) rfl ⟨rfl, ?_⟩
  repeat' (first | with_reducible exact KB.out | with_reducible apply Below.drew | with_reducible apply Below.drewN' | with_reducible apply Below.setCell)
  all_goals (exact Nat.le_refl _)
end Go.Proofs.YtanlnigebbcajaaDoor
