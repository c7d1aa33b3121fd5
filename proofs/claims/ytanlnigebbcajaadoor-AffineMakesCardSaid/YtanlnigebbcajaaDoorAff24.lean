/- Sines: num.Turn, affine.Rotate and their references. -/
import Derived.Test.YtanlnigebbcajaaDoorAffLaid
import Derived.Laws.BitsLemmas
import Derived.BigQuiet
namespace Go.Proofs.YtanlnigebbcajaaDoor
open Go.RowKit
attribute [local go_sem 2000] run_max2m run_min2m

def sns (i : Nat) : Int := sinesL.getD i 0
theorem sns_bd (i : Nat) (h : i < 65) : 0 ≤ sns i ∧ sns i ≤ 65536 := by
  have : ∀ j : Fin 65, 0 ≤ sns j.val ∧ sns j.val ≤ 65536 := by decide
  exact this ⟨i, h⟩
def TabA (w : World) : Prop := 0 < w.heap.size ∧ ∀ i : Nat, i < 65 → w.cell? ⟨0, i, none⟩ = some (.int .i64 (sns i))
theorem TabA.below {w w' : World} (h : TabA w) (hb : Below w.heap.size w w') : TabA w' := ⟨Nat.lt_of_lt_of_le h.1 hb.size, fun i hi => (hb.cell (p := ⟨0, i, none⟩) h.1).trans (h.2 i hi)⟩
theorem TabA.tab {w : World} (h : TabA w) : Tab w := ⟨h.2 32 (by omega), h.2 33 (by omega)⟩
theorem taba_of {W : World} (h : laidMetH Tryd.prog [("imageeditor/num.sines", Rows.laid_imageeditor_num_sines)] W) : TabA W := by
  have t : Lib.TabIs Tryd.prog W "imageeditor/num.sines" .i64 sinesL := Lib.tabIs_of_head (rest := []) gTab gTabType Tryd.underlying63 Tryd.underlying3 cellsInt cellsTab h
  have hc : ∀ i : Nat, i < 65 → W.cell? ⟨0, i, none⟩ = some (.int .i64 (sns i)) := fun i hi => by
    have := t.cell gTab i (show i < sinesL.length from hi)
    simpa [sns, List.getD, List.getElem?_eq_getElem (show i < sinesL.length from hi)] using this
  exact ⟨World.block_lt_of_cell? W _ (hc 0 (by omega)), hc⟩
/-- The sine of an angle up to a quarter turn. -/
def qtr (u : Int) : Int := if u = 16384 then 65536 else sns (u / 256).toNat + rdiv ((sns ((u / 256).toNat + 1) - sns (u / 256).toNat) * (u - 256 * (u / 256))) 256
def snF (a : Int) : Int := if a / 16384 = 0 then qtr (a - 16384 * (a / 16384)) else if a / 16384 = 1 then qtr (16384 - (a - 16384 * (a / 16384))) else if a / 16384 = 2 then -qtr (a - 16384 * (a / 16384)) else -qtr (16384 - (a - 16384 * (a / 16384)))
def trn (x : Int) : Int × Int := (snF (x % 65536), snF ((x % 65536 + 16384) % 65536))
theorem qtr_mul {x0 x1 t : Int} (h0 : 0 ≤ x0 ∧ x0 ≤ 65536) (h1 : 0 ≤ x1 ∧ x1 ≤ 65536) (ht : 0 ≤ t ∧ t ≤ 255) : (-16777216 ≤ (x1 - x0) * t ∧ (x1 - x0) * t ≤ 16777216) ∧ -65537 ≤ rdiv ((x1 - x0) * t) 256 ∧ rdiv ((x1 - x0) * t) 256 ≤ 65537 := by
  have e1 : (x1 - x0) * t ≤ 65536 * t := Int.mul_le_mul_of_nonneg_right (by omega) ht.1
  have e2 : (-65536) * t ≤ (x1 - x0) * t := Int.mul_le_mul_of_nonneg_right (by omega) ht.1
  have hr := rdiv_spec ((x1 - x0) * t) 256 (by omega)
  generalize (x1 - x0) * t = z at *
  omega
theorem qtr_bd {u : Int} (h : 0 ≤ u ∧ u ≤ 16384) : -131073 ≤ qtr u ∧ qtr u ≤ 131073 := by
  unfold qtr
  split
  · omega
  · have h0 := sns_bd (u / 256).toNat (by omega); have h1 := sns_bd ((u / 256).toNat + 1) (by omega)
    have := (qtr_mul (t := u - 256 * (u / 256)) h0 h1 (by omega)).2
    omega
theorem wrap_in24 (n : Int) (h : -9223372036854775808 ≤ n ∧ n ≤ 9223372036854775807) : IntKind.i64.wrap n = n := by rw [IntKind.wrap_i64]; omega
theorem snF_bd {a : Int} : -131073 ≤ snF a ∧ snF a ≤ 131073 := by
  have h1 := qtr_bd (u := a - 16384 * (a / 16384)) (by omega); have h2 := qtr_bd (u := 16384 - (a - 16384 * (a / 16384))) (by omega)
  unfold snF
  repeat' split
  all_goals omega
theorem snF_bd' {a : Int} (_ : 0 ≤ a) : -131073 ≤ snF a ∧ snF a ≤ 131073 := snF_bd
theorem and_65535' (n : Int) : bits .and .i64 n 65535 = n % 65536 := by
  have h127 : (BitVec.ofInt 64 65535).toNat = 2 ^ 16 - 1 := by decide
  have key : (BitVec.ofInt 64 n &&& BitVec.ofInt 64 65535).toNat = (n % ((2 ^ 64 : Nat) : Int)).toNat % 2 ^ 16 := by
    rw [BitVec.toNat_and, BitVec.toNat_ofInt, h127, Nat.and_two_pow_sub_one_eq_mod]
  show IntKind.i64.wrap ((BitVec.ofInt 64 n &&& BitVec.ofInt 64 65535).toNat : Nat) = n % 65536
  rw [key, IntKind.wrap_i64]
  omega
set_option maxRecDepth 100000 in
set_option maxHeartbeats 4000000 in
theorem quarter_core (u : Int) (i : Nat) (x0 x1 d : Int) (w : World) (hu : 0 ≤ u ∧ u < 16384) (hi : u / 256 = (i : Int)) (h0 : 0 ≤ x0 ∧ x0 ≤ 65536) (h1 : 0 ≤ x1 ∧ x1 ≤ 65536) (hd : rdiv ((x1 - x0) * (u - 256 * (i : Int))) 256 = d)
    (c0 : w.cell? ⟨0, i, none⟩ = some (.int .i64 x0)) (c1 : w.cell? ⟨0, i + 1, none⟩ = some (.int .i64 x1)) :
    Calls Tryd.prog 57 #[.int .i64 u] w fun z w' => z = .returned (.int .i64 (x0 + d)) ∧ ∃ k, w' = w.drewN k := by
  have hq := qtr_mul (t := u - 256 * (i : Int)) h0 h1 (by omega)
  have D := Lib.hid (show ∀ w, Calls Tryd.prog 44 #[.int .i64 ((x1 - x0) * (u - 256 * (i : Int))), .int .i64 256] w fun z w' => z = .returned (.int .i64 d) ∧ w = w' from fun w => by
    have := div_any ((x1 - x0) * (u - 256 * (i : Int))) 256 w (by omega) (by omega) (by omega) (by omega)
    rw [hd] at this
    exact this)
  rw [hd] at hq
  have q1 := wrap_in24 ((x1 - x0) * (u - 256 * (i : Int))) (by omega)
  have ht : u.tdiv 256 = (i : Int) := by rw [Int.tdiv_eq_ediv_of_nonneg hu.1]; exact hi
  have hg : decide (64 ≤ (i : Int)) = false := by simp; omega
  have k0 : (0 : Int) ≤ (i : Int) := by omega
  have k1 : (i : Int) < 65 := by omega
  have k2 : (i : Int) + 1 < 65 := by omega
  obtain ⟨j, hj⟩ : ∃ j : Nat, j = i + 1 := ⟨_, rfl⟩
  rw [← hj] at c1
  have k3 : (i : Int) + 1 = (j : Int) := by omega
  have k4 : (0 : Int) ≤ (j : Int) := by omega
  have k5 : (j : Int) < 65 := by omega
  have k6 := wrap_in24 (j : Int) (by omega)
  have hdb := hq.2
  clear hd hq hi hj
  go_enter Tryd.func57, Tryd.ntmps57
  go_wp2_with fail
  go_quiet ((go_at_call 44; (with_reducible refine quiet_tol (D.out _) ?_); exact ⟨_, rfl⟩))
  go_wp2_with fail
  go_ret
  exact ⟨rfl, _, rfl⟩
set_option maxHeartbeats 4000000 in
theorem quarter_any (u : Int) (w : World) (ht : TabA w) (hu : 0 ≤ u ∧ u ≤ 16384) :
    Calls Tryd.prog 57 #[.int .i64 u] w fun z w' => z = .returned (.int .i64 (qtr u)) ∧ ∃ k, w' = w.drewN k := by
  by_cases h : u = 16384
  · subst h
    have c := ht.2 64 (by omega)
    rw [show sns 64 = 65536 from rfl] at c
    go_enter Tryd.func57, Tryd.ntmps57
    go_wp2_with fail
    go_ret
    exact ⟨rfl, 0, rfl⟩
  · have := quarter_core u (u / 256).toNat (sns (u / 256).toNat) (sns ((u / 256).toNat + 1)) _ w (by omega) (by omega) (sns_bd _ (by omega)) (sns_bd _ (by omega)) rfl (ht.2 _ (by omega)) (ht.2 _ (by omega))
    unfold qtr
    rw [if_neg h]
    rw [show (((u / 256).toNat : Nat) : Int) = u / 256 by omega] at this
    exact this
/-- A number is returned. -/
def SnPost (x : Int) (w : World) (z : Ending) (w' : World) : Prop := z = .returned (.int .i64 x) ∧ ∃ k, w' = w.drewN k
def SrPost (x : Int) (w : World) (z : Ending) (w' : World) : Prop := z = .returned (.int .i64 x) ∧ Below w.heap.size w w'
set_option maxHeartbeats 4000000 in
theorem sine_0 (a x : Int) (w : World) (ha : 0 ≤ a ∧ a ≤ 16383) (_ : -131073 ≤ x ∧ x ≤ 131073) (T : Calls Tryd.prog 57 #[.int .i64 (a)] w (SnPost x w)) :
    Calls Tryd.prog 53 #[.int .i64 a] w (SnPost x w) := by
  have e1 : a.tdiv 16384 = 0 := by rw [Int.tdiv_eq_ediv_of_nonneg (by omega)]; omega
  have HT := Lib.hid T; clear T
  go_enter Tryd.func53, Tryd.ntmps53
  go_wp2_with ((go_at_call 57; refine HT.out.mono ?_; rintro z w4 ⟨rfl, k, rfl⟩))
  go_ret
  exact ⟨rfl, _, rfl⟩
set_option maxHeartbeats 4000000 in
theorem sine_1 (a x : Int) (w : World) (ha : 16384 ≤ a ∧ a ≤ 32767) (_ : -131073 ≤ x ∧ x ≤ 131073) (T : Calls Tryd.prog 57 #[.int .i64 (16384 - (a - 16384))] w (SnPost x w)) :
    Calls Tryd.prog 53 #[.int .i64 a] w (SnPost x w) := by
  have e1 : a.tdiv 16384 = 1 := by rw [Int.tdiv_eq_ediv_of_nonneg (by omega)]; omega
  have HT := Lib.hid T; clear T
  go_enter Tryd.func53, Tryd.ntmps53
  go_wp2_with ((go_at_call 57; refine HT.out.mono ?_; rintro z w4 ⟨rfl, k, rfl⟩))
  go_ret
  exact ⟨rfl, _, rfl⟩
set_option maxHeartbeats 4000000 in
theorem sine_2 (a x : Int) (w : World) (ha : 32768 ≤ a ∧ a ≤ 49151) (hx : -131073 ≤ x ∧ x ≤ 131073) (T : Calls Tryd.prog 57 #[.int .i64 (a - 32768)] w (SnPost x w)) :
    Calls Tryd.prog 53 #[.int .i64 a] w (SnPost (-x) w) := by
  have e1 : a.tdiv 16384 = 2 := by rw [Int.tdiv_eq_ediv_of_nonneg (by omega)]; omega
  have HT := Lib.hid T; clear T
  go_enter Tryd.func53, Tryd.ntmps53
  go_wp2_with ((go_at_call 57; refine HT.out.mono ?_; rintro z w4 ⟨rfl, k, rfl⟩))
  go_ret
  exact ⟨rfl, _, rfl⟩
set_option maxHeartbeats 4000000 in
theorem sine_3 (a x : Int) (w : World) (ha : 49152 ≤ a ∧ a ≤ 65535) (hx : -131073 ≤ x ∧ x ≤ 131073) (T : Calls Tryd.prog 57 #[.int .i64 (16384 - (a - 49152))] w (SnPost x w)) :
    Calls Tryd.prog 53 #[.int .i64 a] w (SnPost (-x) w) := by
  have e1 : a.tdiv 16384 = 3 := by rw [Int.tdiv_eq_ediv_of_nonneg (by omega)]; omega
  have HT := Lib.hid T; clear T
  go_enter Tryd.func53, Tryd.ntmps53
  go_wp2_with ((go_at_call 57; refine HT.out.mono ?_; rintro z w4 ⟨rfl, k, rfl⟩))
  go_ret
  exact ⟨rfl, _, rfl⟩
set_option maxHeartbeats 4000000 in
theorem rsine_0 (a x : Int) (w : World) (ha : 0 ≤ a ∧ a ≤ 16383) (_ : -131073 ≤ x ∧ x ≤ 131073) (T : Calls Tryd.prog 58 #[.int .i64 (a)] w (SrPost x w)) :
    Calls Tryd.prog 54 #[.int .i64 a] w (SrPost x w) := by
  have e1 : a.tdiv 16384 = 0 := by rw [Int.tdiv_eq_ediv_of_nonneg (by omega)]; omega
  have HT := Lib.hid T; clear T
  go_enter Tryd.func54, Tryd.ntmps54
  go_wp2_with ((go_at_call 58; refine HT.out.mono ?_; rintro z w4 ⟨rfl, hbv⟩))
  go_ret
  exact ⟨rfl, hbv⟩
set_option maxHeartbeats 4000000 in
theorem rsine_1 (a x : Int) (w : World) (ha : 16384 ≤ a ∧ a ≤ 32767) (_ : -131073 ≤ x ∧ x ≤ 131073) (T : Calls Tryd.prog 58 #[.int .i64 (16384 - (a - 16384))] w (SrPost x w)) :
    Calls Tryd.prog 54 #[.int .i64 a] w (SrPost x w) := by
  have e1 : a.tdiv 16384 = 1 := by rw [Int.tdiv_eq_ediv_of_nonneg (by omega)]; omega
  have HT := Lib.hid T; clear T
  go_enter Tryd.func54, Tryd.ntmps54
  go_wp2_with ((go_at_call 58; refine HT.out.mono ?_; rintro z w4 ⟨rfl, hbv⟩))
  go_ret
  exact ⟨rfl, hbv⟩
set_option maxHeartbeats 4000000 in
theorem rsine_2 (a x : Int) (w : World) (ha : 32768 ≤ a ∧ a ≤ 49151) (hx : -131073 ≤ x ∧ x ≤ 131073) (T : Calls Tryd.prog 58 #[.int .i64 (a - 32768)] w (SrPost x w)) :
    Calls Tryd.prog 54 #[.int .i64 a] w (SrPost (-x) w) := by
  have e1 : a.tdiv 16384 = 2 := by rw [Int.tdiv_eq_ediv_of_nonneg (by omega)]; omega
  have HT := Lib.hid T; clear T
  go_enter Tryd.func54, Tryd.ntmps54
  go_wp2_with ((go_at_call 58; refine HT.out.mono ?_; rintro z w4 ⟨rfl, hbv⟩))
  go_ret
  exact ⟨rfl, hbv⟩
set_option maxHeartbeats 4000000 in
theorem rsine_3 (a x : Int) (w : World) (ha : 49152 ≤ a ∧ a ≤ 65535) (hx : -131073 ≤ x ∧ x ≤ 131073) (T : Calls Tryd.prog 58 #[.int .i64 (16384 - (a - 49152))] w (SrPost x w)) :
    Calls Tryd.prog 54 #[.int .i64 a] w (SrPost (-x) w) := by
  have e1 : a.tdiv 16384 = 3 := by rw [Int.tdiv_eq_ediv_of_nonneg (by omega)]; omega
  have HT := Lib.hid T; clear T
  go_enter Tryd.func54, Tryd.ntmps54
  go_wp2_with ((go_at_call 58; refine HT.out.mono ?_; rintro z w4 ⟨rfl, hbv⟩))
  go_ret
  exact ⟨rfl, hbv⟩
theorem snF_0 {a : Int} (h : 0 ≤ a ∧ a ≤ 16383) : snF a = qtr a := by unfold snF; rw [if_pos (by omega), show a / 16384 = 0 by omega, Int.mul_zero, Int.sub_zero]
theorem snF_1 {a : Int} (h : 16384 ≤ a ∧ a ≤ 32767) : snF a = qtr (16384 - (a - 16384)) := by unfold snF; rw [if_neg (by omega), if_pos (by omega), show a / 16384 = 1 by omega, Int.mul_one]
theorem snF_2 {a : Int} (h : 32768 ≤ a ∧ a ≤ 49151) : snF a = -qtr (a - 32768) := by unfold snF; rw [if_neg (by omega), if_neg (by omega), if_pos (by omega), show a / 16384 = 2 by omega]; rfl
theorem snF_3 {a : Int} (h : 49152 ≤ a ∧ a ≤ 65535) : snF a = -qtr (16384 - (a - 49152)) := by unfold snF; rw [if_neg (by omega), if_neg (by omega), if_neg (by omega), show a / 16384 = 3 by omega]; rfl
theorem sine_any (a : Int) (w : World) (ht : TabA w) (ha : 0 ≤ a ∧ a ≤ 65535) : Calls Tryd.prog 53 #[.int .i64 a] w (SnPost (snF a) w) := by
  rcases (show a ≤ 16383 ∨ (16384 ≤ a ∧ a ≤ 32767) ∨ (32768 ≤ a ∧ a ≤ 49151) ∨ 49152 ≤ a by omega) with h | h | h | h
  · rw [snF_0 (by omega)]; exact sine_0 a _ w (by omega) (qtr_bd (by omega)) (quarter_any a w ht (by omega))
  · rw [snF_1 (by omega)]; exact sine_1 a _ w (by omega) (qtr_bd (by omega)) (quarter_any _ w ht (by omega))
  · rw [snF_2 (by omega)]; exact sine_2 a _ w (by omega) (qtr_bd (by omega)) (quarter_any _ w ht (by omega))
  · rw [snF_3 (by omega)]; exact sine_3 a _ w (by omega) (qtr_bd (by omega)) (quarter_any _ w ht (by omega))
set_option maxHeartbeats 4000000 in
theorem turn_any (x : Int) (w : World) (ht : TabA w) : Calls Tryd.prog 42 #[.int .i64 x] w fun z w' => z = .returned (.tuple #[.int .i64 (trn x).1, .int .i64 (trn x).2]) ∧ ∃ k, w' = w.drewN k := by
  have E := Lib.hid (and_65535' x)
  have eb := E.out
  have ha : 0 ≤ x % 65536 ∧ x % 65536 ≤ 65535 := by omega
  have er : (x % 65536 + 16384).tmod 65536 = (x % 65536 + 16384) % 65536 := Int.tmod_eq_emod_of_nonneg (by omega)
  have hb : 0 ≤ (x % 65536 + 16384) % 65536 ∧ (x % 65536 + 16384) % 65536 ≤ 65535 := by omega
  have D1 := Lib.hid (sine_any (x % 65536) w ht ha)
  have D2 := Lib.hid (fun k => sine_any ((x % 65536 + 16384) % 65536) (w.drewN k) (ht.below (Below.drewN' (Below.refl _ _) k)) hb)
  have E1 := Lib.hid (show (trn x).1 = snF (x % 65536) from rfl); have E2 := Lib.hid (show (trn x).2 = snF ((x % 65536 + 16384) % 65536) from rfl)
  generalize snF (x % 65536) = s at *
  generalize snF ((x % 65536 + 16384) % 65536) = t at *
  generalize hbb : (x % 65536 + 16384) % 65536 = b at *
  generalize haa : x % 65536 = a at *
  clear E ht
  go_enter Tryd.func42, Tryd.ntmps42
  go_wp2_with ((go_at_call 53; (first | with_reducible refine D1.out.mono ?_ | with_reducible refine (D2.out _).mono ?_); rintro z w4 ⟨rfl, k, rfl⟩))
  all_goals refine bodyPost_ret (v := .tuple #[.int .i64 s, .int .i64 t]) (by simp [results, Tryd.results42, go_sem]) rfl ⟨by rw [E1.out, E2.out], _, rfl⟩
set_option maxHeartbeats 1000000 in
theorem rotate_any (x : Int) (w : World) (ht : TabA w) :
    Calls Tryd.prog 22 #[.int .i64 x] w fun z w' => z = .returned (.agg #[.int .i64 (trn x).2, .int .i64 (trn x).1, .int .i64 (-(trn x).1), .int .i64 (trn x).2, .int .i64 0, .int .i64 0]) ∧ Below w.heap.size w w' := by
  have T := Lib.hid (fun w' (h : TabA w') => turn_any x w' h)
  have hb1 : -131073 ≤ (trn x).1 ∧ (trn x).1 ≤ 131073 := snF_bd' (by omega)
  generalize (trn x).1 = s at *
  generalize (trn x).2 = t at *
  go_enter Tryd.func22, Tryd.ntmps22
  go_wp2_with fail
  refine (T.out _ (ht.below (bel_alloc (Below.refl _ _) _))).mono ?_
  rintro z w4 ⟨rfl, k, rfl⟩
  have K := Lib.hid ((Bx.new w 23 #[.int .i64 0, .int .i64 0, .int .i64 0, .int .i64 0, .int .i64 0, .int .i64 0]).drewN k)
  have KB := Lib.hid (Below.drewN' (bel_alloc (Below.refl w.heap.size w) (.cells #[.int .i64 0, .int .i64 0, .int .i64 0, .int .i64 0, .int .i64 0, .int .i64 0] 23)) k)
  generalize World.drewN _ k = X at *
  obtain ⟨⟨c0, c1, c2, c3, c4, c5⟩, f0, f1, f2, f3, f4, f5⟩ := K.out.six
  go_wp2_with fail
  refine bodyPost_ret (v := .agg #[.int .i64 t, .int .i64 s, .int .i64 (-s), .int .i64 t, .int .i64 0, .int .i64 0]) (by simp [results, Tryd.results22, go_sem, c0, c1, c2, c3, c4, c5]) rfl ⟨rfl, ?_⟩
  repeat' (first | with_reducible exact KB.out | with_reducible apply Below.drew | with_reducible apply Below.drewN' | with_reducible apply Below.setCell)
  all_goals (exact Nat.le_refl _)
end Go.Proofs.YtanlnigebbcajaaDoor
