/- adjust.Check. -/
import Derived.Test.YtmbglkholoblaaaDoorAdjR
namespace Go.Proofs.YtmbglkholoblaaaDoor
open Go.RowKit

theorem cnt_le {k : Int} {n : Nat} (h : cntOk k n = true) : n ≤ 16 := by
  unfold cntOk at h
  repeat' split at h
  all_goals (have := of_decide_eq_true h; omega)
theorem cnt_2 {k : Int} {n : Nat} (h : cntOk k n = true) (hk : k = 2) : n = 5 := by subst hk; exact of_decide_eq_true h
theorem cnt_3 {k : Int} {n : Nat} (h : cntOk k n = true) (hk : k = 3) : 4 ≤ n ∧ n % 2 = 0 := by subst hk; have : 4 ≤ n ∧ n ≤ 16 ∧ n % 2 = 0 := of_decide_eq_true h; omega
theorem cnt_9 {k : Int} {n : Nat} (h : cntOk k n = true) (hk : k = 9) : n = 3 := by subst hk; exact of_decide_eq_true h
section
variable {k : Int} {l : List Int} {ss : List (Int × Px)}
theorem achk_8 (h : k < 1 ∨ 11 < k) : achk k l ss = 8 := by unfold achk; rw [if_pos h]
theorem achk_1 (h : ¬ (k < 1 ∨ 11 < k)) (h2 : cntOk k l.length = false ∨ (decide (0 < ss.length) ≠ decide (k = 10))) : achk k l ss = 1 := by unfold achk; rw [if_neg h, if_pos h2]
theorem achk_3 (h : ¬ (k < 1 ∨ 11 < k)) (h2 : ¬ (cntOk k l.length = false ∨ (decide (0 < ss.length) ≠ decide (k = 10)))) (h3 : 16 < ss.length) : achk k l ss = 3 := by unfold achk; rw [if_neg h, if_neg h2, if_pos h3]
theorem achk_2 (h : ¬ (k < 1 ∨ 11 < k)) (h2 : ¬ (cntOk k l.length = false ∨ (decide (0 < ss.length) ≠ decide (k = 10)))) (h3 : ¬ 16 < ss.length) (h4 : rngB k l ss = false) : achk k l ss = 2 := by unfold achk; rw [if_neg h, if_neg h2, if_neg h3, if_pos h4]
theorem achk_24 (h : ¬ (k < 1 ∨ 11 < k)) (h2 : ¬ (cntOk k l.length = false ∨ (decide (0 < ss.length) ≠ decide (k = 10)))) (h3 : ¬ 16 < ss.length) (h4 : rngB k l ss = true) (h5 : ordB k l ss = false) : achk k l ss = 24 := by unfold achk; rw [if_neg h, if_neg h2, if_neg h3, if_neg (by simp [h4]), if_pos h5]
theorem achk_0 (h : ¬ (k < 1 ∨ 11 < k)) (h2 : ¬ (cntOk k l.length = false ∨ (decide (0 < ss.length) ≠ decide (k = 10)))) (h3 : ¬ 16 < ss.length) (h4 : rngB k l ss = true) (h5 : ordB k l ss = true) : achk k l ss = 0 := by unfold achk; rw [if_neg h, if_neg h2, if_neg h3, if_neg (by simp [h4]), if_neg (by simp [h5])]
end
set_option maxRecDepth 100000 in
set_option maxHeartbeats 4000000 in
theorem acheck_core (k : Int) (A : Option Addr) (n c : Nat) (A' : Option Addr) (n' c' : Nat) (w : World) (E : Int) (cb rb ob : Bool) (hn' : n' ≤ 9223372036854775807)
    (hE8 : k < 1 ∨ 11 < k → E = 8) (hE : ¬ (k < 1 ∨ 11 < k) → E = if cb = false ∨ (decide (0 < n') ≠ decide (k = 10)) then 1 else if 16 < n' then 3 else if rb = false then 2 else if ob = false then 24 else 0)
    (TC : ¬ (k < 1 ∨ 11 < k) → ∀ w', Calls Tryd.prog 41 #[.int .i64 k, .int .i64 n] w' fun e w'' => e = .returned (.bool cb) ∧ w' = w'')
    (TR : ¬ (k < 1 ∨ 11 < k) → cb = true → Calls Tryd.prog 42 #[.int .i64 k, .slice A n c, .slice A' n' c'] w fun e w'' => e = .returned (.bool rb) ∧ Below w.heap.size w w'')
    (TO : ¬ (k < 1 ∨ 11 < k) → cb = true → n' ≤ 16 → ∀ w', Below w.heap.size w w' → Calls Tryd.prog 43 #[.int .i64 k, .slice A n c, .slice A' n' c'] w' fun e w'' => e = .returned (.bool ob) ∧ Below w'.heap.size w' w'') :
    Calls Tryd.prog 20 #[.int .i64 k, .slice A n c, .slice A' n' c'] w fun e w' => e = .returned (.int .i64 E) ∧ Below w.heap.size w w' := by
  by_cases h1 : k < 1
  · obtain rfl := hE8 (.inl h1)
    have d1 : decide (k < 1) = true := by simp; exact h1
    clear hE8 hE TC TR TO h1
    go_enter Tryd.func20, Tryd.ntmps20
    go_wp2
    go_ret
    exact ⟨rfl, Below.refl _ _⟩
  by_cases h2 : 11 < k
  · obtain rfl := hE8 (.inr h2)
    have d1 : decide (k < 1) = false := by simp; omega
    have d2 : decide (11 < k) = true := by simp; exact h2
    clear hE8 hE TC TR TO h1 h2
    go_enter Tryd.func20, Tryd.ntmps20
    go_wp2
    go_ret
    exact ⟨rfl, Below.refl _ _⟩
  have hk : ¬ (k < 1 ∨ 11 < k) := by omega
  have hE' := hE hk
  have HTC := Lib.hid (TC hk); have HTR := Lib.hid (TR hk); have HTO := Lib.hid (TO hk)
  have d1 : decide (k < 1) = false := by simp; omega
  have d2 : decide (11 < k) = false := by simp; omega
  clear hE8 hE TC TR TO h1 h2 hk
  cases cb
  · rw [if_pos (.inl rfl)] at hE'
    subst hE'
    go_enter Tryd.func20, Tryd.ntmps20
    go_wp2_with fail
    refine (HTC.out _).mono ?_
    rintro e w1 ⟨rfl, rfl⟩
    go_wp2_with fail
    go_ret
    exact ⟨rfl, Below.refl _ _⟩
  obtain ⟨p, hp⟩ : ∃ p, decide (0 < n') = p := ⟨_, rfl⟩
  obtain ⟨q, hq⟩ : ∃ q, decide (k = 10) = q := ⟨_, rfl⟩
  have d3 : decide (0 < (n' : Int)) = p := by rw [← hp]; simp
  have d4 : (k == 10) = q := by rw [← hq]; rfl
  have d5 : decide (0 < n') = p := hp
  rw [hp, hq] at hE'
  clear hp hq
  by_cases hpq : p = q
  rotate_left
  · rw [if_pos (.inr hpq)] at hE'
    subst hE'
    have d6 : (p == q) = false := by simp [hpq]
    clear hpq
    go_enter Tryd.func20, Tryd.ntmps20
    go_wp2_with fail
    refine (HTC.out _).mono ?_
    rintro e w1 ⟨rfl, rfl⟩
    go_wp2_with fail
    go_ret
    exact ⟨rfl, Below.refl _ _⟩
  subst hpq
  have d6 : (p != p) = false := by simp
  rw [if_neg (by simp)] at hE'
  by_cases h16 : 16 < n'
  · rw [if_pos h16] at hE'
    subst hE'
    have d7 : decide (16 < (n' : Int)) = true := by simp; omega
    clear h16
    go_enter Tryd.func20, Tryd.ntmps20
    go_wp2_with fail
    refine (HTC.out _).mono ?_
    rintro e w1 ⟨rfl, rfl⟩
    go_wp2_with fail
    go_ret
    exact ⟨rfl, Below.refl _ _⟩
  rw [if_neg h16] at hE'
  have d7 : decide (16 < (n' : Int)) = false := by simp; omega
  have HO := Lib.hid (HTO.out rfl (by omega))
  have HR := Lib.hid (HTR.out rfl)
  clear h16 HTO HTR
  cases rb
  · rw [if_pos rfl] at hE'
    subst hE'
    go_enter Tryd.func20, Tryd.ntmps20
    go_wp2_with fail
    refine (HTC.out _).mono ?_
    rintro e w1 ⟨rfl, rfl⟩
    go_wp2_with fail
    refine HR.out.mono ?_
    rintro e w2 ⟨rfl, hb2⟩
    go_wp2_with fail
    go_ret
    exact ⟨rfl, hb2⟩
  rw [if_neg (by simp)] at hE'
  cases ob
  all_goals
    simp at hE'
    subst hE'
    go_enter Tryd.func20, Tryd.ntmps20
    go_wp2_with fail
    refine (HTC.out _).mono ?_
    rintro e w1 ⟨rfl, rfl⟩
    go_wp2_with fail
    refine HR.out.mono ?_
    rintro e w2 ⟨rfl, hb2⟩
    go_wp2_with fail
    refine (HO.out _ hb2).mono ?_
    rintro e w3 ⟨rfl, hb3⟩
    go_wp2_with fail
    go_ret
    exact ⟨rfl, bel_trans hb2 hb3⟩
/-- Check. -/
theorem acheck_any (k : Int) (l : List Int) (ss : List (Int × Px)) (A : Option Addr) (c : Nat) (A' : Option Addr) (c' : Nat) (w : World) (h : Ints w w.heap.size (.slice A l.length c) l) (hs : Stps w w.heap.size (.slice A' ss.length c') ss) :
    Calls Tryd.prog 20 #[.int .i64 k, .slice A l.length c, .slice A' ss.length c'] w fun e w' => e = .returned (.int .i64 (achk k l ss)) ∧ Below w.heap.size w w' := by
  have hlm : l.length ≤ 9223372036854775807 := by obtain ⟨_, _, _, hm, _⟩ := h; omega
  have hsm : ss.length ≤ 9223372036854775807 := by obtain ⟨_, _, _, hm, _⟩ := hs; omega
  refine acheck_core k A l.length c A' ss.length c' w (achk k l ss) (cntOk k l.length) (rngB k l ss) (ordB k l ss) hsm achk_8 (fun hk => by unfold achk; rw [if_neg hk]) (fun hk w' => counted_any k (by omega) (by omega) _ hlm w')
    (fun hk hc => ranged_any k (by omega) (by omega) l ss (cnt_9 hc) A c A' c' w h hs)
    (fun hk hc hn w' hb => ordered_any k l ss (cnt_2 hc) (cnt_3 hc) A c A' c' w' ((h.below hb).more hb.size) (hs.on hb) (cnt_le hc) hn)
end Go.Proofs.YtmbglkholoblaaaDoor
