/- The reference's small functions: limit, value, pick, quotient; the plain law of its sums. -/
import Derived.Test.YtineinmghajmnaaME
import Derived.Test.YtineinmghajmnaaML
import Derived.Deep.LoopGhost
namespace Go.Proofs.Ytineinmghajmnaa
open Go.RowKit
attribute [local go_sem 2000] run_max2m run_min2m
/-- A channel: 0 red, 1 green, 2 blue. -/
def chn (k : Nat) (p : Px) : Int := if k = 1 then p.g else if k = 2 then p.b else p.r
def bsC (k : Nat) (l : List (Int × Px)) : Int := (l.map fun t => t.1 * t.2.a * chn k t.2).sum
theorem bsC_0 (l : List (Int × Px)) : bsC 0 l = bsR l := by simp [bsC, bsR, chn]
theorem bsC_1 (l : List (Int × Px)) : bsC 1 l = bsG l := by simp [bsC, bsG, chn]
theorem bsC_2 (l : List (Int × Px)) : bsC 2 l = bsB l := by simp [bsC, bsB, chn]
theorem bsC_snoc (k : Nat) (l : List (Int × Px)) (t : Int × Px) : bsC k (l ++ [t]) = bsC k l + t.1 * t.2.a * chn k t.2 := by simp [bsC]
theorem chn_ok {p : Px} (h : p.ok) (k : Nat) : 0 ≤ chn k p ∧ chn k p ≤ 65535 := by
  obtain ⟨h1, h2, h3, h4⟩ := h
  unfold chn
  split
  · exact h2
  · split
    · exact h3
    · exact h1
theorem mul_small {w B v M : Int} (hw : -B ≤ w ∧ w ≤ B) (hv : 0 ≤ v ∧ v ≤ M) (hB : 0 ≤ B) : -(B * M) ≤ w * v ∧ w * v ≤ B * M := by
  have h1 : w * v ≤ B * v := Int.mul_le_mul_of_nonneg_right hw.2 hv.1
  have h2 : -B * v ≤ w * v := Int.mul_le_mul_of_nonneg_right hw.1 hv.1
  have h3 : B * v ≤ B * M := Int.mul_le_mul_of_nonneg_left hv.2 hB
  rw [Int.neg_mul] at h2
  omega
theorem mul_both {u v B M : Int} (hu : -B ≤ u ∧ u ≤ B) (hv : -M ≤ v ∧ v ≤ M) (hB : 0 ≤ B) : -(B * M) ≤ u * v ∧ u * v ≤ B * M := by
  rcases Int.le_total 0 v with c | c
  · have h1 : u * v ≤ B * v := Int.mul_le_mul_of_nonneg_right hu.2 c
    have h2 : -B * v ≤ u * v := Int.mul_le_mul_of_nonneg_right hu.1 c
    have h3 : B * v ≤ B * M := Int.mul_le_mul_of_nonneg_left hv.2 hB
    rw [Int.neg_mul] at h2
    omega
  · have h1 : u * v ≤ -B * v := Int.mul_le_mul_of_nonpos_right hu.1 c
    have h2 : B * v ≤ u * v := Int.mul_le_mul_of_nonpos_right hu.2 c
    have h3 : B * (-M) ≤ B * v := Int.mul_le_mul_of_nonneg_left hv.1 hB
    rw [Int.neg_mul] at h1
    rw [Int.mul_neg] at h3
    omega
/-- The sum of a row of weighted channels. -/
def rowS (us : List Int) (f : Nat → Px) (c : Nat) : Nat → Int
  | 0 => 0
  | j + 1 => rowS us f c j + us.getD j 0 * chn c (f j) * (f j).a
theorem rowS_succ (us : List Int) (f : Nat → Px) (c j : Nat) : rowS us f c (j + 1) = rowS us f c j + us.getD j 0 * chn c (f j) * (f j).a := rfl
/-- The sums of the rows' whole parts, and of their rests. -/
def wholeS (vs : List Int) (R : Nat → Int) : Nat → Int
  | 0 => 0
  | k + 1 => wholeS vs R k + vs.getD k 0 * (R k / 65536)
def restS (vs : List Int) (R : Nat → Int) : Nat → Int
  | 0 => 0
  | k + 1 => restS vs R k + vs.getD k 0 * (R k - R k / 65536 * 65536)
theorem wholeS_succ (vs : List Int) (R : Nat → Int) (k : Nat) : wholeS vs R (k + 1) = wholeS vs R k + vs.getD k 0 * (R k / 65536) := rfl
theorem restS_succ (vs : List Int) (R : Nat → Int) (k : Nat) : restS vs R (k + 1) = restS vs R k + vs.getD k 0 * (R k - R k / 65536 * 65536) := rfl
section
variable {px : Int → Int → Px} {fx fy : Int} {us vs : List Int}
theorem bsC_row (c k : Nat) : ∀ j, bsC c (wpre px fx fy us vs k j) = bsC c (wpre px fx fy us vs k 0) + vs.getD k 0 * rowS us (fun j => px (fx + j) (fy + k)) c j
  | 0 => by simp [rowS]
  | j + 1 => by
    rw [wpre_step, bsC_snoc, bsC_row c k j]
    rw [rowS_succ]
    unfold wcell
    dsimp only
    generalize us.getD j 0 = u
    generalize vs.getD k 0 = v
    generalize px (fx + (j : Int)) (fy + (k : Int)) = p
    generalize chn c p = q
    generalize p.a = a
    generalize rowS us (fun j => px (fx + ↑j) (fy + ↑k)) c j = r
    have : u * v * a * q = v * (u * q * a) := by grind
    rw [this, Int.mul_add]
    omega
theorem bsC_all (c : Nat) : ∀ k, bsC c (wpre px fx fy us vs k 0) = 65536 * wholeS vs (fun k => rowS us (fun j => px (fx + j) (fy + k)) c us.length) k + restS vs (fun k => rowS us (fun j => px (fx + j) (fy + k)) c us.length) k
  | 0 => by simp [wholeS, restS, bsC, wpre]
  | k + 1 => by
    rw [← wpre_row, bsC_row c k us.length, bsC_all c k]
    rw [wholeS_succ, restS_succ]
    generalize vs.getD k 0 = v
    generalize rowS us (fun j => px (fx + ↑j) (fy + ↑k)) c us.length = r
    generalize wholeS vs (fun k => rowS us (fun j => px (fx + ↑j) (fy + ↑k)) c us.length) k = W
    generalize restS vs (fun k => rowS us (fun j => px (fx + ↑j) (fy + ↑k)) c us.length) k = Z
    have e1 : 65536 * (W + v * (r / 65536)) + (Z + v * (r - r / 65536 * 65536)) = 65536 * W + Z + v * r := by
      generalize r / 65536 = q
      grind
    rw [e1]
theorem rowS_bd (hu : ∀ i : Nat, -65600 ≤ us.getD i 0 ∧ us.getD i 0 ≤ 65600) {f : Nat → Px} (hf : ∀ j, (f j).ok) (c : Nat) : ∀ j : Nat, (-(281741656560000 * (j : Int)) ≤ rowS us f c j ∧ rowS us f c j ≤ 281741656560000 * (j : Int)) ∧ (-4299096000 ≤ us.getD j 0 * chn c (f j) ∧ us.getD j 0 * chn c (f j) ≤ 4299096000) ∧ -281741656560000 ≤ us.getD j 0 * chn c (f j) * (f j).a ∧ us.getD j 0 * chn c (f j) * (f j).a ≤ 281741656560000
  | 0 => by
    have h1 := mul_small (hu 0) (chn_ok (hf 0) c) (by omega)
    have h2 := mul_small h1 (hf 0).2.2.2 (by omega)
    refine ⟨by simp [rowS], ⟨by omega, by omega⟩, by omega, by omega⟩
  | j + 1 => by
    have ih := rowS_bd hu hf c j
    have h1 := mul_small (hu (j + 1)) (chn_ok (hf (j + 1)) c) (by omega)
    have h2 := mul_small h1 (hf (j + 1)).2.2.2 (by omega)
    refine ⟨?_, ⟨by omega, by omega⟩, by omega, by omega⟩
    rw [rowS_succ]
    omega
theorem wholeS_bd (hv : ∀ i : Nat, -65600 ≤ vs.getD i 0 ∧ vs.getD i 0 ≤ 65600) {R : Nat → Int} (hR : ∀ k, -1126966626240000 ≤ R k ∧ R k ≤ 1126966626240000) : ∀ k : Nat, ((-(1128067440000000 * (k : Int)) ≤ wholeS vs R k ∧ wholeS vs R k ≤ 1128067440000000 * (k : Int)) ∧ -1128067440000000 ≤ vs.getD k 0 * (R k / 65536) ∧ vs.getD k 0 * (R k / 65536) ≤ 1128067440000000) ∧ (-(4299161600 * (k : Int)) ≤ restS vs R k ∧ restS vs R k ≤ 4299161600 * (k : Int)) ∧ -4299161600 ≤ vs.getD k 0 * (R k - R k / 65536 * 65536) ∧ vs.getD k 0 * (R k - R k / 65536 * 65536) ≤ 4299161600
  | 0 => by
    have h0 := hR 0
    have h1 := mul_both (hv 0) (v := R 0 / 65536) (M := 17196150000) (by omega) (by omega)
    have h2 := mul_small (hv 0) (v := R 0 - R 0 / 65536 * 65536) (M := 65536) (by omega) (by omega)
    refine ⟨⟨by simp [wholeS], by omega, by omega⟩, by simp [restS], by omega, by omega⟩
  | k + 1 => by
    have ih := wholeS_bd hv hR k
    have h0 := hR (k + 1)
    have h1 := mul_both (hv (k + 1)) (v := R (k + 1) / 65536) (M := 17196150000) (by omega) (by omega)
    have h2 := mul_small (hv (k + 1)) (v := R (k + 1) - R (k + 1) / 65536 * 65536) (M := 65536) (by omega) (by omega)
    rw [wholeS_succ, restS_succ]
    omega
end
set_option maxHeartbeats 400000 in
theorem rlim14_any (x : Int) (w : World) : Calls Try.prog 66 #[.int .i64 x] w fun e w' => e = .returned (.int .i64 (lim16 x)) ∧ w = w' := by
  have E := Lib.hid (show min (max x 0) 65535 = lim16 x by unfold lim16; omega)
  go_enter Try.func66, Try.ntmps66
  go_wp2_with fail
  go_ret
  exact ⟨ret_int E.out, rfl⟩
set_option maxHeartbeats 1000000 in
theorem rvalue_any (p : Px) (k : Nat) (hk : k < 3) (w : World) : Calls Try.prog 67 #[.agg #[.int .i64 p.r, .int .i64 p.g, .int .i64 p.b, .int .i64 p.a], .int .i64 (k : Int)] w fun e w' => e = .returned (.int .i64 (chn k p)) ∧ Below w.heap.size w w' := by
  rcases (show (((k : Int) == 0) = true ∧ chn k p = p.r) ∨ (((k : Int) == 0) = false ∧ ((k : Int) == 1) = true ∧ chn k p = p.g) ∨ (((k : Int) == 0) = false ∧ ((k : Int) == 1) = false ∧ chn k p = p.b) by
    rcases (show k = 0 ∨ k = 1 ∨ k = 2 by omega) with e | e | e <;> subst e <;> simp [chn]) with ⟨b1, e⟩ | ⟨b1, b2, e⟩ | ⟨b1, b2, e⟩
  all_goals
    rw [e]
    clear e hk
    go_enter Try.func67, Try.ntmps67
    go_upto_region 1 with fail
    obtain ⟨hb1, hB, -⟩ := one_box w #[.int .i64 p.r, .int .i64 p.g, .int .i64 p.b, .int .i64 p.a] 27 _ rfl
    have HB := Lib.hid hB
    generalize World.alloc w _ = w0 at *
    obtain ⟨⟨r1, r2, r3, r4⟩, -⟩ := hb1.four
    clear hb1 hB
    go_wp2_with fail
    go_ret
    exact ⟨rfl, HB.out⟩
/-- The pixels of a source of the reference. -/
def srcP (W H : Int) (ps : List Px) (edge : Bool) (x y : Int) : Px := if edge = true then pnear W H ps x y else pick W H ps x y
set_option maxHeartbeats 2000000 in
theorem rpick14_core (W H x y x' y' : Int) (v : Value) (edge : Bool) (u : Px) (w : World) (hW : IntKind.i64.wrap (W - 1) = W - 1) (hH : IntKind.i64.wrap (H - 1) = H - 1)
    (hx : edge = true → min (max x 0) (W - 1) = x' ∧ min (max y 0) (H - 1) = y') (hx2 : edge = false → x = x' ∧ y = y')
    (TP : ∀ w', Below w.heap.size w w' → Calls Try.prog 90 #[.agg #[.int .i64 W, .int .i64 H, v], .int .i64 x', .int .i64 y'] w' (PxPost u w')) :
    Calls Try.prog 63 #[.agg #[.int .i64 W, .int .i64 H, v], .int .i64 x, .int .i64 y, .bool edge] w (PxPost u w) := by
  replace TP := Lib.hid TP
  cases edge
  · obtain ⟨rfl, rfl⟩ := hx2 rfl
    clear hx hx2
    go_enter Try.func63, Try.ntmps63
    go_upto_region 1 with fail
    have K := Lib.hid (fr_two w #[.int .i64 W, .int .i64 H, v] #[.int .i64 0, .int .i64 0, .int .i64 0, .int .i64 0] 24 27 _ rfl)
    generalize World.alloc (World.alloc w _) _ = w0 at *
    obtain ⟨⟨i1, i2, i3⟩, -⟩ := K.out.1.1.three
    go_wp2_with fail
    refine (TP.out _ K.out.2).mono ?_
    rintro e w1 ⟨rfl, hb⟩
    replace K := Lib.hid (K.out.below hb)
    clear i1 i2 i3 hb
    obtain ⟨⟨r1, r2, r3, r4⟩, f1, f2, f3, f4⟩ := K.out.1.2.1.four
    have HB := Lib.hid K.out.2
    clear K
    go_wp2_with fail
    refine bodyPost_ret (v := .agg #[.int .i64 u.r, .int .i64 u.g, .int .i64 u.b, .int .i64 u.a]) (by simp [results, Try.results63, go_sem, r1, r2, r3, r4]) rfl ⟨rfl, ?_⟩
    exact set4_below HB.out (by omega) _ _ _ _ _ _ _ _
  · obtain ⟨e1, e2⟩ := hx rfl
    clear hx hx2
    go_enter Try.func63, Try.ntmps63
    go_upto_region 1 with fail
    have K := Lib.hid (fr_two w #[.int .i64 W, .int .i64 H, v] #[.int .i64 0, .int .i64 0, .int .i64 0, .int .i64 0] 24 27 _ rfl)
    generalize World.alloc (World.alloc w _) _ = w0 at *
    obtain ⟨⟨i1, i2, i3⟩, -⟩ := K.out.1.1.three
    go_wp2_with fail
    refine (TP.out _ K.out.2).mono ?_
    rintro e w1 ⟨rfl, hb⟩
    replace K := Lib.hid (K.out.below hb)
    clear i1 i2 i3 hb
    obtain ⟨⟨r1, r2, r3, r4⟩, f1, f2, f3, f4⟩ := K.out.1.2.1.four
    have HB := Lib.hid K.out.2
    clear K
    go_wp2_with fail
    refine bodyPost_ret (v := .agg #[.int .i64 u.r, .int .i64 u.g, .int .i64 u.b, .int .i64 u.a]) (by simp [results, Try.results63, go_sem, r1, r2, r3, r4]) rfl ⟨rfl, ?_⟩
    exact set4_below HB.out (by omega) _ _ _ _ _ _ _ _
theorem rpick14_any (W H : Int) (A : Option Addr) (c : Nat) (ps : List Px) (x y : Int) (edge : Bool) (w : World) (io : IOk W H ps) (hp : Pixs w w.heap.size (.slice A ps.length c) ps) :
    Calls Try.prog 63 #[.agg #[.int .i64 W, .int .i64 H, .slice A ps.length c], .int .i64 x, .int .i64 y, .bool edge] w (PxPost (srcP W H ps edge x y) w) := by
  have i0 := io.w0; have i1 := io.w1; have i2 := io.h0; have i3 := io.h1
  unfold srcP
  cases edge
  · exact rpick14_core W H x y x y _ false _ w (wrap_in _ (by omega)) (wrap_in _ (by omega)) (fun h => by cases h) (fun _ => ⟨rfl, rfl⟩) (fun w' hb => pick_any W H A ps.length c ps x y w' io (hp.on hb))
  · exact rpick14_core W H x y _ _ _ true _ w (wrap_in _ (by omega)) (wrap_in _ (by omega)) (fun _ => ⟨rfl, rfl⟩) (fun h => by cases h) (fun w' hb => pick_any W H A ps.length c ps _ _ w' io (hp.on hb))
/-- Quotient and remainder after n doublings. -/
def qA (p s : Int) (n : Nat) : Int := p * 2 ^ n / s
def qB (p s : Int) (n : Nat) : Int := p * 2 ^ n - p * 2 ^ n / s * s
theorem qB_bd (p s : Int) (hs : 0 < s) (n : Nat) : 0 ≤ qB p s n ∧ qB p s n < s := by
  have h := div_mul (p * 2 ^ n) s hs
  unfold qB
  rw [Int.mul_comm (p * 2 ^ n / s) s]
  exact h
theorem q_step (p s : Int) (hs : 0 < s) (n : Nat) : (s ≤ 2 * qB p s n → qA p s (n + 1) = 2 * qA p s n + 1 ∧ qB p s (n + 1) = 2 * qB p s n - s) ∧ (¬ s ≤ 2 * qB p s n → qA p s (n + 1) = 2 * qA p s n ∧ qB p s (n + 1) = 2 * qB p s n) := by
  have hb := qB_bd p s hs n
  have e2 : p * 2 ^ (n + 1) = 2 * (p * 2 ^ n) := by rw [Int.pow_succ, ← Int.mul_assoc]; omega
  unfold qA qB at *
  rw [e2]
  generalize p * 2 ^ n = X at *
  have hm : s * (2 * (X / s)) = 2 * (X / s * s) := by rw [← Int.mul_assoc, Int.mul_comm s 2, Int.mul_assoc, Int.mul_comm s (X / s)]
  have hm2 : s * (2 * (X / s) + 1) = 2 * (X / s * s) + s := by rw [Int.mul_add, hm, Int.mul_one]
  constructor
  · intro h
    have e : 2 * X / s = 2 * (X / s) + 1 := ediv_unique _ _ _ hs (by omega) (by omega)
    rw [e, Int.mul_comm (2 * (X / s) + 1) s, hm2]
    exact ⟨rfl, by omega⟩
  · intro h
    have e : 2 * X / s = 2 * (X / s) := ediv_unique _ _ _ hs (by omega) (by omega)
    rw [e, Int.mul_comm (2 * (X / s)) s, hm]
    exact ⟨rfl, by omega⟩
def QtRel (p s : Int) (w : World) (gh : Nat) (a b i : Value) (wr : World) : Prop := ∃ n : Nat, n ≤ 16 ∧ gh = 16 - n ∧ a = .int .i64 (qA p s n) ∧ b = .int .i64 (qB p s n) ∧ i = .int .i64 (n : Int) ∧ ∃ k, wr = w.drewN k
set_option maxHeartbeats 2000000 in
theorem rquo14_any (p q s : Int) (w : World) (hp : -9007199254740992 ≤ p ∧ p ≤ 9007199254740992) (hq : -1099511627776 ≤ q ∧ q ≤ 1099511627776) (hs : 1048576 ≤ s ∧ s ≤ 9007199254740992) :
    Calls Try.prog 68 #[.int .i64 p, .int .i64 q, .int .i64 s] w fun e w' => e = .returned (.int .i64 (rdiv (65536 * p + q) s)) ∧ ∃ k, w' = w.drewN k := by
  have hpA : ∀ n, n ≤ 16 → -562949953421312 ≤ qA p s n ∧ qA p s n ≤ 562949953421312 := by
    intro n hn
    have h2 : (1 : Int) ≤ 2 ^ n ∧ (2 : Int) ^ n ≤ 65536 := by
      have : n = 0 ∨ n = 1 ∨ n = 2 ∨ n = 3 ∨ n = 4 ∨ n = 5 ∨ n = 6 ∨ n = 7 ∨ n = 8 ∨ n = 9 ∨ n = 10 ∨ n = 11 ∨ n = 12 ∨ n = 13 ∨ n = 14 ∨ n = 15 ∨ n = 16 := by omega
      rcases this with h | h | h | h | h | h | h | h | h | h | h | h | h | h | h | h | h <;> subst h <;> decide
    have h3 := mul_small hp (v := 2 ^ n) (M := 65536) (by omega) (by omega)
    have h4 : s * (-562949953421312) ≤ 1048576 * (-562949953421312) := Int.mul_le_mul_of_nonpos_right hs.1 (by omega)
    have h5 : 1048576 * 562949953421312 ≤ s * 562949953421312 := Int.mul_le_mul_of_nonneg_right hs.1 (by omega)
    unfold qA
    generalize p * 2 ^ n = X at *
    constructor
    · rw [Int.le_ediv_iff_mul_le (by omega), Int.mul_comm]
      omega
    · have : X / s < 562949953421313 := by
        rw [Int.ediv_lt_iff_lt_mul (by omega), Int.mul_comm]
        have : s * 1099511627777 = s * 1099511627776 + s := by rw [show (1099511627777 : Int) = 1099511627776 + 1 by rfl, Int.mul_add, Int.mul_one]
        omega
      omega
  have HA := Lib.hid hpA
  have HB := Lib.hid (fun n => qB_bd p s (by omega) n)
  have HS := Lib.hid (fun n => q_step p s (by omega) n)
  have F := Lib.hid (fun w' => rfloor_any p s w' (by omega) (by omega) (by omega) (by omega))
  have e0 : qA p s 0 = p / s ∧ qB p s 0 = p - p / s * s := by unfold qA qB; simp
  have hb0 := qB_bd p s (by omega) 0
  have ha0 := hpA 0 (by omega)
  rw [e0.1] at ha0
  rw [e0.2] at hb0
  have w1 := wrap_in (p / s * s) (by omega); have w2 := wrap_in (p - p / s * s) (by omega)
  have HE0 := Lib.hid e0
  have HFIN := Lib.hid (show qA p s 16 + rdiv (qB p s 16 + q) s = rdiv (65536 * p + q) s by
    have := rdiv_shift (qB p s 16 + q) s (qA p s 16) (by omega)
    rw [Int.add_comm, ← this]
    congr 1
    unfold qA qB
    rw [Int.mul_comm s]
    omega)
  have DV := Lib.hid (fun w' => rdiv_any (qB p s 16 + q) s w' (by have := qB_bd p s (by omega) 16; omega) (by have := qB_bd p s (by omega) 16; omega) (by omega) (by omega))
  have hrd : -4398046511104 ≤ rdiv (qB p s 16 + q) s ∧ rdiv (qB p s 16 + q) s ≤ 4398046511104 := by
    have hb := qB_bd p s (by omega) 16
    have h4 : s * (-4398046511104) ≤ 1048576 * (-4398046511104) := Int.mul_le_mul_of_nonpos_right hs.1 (by omega)
    have h5 : 1048576 * 4398046511104 ≤ s * 4398046511104 := Int.mul_le_mul_of_nonneg_right hs.1 (by omega)
    exact ⟨rdiv_lo _ _ _ (by omega) (by omega), rdiv_hi _ _ _ (by omega) (by omega)⟩
  have HRD := Lib.hid hrd
  clear hpA e0 ha0 hb0 hrd
  go_enter Try.func68, Try.ntmps68
  go_wp2_with fail
  refine (F.out _).mono ?_
  rintro e w' ⟨rfl, k0, rfl⟩
  go_wp2_with fail
  go_loopg [7, 8, 9] 16 (QtRel p s w)
  case atStart => exact ⟨0, by omega, rfl, by rw [HE0.out.1], by rw [HE0.out.2], rfl, _, rfl⟩
  case round =>
    obtain ⟨n, hn, rfl, rfl, rfl, rfl, k, rfl⟩ := hrel
    have ha := HA.out n hn; have hb := HB.out n; have hst := HS.out n
    by_cases hlt : n < 16
    · have hn1 : (n : Int) < 16 := by omega
      have ha1 := HA.out (n + 1) (by omega)
      by_cases hc : s ≤ 2 * qB p s n
      · obtain ⟨s1, s2⟩ := hst.1 (by omega)
        have HS1 := Lib.hid s1; have HS2 := Lib.hid s2
        rw [s1] at ha1
        clear hst s1 s2 w1 w2
        generalize qA p s n = a at *
        generalize qB p s n = b at *
        have v1 := wrap_in (a * 2) (by omega); have v2 := wrap_in (b * 2) (by omega); have v3 := wrap_in (b * 2 - s) (by omega); have v4 := wrap_in (a * 2 + 1) (by omega)
        have hc2 : s ≤ b * 2 := by omega
        go_wp2_with fail
        go_roundg (16 - (n + 1))
        case measure => omega
        case rel => exact ⟨n + 1, by omega, rfl, by rw [HS1.out]; congr 1; omega, by rw [HS2.out]; congr 1; omega, by go_num, _, rfl⟩
      · obtain ⟨s1, s2⟩ := hst.2 (by omega)
        have HS1 := Lib.hid s1; have HS2 := Lib.hid s2
        rw [s1] at ha1
        clear hst s1 s2 w1 w2
        generalize qA p s n = a at *
        generalize qB p s n = b at *
        have v1 := wrap_in (a * 2) (by omega); have v2 := wrap_in (b * 2) (by omega)
        have hc2 : ¬ s ≤ b * 2 := by omega
        go_wp2_with fail
        go_roundg (16 - (n + 1))
        case measure => omega
        case rel => exact ⟨n + 1, by omega, rfl, by rw [HS1.out]; congr 1; omega, by rw [HS2.out]; congr 1; omega, by go_num, _, rfl⟩
    · obtain rfl : n = 16 := by omega
      have hrd := HRD.out
      have v1 := wrap_in (qB p s 16 + q) (by omega); have v2 := wrap_in (qA p s 16 + rdiv (qB p s 16 + q) s) (by omega)
      clear hst w1 w2
      go_wp2_with fail
      refine (DV.out _).mono ?_
      rintro e w' ⟨rfl, k2, rfl⟩
      go_wp2_with fail
      go_ret
      exact ⟨ret_int HFIN.out, _, rfl⟩
end Go.Proofs.Ytineinmghajmnaa
