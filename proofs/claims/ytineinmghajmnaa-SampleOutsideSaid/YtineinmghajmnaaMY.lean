/- The division of 128 bits by 64, digit by digit: plain arithmetic. No program in sight. -/
import Derived.Test.YtineinmghajmnaaMC
import Derived.Test.YtineinmghajmnaaMA
import Derived.Test.YtineinmghajmnaaMB
import Derived.Test.YtineinmghajmnaaMX
import Derived.Deep.LoopGhost
import Derived.Laws.Bits64b
import Derived.Deep.DeepCutAuto
import Derived.Deep.CutBlock
import Derived.Lib.ItoaNum
namespace Go.Proofs.Ytineinmghajmnaa

theorem spl (q y : Nat) : q * y = q * (y / 4294967296) * 4294967296 + q * (y % 4294967296) := by
  have hy := Nat.div_add_mod y 4294967296
  rw [Nat.mul_assoc, Nat.mul_comm (y / 4294967296), ← Nat.mul_add, hy]
theorem words (N : Nat) : N = N / 18446744073709551616 * 18446744073709551616 + N % 18446744073709551616 / 4294967296 * 4294967296 + N % 4294967296 := by omega
/-- The true digit. -/
def dgT (y u d : Nat) : Nat := (u * 4294967296 + d) / y
def dgR (y u d : Nat) : Nat := (u * 4294967296 + d) % y
/-- A guess that is not too small, with its remainder by the upper half. -/
structure DgInv (y u d q r : Nat) : Prop where
  y0 : 9223372036854775808 ≤ y
  y1 : y < 18446744073709551616
  u1 : u < y
  d1 : d < 4294967296
  eq : q * (y / 4294967296) + r = u
  ge : dgT y u d ≤ q
  q1 : q ≤ 4294967297
  r1 : r < 4294967296
section
variable {y u d q r : Nat}
theorem dg_lt (y1 : 0 < y) (u1 : u < y) (d1 : d < 4294967296) : dgT y u d < 4294967296 := by
  unfold dgT
  rw [Nat.div_lt_iff_lt_mul y1]
  have : (u + 1) * 4294967296 ≤ y * 4294967296 := Nat.mul_le_mul_right _ u1
  rw [Nat.add_mul] at this
  rw [Nat.mul_comm 4294967296 y]
  omega
theorem dg_start (y0 : 9223372036854775808 ≤ y) (y1 : y < 18446744073709551616) (u1 : u < y) (d1 : d < 4294967296) : DgInv y u d (u / (y / 4294967296)) (u % (y / 4294967296)) := by
  have hy := Nat.div_add_mod y 4294967296
  have hm := Nat.mod_lt y (show 0 < 4294967296 by omega)
  have a0 : 2147483648 ≤ y / 4294967296 := by omega
  have a1 : y / 4294967296 < 4294967296 := by omega
  have hdm := Nat.div_add_mod u (y / 4294967296)
  refine ⟨y0, y1, u1, d1, by rw [Nat.mul_comm]; exact hdm, ?_, ?_, Nat.lt_trans (Nat.mod_lt _ (by omega)) a1⟩
  · rw [Nat.le_div_iff_mul_le (by omega)]
    have h := Nat.div_mul_le_self (u * 4294967296 + d) y
    have e := spl (dgT y u d) y
    have h2 : dgT y u d * y ≤ u * 4294967296 + d := h
    rw [e] at h2
    generalize dgT y u d * (y / 4294967296) = P at *
    generalize dgT y u d * (y % 4294967296) = R at *
    omega
  · have h2 : u / (y / 4294967296) < 4294967298 := by
      rw [Nat.div_lt_iff_lt_mul (by omega)]
      generalize y / 4294967296 = a at *
      omega
    omega
/-- The test fails: the guess is the digit. -/
theorem DgInv.done (h : DgInv y u d q r) (ht : q * (y % 4294967296) ≤ 4294967296 * r + d) : q = dgT y u d := by
  have h1 : q ≤ dgT y u d := by
    unfold dgT
    rw [Nat.le_div_iff_mul_le (by have := h.y0; omega), spl q y]
    have he := h.eq
    generalize q * (y / 4294967296) = P at *
    generalize q * (y % 4294967296) = R at *
    omega
  have := h.ge
  omega
theorem DgInv.big (h : DgInv y u d q r) (ht : 4294967296 ≤ q) : dgT y u d < q := by
  have := dg_lt (by have := h.y0; omega) h.u1 h.d1
  omega
theorem DgInv.over (h : DgInv y u d q r) (ht : 4294967296 * r + d < q * (y % 4294967296)) : dgT y u d < q := by
  unfold dgT
  rw [Nat.div_lt_iff_lt_mul (by have := h.y0; omega), spl q y]
  have he := h.eq
  generalize q * (y / 4294967296) = P at *
  generalize q * (y % 4294967296) = R at *
  omega
theorem DgInv.pred (h : DgInv y u d q r) (hT : dgT y u d < q) : (q - 1) * (y / 4294967296) + (r + y / 4294967296) = u := by
  obtain ⟨k, rfl⟩ : ∃ k, q = k + 1 := ⟨q - 1, by omega⟩
  have he := h.eq
  rw [Nat.add_mul, Nat.one_mul] at he
  rw [Nat.add_sub_cancel]
  omega
/-- One less. -/
theorem DgInv.less (h : DgInv y u d q r) (hT : dgT y u d < q) (hr : r + y / 4294967296 < 4294967296) : DgInv y u d (q - 1) (r + y / 4294967296) :=
  ⟨h.y0, h.y1, h.u1, h.d1, h.pred hT, by omega, by have := h.q1; omega, hr⟩
/-- One less, and the remainder has grown over half a word: the digit. -/
theorem DgInv.stop (h : DgInv y u d q r) (hT : dgT y u d < q) (hr : 4294967296 ≤ r + y / 4294967296) : q - 1 = dgT y u d := by
  have hq := h.q1
  have hm := Nat.mod_lt y (show 0 < 4294967296 by omega)
  have h1 : q - 1 ≤ dgT y u d := by
    unfold dgT
    rw [Nat.le_div_iff_mul_le (by have := h.y0; omega)]
    have e := spl (q - 1) y
    rw [e]
    have he := h.pred hT
    have hR : (q - 1) * (y % 4294967296) ≤ 4294967296 * 4294967295 := Nat.mul_le_mul (by omega) (by omega)
    generalize (q - 1) * (y / 4294967296) = P at *
    generalize (q - 1) * (y % 4294967296) = R at *
    omega
  omega
end
/-- What is subtracted: modulo a word. -/
theorem dg_sub {y u d : Nat} (y0 : 0 < y) : ((u : Int) * 4294967296 + d - dgT y u d * y) = (dgR y u d : Int) ∧ dgR y u d < y := by
  have h := Nat.div_add_mod (u * 4294967296 + d) y
  have hm := Nat.mod_lt (u * 4294967296 + d) y0
  unfold dgT dgR
  refine ⟨?_, hm⟩
  rw [Nat.mul_comm] at h
  generalize (u * 4294967296 + d) % y = R at *
  generalize (u * 4294967296 + d) / y = Q at *
  have h2 : ((Q * y + R : Nat) : Int) = ((u * 4294967296 + d : Nat) : Int) := by rw [h]
  rw [Int.natCast_add, Int.natCast_mul] at h2
  omega
theorem key_sum {A B N u d1 d0 r1 r0 : Nat} (f1 : A + r1 = u * 4294967296 + d1) (f2 : B + r0 = r1 * 4294967296 + d0) (eN : N = u * 18446744073709551616 + d1 * 4294967296 + d0) : N = A * 4294967296 + B + r0 := by
  have h : A * 4294967296 + B + r0 = (A + r1) * 4294967296 + d0 := by rw [Nat.add_assoc, f2, Nat.add_mul, Nat.add_assoc]
  rw [h, f1, eN, Nat.add_mul, Nat.mul_assoc]
/-- Two digits. -/
theorem two_digits {M y s : Nat} (y0 : 0 < y) (hM : M < y * 18446744073709551616) :
    let Y := y * 2 ^ s
    let N := M * 2 ^ s
    let u := N / 18446744073709551616
    let d1 := N % 18446744073709551616 / 4294967296
    let d0 := N % 4294967296
    u < Y ∧ dgT Y u d1 * 4294967296 + dgT Y (dgR Y u d1) d0 = M / y ∧ dgR Y (dgR Y u d1) d0 / 2 ^ s = M % y := by
  intro Y N u d1 d0
  have hp : 0 < 2 ^ s := Nat.pow_pos (by omega)
  have hY : 0 < Y := Nat.mul_pos y0 hp
  have hN : N < Y * 18446744073709551616 := by
    have : M * 2 ^ s < y * 18446744073709551616 * 2 ^ s := Nat.mul_lt_mul_of_pos_right hM hp
    show M * 2 ^ s < y * 2 ^ s * 18446744073709551616
    rw [Nat.mul_right_comm] at this
    exact this
  have hu : u < Y := by
    show N / 18446744073709551616 < Y
    rw [Nat.div_lt_iff_lt_mul (by omega)]
    exact hN
  have e1 := Nat.div_add_mod (u * 4294967296 + d1) Y
  have e2 := Nat.div_add_mod (dgR Y u d1 * 4294967296 + d0) Y
  have m2 := Nat.mod_lt (dgR Y u d1 * 4294967296 + d0) hY
  have eN : N = u * 18446744073709551616 + d1 * 4294967296 + d0 := words N
  have key : N = (dgT Y u d1 * 4294967296 + dgT Y (dgR Y u d1) d0) * Y + dgR Y (dgR Y u d1) d0 := by
    have f1 : Y * dgT Y u d1 + dgR Y u d1 = u * 4294967296 + d1 := e1
    have f2 : Y * dgT Y (dgR Y u d1) d0 + dgR Y (dgR Y u d1) d0 = dgR Y u d1 * 4294967296 + d0 := e2
    rw [Nat.add_mul, Nat.mul_right_comm, Nat.mul_comm (dgT Y u d1) Y, Nat.mul_comm (dgT Y (dgR Y u d1) d0) Y]
    exact key_sum f1 f2 eN
  have hlt : dgR Y (dgR Y u d1) d0 < Y := m2
  have hq : N / Y = dgT Y u d1 * 4294967296 + dgT Y (dgR Y u d1) d0 := by
    rw [key, Nat.add_comm, Nat.add_mul_div_right _ _ hY, Nat.div_eq_of_lt hlt, Nat.zero_add]
  have hr : N % Y = dgR Y (dgR Y u d1) d0 := by
    rw [key, Nat.add_comm, Nat.add_mul_mod_self_right, Nat.mod_eq_of_lt hlt]
  refine ⟨hu, ?_, ?_⟩
  · rw [← hq]
    show M * 2 ^ s / (y * 2 ^ s) = M / y
    exact Nat.mul_div_mul_right _ _ hp
  · rw [← hr]
    show M * 2 ^ s % (y * 2 ^ s) / 2 ^ s = M % y
    rw [Nat.mul_mod_mul_right, Nat.mul_div_cancel _ hp]
/-- The upper word of what was shifted. -/
theorem shift_hi {hi lo s : Nat} (hs : s ≤ 64) : (hi * 18446744073709551616 + lo) * 2 ^ s / 18446744073709551616 = hi * 2 ^ s + lo / 2 ^ (64 - s) := by
  have e : (18446744073709551616 : Nat) = 2 ^ (64 - s) * 2 ^ s := by rw [← Nat.pow_add, Nat.sub_add_cancel hs]
  rw [Nat.add_mul, Nat.mul_right_comm, Nat.add_comm, Nat.add_mul_div_right _ _ (by omega), Nat.add_comm]
  congr 1
  rw [e, Nat.mul_div_mul_right _ _ (Nat.pow_pos (by omega))]
end Go.Proofs.Ytineinmghajmnaa
namespace Go.Proofs.Ytineinmghajmnaa
open Go.RowKit
attribute [local go_sem 2000] run_max2m run_min2m run_add64c
/-- A signed number of 128 bits as a value. -/
def WdPost (v : Int) (w : World) (e : Ending) (w' : World) : Prop := e = .returned (.agg #[.int .u64 (whi v), .int .u64 (wlo v)]) ∧ Below w.heap.size w w'
theorem xor_max (h : Int) (h0 : 0 ≤ h) (h1 : h < 18446744073709551616) : bits .xor .u64 IntKind.u64.max h = 18446744073709551615 - h := by
  obtain ⟨n, rfl⟩ := Int.eq_ofNat_of_zero_le h0
  have hn : n < 18446744073709551616 := by omega
  show IntKind.u64.wrap ((BitVec.ofInt 64 IntKind.u64.max ^^^ BitVec.ofInt 64 (n : Int)).toNat : Int) = _
  rw [show BitVec.ofInt 64 IntKind.u64.max = BitVec.allOnes 64 by decide, BitVec.allOnes_xor, BitVec.toNat_not, BitVec.ofInt_natCast, BitVec.toNat_ofNat, Nat.mod_eq_of_lt (by omega), IntKind.wrap_u64]
  omega
set_option maxRecDepth 100000 in
set_option maxHeartbeats 4000000 in
theorem plus_core (vh vl a b M h0 l0 h1 l1 hF lF cy rl rh : Int) (w : World) (hv0 : 0 ≤ vh) (hl0 : 0 ≤ vl)
    (ha1 : -4611686018427387904 ≤ a ∧ a ≤ 4611686018427387904) (hb0 : 0 ≤ b) (hb1 : b ≤ 4611686018427387904) (eM : max a (-a) = M) (hM : 0 ≤ M) (hM1 : M ≤ 4611686018427387904)
    (MU : ∀ w, Calls Try.prog 97 #[.int .u64 M, .int .u64 b] w fun e w' => e = .returned (.tuple #[.int .u64 h0, .int .u64 l0]) ∧ w = w')
    (tt : (0 ≤ a ∧ hF = h0 ∧ lF = l0) ∨ (a < 0 ∧ bits .xor .u64 IntKind.u64.max h0 = h1 ∧ IntKind.u64.wrap (-l0) = l1 ∧ (l1 == 0) = true ∧ IntKind.u64.wrap (h1 + 1) = hF ∧ lF = l1) ∨ (a < 0 ∧ bits .xor .u64 IntKind.u64.max h0 = h1 ∧ IntKind.u64.wrap (-l0) = l1 ∧ (l1 == 0) = false ∧ hF = h1 ∧ lF = l1))
    (zh : 0 ≤ hF) (zl : 0 ≤ lF) (e1 : (vl + lF) % 18446744073709551616 = rl) (e2 : (vl + lF) / 18446744073709551616 = cy) (zc : 0 ≤ cy) (zc1 : cy ≤ 1) (e3 : (vh + hF + cy) % 18446744073709551616 = rh) :
    Calls Try.prog 87 #[.agg #[.int .u64 vh, .int .u64 vl], .int .i64 a, .int .i64 b] w fun e w' => e = .returned (.agg #[.int .u64 rh, .int .u64 rl]) ∧ Below w.heap.size w w' := by
  replace MU := Lib.hid MU
  go_enter Try.func87, Try.ntmps87
  go_upto_region 1 with fail
  obtain ⟨hb3, hb6, hB⟩ := two_boxes w #[.int .u64 vh, .int .u64 vl] #[.int .u64 0, .int .u64 0] 82 82 _ rfl
  generalize World.alloc (World.alloc w _) _ = w0 at *
  obtain ⟨⟨i1, i2⟩, -⟩ := hb3.two
  obtain ⟨⟨j1, j2⟩, f1, f2⟩ := hb6.two
  have HB := Lib.hid hB; clear hB hb3 hb6
  go_wp2_with fail
  refine (MU.out _).mono ?_
  rintro e w1 ⟨rfl, rfl⟩
  rcases tt with ⟨t1, rfl, rfl⟩ | ⟨t1, t2, t3, t4, t5, rfl⟩ | ⟨t1, t2, t3, t4, rfl, rfl⟩
  all_goals
    go_wp2_with fail
    refine bodyPost_ret (v := .agg #[.int .u64 rh, .int .u64 rl]) (by simp [results, Try.results87, go_sem, *]) rfl ⟨rfl, ?_⟩
    exact (HB.out.setCell (p := ⟨w.heap.size + 1, 0, none⟩) (Nat.le_succ _) _).setCell (p := ⟨w.heap.size + 1, 1, none⟩) (Nat.le_succ _) _
theorem plus_any (v a b : Int) (w : World) (ha : -4611686018427387904 ≤ a ∧ a ≤ 4611686018427387904) (hb : 0 ≤ b ∧ b ≤ 4611686018427387904) :
    Calls Try.prog 87 #[.agg #[.int .u64 (whi v), .int .u64 (wlo v)], .int .i64 a, .int .i64 b] w (WdPost (v + a * b) w) := by
  have hv := wlo_bd v; have hv2 := whi_bd v
  have hp := wlo_bd (a * b); have hp2 := whi_bd (a * b)
  obtain ⟨A1, A2⟩ := wide_add v (a * b)
  unfold WdPost
  rw [A1, A2]
  have hM : 0 ≤ max a (-a) ∧ max a (-a) ≤ 4611686018427387904 := by omega
  have hP : 0 ≤ max a (-a) * b := Int.mul_nonneg hM.1 hb.1
  have hP2 : max a (-a) * b ≤ 4611686018427387904 * 4611686018427387904 := Int.mul_le_mul hM.2 hb.2 hb.1 (by omega)
  have MU := fun w => mul64_any (max a (-a)) b w hM.1 (by omega) hb.1 (by omega)
  refine plus_core (whi v) (wlo v) a b (max a (-a)) (max a (-a) * b / 18446744073709551616) (max a (-a) * b % 18446744073709551616) (18446744073709551615 - max a (-a) * b / 18446744073709551616) ((18446744073709551616 - max a (-a) * b % 18446744073709551616) % 18446744073709551616) (whi (a * b)) (wlo (a * b)) _ _ _ w hv2.1 hv.1 ha hb.1 hb.2 rfl hM.1 hM.2 MU ?_ hp2.1 hp.1 rfl rfl (by omega) (by omega) rfl
  by_cases h : 0 ≤ a
  · refine .inl ⟨h, ?_, ?_⟩
    · rw [show max a (-a) = a by omega] at hP hP2 ⊢
      unfold whi; generalize a * b = p at *; omega
    · rw [show max a (-a) = a by omega]; rfl
  · right
    have em : max a (-a) * b = -(a * b) := by rw [show max a (-a) = -a by omega, Int.neg_mul]
    rw [em] at hP hP2 ⊢
    generalize a * b = p at *
    have x1 := xor_max (-p / 18446744073709551616) (by omega) (by omega)
    have x2 : IntKind.u64.wrap (-(-p % 18446744073709551616)) = (18446744073709551616 - -p % 18446744073709551616) % 18446744073709551616 := by rw [IntKind.wrap_u64]; omega
    by_cases hz : -p % 18446744073709551616 = 0
    · refine .inl ⟨by omega, x1, x2, by simp; omega, ?_, ?_⟩
      · rw [IntKind.wrap_u64]; unfold whi; omega
      · unfold wlo; omega
    · refine .inr ⟨by omega, x1, x2, by simp; omega, ?_, ?_⟩
      · unfold whi; omega
      · unfold wlo; omega
end Go.Proofs.Ytineinmghajmnaa
namespace Go.Proofs.Ytineinmghajmnaa
open Go.RowKit
theorem wrap_u {x : Int} (h : 0 ≤ x ∧ x < 18446744073709551616) : IntKind.u64.wrap x = x := by rw [IntKind.wrap_u64]; exact Int.emod_eq_of_lt h.1 h.2
/-- The head of the loop for one digit. -/
def DvRel (Y U D : Nat) (w : World) (k : Nat) (u v : Value) (wr : World) : Prop := ∃ q r : Nat, q = k ∧ u = .int .u64 (q : Int) ∧ v = .int .u64 (r : Int) ∧ w = wr ∧ DgInv Y U D q r
def DvOut (T : Nat) (w : World) (u : Value) (wr : World) : Prop := u = .int .u64 (T : Int) ∧ w = wr
set_option maxRecDepth 100000 in
set_option maxRecDepth 100000 in
set_option maxHeartbeats 4000000 in
theorem div64_core (hi lo y s : Int) (Y Y1 Y0 U D D1 D0 Q R T1 R1 Q2 S2 T2 : Nat) (qo ro : Int) (w : World) (hy : 0 < y) (hh : 0 < hi) (hhy : hi < y) (hs : 0 ≤ s ∧ s ≤ 63)
    (LZ : ∀ w, Calls Try.prog 103 #[.int .u64 y] w fun e w' => e = .returned (.int .i64 s) ∧ w' = w)
    (r1 : IntKind.u64.wrap (y * 2 ^ s.toNat) = (Y : Int)) (r2 : (Y : Int) / 4294967296 = (Y1 : Int)) (r3 : bits .and .u64 (Y : Int) 4294967295 = (Y0 : Int))
    (r4 : bits .or .u64 (IntKind.u64.wrap (hi * 2 ^ s.toNat)) (lo / 2 ^ (64 - s).toNat) = (U : Int))
    (r5 : IntKind.u64.wrap (lo * 2 ^ s.toNat) = (D : Int)) (r6 : (D : Int) / 4294967296 = (D1 : Int)) (r7 : bits .and .u64 (D : Int) 4294967295 = (D0 : Int))
    (r8 : IntKind.u64.wrap ((U : Int) / (Y1 : Int)) = (Q : Int)) (r9 : IntKind.u64.wrap ((U : Int) - IntKind.u64.wrap ((Q : Int) * (Y1 : Int))) = (R : Int))
    (hY1 : Y / 4294967296 = Y1) (hY0 : Y % 4294967296 = Y0) (hYb : Y < 18446744073709551616) (hyz : Y1 ≠ 0) (g1 : DgInv Y U D1 Q R)
    (hT1 : dgT Y U D1 = T1) (r10 : IntKind.u64.wrap (IntKind.u64.wrap (IntKind.u64.wrap ((U : Int) * 4294967296) + (D1 : Int)) - IntKind.u64.wrap ((T1 : Int) * (Y : Int))) = (R1 : Int))
    (r11 : IntKind.u64.wrap ((R1 : Int) / (Y1 : Int)) = (Q2 : Int)) (r12 : IntKind.u64.wrap ((R1 : Int) - IntKind.u64.wrap ((Q2 : Int) * (Y1 : Int))) = (S2 : Int)) (g2 : DgInv Y R1 D0 Q2 S2)
    (hT2 : dgT Y R1 D0 = T2) (r13 : IntKind.u64.wrap (IntKind.u64.wrap ((T1 : Int) * 4294967296) + (T2 : Int)) = qo)
    (r14 : IntKind.u64.wrap (IntKind.u64.wrap (IntKind.u64.wrap ((R1 : Int) * 4294967296) + (D0 : Int)) - IntKind.u64.wrap ((T2 : Int) * (Y : Int))) / 2 ^ s.toNat = ro) :
    Calls Try.prog 99 #[.int .u64 hi, .int .u64 lo, .int .u64 y] w fun e w' => e = .returned (.tuple #[.int .u64 qo, .int .u64 ro]) ∧ Below w.heap.size w w' := by
  replace LZ := Lib.hid LZ
  have t1 : (y == 0) = false := by simp; omega
  have t2 : decide (y ≤ hi) = false := by simp; omega
  have t3 : (hi == 0) = false := by simp; omega
  have t4 : ((Y1 : Int) == 0) = false := by simp; omega
  have HY1 := Lib.hid hY1; have HY0 := Lib.hid hY0; have HYb := Lib.hid hYb; have G1 := Lib.hid g1; have G2 := Lib.hid g2; have HT1 := Lib.hid hT1; have HT2 := Lib.hid hT2
  have RB := Lib.hid (And.intro r10 (And.intro r11 (And.intro r12 (And.intro r13 r14))))
  clear hY1 hY0 hYb g1 g2 hT1 hT2 r10 r11 r12 r13 r14
  go_enter Try.func99, Try.ntmps99
  go_wp2_with fail
  refine (LZ.out _).mono ?_
  rintro e w1 ⟨rfl, rfl⟩
  go_upto_block 0 with fail
  clear r8 r9
  go_cut [15] (DvOut T1 w1)
  case first =>
    have GG := G1
    have TT := HT1
    go_wp2_with fail
    go_loopg [15, 16] Q (DvRel Y U D1 w1)
    case atStart => exact ⟨_, _, rfl, rfl, rfl, rfl, GG.out⟩
    case round =>
      obtain ⟨q, r, rfl, rfl, rfl, rfl, h⟩ := hrel
      have HD := Lib.hid h
      have hr1 := h.r1; have hq1 := h.q1
      have hd1 := h.d1
      have w2 : IntKind.u64.wrap (4294967296 * (r : Int)) = 4294967296 * (r : Int) := wrap_u (by omega)
      have w2' : IntKind.u64.wrap (4294967296 * (r : Int) + (D1 : Int)) = 4294967296 * (r : Int) + (D1 : Int) := wrap_u (by omega)
      obtain ⟨P, hP⟩ : ∃ P, q * Y0 = P := ⟨_, rfl⟩
      have hP2 : P < 18446744073709551616 ∨ 4294967296 ≤ q := by
        rcases Nat.lt_or_ge q 4294967296 with c | c
        · left
          have : q * Y0 ≤ 4294967295 * 4294967295 := Nat.mul_le_mul (by omega) (by have := HY0.out; omega)
          omega
        · exact .inr c
      have w1 : (q : Int) * (Y0 : Int) = (P : Int) := by rw [← Int.natCast_mul, hP]
      have HP := Lib.hid hP; clear hP h
      obtain ⟨r', hr'⟩ : ∃ r', r + Y1 = r' := ⟨_, rfl⟩
      have hr2 : r' < 8589934592 := by have := HY1.out; have := HYb.out; omega
      have w4 : IntKind.u64.wrap ((r : Int) + (Y1 : Int)) = (r' : Int) := by rw [show (r : Int) + (Y1 : Int) = (r' : Int) by omega]; exact wrap_u (by omega)
      have HR := Lib.hid hr'; clear hr'
      by_cases hq : 4294967296 ≤ q
      · have hT := HD.out.big hq
        have w3 : IntKind.u64.wrap ((q : Int) - 1) = ((q - 1 : Nat) : Int) := by rw [show (q : Int) - 1 = ((q - 1 : Nat) : Int) by omega]; exact wrap_u (by omega)
        have hqi : (4294967296 : Int) ≤ (q : Int) := by omega
        have HT := Lib.hid hT
        obtain ⟨q', hq'⟩ : ∃ q', q - 1 = q' := ⟨_, rfl⟩
        rw [hq'] at w3
        have HQ := Lib.hid hq'; clear hq' hT
        by_cases hb : 4294967296 ≤ r'
        · have hbi : (4294967296 : Int) ≤ (r' : Int) := by omega
          go_wp2_with fail
          go_meet
          exact ⟨by rw [← TT.out, ← HD.out.stop HT.out (by rw [HY1.out, HR.out]; exact hb), HQ.out], rfl⟩
        · have hbi : ¬ (4294967296 : Int) ≤ (r' : Int) := by omega
          go_wp2_with fail
          go_roundg q'
          case measure => have := HQ.out; have := HT.out; omega
          case rel => exact ⟨q', r', rfl, rfl, rfl, rfl, by have := HD.out.less HT.out (by rw [HY1.out, HR.out]; omega); rw [HY1.out, HR.out, HQ.out] at this; exact this⟩
      · have hqi : ¬ (4294967296 : Int) ≤ (q : Int) := by omega
        have hPb : P < 18446744073709551616 := by omega
        have w1' : IntKind.u64.wrap ((P : Int)) = (P : Int) := wrap_u (by omega)
        by_cases ho : 4294967296 * r + D1 < P
        · have hoi : 4294967296 * (r : Int) + (D1 : Int) < (P : Int) := by omega
          have hT := HD.out.over (by rw [HY0.out, HP.out]; exact ho)
          have w3 : IntKind.u64.wrap ((q : Int) - 1) = ((q - 1 : Nat) : Int) := by rw [show (q : Int) - 1 = ((q - 1 : Nat) : Int) by omega]; exact wrap_u (by omega)
          have HT := Lib.hid hT
          obtain ⟨q', hq'⟩ : ∃ q', q - 1 = q' := ⟨_, rfl⟩
          rw [hq'] at w3
          have HQ := Lib.hid hq'; clear hq' hT
          by_cases hb : 4294967296 ≤ r'
          · have hbi : (4294967296 : Int) ≤ (r' : Int) := by omega
            go_wp2_with fail
            go_meet
            exact ⟨by rw [← TT.out, ← HD.out.stop HT.out (by rw [HY1.out, HR.out]; exact hb), HQ.out], rfl⟩
          · have hbi : ¬ (4294967296 : Int) ≤ (r' : Int) := by omega
            go_wp2_with fail
            go_roundg q'
            case measure => have := HQ.out; have := HT.out; omega
            case rel => exact ⟨q', r', rfl, rfl, rfl, rfl, by have := HD.out.less HT.out (by rw [HY1.out, HR.out]; omega); rw [HY1.out, HR.out, HQ.out] at this; exact this⟩
        · have hoi : ¬ 4294967296 * (r : Int) + (D1 : Int) < (P : Int) := by omega
          have HDn := Lib.hid (HD.out.done (by rw [HY0.out, HP.out]; exact Nat.le_of_not_lt ho))
          go_wp2_with fail
          go_meet
          exact ⟨by rw [← TT.out, ← HDn.out], rfl⟩
  case rest =>
  obtain ⟨rfl, rfl⟩ := hcut
  obtain ⟨r10, r11, r12, r13, r14⟩ := RB.out
  go_upto_block 2 with fail
  clear r10 r11 r12
  go_cut [18] (DvOut T2 w1)
  case first =>
    clear r13 r14
    have GG := G2
    have TT := HT2
    go_wp2_with fail
    go_loopg [18, 16] Q2 (DvRel Y R1 D0 w1)
    case atStart => exact ⟨_, _, rfl, rfl, rfl, rfl, GG.out⟩
    case round =>
      obtain ⟨q, r, rfl, rfl, rfl, rfl, h⟩ := hrel
      have HD := Lib.hid h
      have hr1 := h.r1; have hq1 := h.q1
      have hd1 := h.d1
      have w2 : IntKind.u64.wrap (4294967296 * (r : Int)) = 4294967296 * (r : Int) := wrap_u (by omega)
      have w2' : IntKind.u64.wrap (4294967296 * (r : Int) + (D0 : Int)) = 4294967296 * (r : Int) + (D0 : Int) := wrap_u (by omega)
      obtain ⟨P, hP⟩ : ∃ P, q * Y0 = P := ⟨_, rfl⟩
      have hP2 : P < 18446744073709551616 ∨ 4294967296 ≤ q := by
        rcases Nat.lt_or_ge q 4294967296 with c | c
        · left
          have : q * Y0 ≤ 4294967295 * 4294967295 := Nat.mul_le_mul (by omega) (by have := HY0.out; omega)
          omega
        · exact .inr c
      have w1 : (q : Int) * (Y0 : Int) = (P : Int) := by rw [← Int.natCast_mul, hP]
      have HP := Lib.hid hP; clear hP h
      obtain ⟨r', hr'⟩ : ∃ r', r + Y1 = r' := ⟨_, rfl⟩
      have hr2 : r' < 8589934592 := by have := HY1.out; have := HYb.out; omega
      have w4 : IntKind.u64.wrap ((r : Int) + (Y1 : Int)) = (r' : Int) := by rw [show (r : Int) + (Y1 : Int) = (r' : Int) by omega]; exact wrap_u (by omega)
      have HR := Lib.hid hr'; clear hr'
      by_cases hq : 4294967296 ≤ q
      · have hT := HD.out.big hq
        have w3 : IntKind.u64.wrap ((q : Int) - 1) = ((q - 1 : Nat) : Int) := by rw [show (q : Int) - 1 = ((q - 1 : Nat) : Int) by omega]; exact wrap_u (by omega)
        have hqi : (4294967296 : Int) ≤ (q : Int) := by omega
        have HT := Lib.hid hT
        obtain ⟨q', hq'⟩ : ∃ q', q - 1 = q' := ⟨_, rfl⟩
        rw [hq'] at w3
        have HQ := Lib.hid hq'; clear hq' hT
        by_cases hb : 4294967296 ≤ r'
        · have hbi : (4294967296 : Int) ≤ (r' : Int) := by omega
          go_wp2_with fail
          go_meet
          exact ⟨by rw [← TT.out, ← HD.out.stop HT.out (by rw [HY1.out, HR.out]; exact hb), HQ.out], rfl⟩
        · have hbi : ¬ (4294967296 : Int) ≤ (r' : Int) := by omega
          go_wp2_with fail
          go_roundg q'
          case measure => have := HQ.out; have := HT.out; omega
          case rel => exact ⟨q', r', rfl, rfl, rfl, rfl, by have := HD.out.less HT.out (by rw [HY1.out, HR.out]; omega); rw [HY1.out, HR.out, HQ.out] at this; exact this⟩
      · have hqi : ¬ (4294967296 : Int) ≤ (q : Int) := by omega
        have hPb : P < 18446744073709551616 := by omega
        have w1' : IntKind.u64.wrap ((P : Int)) = (P : Int) := wrap_u (by omega)
        by_cases ho : 4294967296 * r + D0 < P
        · have hoi : 4294967296 * (r : Int) + (D0 : Int) < (P : Int) := by omega
          have hT := HD.out.over (by rw [HY0.out, HP.out]; exact ho)
          have w3 : IntKind.u64.wrap ((q : Int) - 1) = ((q - 1 : Nat) : Int) := by rw [show (q : Int) - 1 = ((q - 1 : Nat) : Int) by omega]; exact wrap_u (by omega)
          have HT := Lib.hid hT
          obtain ⟨q', hq'⟩ : ∃ q', q - 1 = q' := ⟨_, rfl⟩
          rw [hq'] at w3
          have HQ := Lib.hid hq'; clear hq' hT
          by_cases hb : 4294967296 ≤ r'
          · have hbi : (4294967296 : Int) ≤ (r' : Int) := by omega
            go_wp2_with fail
            go_meet
            exact ⟨by rw [← TT.out, ← HD.out.stop HT.out (by rw [HY1.out, HR.out]; exact hb), HQ.out], rfl⟩
          · have hbi : ¬ (4294967296 : Int) ≤ (r' : Int) := by omega
            go_wp2_with fail
            go_roundg q'
            case measure => have := HQ.out; have := HT.out; omega
            case rel => exact ⟨q', r', rfl, rfl, rfl, rfl, by have := HD.out.less HT.out (by rw [HY1.out, HR.out]; omega); rw [HY1.out, HR.out, HQ.out] at this; exact this⟩
        · have hoi : ¬ 4294967296 * (r : Int) + (D0 : Int) < (P : Int) := by omega
          have HDn := Lib.hid (HD.out.done (by rw [HY0.out, HP.out]; exact Nat.le_of_not_lt ho))
          go_wp2_with fail
          go_meet
          exact ⟨by rw [← TT.out, ← HDn.out], rfl⟩
  case rest =>
  obtain ⟨rfl, rfl⟩ := hcut
  go_wp2_with fail
  go_ret2
  exact ⟨rfl, Below.refl _ _⟩
end Go.Proofs.Ytineinmghajmnaa
namespace Go.Proofs.Ytineinmghajmnaa
open Go.RowKit
set_option maxRecDepth 100000 in
set_option maxHeartbeats 1000000 in
theorem div64_zero (lo y : Nat) (w : World) (hy : 0 < y) (hl : lo < 18446744073709551616) (hy1 : y < 18446744073709551616) :
    Calls Try.prog 99 #[.int .u64 0, .int .u64 (lo : Int), .int .u64 (y : Int)] w fun e w' => e = .returned (.tuple #[.int .u64 ((lo / y : Nat) : Int), .int .u64 ((lo % y : Nat) : Int)]) ∧ Below w.heap.size w w' := by
  have t1 : ((y : Int) == 0) = false := by simp; omega
  have t2 : decide ((y : Int) ≤ 0) = false := by simp; omega
  have q := Nat.div_le_self lo y
  have r := Nat.mod_le lo y
  have e1 : IntKind.u64.wrap ((lo : Int) / (y : Int)) = ((lo / y : Nat) : Int) := by rw [← Int.natCast_ediv]; generalize lo / y = k at *; exact wrap_u (by omega)
  have e2 : IntKind.u64.wrap ((lo : Int) % (y : Int)) = ((lo % y : Nat) : Int) := by rw [← Int.natCast_emod]; generalize lo % y = k at *; exact wrap_u (by omega)
  have e3 : (lo : Int).tdiv (y : Int) = (lo : Int) / (y : Int) := Int.tdiv_eq_ediv_of_nonneg (by omega)
  have e4 : (lo : Int).tmod (y : Int) = (lo : Int) % (y : Int) := Int.tmod_eq_emod_of_nonneg (by omega)
  go_enter Try.func99, Try.ntmps99
  go_wp2_with fail
  go_quiet (fail)
  go_wp2_with fail
  go_ret2
  exact ⟨by first | rfl | simp, Below.drewN' (Below.refl _ _) _⟩
theorem div64_any (hi lo y : Nat) (w : World) (hhy : hi < y) (hl : lo < 18446744073709551616) (hy1 : y < 18446744073709551616) :
    Calls Try.prog 99 #[.int .u64 (hi : Int), .int .u64 (lo : Int), .int .u64 (y : Int)] w fun e w' => e = .returned (.tuple #[.int .u64 (((hi * 18446744073709551616 + lo) / y : Nat) : Int), .int .u64 (((hi * 18446744073709551616 + lo) % y : Nat) : Int)]) ∧ Below w.heap.size w w' := by
  rcases Nat.eq_zero_or_pos hi with rfl | hh
  · have := div64_zero lo y w (by omega) hl hy1
    rw [Nat.zero_mul, Nat.zero_add]
    exact this
  have hy : 0 < y := by omega
  obtain ⟨L1, L2, L3⟩ := Lib.bitLenAux_bounds 64 y hy1 (by omega)
  have hL : Lib.bitLen y = Lib.bitLenAux 64 y := rfl
  have hL64 : Lib.bitLen y ≤ 64 := Lib.bitLen_le y 64 (by omega) hy1
  have LZ := fun w => zeros64_any (y : Int) w (by omega) (by omega)
  rw [Int.toNat_natCast] at LZ
  rw [← hL] at L1 L2 L3
  generalize Lib.bitLen y = L at *
  obtain ⟨sn, hsn⟩ : ∃ sn, 64 - L = sn := ⟨_, rfl⟩
  have hsI : (64 - (L : Int)) = (sn : Int) := by omega
  rw [hsI] at LZ
  have e64 : 2 ^ (64 - sn) * 2 ^ sn = (18446744073709551616 : Nat) := by rw [← Nat.pow_add, show 64 - sn + sn = 64 by omega]
  have eL : 64 - sn = L := by omega
  have eL' : 2 ^ (64 - sn) = 2 ^ L := by rw [eL]
  have hp : 0 < 2 ^ sn := Nat.pow_pos (by omega)
  have hY1 : y * 2 ^ sn < 18446744073709551616 := by
    have := Nat.mul_lt_mul_of_pos_right L3 hp
    rw [← eL', e64] at this; exact this
  have hY0 : 9223372036854775808 ≤ y * 2 ^ sn := by
    have := Nat.mul_le_mul_right (2 ^ sn) L2
    have e : 2 ^ (L - 1) * 2 ^ sn = 9223372036854775808 := by rw [← Nat.pow_add, show L - 1 + sn = 63 by omega]
    omega
  have hM : hi * 18446744073709551616 + lo < y * 18446744073709551616 := by
    have : (hi + 1) * 18446744073709551616 ≤ y * 18446744073709551616 := Nat.mul_le_mul_right _ hhy
    omega
  obtain ⟨d1, d2, d3⟩ := two_digits (M := hi * 18446744073709551616 + lo) (y := y) (s := sn) hy hM
  have hU := shift_hi (hi := hi) (lo := lo) (s := sn) (by omega)
  have hD : (hi * 18446744073709551616 + lo) * 2 ^ sn % 18446744073709551616 = lo * 2 ^ sn % 18446744073709551616 := by
    rw [Nat.add_mul, Nat.mul_right_comm, Nat.add_comm, Nat.add_mul_mod_self_right]
  have hD0 : (hi * 18446744073709551616 + lo) * 2 ^ sn % 4294967296 = (hi * 18446744073709551616 + lo) * 2 ^ sn % 18446744073709551616 % 4294967296 := by omega
  have hb : lo / 2 ^ (64 - sn) < 2 ^ sn := by
    rw [Nat.div_lt_iff_lt_mul (Nat.pow_pos (by omega)), Nat.mul_comm, e64]; exact hl
  have ha : hi * 2 ^ sn < 18446744073709551616 := Nat.lt_of_le_of_lt (Nat.mul_le_mul_right _ (Nat.le_of_lt hhy)) hY1
  have hq : (hi * 18446744073709551616 + lo) / y < 18446744073709551616 := Nat.div_lt_of_lt_mul hM
  have p1 : ((2 : Int) ^ sn) = ((2 ^ sn : Nat) : Int) := by rw [Int.natCast_pow]; rfl
  have p2 : ((2 : Int) ^ (64 - sn)) = ((2 ^ (64 - sn) : Nat) : Int) := by rw [Int.natCast_pow]; rfl
  have t1 : (sn : Int).toNat = sn := Int.toNat_natCast _
  have t2 : (64 - (sn : Int)).toNat = 64 - sn := by omega
  have o4 : bits .or .u64 (IntKind.u64.wrap ((hi : Int) * 2 ^ (sn : Int).toNat)) ((lo : Int) / 2 ^ (64 - (sn : Int)).toNat) = (((hi * 18446744073709551616 + lo) * 2 ^ sn / 18446744073709551616 : Nat) : Int) := by
    rw [t1, t2, p1, p2, ← Int.natCast_mul, ← Int.natCast_ediv, wrap_u (x := ((hi * 2 ^ sn : Nat) : Int)) (by omega), bits_or_u64_nat _ _ ha (by omega), hU, ← Nat.shiftLeft_eq, ← Nat.shiftLeft_add_eq_or_of_lt hb]
  have r5 : IntKind.u64.wrap ((lo : Int) * 2 ^ (sn : Int).toNat) = (((hi * 18446744073709551616 + lo) * 2 ^ sn % 18446744073709551616 : Nat) : Int) := by
    rw [t1, p1, ← Int.natCast_mul, IntKind.wrap_u64, hD]; rfl
  have r1 : IntKind.u64.wrap ((y : Int) * 2 ^ (sn : Int).toNat) = ((y * 2 ^ sn : Nat) : Int) := by
    rw [t1, p1, ← Int.natCast_mul]; exact wrap_u (by omega)
  rw [hD0] at d2 d3
  generalize (hi * 18446744073709551616 + lo) * 2 ^ sn / 18446744073709551616 = U at *
  generalize (hi * 18446744073709551616 + lo) * 2 ^ sn % 18446744073709551616 = D at *
  generalize y * 2 ^ sn = Y at *
  have hDb : D < 18446744073709551616 := by have : (0 : Nat) < 18446744073709551616 := by omega
                                            rw [hD]; exact Nat.mod_lt _ this
  have hD1 : D / 4294967296 < 4294967296 := by omega
  have hD2 : D % 4294967296 < 4294967296 := by omega
  obtain ⟨s1, s2⟩ := dg_sub (y := Y) (u := U) (d := D / 4294967296) (by omega)
  obtain ⟨s3, s4⟩ := dg_sub (y := Y) (u := dgR Y U (D / 4294967296)) (d := D % 4294967296) (by omega)
  have G1 := dg_start hY0 hY1 d1 hD1
  have G2 := dg_start hY0 hY1 s2 hD2
  have l1 := dg_lt (by omega) d1 hD1
  have l2 := dg_lt (by omega) s2 hD2
  generalize hR1 : dgR Y U (D / 4294967296) = R1 at *
  generalize hT1 : dgT Y U (D / 4294967296) = T1 at *
  generalize hT2 : dgT Y R1 (D % 4294967296) = T2 at *
  generalize dgR Y R1 (D % 4294967296) = R2 at *
  have hz : Y / 4294967296 ≠ 0 := by omega
  have qq : ∀ a : Nat, a < Y → IntKind.u64.wrap ((a : Int) / ((Y / 4294967296 : Nat) : Int)) = ((a / (Y / 4294967296) : Nat) : Int) := fun a h => by
    rw [← Int.natCast_ediv]
    have := Nat.div_le_self a (Y / 4294967296)
    generalize a / (Y / 4294967296) = k at *
    exact wrap_u (by omega)
  have rr : ∀ a : Nat, a < Y → IntKind.u64.wrap ((a : Int) - IntKind.u64.wrap (((a / (Y / 4294967296) : Nat) : Int) * ((Y / 4294967296 : Nat) : Int))) = ((a % (Y / 4294967296) : Nat) : Int) := fun a h => by
    have h1 := Nat.div_add_mod a (Y / 4294967296)
    rw [← Int.natCast_mul, Nat.mul_comm]
    have h2 := Nat.mod_le a (Y / 4294967296)
    generalize Y / 4294967296 * (a / (Y / 4294967296)) = p at *
    generalize a % (Y / 4294967296) = m at *
    rw [wrap_u (x := (p : Int)) (by omega)]
    rw [show (a : Int) - (p : Int) = (m : Int) by omega]
    exact wrap_u (by omega)
  have sub : ∀ u d t R : Nat, d < 4294967296 → ((u : Int) * 4294967296 + d - t * Y) = (R : Int) → R < Y → IntKind.u64.wrap (IntKind.u64.wrap (IntKind.u64.wrap ((u : Int) * 4294967296) + (d : Int)) - IntKind.u64.wrap ((t : Int) * (Y : Int))) = (R : Int) := fun u d t R _ h hR => by
    rw [IntKind.wrap_u64, IntKind.wrap_u64, IntKind.wrap_u64, IntKind.wrap_u64]
    generalize (t : Int) * (Y : Int) = P at *
    omega
  have r13 : IntKind.u64.wrap (IntKind.u64.wrap ((T1 : Int) * 4294967296) + (T2 : Int)) = (((hi * 18446744073709551616 + lo) / y : Nat) : Int) := by
    rw [← d2, wrap_u (x := (T1 : Int) * 4294967296) (by omega), wrap_u (x := (T1 : Int) * 4294967296 + (T2 : Int)) (by omega)]; omega
  have r14 : IntKind.u64.wrap (IntKind.u64.wrap (IntKind.u64.wrap ((R1 : Int) * 4294967296) + ((D % 4294967296 : Nat) : Int)) - IntKind.u64.wrap ((T2 : Int) * (Y : Int))) / 2 ^ (sn : Int).toNat = (((hi * 18446744073709551616 + lo) % y : Nat) : Int) := by
    rw [sub R1 (D % 4294967296) T2 R2 hD2 s3 s4, t1, p1, ← d3, Int.natCast_ediv]
  exact div64_core (hi : Int) (lo : Int) (y : Int) (sn : Int) Y (Y / 4294967296) (Y % 4294967296) U D (D / 4294967296) (D % 4294967296) (U / (Y / 4294967296)) (U % (Y / 4294967296)) T1 R1 (R1 / (Y / 4294967296)) (R1 % (Y / 4294967296)) T2 _ _ w (by omega) (by omega) (by omega) (by omega) LZ r1 (by rw [Int.natCast_ediv]; rfl) (by rw [and_low32 _ (by omega) (by omega)]; omega) o4 r5 (by rw [Int.natCast_ediv]; rfl) (by rw [and_low32 _ (by omega) (by omega)]; omega)
    (qq U d1) (rr U d1) rfl rfl hY1 hz G1 hT1 (sub U (D / 4294967296) T1 R1 hD1 s1 s2) (qq R1 s2) (rr R1 s2) G2 hT2 r13 r14
end Go.Proofs.Ytineinmghajmnaa
namespace Go.Proofs.Ytineinmghajmnaa
open Go.RowKit
theorem over_low (vh vl d c : Int) (w : World) (hc : IntKind.i64.wrap vh = c) (h : c < 0) :
    Calls Try.prog 88 #[.agg #[.int .u64 vh, .int .u64 vl], .int .i64 d] w fun e w' => e = .returned (.int .i64 0) ∧ Below w.heap.size w w' := by
  go_enter Try.func88, Try.ntmps88
  go_upto_region 1 with fail
  obtain ⟨hb3, hB, -⟩ := one_box w #[.int .u64 vh, .int .u64 vl] 82 _ rfl
  generalize World.alloc w _ = w0 at *
  obtain ⟨⟨i1, i2⟩, -⟩ := hb3.two
  go_wp2_with fail
  go_ret
  exact ⟨rfl, hB⟩
theorem over_core (vh vl d c q r o : Int) (w : World) (hc : IntKind.i64.wrap vh = c) (h0 : ¬ c < 0) (hd : IntKind.u64.wrap d = d) (_ : 0 ≤ d)
    (DV : ¬ d ≤ vh → ∀ w, Calls Try.prog 99 #[.int .u64 vh, .int .u64 vl, .int .u64 d] w fun e w' => e = .returned (.tuple #[.int .u64 q, .int .u64 r]) ∧ Below w.heap.size w w')
    (tt : (d ≤ vh ∧ o = 65535) ∨ (¬ d ≤ vh ∧ 65535 ≤ q ∧ o = 65535) ∨ (¬ d ≤ vh ∧ ¬ 65535 ≤ q ∧ IntKind.u64.wrap (d - r) = d - r ∧ d - r ≤ r ∧ IntKind.u64.wrap (q + 1) = q + 1 ∧ IntKind.i64.wrap (q + 1) = o) ∨ (¬ d ≤ vh ∧ ¬ 65535 ≤ q ∧ IntKind.u64.wrap (d - r) = d - r ∧ ¬ d - r ≤ r ∧ IntKind.i64.wrap q = o)) :
    Calls Try.prog 88 #[.agg #[.int .u64 vh, .int .u64 vl], .int .i64 d] w fun e w' => e = .returned (.int .i64 o) ∧ Below w.heap.size w w' := by
  replace DV := Lib.hid DV
  rcases tt with ⟨t1, rfl⟩ | ⟨t1, t2, rfl⟩ | ⟨t1, t2, t3, t4, t5, t6⟩ | ⟨t1, t2, t3, t4, t6⟩
  all_goals
    go_enter Try.func88, Try.ntmps88
    go_upto_region 1 with fail
    obtain ⟨hb3, hB, -⟩ := one_box w #[.int .u64 vh, .int .u64 vl] 82 _ rfl
    generalize World.alloc w _ = w0 at *
    obtain ⟨⟨i1, i2⟩, -⟩ := hb3.two
    clear hb3
    have HB := Lib.hid hB; clear hB
  · go_wp2_with fail
    go_ret
    exact ⟨rfl, HB.out⟩
  all_goals
    go_wp2_with fail
    refine (DV.out t1 _).mono ?_
    rintro e w1 ⟨rfl, hb⟩
    replace HB := Lib.hid (bel_trans HB.out hb)
    clear hb i1 i2
    go_wp2_with fail
    go_ret
    first | exact ⟨rfl, HB.out⟩ | exact ⟨ret_int t6, HB.out⟩
theorem wrap_hi (h : Int) (h0 : 0 ≤ h) (h1 : h < 18446744073709551616) : IntKind.i64.wrap h = if h < 9223372036854775808 then h else h - 18446744073709551616 := by
  rw [IntKind.wrap_i64]; split <;> omega
/-- Divided, rounded, limited. -/
theorem over_any (v d : Int) (w : World) (hd : 0 < d ∧ d ≤ 4611686018427387904) (hv : -170141183460469231731687303715884105728 ≤ v ∧ v < 170141183460469231731687303715884105728) :
    Calls Try.prog 88 #[.agg #[.int .u64 (whi v), .int .u64 (wlo v)], .int .i64 d] w fun e w' => e = .returned (.int .i64 (lim16 (rdiv v d))) ∧ Below w.heap.size w w' := by
  have bh := whi_bd v; have bl := wlo_bd v
  by_cases hn : v < 0
  · have h := wide_neg v hv.1 hn
    rw [over_neg v d hd.1 hn]
    exact over_low (whi v) (wlo v) d _ w rfl (by rw [wrap_hi _ bh.1 bh.2, if_neg (by omega)]; omega)
  · obtain ⟨e, h⟩ := wide_eq v (by omega) hv.2
    have hc : ¬ IntKind.i64.wrap (whi v) < 0 := by rw [wrap_hi _ bh.1 bh.2, if_pos h]; omega
    have hw : IntKind.u64.wrap d = d := wrap_u (by omega)
    have eq := over_eq v d hd.1 (by omega)
    generalize whi v = vh at *
    generalize wlo v = vl at *
    have hm := Int.emod_nonneg v (b := d) (by omega)
    have hm2 := Int.emod_lt_of_pos v hd.1
    have hq : 0 ≤ v / d := Int.ediv_nonneg (by omega) (by omega)
    have DV : ¬ d ≤ vh → ∀ w, Calls Try.prog 99 #[.int .u64 vh, .int .u64 vl, .int .u64 d] w fun e w' => e = .returned (.tuple #[.int .u64 (v / d), .int .u64 (v % d)]) ∧ Below w.heap.size w w' := fun hlt w => by
      obtain ⟨a, rfl⟩ := Int.eq_ofNat_of_zero_le bh.1
      obtain ⟨b, rfl⟩ := Int.eq_ofNat_of_zero_le bl.1
      obtain ⟨c, rfl⟩ := Int.eq_ofNat_of_zero_le (show 0 ≤ d by omega)
      have := div64_any a b c w (by omega) (by omega) (by omega)
      rw [Int.natCast_ediv, Int.natCast_emod, show ((a * 18446744073709551616 + b : Nat) : Int) = v by omega] at this
      exact this
    by_cases h1 : d ≤ vh
    · have hbig : d * 65535 ≤ v := by omega
      rw [over_big v d hd.1 hbig]
      exact over_core vh vl d _ (v / d) (v % d) 65535 w rfl hc hw (by omega) DV (.inl ⟨h1, rfl⟩)
    · rw [eq]
      generalize v / d = q at *
      generalize v % d = r at *
      have w1 : IntKind.u64.wrap (d - r) = d - r := wrap_u (by omega)
      by_cases h2 : 65535 ≤ q
      · rw [if_pos h2]
        exact over_core vh vl d _ q r 65535 w rfl hc hw (by omega) DV (.inr (.inl ⟨h1, h2, rfl⟩))
      · rw [if_neg h2]
        by_cases h3 : d - r ≤ r
        · rw [if_pos h3]
          exact over_core vh vl d _ q r _ w rfl hc hw (by omega) DV (.inr (.inr (.inl ⟨h1, h2, w1, h3, wrap_u (by omega), wrap_in _ (by omega)⟩)))
        · rw [if_neg h3]
          exact over_core vh vl d _ q r _ w rfl hc hw (by omega) DV (.inr (.inr (.inr ⟨h1, h2, w1, h3, wrap_in _ (by omega)⟩)))
end Go.Proofs.Ytineinmghajmnaa
