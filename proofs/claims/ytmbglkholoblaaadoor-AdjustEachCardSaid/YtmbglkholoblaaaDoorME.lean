/- Small functions: limits, products, means, a hue's remainder; of package num, of adjust and of their references. -/
import Derived.Test.YtmbglkholoblaaaDoorMD
import Derived.Test.YtmbglkholoblaaaDoorMC
import Derived.Test.YtmbglkholoblaaaDoorMA
import Derived.Laws.BitsLemmas
namespace Go.Proofs.YtmbglkholoblaaaDoor
open Go.RowKit

def max3 (x y z : Int) : Int := max (max x y) z
def min3 (x y z : Int) : Int := min (min x y) z
section
variable (P : Program) (w : World)
theorem run_max3m (ts : Array TypeId) (t : TypeId) (x y z : Int) : (Builtin.max_ ts t #[.int .i64 x, .int .i64 y, .int .i64 z]).run P w = .ok (.int .i64 (max3 x y z)) w := by
  simp [Builtin.max_, Builtin.max2, max3]
  (repeat' split) <;> omega
theorem run_min3m (ts : Array TypeId) (t : TypeId) (x y z : Int) : (Builtin.min_ ts t #[.int .i64 x, .int .i64 y, .int .i64 z]).run P w = .ok (.int .i64 (min3 x y z)) w := by
  simp [Builtin.min_, Builtin.min2, min3]
  (repeat' split) <;> omega
end
attribute [local go_sem 2000] run_max2m run_min2m run_max3m run_min3m
theorem Bx.put4 {w : World} {g : Nat} {t : TypeId} {a b c d : Value} (h : Bx w g t #[a, b, c, d]) (a' b' c' d' : Value) : Bx ((((w.setCell ⟨g, 0, none⟩ a').setCell ⟨g, 1, none⟩ b').setCell ⟨g, 2, none⟩ c').setCell ⟨g, 3, none⟩ d') g t #[a', b', c', d'] := by
  have := (((h.set 0 a').set 1 b').set 2 c').set 3 d'
  simpa using this

theorem and_65535 (n : Int) : bits .and .i64 n 65535 = n % 65536 := by
  have h127 : (BitVec.ofInt 64 65535).toNat = 2 ^ 16 - 1 := by decide
  have key : (BitVec.ofInt 64 n &&& BitVec.ofInt 64 65535).toNat = (n % ((2 ^ 64 : Nat) : Int)).toNat % 2 ^ 16 := by
    rw [BitVec.toNat_and, BitVec.toNat_ofInt, h127, Nat.and_two_pow_sub_one_eq_mod]
  show IntKind.i64.wrap ((BitVec.ofInt 64 n &&& BitVec.ofInt 64 65535).toNat : Nat) = n % 65536
  rw [key, IntKind.wrap_i64]
  omega
theorem aunit_any (x : Int) (w : World) : Calls Tryd.prog 39 #[.int .i64 x] w fun e w' => e = .returned (.int .i64 (lim16 x)) ∧ w = w' := by
  go_enter Tryd.func39, Tryd.ntmps39
  go_wp2_with (go_at_call 69; refine (clamp_any _ _ _ _).mono ?_; rintro e w' ⟨rfl, rfl⟩)
  go_ret
  exact ⟨rfl, rfl⟩
theorem nunit_any (x : Int) (w : World) : Calls Tryd.prog 90 #[.int .i64 x] w fun e w' => e = .returned (.int .i64 (lim16 x)) ∧ w = w' := by
  go_enter Tryd.func90, Tryd.ntmps90
  go_wp2_with (go_at_call 69; refine (clamp_any _ _ _ _).mono ?_; rintro e w' ⟨rfl, rfl⟩)
  go_ret
  exact ⟨rfl, rfl⟩
theorem r1unit_any (x : Int) (w : World) : Calls Tryd.prog 84 #[.int .i64 x] w fun e w' => e = .returned (.int .i64 (lim16 x)) ∧ w = w' := runit_any x w
theorem r17unit_any (x : Int) (w : World) : Calls Tryd.prog 40 #[.int .i64 x] w fun e w' => e = .returned (.int .i64 (lim16 x)) ∧ w = w' := by
  go_enter Tryd.func40, Tryd.ntmps40
  go_wp2
  go_ret
  exact ⟨ret_int (by unfold lim16; omega), rfl⟩
theorem r17abs_any (x : Int) (hx : -4611686018427387904 ≤ x ∧ x ≤ 4611686018427387904) (w : World) : Calls Tryd.prog 38 #[.int .i64 x] w fun e w' => e = .returned (.int .i64 (max x (-x))) ∧ w = w' := by
  go_enter Tryd.func38, Tryd.ntmps38
  go_wp2
  go_ret
  exact ⟨ret_int (by omega), rfl⟩
theorem modulo_any (n : Int) (w : World) : Calls Tryd.prog 35 #[.int .i64 n] w fun e w' => e = .returned (.int .i64 (n % 65536)) ∧ w = w' := by
  have E := Lib.hid (and_65535 n)
  go_enter Tryd.func35, Tryd.ntmps35
  go_wp2
  go_ret
  exact ⟨ret_int E.out, rfl⟩
theorem mul_bd {a b : Int} (ha : 0 ≤ a ∧ a ≤ 65535) (hb : 0 ≤ b ∧ b ≤ 65535) : 0 ≤ a * b ∧ a * b ≤ 4294836225 := by
  have := Int.mul_nonneg ha.1 hb.1
  have : a * b ≤ 65535 * 65535 := Int.mul_le_mul ha.2 hb.2 hb.1 (by omega)
  omega
theorem nmul_any (a b : Int) (w : World) : Calls Tryd.prog 72 #[.int .i64 a, .int .i64 b] w fun e w' => e = .returned (.int .i64 (rdiv (lim16 a * lim16 b) 65535)) ∧ w = w' := by
  have h1 := mul_bd (lim16_bd a) (lim16_bd b)
  go_enter Tryd.func72, Tryd.ntmps72
  go_wp2_with fail
  refine (nunit_any _ _).mono ?_
  rintro e w1 ⟨rfl, rfl⟩
  go_wp2_with fail
  refine (nunit_any _ _).mono ?_
  rintro e w1 ⟨rfl, rfl⟩
  go_wp2_with fail
  refine (div_any _ _ _ (by omega) (by omega) (by omega) (by omega)).mono ?_
  rintro e w1 ⟨rfl, rfl⟩
  go_wp2_with fail
  go_ret
  exact ⟨rfl, rfl⟩
theorem rmul_any (a b : Int) (w : World) : Calls Tryd.prog 60 #[.int .i64 a, .int .i64 b] w fun e w' => e = .returned (.int .i64 (rdiv (lim16 a * lim16 b) 65535)) ∧ ∃ n, w' = w.drewN n := by
  have h1 := mul_bd (lim16_bd a) (lim16_bd b)
  go_enter Tryd.func60, Tryd.ntmps60
  go_wp2_with fail
  refine (r1unit_any _ _).mono ?_
  rintro e w1 ⟨rfl, rfl⟩
  go_wp2_with fail
  refine (r1unit_any _ _).mono ?_
  rintro e w1 ⟨rfl, rfl⟩
  go_wp2_with fail
  refine (rdiv_any _ _ _ (by omega) (by omega) (by omega) (by omega)).mono ?_
  rintro e w1 ⟨rfl, n, rfl⟩
  go_wp2_with fail
  go_ret
  exact ⟨rfl, n, rfl⟩
theorem lerp_bd {a b t : Int} (ha : 0 ≤ a ∧ a ≤ 65535) (hb : 0 ≤ b ∧ b ≤ 65535) (ht : 0 ≤ t ∧ t ≤ 65535) : (0 ≤ a * (65535 - t) ∧ a * (65535 - t) ≤ 4294836225) ∧ 0 ≤ b * t ∧ b * t ≤ 4294836225 :=
  ⟨mul_bd ha (by omega), mul_bd hb ht⟩
set_option maxHeartbeats 1000000 in
theorem nlerp_any (a b t : Int) (w : World) (ha : 0 ≤ a ∧ a ≤ 65535) (hb : 0 ≤ b ∧ b ≤ 65535) (ht : 0 ≤ t ∧ t ≤ 65535) :
    Calls Tryd.prog 91 #[.int .i64 a, .int .i64 b, .int .i64 t] w fun e w' => e = .returned (.int .i64 (lerp a b t)) ∧ ∃ n, w' = w.drewN n := by
  have h1 := lerp_bd ha hb ht
  have ea : min 1099511627776 (max a (-1099511627776)) = a := by omega
  have eb : min 1099511627776 (max b (-1099511627776)) = b := by omega
  have et := lim16_id t ht
  have E := Lib.hid (show rdiv (a * (65535 - t) + b * t) 65535 = lerp a b t from rfl)
  have EA := Lib.hid ea; have EB := Lib.hid eb; have ET := Lib.hid et; clear ea eb et
  go_enter Tryd.func91, Tryd.ntmps91
  have CA := Lib.hid (fun w' => show Calls Tryd.prog 69 #[.int .i64 a, .int .i64 (-1099511627776), .int .i64 1099511627776] w' fun e w'' => e = .returned (.int .i64 a) ∧ w' = w'' by have := clamp_any a (-1099511627776) 1099511627776 w'; rw [EA.out] at this; exact this)
  have CB := Lib.hid (fun w' => show Calls Tryd.prog 69 #[.int .i64 b, .int .i64 (-1099511627776), .int .i64 1099511627776] w' fun e w'' => e = .returned (.int .i64 b) ∧ w' = w'' by have := clamp_any b (-1099511627776) 1099511627776 w'; rw [EB.out] at this; exact this)
  have CT := Lib.hid (fun w' => show Calls Tryd.prog 90 #[.int .i64 t] w' fun e w'' => e = .returned (.int .i64 t) ∧ w' = w'' by have := nunit_any t w'; rw [ET.out] at this; exact this)
  go_wp2_with fail
  refine (CA.out _).mono ?_
  rintro e w1 ⟨rfl, rfl⟩
  go_wp2_with fail
  refine (CB.out _).mono ?_
  rintro e w1 ⟨rfl, rfl⟩
  go_wp2_with fail
  refine (CT.out _).mono ?_
  rintro e w1 ⟨rfl, rfl⟩
  go_wp2_with fail
  refine (div_any _ _ _ (by omega) (by omega) (by omega) (by omega)).mono ?_
  rintro e w1 ⟨rfl, rfl⟩
  go_wp2_with fail
  go_ret
  exact ⟨ret_int E.out, 0, rfl⟩
set_option maxHeartbeats 1000000 in
theorem rlerp_any (a b t : Int) (w : World) (ha : 0 ≤ a ∧ a ≤ 65535) (hb : 0 ≤ b ∧ b ≤ 65535) (ht : 0 ≤ t ∧ t ≤ 65535) :
    Calls Tryd.prog 86 #[.int .i64 a, .int .i64 b, .int .i64 t] w fun e w' => e = .returned (.int .i64 (lerp a b t)) ∧ ∃ n, w' = w.drewN n := by
  have h1 := lerp_bd ha hb ht
  have ea : min 1099511627776 (max a (-1099511627776)) = a := by omega
  have eb : min 1099511627776 (max b (-1099511627776)) = b := by omega
  have et := lim16_id t ht
  have E := Lib.hid (show rdiv (a * (65535 - t) + b * t) 65535 = lerp a b t from rfl)
  have EA := Lib.hid ea; have EB := Lib.hid eb; have ET := Lib.hid et; clear ea eb et
  go_enter Tryd.func86, Tryd.ntmps86
  have CA := Lib.hid (fun w' => show Calls Tryd.prog 89 #[.int .i64 a, .int .i64 (-1099511627776), .int .i64 1099511627776] w' fun e w'' => e = .returned (.int .i64 a) ∧ w' = w'' by have := rclamp_any a (-1099511627776) 1099511627776 w'; rw [EA.out] at this; exact this)
  have CB := Lib.hid (fun w' => show Calls Tryd.prog 89 #[.int .i64 b, .int .i64 (-1099511627776), .int .i64 1099511627776] w' fun e w'' => e = .returned (.int .i64 b) ∧ w' = w'' by have := rclamp_any b (-1099511627776) 1099511627776 w'; rw [EB.out] at this; exact this)
  have CT := Lib.hid (fun w' => show Calls Tryd.prog 84 #[.int .i64 t] w' fun e w'' => e = .returned (.int .i64 t) ∧ w' = w'' by have := r1unit_any t w'; rw [ET.out] at this; exact this)
  go_wp2_with fail
  refine (CA.out _).mono ?_
  rintro e w1 ⟨rfl, rfl⟩
  go_wp2_with fail
  refine (CB.out _).mono ?_
  rintro e w1 ⟨rfl, rfl⟩
  go_wp2_with fail
  refine (CT.out _).mono ?_
  rintro e w1 ⟨rfl, rfl⟩
  go_wp2_with fail
  refine (rdiv_any _ _ _ (by omega) (by omega) (by omega) (by omega)).mono ?_
  rintro e w1 ⟨rfl, n1, rfl⟩
  go_wp2_with fail
  go_ret
  exact ⟨ret_int E.out, n1, rfl⟩
theorem luma_bd (p : Px) : 0 ≤ dot3 13933 46871 4731 ⟨lim16 p.r, lim16 p.g, lim16 p.b, 0⟩ ∧ dot3 13933 46871 4731 ⟨lim16 p.r, lim16 p.g, lim16 p.b, 0⟩ ≤ 4611686018427387904 := by
  have h1 := lim16_bd p.r; have h2 := lim16_bd p.g; have h3 := lim16_bd p.b
  unfold dot3
  dsimp only
  omega
set_option maxHeartbeats 2000000 in
theorem pluma_any (p : Px) (w : World) : Calls Tryd.prog 51 #[.agg #[.int .i64 p.r, .int .i64 p.g, .int .i64 p.b, .int .i64 p.a]] w fun e w' => e = .returned (.int .i64 (luma p)) ∧ Below w.heap.size w w' := by
  have h1 := lim16_bd p.r; have h2 := lim16_bd p.g; have h3 := lim16_bd p.b
  have E := Lib.hid (show rdiv (13933 * lim16 p.r + 46871 * lim16 p.g + 4731 * lim16 p.b) 65535 = luma p from rfl)
  go_enter Tryd.func51, Tryd.ntmps51
  go_upto_region 1 with fail
  obtain ⟨hb1, hB, -⟩ := one_box w #[.int .i64 p.r, .int .i64 p.g, .int .i64 p.b, .int .i64 p.a] 25 _ rfl
  generalize World.alloc w _ = w0 at *
  obtain ⟨⟨j1, j2, j3, j4⟩, -⟩ := hb1.four
  go_wp2_with fail
  refine (limit_any _ _ _ _ _).mono ?_
  rintro e w1 ⟨rfl, hbb⟩
  replace hb1 := hb1.below hbb; replace hB := bel_trans hB hbb; clear hbb j1 j2 j3 j4
  obtain ⟨⟨j1, j2, j3, j4⟩, f1, f2, f3, f4⟩ := hb1.four
  go_upto_region 2 with fail
  clear j1 j2 j3 j4 f1 f2 f3 f4
  have hb2 := hb1.put4 (.int .i64 (lim16 p.r)) (.int .i64 (lim16 p.g)) (.int .i64 (lim16 p.b)) (.int .i64 (lim16 p.a))
  have hB2 := set4_below hB (Nat.le_refl _) 0 1 2 3 (.int .i64 (lim16 p.r)) (.int .i64 (lim16 p.g)) (.int .i64 (lim16 p.b)) (.int .i64 (lim16 p.a))
  generalize World.setCell _ _ _ = w2 at *
  clear hb1 hB
  obtain ⟨⟨j1, j2, j3, j4⟩, -⟩ := hb2.four
  go_wp2_with fail
  refine (div_any _ _ _ (by omega) (by omega) (by omega) (by omega)).mono ?_
  rintro e w3 ⟨rfl, rfl⟩
  go_wp2_with fail
  go_ret
  exact ⟨ret_int E.out, hB2⟩
set_option maxHeartbeats 2000000 in
theorem rluma_any (p : Px) (w : World) : Calls Tryd.prog 61 #[.agg #[.int .i64 p.r, .int .i64 p.g, .int .i64 p.b, .int .i64 p.a]] w fun e w' => e = .returned (.int .i64 (luma p)) ∧ Below w.heap.size w w' := by
  have h1 := lim16_bd p.r; have h2 := lim16_bd p.g; have h3 := lim16_bd p.b
  have E := Lib.hid (show rdiv (13933 * lim16 p.r + 46871 * lim16 p.g + 4731 * lim16 p.b) 65535 = luma p from rfl)
  go_enter Tryd.func61, Tryd.ntmps61
  go_upto_region 1 with fail
  obtain ⟨hb1, hB, -⟩ := one_box w #[.int .i64 p.r, .int .i64 p.g, .int .i64 p.b, .int .i64 p.a] 25 _ rfl
  generalize World.alloc w _ = w0 at *
  obtain ⟨⟨j1, j2, j3, j4⟩, -⟩ := hb1.four
  go_wp2_with fail
  refine (rlimit_any _ _ _ _ _).mono ?_
  rintro e w1 ⟨rfl, hbb⟩
  replace hb1 := hb1.below hbb; replace hB := bel_trans hB hbb; clear hbb j1 j2 j3 j4
  obtain ⟨⟨j1, j2, j3, j4⟩, f1, f2, f3, f4⟩ := hb1.four
  go_upto_region 2 with fail
  clear j1 j2 j3 j4 f1 f2 f3 f4
  have hb2 := hb1.put4 (.int .i64 (lim16 p.r)) (.int .i64 (lim16 p.g)) (.int .i64 (lim16 p.b)) (.int .i64 (lim16 p.a))
  have hB2 := set4_below hB (Nat.le_refl _) 0 1 2 3 (.int .i64 (lim16 p.r)) (.int .i64 (lim16 p.g)) (.int .i64 (lim16 p.b)) (.int .i64 (lim16 p.a))
  generalize World.setCell _ _ _ = w2 at *
  clear hb1 hB
  obtain ⟨⟨j1, j2, j3, j4⟩, -⟩ := hb2.four
  go_wp2_with fail
  refine (rdiv_any _ _ _ (by omega) (by omega) (by omega) (by omega)).mono ?_
  rintro e w3 ⟨rfl, n3, rfl⟩
  go_wp2_with fail
  go_ret
  exact ⟨ret_int E.out, Below.drewN' hB2 n3⟩
end Go.Proofs.YtmbglkholoblaaaDoor
