/- SampleMoves: the walk over the contracts. -/
import Derived.Test.YtineinmghajmnaaMAD
import Derived.Test.YtineinmghajmnaaMAJ
import Derived.Test.YtineinmghajmnaaME
import Derived.Test.YtineinmghajmnaaML
import Derived.Test.YtineinmghajmnaaMAA
import Derived.Deep.LoopGhost
import Derived.Test.YtineinmghajmnaaMAF
namespace Go.Proofs.Ytineinmghajmnaa
open Go.RowKit
theorem wrap_u8 (n : Int) (h : 0 ≤ n ∧ n ≤ 255) : IntKind.u8.wrap n = n := by simp [IntKind.wrap, IntKind.signed, IntKind.bits]; omega
def MvRel (n : Nat) (w0 : World) (gh : Nat) (i : Value) (wr : World) : Prop := ∃ y : Nat, y ≤ n ∧ gh = n - y ∧ i = .int .i64 y ∧ Below w0.heap.size w0 wr
/-- What a region keeps around the one box that it makes. -/
def OneB (wr : World) (vs : Array Value) (T : TypeId) (g : Option Value) (w : World) : Prop := Below wr.heap.size wr w ∧ ∀ v, g = some v → ∃ gx, v = .pointer (some ⟨gx, 0, none⟩) ∧ wr.heap.size ≤ gx ∧ Bx w gx T vs
theorem OneB.call {wr w w' : World} {vs : Array Value} {T : TypeId} {g : Option Value} (h : OneB wr vs T g w) (hb : Below w.heap.size w w') : OneB wr vs T g w' :=
  ⟨bel_trans h.1 hb, fun v hv => by obtain ⟨gx, h1, h2, h3⟩ := h.2 v hv; exact ⟨gx, h1, h2, h3.below hb⟩⟩
set_option maxRecDepth 100000 in
set_option maxHeartbeats 8000000 in
theorem smoves_e (W H kd k dx dy ox oy E ow oh : Int) (vi : Value) (w : World) (hE : (E != 0) = true) (hdx : -128 ≤ dx ∧ dx ≤ 127) (hdy : -128 ≤ dy ∧ dy ≤ 127) (hkd : 0 ≤ kd ∧ kd ≤ 255) (hk : k = kd % 4)
    (T1 : ∀ w', Below w.heap.size w w' → Calls Try.prog 14 #[.agg #[.int .i64 W, .int .i64 H, vi], .agg #[.int .i64 65536, .int .i64 0, .int .i64 0, .int .i64 65536, .int .i64 (dx * 65536), .int .i64 (dy * 65536)], .int .i64 k, .agg #[.int .i64 ox, .int .i64 oy, .int .i64 ow, .int .i64 oh]] w' (ImPost E 0 0 [] w'))
    (T7 : ∀ w', Calls Try.prog 11 #[] w' fun e w'' => e = .returned (.bool true) ∧ Below w'.heap.size w' w'') :
    Calls Try.prog 9 #[.agg #[.int .i64 W, .int .i64 H, vi], .int .i8 dx, .int .i8 dy, .int .u8 kd, .agg #[.int .i64 ox, .int .i64 oy, .int .i64 ow, .int .i64 oh]] w (YesPost w) := by
  replace T1 := Lib.hid T1; replace T7 := Lib.hid T7
  go_enter Try.func9, Try.ntmps9
  go_upto_region 1 with fail
  have K := Lib.hid (fr_two w #[.int .i64 W, .int .i64 H, vi] #[.int .i64 ox, .int .i64 oy, .int .i64 ow, .int .i64 oh] 24 33 _ rfl)
  generalize World.alloc (World.alloc w _) _ = w0 at *
  obtain ⟨⟨a1, a2, a3⟩, -⟩ := K.out.1.1.three
  obtain ⟨⟨i1, i2, i3, i4⟩, -⟩ := K.out.1.2.1.four
  have q1 : kd.tmod 4 = k := by rw [hk]; exact Int.tmod_eq_emod_of_nonneg hkd.1
  have q2 : IntKind.u8.wrap k = k := wrap_u8 k (by omega)
  have q3 := wrap_in k (by omega)
  have q4 := wrap_in dx (by omega); have q5 := wrap_in dy (by omega); have q6 := wrap_in (dx * 65536) (by omega); have q7 := wrap_in (dy * 65536) (by omega)
  have HK := Lib.hid (show 0 ≤ k ∧ k ≤ 3 by omega)
  have HX := Lib.hid hdx; have HY := Lib.hid hdy
  clear hdx hdy hkd hk
  go_wp2_with fail
  refine (T1.out _ K.out.2).mono ?_
  rintro e w1 ⟨A1, n1, c1, rfl, hr1, hb⟩
  replace K := Lib.hid (K.out.below hb)
  clear hb a1 a2 a3 i1 i2 i3 i4 q1 q2 q3 q4 q5 q6 q7
  go_upto_region 3 with fail
  have K12 := Lib.hid (Bx.new w1 24 #[.int .i64 0, .int .i64 0, .slice A1 n1 c1])
  have hb := bel1 w1 (.cells #[.int .i64 0, .int .i64 0, .slice A1 n1 c1] 24)
  replace K := Lib.hid (K.out.below hb)
  have P1 := Lib.hid (hr1.pixs.on hb)
  clear hb hr1
  generalize World.alloc w1 _ = w2 at *
  generalize w1.heap.size = g12 at *
  go_wp2_with fail
  refine (T7.out _).mono ?_
  rintro e w3 ⟨rfl, hb⟩
  replace K := Lib.hid (K.out.below hb)
  clear hb P1 K12
  go_wp2_with fail
  refine (T7.out _).mono ?_
  rintro e w4 ⟨rfl, hb⟩
  have HB := Lib.hid (bel_trans K.out.2 hb)
  clear hb K
  go_wp2_with fail
  go_ret
  exact ⟨by simp, HB.out⟩
set_option maxRecDepth 100000 in
set_option maxHeartbeats 8000000 in
theorem smoves_z (W H kd k dx dy ox oy ow oh : Int) (vi : Value) (w : World) (TC : ∀ w', Below w.heap.size w w' → Calls Try.prog 22 #[.agg #[.int .i64 W, .int .i64 H, vi]] w' fun e w'' => e = .returned (.int .i64 0) ∧ Below w'.heap.size w' w'')
    (TE : ∀ w', Calls Try.prog 24 #[.agg #[.int .i64 ox, .int .i64 oy, .int .i64 ow, .int .i64 oh]] w' fun e w'' => e = .returned (.bool true) ∧ Below w'.heap.size w' w'') (hdx : -128 ≤ dx ∧ dx ≤ 127) (hdy : -128 ≤ dy ∧ dy ≤ 127) (hkd : 0 ≤ kd ∧ kd ≤ 255) (hk : k = kd % 4)
    (T1 : ∀ w', Below w.heap.size w w' → Calls Try.prog 14 #[.agg #[.int .i64 W, .int .i64 H, vi], .agg #[.int .i64 65536, .int .i64 0, .int .i64 0, .int .i64 65536, .int .i64 (dx * 65536), .int .i64 (dy * 65536)], .int .i64 k, .agg #[.int .i64 ox, .int .i64 oy, .int .i64 ow, .int .i64 oh]] w' (ImPost 0 0 0 [] w'))
    (T7 : ∀ w', Calls Try.prog 11 #[] w' fun e w'' => e = .returned (.bool true) ∧ Below w'.heap.size w' w'') :
    Calls Try.prog 9 #[.agg #[.int .i64 W, .int .i64 H, vi], .int .i8 dx, .int .i8 dy, .int .u8 kd, .agg #[.int .i64 ox, .int .i64 oy, .int .i64 ow, .int .i64 oh]] w (YesPost w) := by
  replace T1 := Lib.hid T1; replace T7 := Lib.hid T7
  replace TC := Lib.hid TC; replace TE := Lib.hid TE
  go_enter Try.func9, Try.ntmps9
  go_upto_region 1 with fail
  have K := Lib.hid (fr_two w #[.int .i64 W, .int .i64 H, vi] #[.int .i64 ox, .int .i64 oy, .int .i64 ow, .int .i64 oh] 24 33 _ rfl)
  generalize World.alloc (World.alloc w _) _ = w0 at *
  obtain ⟨⟨a1, a2, a3⟩, -⟩ := K.out.1.1.three
  obtain ⟨⟨i1, i2, i3, i4⟩, -⟩ := K.out.1.2.1.four
  have q1 : kd.tmod 4 = k := by rw [hk]; exact Int.tmod_eq_emod_of_nonneg hkd.1
  have q2 : IntKind.u8.wrap k = k := wrap_u8 k (by omega)
  have q3 := wrap_in k (by omega)
  have q4 := wrap_in dx (by omega); have q5 := wrap_in dy (by omega); have q6 := wrap_in (dx * 65536) (by omega); have q7 := wrap_in (dy * 65536) (by omega)
  have HK := Lib.hid (show 0 ≤ k ∧ k ≤ 3 by omega)
  have HX := Lib.hid hdx; have HY := Lib.hid hdy
  clear hdx hdy hkd hk
  go_wp2_with fail
  refine (T1.out _ K.out.2).mono ?_
  rintro e w1 ⟨A1, n1, c1, rfl, hr1, hb⟩
  replace K := Lib.hid (K.out.below hb)
  clear hb a1 a2 a3 i1 i2 i3 i4 q1 q2 q3 q4 q5 q6 q7
  go_upto_region 3 with fail
  have K12 := Lib.hid (Bx.new w1 24 #[.int .i64 0, .int .i64 0, .slice A1 n1 c1])
  have hb := bel1 w1 (.cells #[.int .i64 0, .int .i64 0, .slice A1 n1 c1] 24)
  replace K := Lib.hid (K.out.below hb)
  have P1 := Lib.hid (hr1.pixs.on hb)
  clear hb hr1
  generalize World.alloc w1 _ = w2 at *
  generalize w1.heap.size = g12 at *
  obtain ⟨⟨a1, a2, a3⟩, -⟩ := K.out.1.1.three
  go_wp2_with fail
  refine (T7.out _).mono ?_
  rintro e w3 ⟨rfl, hb⟩
  replace K := Lib.hid (K.out.below hb); replace K12 := Lib.hid (K12.out.below hb); replace P1 := Lib.hid (P1.out.on hb)
  clear hb a1 a2 a3
  obtain ⟨⟨a1, a2, a3⟩, -⟩ := K.out.1.1.three
  go_wp2_with fail
  refine (TC.out _ K.out.2).mono ?_
  rintro e w4 ⟨rfl, hb⟩
  replace K := Lib.hid (K.out.below hb); replace K12 := Lib.hid (K12.out.below hb); replace P1 := Lib.hid (P1.out.on hb)
  clear hb a1 a2 a3 TC
  obtain rfl := P1.out.len
  obtain ⟨⟨j1, j2, j3⟩, -⟩ := K12.out.three
  obtain ⟨⟨i1, i2, i3, i4⟩, -⟩ := K.out.1.2.1.four
  rcases (show (((0 : Int) != ow) = false) ∨ (((0 : Int) != ow) = true) by cases ((0 : Int) != ow) <;> simp) with d1 | d1
  all_goals rcases (show (((0 : Int) != oh) = false) ∨ (((0 : Int) != oh) = true) by cases ((0 : Int) != oh) <;> simp) with d2 | d2
  · generalize w4 = wx at *
    have HB := Lib.hid K.out.2
    go_upto_region 8 with fail
    clear i1 i2 i3 i4 d1 d2 K K12
    go_loopg [93] 0 (MvRel 0 wx)
    case atStart => exact ⟨0, Nat.zero_le _, rfl, rfl, Below.refl _ _⟩
    case round =>
      obtain ⟨y, hy, rfl, rfl, hby⟩ := hrel
      obtain rfl : y = 0 := by omega
      have HBZ := Lib.hid (bel_trans HB.out hby)
      clear hby
      go_wp2_with fail
      go_ret
      exact ⟨by simp, HBZ.out⟩
  · go_wp2_with fail
    refine (TE.out _).mono ?_
    rintro e wx ⟨rfl, hb⟩
    replace K := Lib.hid (K.out.below hb); replace K12 := Lib.hid (K12.out.below hb)
    clear hb i1 i2 i3 i4 j1 j2 j3
    obtain ⟨⟨j1, j2, j3⟩, -⟩ := K12.out.three
    obtain ⟨⟨i1, i2, i3, i4⟩, -⟩ := K.out.1.2.1.four
    have HB := Lib.hid K.out.2
    go_upto_region 8 with fail
    clear i1 i2 i3 i4 d1 d2 K K12
    go_loopg [93] 0 (MvRel 0 wx)
    case atStart => exact ⟨0, Nat.zero_le _, rfl, rfl, Below.refl _ _⟩
    case round =>
      obtain ⟨y, hy, rfl, rfl, hby⟩ := hrel
      obtain rfl : y = 0 := by omega
      have HBZ := Lib.hid (bel_trans HB.out hby)
      clear hby
      go_wp2_with fail
      go_ret
      exact ⟨by simp, HBZ.out⟩
  · go_wp2_with fail
    refine (TE.out _).mono ?_
    rintro e wx ⟨rfl, hb⟩
    replace K := Lib.hid (K.out.below hb); replace K12 := Lib.hid (K12.out.below hb)
    clear hb i1 i2 i3 i4 j1 j2 j3
    obtain ⟨⟨j1, j2, j3⟩, -⟩ := K12.out.three
    obtain ⟨⟨i1, i2, i3, i4⟩, -⟩ := K.out.1.2.1.four
    have HB := Lib.hid K.out.2
    go_upto_region 8 with fail
    clear i1 i2 i3 i4 d1 d2 K K12
    go_loopg [93] 0 (MvRel 0 wx)
    case atStart => exact ⟨0, Nat.zero_le _, rfl, rfl, Below.refl _ _⟩
    case round =>
      obtain ⟨y, hy, rfl, rfl, hby⟩ := hrel
      obtain rfl : y = 0 := by omega
      have HBZ := Lib.hid (bel_trans HB.out hby)
      clear hby
      go_wp2_with fail
      go_ret
      exact ⟨by simp, HBZ.out⟩
  · go_wp2_with fail
    refine (TE.out _).mono ?_
    rintro e wx ⟨rfl, hb⟩
    replace K := Lib.hid (K.out.below hb); replace K12 := Lib.hid (K12.out.below hb)
    clear hb i1 i2 i3 i4 j1 j2 j3
    obtain ⟨⟨j1, j2, j3⟩, -⟩ := K12.out.three
    obtain ⟨⟨i1, i2, i3, i4⟩, -⟩ := K.out.1.2.1.four
    go_wp2_with fail
    refine (TE.out _).mono ?_
    rintro e wx ⟨rfl, hb⟩
    replace K := Lib.hid (K.out.below hb); replace K12 := Lib.hid (K12.out.below hb)
    clear hb i1 i2 i3 i4 j1 j2 j3
    obtain ⟨⟨j1, j2, j3⟩, -⟩ := K12.out.three
    obtain ⟨⟨i1, i2, i3, i4⟩, -⟩ := K.out.1.2.1.four
    have HB := Lib.hid K.out.2
    go_upto_region 8 with fail
    clear i1 i2 i3 i4 d1 d2 K K12
    go_loopg [93] 0 (MvRel 0 wx)
    case atStart => exact ⟨0, Nat.zero_le _, rfl, rfl, Below.refl _ _⟩
    case round =>
      obtain ⟨y, hy, rfl, rfl, hby⟩ := hrel
      obtain rfl : y = 0 := by omega
      have HBZ := Lib.hid (bel_trans HB.out hby)
      clear hby
      go_wp2_with fail
      go_ret
      exact ⟨by simp, HBZ.out⟩
set_option maxRecDepth 100000 in
set_option maxHeartbeats 8000000 in
theorem smoves_ok (W H kd k dx dy ox oy : Int) (vi : Value) (w : World) (wn hn : Nat) (L : List Px) (g : Int → Int → Px)
    (hox : -2097152 ≤ ox ∧ ox ≤ 2097152) (hoy : -2097152 ≤ oy ∧ oy ≤ 2097152) (hw0 : 0 < wn ∧ wn ≤ 256) (hh0 : 0 < hn ∧ hn ≤ 256) (hL : L.length = wn * hn)
    (HQ : ∀ n : Nat, n < wn * hn → pat L n = if (g (ox + (n : Int) % (wn : Int) - dx) (oy + (n : Int) / (wn : Int) - dy)).a = 0 ∧ k ≠ 0 then Px.zero else g (ox + (n : Int) % (wn : Int) - dx) (oy + (n : Int) / (wn : Int) - dy))
    (TC : ∀ w', Below w.heap.size w w' → Calls Try.prog 22 #[.agg #[.int .i64 W, .int .i64 H, vi]] w' fun e w'' => e = .returned (.int .i64 0) ∧ Below w'.heap.size w' w'')
    (TA : ∀ w' x y, Below w.heap.size w w' → Calls Try.prog 25 #[.agg #[.int .i64 W, .int .i64 H, vi], .int .i64 x, .int .i64 y] w' (PxPost (g x y) w')) (hdx : -128 ≤ dx ∧ dx ≤ 127) (hdy : -128 ≤ dy ∧ dy ≤ 127) (hkd : 0 ≤ kd ∧ kd ≤ 255) (hk : k = kd % 4)
    (T1 : ∀ w', Below w.heap.size w w' → Calls Try.prog 14 #[.agg #[.int .i64 W, .int .i64 H, vi], .agg #[.int .i64 65536, .int .i64 0, .int .i64 0, .int .i64 65536, .int .i64 (dx * 65536), .int .i64 (dy * 65536)], .int .i64 k, .agg #[.int .i64 ox, .int .i64 oy, .int .i64 (wn : Int), .int .i64 (hn : Int)]] w' (ImPost 0 (wn : Int) (hn : Int) L w'))
    (T7 : ∀ w', Calls Try.prog 11 #[] w' fun e w'' => e = .returned (.bool true) ∧ Below w'.heap.size w' w'') :
    Calls Try.prog 9 #[.agg #[.int .i64 W, .int .i64 H, vi], .int .i8 dx, .int .i8 dy, .int .u8 kd, .agg #[.int .i64 ox, .int .i64 oy, .int .i64 (wn : Int), .int .i64 (hn : Int)]] w (YesPost w) := by
  replace T1 := Lib.hid T1; replace T7 := Lib.hid T7
  replace TC := Lib.hid TC; replace TA := Lib.hid TA; replace HQ := Lib.hid HQ
  have HL := Lib.hid hL; have HOX := Lib.hid hox; have HOY := Lib.hid hoy
  clear hL hox hoy
  go_enter Try.func9, Try.ntmps9
  go_upto_region 1 with fail
  have K := Lib.hid (fr_two w #[.int .i64 W, .int .i64 H, vi] #[.int .i64 ox, .int .i64 oy, .int .i64 (wn : Int), .int .i64 (hn : Int)] 24 33 _ rfl)
  generalize World.alloc (World.alloc w _) _ = w0 at *
  obtain ⟨⟨a1, a2, a3⟩, -⟩ := K.out.1.1.three
  obtain ⟨⟨i1, i2, i3, i4⟩, -⟩ := K.out.1.2.1.four
  have q1 : kd.tmod 4 = k := by rw [hk]; exact Int.tmod_eq_emod_of_nonneg hkd.1
  have q2 : IntKind.u8.wrap k = k := wrap_u8 k (by omega)
  have q3 := wrap_in k (by omega)
  have q4 := wrap_in dx (by omega); have q5 := wrap_in dy (by omega); have q6 := wrap_in (dx * 65536) (by omega); have q7 := wrap_in (dy * 65536) (by omega)
  have HK := Lib.hid (show 0 ≤ k ∧ k ≤ 3 by omega)
  have HX := Lib.hid hdx; have HY := Lib.hid hdy
  clear hdx hdy hkd hk
  go_wp2_with fail
  refine (T1.out _ K.out.2).mono ?_
  rintro e w1 ⟨A1, n1, c1, rfl, hr1, hb⟩
  replace K := Lib.hid (K.out.below hb)
  clear hb a1 a2 a3 i1 i2 i3 i4 q1 q2 q3 q4 q5 q6 q7
  go_upto_region 3 with fail
  have K12 := Lib.hid (Bx.new w1 24 #[.int .i64 (wn : Int), .int .i64 (hn : Int), .slice A1 n1 c1])
  have hb := bel1 w1 (.cells #[.int .i64 (wn : Int), .int .i64 (hn : Int), .slice A1 n1 c1] 24)
  replace K := Lib.hid (K.out.below hb)
  have P1 := Lib.hid (hr1.pixs.on hb)
  clear hb hr1
  generalize World.alloc w1 _ = w2 at *
  generalize w1.heap.size = g12 at *
  obtain ⟨⟨a1, a2, a3⟩, -⟩ := K.out.1.1.three
  go_wp2_with fail
  refine (T7.out _).mono ?_
  rintro e w3 ⟨rfl, hb⟩
  replace K := Lib.hid (K.out.below hb); replace K12 := Lib.hid (K12.out.below hb); replace P1 := Lib.hid (P1.out.on hb)
  clear hb a1 a2 a3
  obtain ⟨⟨a1, a2, a3⟩, -⟩ := K.out.1.1.three
  go_wp2_with fail
  refine (TC.out _ K.out.2).mono ?_
  rintro e w4 ⟨rfl, hb⟩
  replace K := Lib.hid (K.out.below hb); replace K12 := Lib.hid (K12.out.below hb); replace P1 := Lib.hid (P1.out.on hb)
  clear hb a1 a2 a3 TC
  obtain rfl := P1.out.len
  have hN : wn * hn ≤ 256 * 256 := Nat.mul_le_mul hw0.2 hh0.2
  have hN0 : 0 < wn * hn := Nat.mul_pos hw0.1 hh0.1
  have hNI : ((wn * hn : Nat) : Int) = (wn : Int) * (hn : Int) := Int.natCast_mul _ _
  have d1 : IntKind.i64.wrap ((wn : Int) * (hn : Int)) = (L.length : Int) := by rw [HL.out, ← hNI]; exact wrap_in _ (by omega)
  have d2 : ((L.length : Int) != 0) = true := by simp; have := HL.out; intro e; rw [e] at this; simp at this; omega
  have d3 : ¬ (wn : Int) < 1 := by omega
  obtain ⟨⟨j1, j2, j3⟩, -⟩ := K12.out.three
  obtain ⟨⟨i1, i2, i3, i4⟩, -⟩ := K.out.1.2.1.four
  have hl0 : 0 < L.length := by rw [HL.out]; exact hN0
  have HN := Lib.hid hN; have HW := Lib.hid hw0
  clear hN hN0 hNI hw0 hh0
  go_upto_region 8 with fail
  clear d1 d2 d3 j1 j2 j3 i1 i2 i3 i4
  have hP := P1.out
  obtain ⟨A', c', ev, -, hcc⟩ := hP
  injection ev with u1 u2 u3
  subst u1
  obtain ⟨b, o, rfl, hb0, -⟩ := hcc 0 hl0
  have HB0 := Lib.hid hb0
  have HC := Lib.hid (show ∀ k, k < L.length → w4.cell? ⟨b, o + k * 4, none⟩ = some (.int .i64 (pat L k).r) ∧ w4.cell? ⟨b, o + k * 4 + 1, none⟩ = some (.int .i64 (pat L k).g) ∧ w4.cell? ⟨b, o + k * 4 + 2, none⟩ = some (.int .i64 (pat L k).b) ∧ w4.cell? ⟨b, o + k * 4 + 3, none⟩ = some (.int .i64 (pat L k).a) from fun k hk => by
    obtain ⟨b', o', e', -, h⟩ := hcc k hk
    injection e' with e'
    injection e' with e1 e2
    subst e1 e2
    exact h)
  clear hcc hb0 u3 hl0
  go_loopg [93] L.length (MvRel L.length w4)
  case atStart => exact ⟨0, Nat.zero_le _, rfl, rfl, Below.refl _ _⟩
  case round =>
    obtain ⟨n, hn9, rfl, rfl, hby⟩ := hrel
    by_cases hlt : n < L.length
    · have hk0 : (0 : Int) ≤ (n : Int) := by omega
      have hk1 : (n : Int) < (L.length : Int) := by omega
      have hp := HC.out n hlt
      have hq := HQ.out n (by rw [← HL.out]; exact hlt)
      rw [hq] at hp
      have hnI : ((wn * hn : Nat) : Int) = (wn : Int) * (hn : Int) := Int.natCast_mul _ _
      have hw0 := HW.out
      have m0 : 0 ≤ (n : Int) % (wn : Int) ∧ (n : Int) % (wn : Int) < (wn : Int) := ⟨Int.emod_nonneg _ (by omega), Int.emod_lt_of_pos _ (by omega)⟩
      have m1 : 0 ≤ (n : Int) / (wn : Int) ∧ (n : Int) / (wn : Int) ≤ (n : Int) := ⟨Int.ediv_nonneg hk0 (by omega), Int.ediv_le_self _ hk0⟩
      have hn8 : n ≤ 65536 := by have := HL.out; have := HN.out; omega
      have x1 := wrap_in (ox + (n : Int) % (wn : Int)) (by have := HOX.out; omega); have x2 := wrap_in (ox + (n : Int) % (wn : Int) - dx) (by have := HOX.out; have := HX.out; omega)
      have x3 := wrap_in (oy + (n : Int) / (wn : Int)) (by have := HOY.out; omega); have x4 := wrap_in (oy + (n : Int) / (wn : Int) - dy) (by have := HOY.out; have := HY.out; omega)
      have x5 := wrap_in dx (by have := HX.out; omega); have x6 := wrap_in dy (by have := HY.out; omega)
      have x7 := wrap_in ((n : Int) % (wn : Int)) (by omega); have x8 := wrap_in ((n : Int) / (wn : Int)) (by omega)
      have y1 : (n : Int).tmod (wn : Int) = (n : Int) % (wn : Int) := Int.tmod_eq_emod_of_nonneg hk0
      have y2 : (n : Int).tdiv (wn : Int) = (n : Int) / (wn : Int) := Int.tdiv_eq_ediv_of_nonneg hk0
      have y3 : (wn = 0) = False := by simp; omega
      have y4 : ((wn : Int) = 0) = False := by simp; omega
      clear hq hnI hw0 m0 m1
      have HBY := Lib.hid hby
      have p1 := (hby.cell (p := ⟨b, _, none⟩) HB0.out).trans hp.1; have p2 := (hby.cell (p := ⟨b, _, none⟩) HB0.out).trans hp.2.1; have p3 := (hby.cell (p := ⟨b, _, none⟩) HB0.out).trans hp.2.2.1; have p4 := (hby.cell (p := ⟨b, _, none⟩) HB0.out).trans hp.2.2.2
      clear hp hby
      generalize hu : (if (g (ox + (n : Int) % (wn : Int) - dx) (oy + (n : Int) / (wn : Int) - dy)).a = 0 ∧ k ≠ 0 then Px.zero else g (ox + (n : Int) % (wn : Int) - dx) (oy + (n : Int) / (wn : Int) - dy)) = u at *
      have HU := Lib.hid hu
      clear hu
      go_upto_region 10 with fail
      clear p1 p2 p3 p4
      have H15 := Lib.hid (Bx.new wr 27 #[.int .i64 u.r, .int .i64 u.g, .int .i64 u.b, .int .i64 u.a])
      have HBV := Lib.hid (HBY.out.trans ((bel1 wr (.cells #[.int .i64 u.r, .int .i64 u.g, .int .i64 u.b, .int .i64 u.a] 27)).mono HBY.out.size))
      have hge := HBY.out.size
      clear HBY
      generalize World.alloc wr _ = wv at *
      generalize wr.heap.size = g15 at *
      have KV := Lib.hid (K.out.below HBV.out); have KV12 := Lib.hid (K12.out.below HBV.out)
      have HIM := Lib.hid (show ∀ wq, Below wv.heap.size wv wq → (wq.cell? ⟨w.heap.size, 0, none⟩ = some (.int .i64 W) ∧ wq.cell? ⟨w.heap.size, 1, none⟩ = some (.int .i64 H) ∧ wq.cell? ⟨w.heap.size, 2, none⟩ = some vi) ∧ (wq.cell? ⟨w.heap.size + 1, 0, none⟩ = some (.int .i64 ox) ∧ wq.cell? ⟨w.heap.size + 1, 1, none⟩ = some (.int .i64 oy) ∧ wq.cell? ⟨w.heap.size + 1, 2, none⟩ = some (.int .i64 (wn : Int)) ∧ wq.cell? ⟨w.heap.size + 1, 3, none⟩ = some (.int .i64 (hn : Int))) ∧ wq.cell? ⟨g12, 0, none⟩ = some (.int .i64 (wn : Int)) from fun wq hq => ⟨(KV.out.below hq).1.1.three.1, (KV.out.below hq).1.2.1.four.1, (KV12.out.below hq).three.1.1⟩)
      have TE := Lib.hid (fun wq (hq : Below wv.heap.size wv wq) => TA.out wq (ox + (n : Int) % (wn : Int) - dx) (oy + (n : Int) / (wn : Int) - dy) (bel_trans KV.out.2 hq))
      generalize g (ox + (n : Int) % (wn : Int) - dx) (oy + (n : Int) / (wn : Int) - dy) = p at *
      have HI := Lib.hid (show OneB wv #[.int .i64 0, .int .i64 0, .int .i64 0, .int .i64 0] 27 none wv.drew from ⟨(Below.refl _ _).drew, fun _ h => by cases h⟩)
      refine wp_region_any (by kernel_rfl) ?_
      refine wp_orderK (K := OneB wv #[.int .i64 0, .int .i64 0, .int .i64 0, .int .i64 0] 27) (fun i => decide (i < 23)) 22 23 _ ((Array.replicate 24 true).set! 23 false) [0, 1, 2, 3, 4, 5, 6, 7, 8, 9, 10, 11, 12, 13, 14, 15, 16, 17, 18, 19, 20, 21] (g := 1) (by decide +kernel) (by decide +kernel) (by decide +kernel) (by decide +kernel) rfl HI.out ?_
      go_frame
      refine wpKs_val rfl (.agg #[.int .i64 W, .int .i64 H, vi]) rfl (fun gq wq hq => ?_) ?_
      · obtain ⟨⟨a1, a2, a3⟩, ⟨i1, i2, i3, i4⟩, j1⟩ := HIM.out _ hq.1; clear hq; go_simp
      go_frame
      refine wpKs_val rfl (.pointer (some ⟨w.heap.size + 1, 0, none⟩)) rfl (fun gq wq hq => ?_) ?_
      · obtain ⟨⟨a1, a2, a3⟩, ⟨i1, i2, i3, i4⟩, j1⟩ := HIM.out _ hq.1; clear hq; go_simp
      go_frame
      refine wpKs_val rfl (.int .i64 (ox)) rfl (fun gq wq hq => ?_) ?_
      · obtain ⟨⟨a1, a2, a3⟩, ⟨i1, i2, i3, i4⟩, j1⟩ := HIM.out _ hq.1; clear hq; go_simp
      go_frame
      refine wpKs_val rfl (.int .i64 ((n : Int))) rfl (fun gq wq hq => ?_) ?_
      · obtain ⟨⟨a1, a2, a3⟩, ⟨i1, i2, i3, i4⟩, j1⟩ := HIM.out _ hq.1; clear hq; go_simp
      go_frame
      refine wpKs_val rfl (.pointer (some ⟨g12, 0, none⟩)) rfl (fun gq wq hq => ?_) ?_
      · obtain ⟨⟨a1, a2, a3⟩, ⟨i1, i2, i3, i4⟩, j1⟩ := HIM.out _ hq.1; clear hq; go_simp
      go_frame
      refine wpKs_val rfl (.int .i64 ((wn : Int))) rfl (fun gq wq hq => ?_) ?_
      · obtain ⟨⟨a1, a2, a3⟩, ⟨i1, i2, i3, i4⟩, j1⟩ := HIM.out _ hq.1; clear hq; go_simp
      go_frame
      refine wpKs_val rfl (.int .i64 ((n : Int) % (wn : Int))) rfl (fun gq wq hq => ?_) ?_
      · obtain ⟨⟨a1, a2, a3⟩, ⟨i1, i2, i3, i4⟩, j1⟩ := HIM.out _ hq.1; clear hq; go_simp
      go_frame
      refine wpKs_val rfl (.int .i64 (ox + (n : Int) % (wn : Int))) rfl (fun gq wq hq => ?_) ?_
      · obtain ⟨⟨a1, a2, a3⟩, ⟨i1, i2, i3, i4⟩, j1⟩ := HIM.out _ hq.1; clear hq; go_simp
      go_frame
      refine wpKs_val rfl (.int .i8 (dx)) rfl (fun gq wq hq => ?_) ?_
      · obtain ⟨⟨a1, a2, a3⟩, ⟨i1, i2, i3, i4⟩, j1⟩ := HIM.out _ hq.1; clear hq; go_simp
      go_frame
      refine wpKs_val rfl (.int .i64 (dx)) rfl (fun gq wq hq => ?_) ?_
      · obtain ⟨⟨a1, a2, a3⟩, ⟨i1, i2, i3, i4⟩, j1⟩ := HIM.out _ hq.1; clear hq; go_simp
      go_frame
      refine wpKs_val rfl (.int .i64 (ox + (n : Int) % (wn : Int) - dx)) rfl (fun gq wq hq => ?_) ?_
      · obtain ⟨⟨a1, a2, a3⟩, ⟨i1, i2, i3, i4⟩, j1⟩ := HIM.out _ hq.1; clear hq; go_simp
      go_frame
      refine wpKs_val rfl (.pointer (some ⟨w.heap.size + 1, 1, none⟩)) rfl (fun gq wq hq => ?_) ?_
      · obtain ⟨⟨a1, a2, a3⟩, ⟨i1, i2, i3, i4⟩, j1⟩ := HIM.out _ hq.1; clear hq; go_simp
      go_frame
      refine wpKs_val rfl (.int .i64 (oy)) rfl (fun gq wq hq => ?_) ?_
      · obtain ⟨⟨a1, a2, a3⟩, ⟨i1, i2, i3, i4⟩, j1⟩ := HIM.out _ hq.1; clear hq; go_simp
      go_frame
      refine wpKs_val rfl (.int .i64 ((n : Int))) rfl (fun gq wq hq => ?_) ?_
      · obtain ⟨⟨a1, a2, a3⟩, ⟨i1, i2, i3, i4⟩, j1⟩ := HIM.out _ hq.1; clear hq; go_simp
      go_frame
      refine wpKs_val rfl (.pointer (some ⟨g12, 0, none⟩)) rfl (fun gq wq hq => ?_) ?_
      · obtain ⟨⟨a1, a2, a3⟩, ⟨i1, i2, i3, i4⟩, j1⟩ := HIM.out _ hq.1; clear hq; go_simp
      go_frame
      refine wpKs_val rfl (.int .i64 ((wn : Int))) rfl (fun gq wq hq => ?_) ?_
      · obtain ⟨⟨a1, a2, a3⟩, ⟨i1, i2, i3, i4⟩, j1⟩ := HIM.out _ hq.1; clear hq; go_simp
      go_frame
      refine wpKs_val rfl (.int .i64 ((n : Int) / (wn : Int))) rfl (fun gq wq hq => ?_) ?_
      · obtain ⟨⟨a1, a2, a3⟩, ⟨i1, i2, i3, i4⟩, j1⟩ := HIM.out _ hq.1; clear hq; go_simp
      go_frame
      refine wpKs_val rfl (.int .i64 (oy + (n : Int) / (wn : Int))) rfl (fun gq wq hq => ?_) ?_
      · obtain ⟨⟨a1, a2, a3⟩, ⟨i1, i2, i3, i4⟩, j1⟩ := HIM.out _ hq.1; clear hq; go_simp
      go_frame
      refine wpKs_val rfl (.int .i8 (dy)) rfl (fun gq wq hq => ?_) ?_
      · obtain ⟨⟨a1, a2, a3⟩, ⟨i1, i2, i3, i4⟩, j1⟩ := HIM.out _ hq.1; clear hq; go_simp
      go_frame
      refine wpKs_val rfl (.int .i64 (dy)) rfl (fun gq wq hq => ?_) ?_
      · obtain ⟨⟨a1, a2, a3⟩, ⟨i1, i2, i3, i4⟩, j1⟩ := HIM.out _ hq.1; clear hq; go_simp
      go_frame
      refine wpKs_val rfl (.int .i64 (oy + (n : Int) / (wn : Int) - dy)) rfl (fun gq wq hq => ?_) ?_
      · obtain ⟨⟨a1, a2, a3⟩, ⟨i1, i2, i3, i4⟩, j1⟩ := HIM.out _ hq.1; clear hq; go_simp
      go_frame
      refine wpKs_call rfl (.agg #[.int .i64 p.r, .int .i64 p.g, .int .i64 p.b, .int .i64 p.a]) 25 #[.agg #[.int .i64 W, .int .i64 H, vi], .int .i64 (ox + (n : Int) % (wn : Int) - dx), .int .i64 (oy + (n : Int) / (wn : Int) - dy)] rfl (fun wq => ?_) (fun gq wq hq => (TE.out wq hq.1).mono fun e w' hh => ⟨hh.1, hq.call hh.2⟩) ?_
      · go_simp
      go_frame
      refine ⟨⟨rfl, fun wq hq => ⟨.pointer (some ⟨wq.heap.size, 0, none⟩), wq.alloc (.cells #[.int .i64 0, .int .i64 0, .int .i64 0, .int .i64 0] 27), ?_, ?_⟩⟩, fun v wq hq => ?_⟩
      · clear hq; go_simp
      · exact ⟨bel_alloc hq.1 _, fun v hv => by cases hv; exact ⟨_, rfl, hq.1.size, Bx.new _ _ _⟩⟩
      refine wp_seqJ (is := [23]) _ _ _ (.cons rfl .nil) (by decide +kernel) ?_
      obtain ⟨hB9, hq9⟩ := hq
      obtain ⟨gx, rfl, hgx, hbx9⟩ := hq9 v rfl
      clear hq9 TE HIM HI x1 x2 x3 x4 x5 x6 x7 x8 y1 y2 y3 y4
      go_frame
      obtain ⟨⟨m1, m2, m3, m4⟩, mf1, mf2, mf3, mf4⟩ := hbx9.four
      have HX9 := Lib.hid hbx9; have HB9 := Lib.hid (HBV.out.trans (hB9.mono HBV.out.size)); have H15' := Lib.hid (H15.out.below hB9)
      have hg16 : w4.heap.size ≤ gx := Nat.le_trans HBV.out.size hgx
      clear hbx9 hB9
      go_upto_region 11 with fail
      have hne : g15 ≠ gx := by have := H15.out.lt; omega
      have H16 := Lib.hid (HX9.out.set4 (.int .i64 p.r) (.int .i64 p.g) (.int .i64 p.b) (.int .i64 p.a))
      have H15W := Lib.hid ((((H15'.out.other hne 0 (.int .i64 p.r)).other hne 1 (.int .i64 p.g)).other hne 2 (.int .i64 p.b)).other hne 3 (.int .i64 p.a))
      have HB10 := Lib.hid ((((HB9.out.setCell (p := ⟨gx, 0, none⟩) hg16 (.int .i64 p.r)).setCell (p := ⟨gx, 1, none⟩) hg16 (.int .i64 p.g)).setCell (p := ⟨gx, 2, none⟩) hg16 (.int .i64 p.b)).setCell (p := ⟨gx, 3, none⟩) hg16 (.int .i64 p.a))
      clear m1 m2 m3 m4 mf1 mf2 mf3 mf4 HX9 HB9 H15' H15
      generalize World.setCell (World.setCell (World.setCell (World.setCell wq _ _) _ _) _ _) _ _ = wy at *
      obtain ⟨⟨m1, m2, m3, m4⟩, mf1, mf2, mf3, mf4⟩ := H16.out.four
      by_cases ha : p.a = 0 ∧ k ≠ 0
      · have da : (p.a == 0) = true := by simp [ha.1]
        have dk : (k != 0) = true := by simp [ha.2]
        obtain rfl : u = Px.zero := by rw [← HU.out, if_pos ha]
        clear ha
        go_upto_region 13 with fail
        have H17 := Lib.hid (H16.out.set4 (.int .i64 0) (.int .i64 0) (.int .i64 0) (.int .i64 0))
        have H15Z := Lib.hid ((((H15W.out.other hne 0 (.int .i64 0)).other hne 1 (.int .i64 0)).other hne 2 (.int .i64 0)).other hne 3 (.int .i64 0))
        have HBZ := Lib.hid ((((HB10.out.setCell (p := ⟨gx, 0, none⟩) hg16 (.int .i64 0)).setCell (p := ⟨gx, 1, none⟩) hg16 (.int .i64 0)).setCell (p := ⟨gx, 2, none⟩) hg16 (.int .i64 0)).setCell (p := ⟨gx, 3, none⟩) hg16 (.int .i64 0))
        clear m1 m2 m3 m4 mf1 mf2 mf3 mf4 H16 H15W HB10 da dk
        generalize World.setCell (World.setCell (World.setCell (World.setCell wy _ _) _ _) _ _) _ _ = wx at *
        obtain ⟨⟨m1, m2, m3, m4⟩, -⟩ := H17.out.four
        obtain ⟨⟨l1, l2, l3, l4⟩, -⟩ := H15Z.out.four
        replace l1 : wx.cell? ⟨g15, 0, none⟩ = some (.int .i64 0) := l1; replace l2 : wx.cell? ⟨g15, 1, none⟩ = some (.int .i64 0) := l2; replace l3 : wx.cell? ⟨g15, 2, none⟩ = some (.int .i64 0) := l3; replace l4 : wx.cell? ⟨g15, 3, none⟩ = some (.int .i64 0) := l4
        go_wp2_with fail
        go_roundg (L.length - (n + 1))
        case measure => omega
        case rel => exact ⟨n + 1, by omega, rfl, by go_num, HBZ.out⟩
      · obtain rfl : u = p := by rw [← HU.out, if_neg ha]
        obtain ⟨⟨l1, l2, l3, l4⟩, -⟩ := H15W.out.four
        have hak : ((u.a == 0) = true ∧ (k != 0) = false) ∨ (u.a == 0) = false := by
          by_cases h0 : u.a = 0
          · left
            have hk0 : k = 0 := Classical.byContradiction fun h => ha ⟨h0, h⟩
            exact ⟨by simp [h0], by simp [hk0]⟩
          · right; simp [h0]
        rcases hak with ⟨da, dk⟩ | da
        all_goals
          clear ha
          go_wp2_with fail
          go_roundg (L.length - (n + 1))
          case measure => omega
          case rel => exact ⟨n + 1, by omega, rfl, by go_num, HB10.out⟩
    · obtain rfl : n = L.length := by omega
      have HBZ := Lib.hid (bel_trans K.out.2 hby)
      clear hby
      go_wp2_with fail
      go_ret
      exact ⟨by simp, HBZ.out⟩
end Go.Proofs.Ytineinmghajmnaa
namespace Go.Proofs.Ytineinmghajmnaa
open Go.RowKit
/-- The transform that moves by whole pixels. -/
def mvA (dx dy : Int) : Af := ⟨65536, 0, 0, 65536, dx * 65536, dy * 65536⟩
theorem mvA_inv1 (dx dy : Int) : (mvA dx dy).inv1 = ⟨65536, 0, 0, 65536, 0, 0⟩ := by
  have e1 : sdiv (65536 * 4294967296) (65536 * 65536 - 0 * 0) = 65536 := by decide +kernel
  have e2 : sdiv (-0 * 4294967296) (65536 * 65536 - 0 * 0) = 0 := by decide +kernel
  show Af.mk (sdiv (65536 * 4294967296) (65536 * 65536 - 0 * 0)) (sdiv (-0 * 4294967296) (65536 * 65536 - 0 * 0)) (sdiv (-0 * 4294967296) (65536 * 65536 - 0 * 0)) (sdiv (65536 * 4294967296) (65536 * 65536 - 0 * 0)) 0 0 = _
  rw [e1, e2]
theorem mvA_ok {dx dy : Int} (hx : -128 ≤ dx ∧ dx ≤ 128) (hy : -128 ≤ dy ∧ dy ≤ 128) : (mvA dx dy).ok := by
  unfold Af.ok mvA; dsimp only; omega
theorem mvA_inv {dx dy : Int} (hx : -128 ≤ dx ∧ dx ≤ 127) (hy : -128 ≤ dy ∧ dy ≤ 127) : (mvA dx dy).inv = (mvA (-dx) (-dy), 0) := by
  have h1 : (mvA dx dy).ok := mvA_ok (by omega) (by omega)
  have h2 : (mvA dx dy).det ≠ 0 := by show (65536 : Int) * 65536 - 0 * 0 ≠ 0; omega
  have h3 : (mvA dx dy).inv2 = mvA (-dx) (-dy) := by
    show ({ (mvA dx dy).inv1 with e := dotZ (-(mvA dx dy).inv1.a) (dx * 65536) (-(mvA dx dy).inv1.c) (dy * 65536), f := dotZ (-(mvA dx dy).inv1.b) (dx * 65536) (-(mvA dx dy).inv1.d) (dy * 65536) } : Af) = _
    rw [mvA_inv1]
    have e1 : dotZ (-65536) (dx * 65536) (-0) (dy * 65536) = -dx * 65536 := by
      unfold dotZ
      rw [show -65536 * (dx * 65536) + -0 * (dy * 65536) = 65536 * (-dx * 65536) by omega, rdiv_whole _ _ (by omega)]
    have e2 : dotZ (-0) (dx * 65536) (-65536) (dy * 65536) = -dy * 65536 := by
      unfold dotZ
      rw [show -0 * (dx * 65536) + -65536 * (dy * 65536) = 65536 * (-dy * 65536) by omega, rdiv_whole _ _ (by omega)]
    dsimp only
    rw [e1, e2]
    rfl
  unfold Af.inv
  rw [if_pos h1, if_neg h2, if_pos (by rw [mvA_inv1]; unfold Af.ok; dsimp only; omega), h3, if_pos (mvA_ok (by omega) (by omega))]
theorem mvA_app {dx dy X Y : Int} (hx : -128 ≤ dx ∧ dx ≤ 128) (hy : -128 ≤ dy ∧ dy ≤ 128) (hX : -4194304 ≤ X ∧ X ≤ 4194304) (hY : -4194304 ≤ Y ∧ Y ≤ 4194304) :
    (mvA dx dy).app (X * 65536 + 32768) (Y * 65536 + 32768) = ((X + dx) * 65536 + 32768, (Y + dy) * 65536 + 32768) := by
  unfold Af.app
  rw [Af.lim_id (mvA_ok hx hy), far_id (x := X * 65536 + 32768) (by omega), far_id (x := Y * 65536 + 32768) (by omega)]
  have e1 : dotZ 65536 (X * 65536 + 32768) 0 (Y * 65536 + 32768) = X * 65536 + 32768 := by
    unfold dotZ
    rw [show 65536 * (X * 65536 + 32768) + 0 * (Y * 65536 + 32768) = 65536 * (X * 65536 + 32768) by omega, rdiv_whole _ _ (by omega)]
  have e2 : dotZ 0 (X * 65536 + 32768) 65536 (Y * 65536 + 32768) = Y * 65536 + 32768 := by
    unfold dotZ
    rw [show 0 * (X * 65536 + 32768) + 65536 * (Y * 65536 + 32768) = 65536 * (Y * 65536 + 32768) by omega, rdiv_whole _ _ (by omega)]
  show (far (dotZ 65536 _ 0 _ + dx * 65536), far (dotZ 0 _ 65536 _ + dy * 65536)) = _
  rw [e1, e2, far_id (by omega), far_id (by omega)]
  refine Prod.ext ?_ ?_ <;> dsimp only <;> omega
/-- The sample at the center of a pixel. -/
theorem samp_center {px : Int → Int → Px} {k X Y : Int} (hk : 0 ≤ k ∧ k ≤ 3) (hX : -8388608 ≤ X ∧ X ≤ 8388608) (hY : -8388608 ≤ Y ∧ Y ≤ 8388608) (hp : (px X Y).ok) :
    samp px k (X * 65536 + 32768) (Y * 65536 + 32768) = if (px X Y).a = 0 ∧ k ≠ 0 then Px.zero else px X Y := by
  unfold samp
  by_cases h0 : k = 0
  · rw [if_pos h0, if_neg (by omega), show (X * 65536 + 32768) / 65536 = X by omega, show (Y * 65536 + 32768) / 65536 = Y by omega]
  · rw [if_neg h0, center_mean (by omega) hX hY hp]
    unfold pclr
    by_cases ha : (px X Y).a = 0
    · rw [if_pos ha, if_pos ⟨ha, h0⟩]
    · rw [if_neg ha, if_neg (fun h => ha h.1)]
theorem mv_sdot {W H : Int} {ps : List Px} (io : IOk W H ps) {dx dy k X Y : Int} (hx : -128 ≤ dx ∧ dx ≤ 127) (hy : -128 ≤ dy ∧ dy ≤ 127) (hk : 0 ≤ k ∧ k ≤ 3) (hX : -2097152 ≤ X ∧ X ≤ 2097152) (hY : -2097152 ≤ Y ∧ Y ≤ 2097152) :
    sdot W H ps (mvA dx dy) k X Y = if (pick W H ps (X - dx) (Y - dy)).a = 0 ∧ k ≠ 0 then Px.zero else pick W H ps (X - dx) (Y - dy) := by
  unfold sdot
  rw [mvA_inv hx hy]
  dsimp only
  rw [mvA_app (by omega) (by omega) (by omega) (by omega)]
  dsimp only
  rw [show X + -dx = X - dx by omega, show Y + -dy = Y - dy by omega]
  exact samp_center hk (by omega) (by omega) (pick_ok io _ _)
theorem walk_smoves (v0 : Value) (x0 : Int × Int × List Px) (dx dy kd : Int) (v4 : Value) (o : Rk) (w : World) (h0 : ImgV w v0 x0) (hx : -128 ≤ dx ∧ dx ≤ 127) (hy : -128 ≤ dy ∧ dy ≤ 127) (hkd : 0 ≤ kd ∧ kd ≤ 255) (h4 : RkV v4 o) :
    Calls Try.prog 9 #[v0, .int .i8 dx, .int .i8 dy, .int .u8 kd, v4] w fun e w' => e = .returned (.bool true) ∧ Below w.heap.size w w' := by
  obtain ⟨W, H, ps⟩ := x0
  obtain ⟨⟨A0, n0, c0, rfl, hp⟩, -⟩ := h0
  obtain rfl := hp.len
  obtain ⟨rfl, -⟩ := h4
  have hk : 0 ≤ kd % 4 ∧ kd % 4 ≤ 3 := by omega
  by_cases h : sDE W H ps (mvA dx dy) (kd % 4) o = 0
  rotate_left
  · have g : sGo W H ps (mvA dx dy) (kd % 4) o = false := by
      unfold sGo; simp [h]
    refine smoves_e W H kd (kd % 4) dx dy o.x o.y (sDE W H ps (mvA dx dy) (kd % 4) o) o.w o.h _ w (by simpa using h) hx hy hkd rfl (fun w' hb => ?_) awake_any
    have q := sdraw_any W H A0 c0 ps (mvA dx dy) (kd % 4) o w' (hp.on hb)
    rw [sGo_no g] at q
    exact q
  have s := sDE_iff.1 h
  have sv := (rvalid_iff _ _ _ _).1 s.v
  have hc0 := (ichk_iff W H ps).2 s.i
  have TC := fun w' (hb : Below w.heap.size w w') => icheck_any W H A0 ps.length c0 ps w' (hp.on hb)
  rw [hc0] at TC
  cases ho : o.empty
  · have fo := full_bd (show rempty o.x o.y o.w o.h = false from ho)
    have sw := s.w; have sh := s.h
    have g : sGo W H ps (mvA dx dy) (kd % 4) o = true := by unfold sGo; rw [h, ho]; rfl
    have ew : ((o.w.toNat : Nat) : Int) = o.w := Int.toNat_of_nonneg (by omega)
    have eh : ((o.h.toNat : Nat) : Int) = o.h := Int.toNat_of_nonneg (by omega)
    have hN : (o.w * o.h).toNat = o.w.toNat * o.h.toNat := by
      have : ((o.w.toNat * o.h.toNat : Nat) : Int) = o.w * o.h := by rw [Int.natCast_mul, ew, eh]
      omega
    have key := smoves_ok W H kd (kd % 4) dx dy o.x o.y (.slice A0 ps.length c0) w o.w.toNat o.h.toNat (sPic W H ps (mvA dx dy) (kd % 4) o) (atP W H ps) (by omega) (by omega) (by omega) (by omega)
      (by unfold sPic; rw [grid_length, hN])
      (fun n hn => by
        unfold sPic
        rw [grid_pat _ _ _ _ (by rw [hN]; exact hn), ew]
        have m0 : 0 ≤ (n : Int) % o.w ∧ (n : Int) % o.w < o.w := ⟨Int.emod_nonneg _ (by omega), Int.emod_lt_of_pos _ (by omega)⟩
        have m1 : 0 ≤ (n : Int) / o.w ∧ (n : Int) / o.w ≤ (n : Int) := ⟨Int.ediv_nonneg (by omega) (by omega), Int.ediv_le_self _ (by omega)⟩
        have hn2 : o.w.toNat * o.h.toNat ≤ 256 * 256 := Nat.mul_le_mul (by omega) (by omega)
        rw [mv_sdot s.i hx hy hk (by omega) (by omega)]
        unfold atP
        rw [if_pos hc0])
      TC (fun w' x y hb => pat_any W H A0 c0 ps x y w' (hp.on hb)) hx hy hkd rfl
      (fun w' hb => by
        have q := sdraw_any W H A0 c0 ps (mvA dx dy) (kd % 4) o w' (hp.on hb)
        rw [sGo_yes g] at q
        rw [ew, eh]
        exact q) awake_any
    rw [ew, eh] at key
    exact key
  · have g : sGo W H ps (mvA dx dy) (kd % 4) o = false := by unfold sGo; rw [ho]; simp
    refine smoves_z W H kd (kd % 4) dx dy o.x o.y o.w o.h _ w TC (fun w' => ?_) hx hy hkd rfl (fun w' hb => ?_) awake_any
    · have q := empty_any o.x o.y o.w o.h w'
      rw [show rempty o.x o.y o.w o.h = true from ho] at q
      exact q
    · have q := sdraw_any W H A0 c0 ps (mvA dx dy) (kd % 4) o w' (hp.on hb)
      rw [sGo_no g, h] at q
      exact q
end Go.Proofs.Ytineinmghajmnaa
