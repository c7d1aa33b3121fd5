/- The walk of RasterBoxes. -/
import Derived.Test.YtllmckapiplpcaaRasW1
import Derived.Test.YtllmckapiplpcaaBoxA
import Derived.BigQuiet
import Derived.Deep.QuietTactic
namespace Go.Proofs.Ytllmckapiplpcaa
open Go.RowKit

def anyB (p : Nat → Bool) : Nat → Bool
  | 0 => false
  | k + 1 => anyB p k || p k
theorem anyB_true {p : Nat → Bool} {j : Nat} (h : p j = true) : ∀ n, j < n → anyB p n = true
  | 0, hj => absurd hj (by omega)
  | n + 1, hj => by
    unfold anyB
    rcases Nat.lt_or_ge j n with c | c
    · rw [anyB_true h n c]; rfl
    · obtain rfl : j = n := by omega
      rw [h]; simp
set_option maxHeartbeats 1000000 in
theorem full_ok (W H : Int) (A : Option Addr) (c : Nat) (ps : List Px) (w : World) (i : IOk W H ps) :
    Calls Try.prog 37 #[.agg #[.int .i64 W, .int .i64 H, .slice A ps.length c]] w fun e w' => e = .returned (.bool true) ∧ Below w.heap.size w w' := by
  have h1 := i.w0; have h2 := i.w1; have h3 := i.h0; have h4 := i.h1
  have h5 := iok_len i
  have h6 : 0 ≤ W * H := Int.mul_nonneg h1 h3
  have he : ((ps.length : Int) == W * H) = true := by simp [i.n]
  clear i
  go_enter Try.func37, Try.ntmps37
  go_upto_region 1 with fail
  obtain ⟨hb1, hB, -⟩ := one_box w #[.int .i64 W, .int .i64 H, .slice A ps.length c] 24 _ rfl
  generalize World.alloc w _ = w0 at *
  obtain ⟨⟨j1, j2, j3⟩, -⟩ := hb1.three
  go_wp2_with fail
  go_ret
  exact ⟨rfl, hB⟩
set_option maxRecDepth 100000 in
set_option maxHeartbeats 1000000 in
theorem boxes_no (W H : Int) (A : Option Addr) (c : Nat) (ps : List Px) (ch : Int) (hne : (ch != 0) = true) (w : World) (hp : Pixs w w.heap.size (.slice A ps.length c) ps)
    (K : ∀ w', Pixs w' w'.heap.size (.slice A ps.length c) ps → Calls Try.prog 18 #[.agg #[.int .i64 W, .int .i64 H, .slice A ps.length c]] w' fun e w'' => e = .returned (.int .i64 ch) ∧ Below w'.heap.size w' w'') :
    Calls Try.prog 13 #[.agg #[.int .i64 W, .int .i64 H, .slice A ps.length c]] w fun e w' => e = .returned (.bool true) ∧ Below w.heap.size w w' := by
  have HP := Lib.hid hp; clear hp
  have HK := Lib.hid K; clear K
  go_enter Try.func13, Try.ntmps13
  go_upto_region 1 with fail
  obtain ⟨hb1, hB, -⟩ := one_box w #[.int .i64 W, .int .i64 H, .slice A ps.length c] 24 _ rfl
  generalize World.alloc w _ = w0 at *
  go_wp2_with fail
  refine (awake_any _).mono ?_
  rintro e w1 ⟨rfl, hbb⟩
  replace hb1 := hb1.below hbb; replace hB := bel_trans hB hbb
  clear hbb
  obtain ⟨⟨j1, j2, j3⟩, -⟩ := hb1.three
  go_wp2_with fail
  refine (HK.out _ (HP.out.on hB)).mono ?_
  rintro e w2 ⟨rfl, hbb⟩
  clear j1 j2 j3
  replace hB := bel_trans hB hbb
  go_wp2_with fail
  refine (awake_any _).mono ?_
  rintro e w3 ⟨rfl, hbb⟩
  go_wp2_with fail
  go_ret
  exact ⟨rfl, bel_trans hB hbb⟩
def BoxesRel (p4 p5 p6 p7 : Nat → Bool) (n B : Nat) (w0 : World) (gh : Nat) (v4 v5 v6 v7 i : Value) (wr : World) : Prop :=
  ∃ k : Nat, k ≤ n ∧ gh = n - k ∧ v4 = .bool (anyB p4 k) ∧ v5 = .bool (anyB p5 k) ∧ v6 = .bool (anyB p6 k) ∧ v7 = .bool (anyB p7 k) ∧ i = .int .i64 k ∧ Below B w0 wr
set_option maxRecDepth 100000 in
set_option maxHeartbeats 4000000 in
theorem boxes_run (W H : Int) (A : Option Addr) (c : Nat) (ps : List Px) (b : Rc) (p4 p5 p6 p7 : Nat → Bool) (w : World) (hp : Pixs w w.heap.size (.slice A ps.length c) ps) (i : IOk W H ps)
    (hx0 : 0 ≤ b.x) (hy0 : 0 ≤ b.y) (hw0 : 0 ≤ b.w) (hh0 : 0 ≤ b.h) (hwW : b.w ≤ W) (hhH : b.h ≤ H) (hxw : b.x ≤ W - b.w) (hyh : b.y ≤ H - b.h)
    (hin : ∀ j, j < ps.length → (pat ps j).a ≠ 0 → b.x ≤ (j : Int) % W ∧ (j : Int) % W < b.x + b.w ∧ b.y ≤ (j : Int) / W ∧ (j : Int) / W < b.y + b.h)
    (hz : ∀ j, j < ps.length → (pat ps j).a = 0 → p4 j = false ∧ p5 j = false ∧ p6 j = false ∧ p7 j = false)
    (hnz : ∀ j, j < ps.length → (pat ps j).a ≠ 0 → p4 j = ((j : Int) % W == b.x) ∧ p5 j = ((j : Int) % W == b.x + b.w - 1) ∧ p6 j = ((j : Int) / W == b.y) ∧ p7 j = ((j : Int) / W == b.y + b.h - 1))
    (hfin : (b.x = 0 ∧ b.y = 0 ∧ b.w = 0 ∧ b.h = 0) ∨ (1 ≤ b.w ∧ anyB p4 ps.length = true ∧ anyB p5 ps.length = true ∧ anyB p6 ps.length = true ∧ anyB p7 ps.length = true))
    (K : ∀ w', Pixs w' w'.heap.size (.slice A ps.length c) ps → Calls Try.prog 18 #[.agg #[.int .i64 W, .int .i64 H, .slice A ps.length c]] w' fun e w'' => e = .returned (.int .i64 0) ∧ Below w'.heap.size w' w'')
    (T : ∀ w', Pixs w' w'.heap.size (.slice A ps.length c) ps → Calls Try.prog 33 #[.agg #[.int .i64 W, .int .i64 H, .slice A ps.length c]] w' (RcPost b w')) :
    Calls Try.prog 13 #[.agg #[.int .i64 W, .int .i64 H, .slice A ps.length c]] w fun e w' => e = .returned (.bool true) ∧ Below w.heap.size w w' := by
  have HP := Lib.hid hp; clear hp
  have HK := Lib.hid K; have HT := Lib.hid T; clear K T
  have HIN := Lib.hid hin; have HZ := Lib.hid hz; have HNZ := Lib.hid hnz; have HF := Lib.hid hfin; clear hin hz hnz hfin
  have HFU := Lib.hid (fun w' => full_ok W H A c ps w' i)
  have hW0 := i.w0; have hW1 := i.w1; have hH0 := i.h0; have hH1 := i.h1
  have hn := i.n; have hl := iok_len i
  clear i
  obtain ⟨bx, by', bw, bh⟩ := b
  simp only at hx0 hy0 hw0 hh0 hwW hhH hxw hyh HIN HNZ HF
  go_enter Try.func13, Try.ntmps13
  go_upto_region 1 with fail
  obtain ⟨hb1, hB, -⟩ := one_box w #[.int .i64 W, .int .i64 H, .slice A ps.length c] 24 _ rfl
  generalize World.alloc w _ = w0 at *
  go_wp2_with fail
  refine (awake_any _).mono ?_
  rintro e w1 ⟨rfl, hbb⟩
  replace hb1 := hb1.below hbb; replace hB := bel_trans hB hbb
  clear hbb
  have HN := Lib.hid hn; clear hn
  obtain ⟨⟨j1, j2, j3⟩, -⟩ := hb1.three
  go_wp2_with fail
  refine (HK.out _ (HP.out.on hB)).mono ?_
  rintro e w2 ⟨rfl, hbb⟩
  clear j1 j2 j3
  replace hb1 := hb1.below hbb; replace hB := bel_trans hB hbb
  clear hbb
  obtain ⟨⟨j1, j2, j3⟩, -⟩ := hb1.three
  go_wp2_with fail
  refine (HFU.out _).mono ?_
  rintro e w3 ⟨rfl, hbb⟩
  clear j1 j2 j3
  replace hb1 := hb1.below hbb; replace hB := bel_trans hB hbb
  clear hbb
  obtain ⟨⟨j1, j2, j3⟩, -⟩ := hb1.three
  go_wp2_with fail
  refine (HT.out _ (HP.out.on hB)).mono ?_
  rintro e w4 ⟨rfl, hbb⟩
  clear j1 j2 j3
  replace hb1 := hb1.below hbb; replace hB := bel_trans hB hbb
  clear hbb
  go_upto_region 4 with fail
  obtain ⟨hb3, hbb, -⟩ := one_box w4 #[.int .i64 bx, .int .i64 by', .int .i64 bw, .int .i64 bh] 37 _ rfl
  generalize World.alloc w4 _ = w5 at *
  replace hb1 := hb1.below hbb; replace hB := bel_trans hB hbb
  clear hbb
  obtain ⟨⟨j1, j2, j3⟩, -⟩ := hb1.three
  obtain ⟨⟨k1, k2, k3, k4⟩, -⟩ := hb3.four
  go_upto_region 8 with fail
  clear j1 j2 j3 k1 k2 k3 k4
  go_loopg [4, 5, 6, 7, 82] ps.length (BoxesRel p4 p5 p6 p7 ps.length w5.heap.size w5)
  case atStart => exact ⟨0, Nat.zero_le _, rfl, rfl, rfl, rfl, rfl, rfl, Below.refl _ _⟩
  case round =>
    obtain ⟨k, hk, rfl, rfl, rfl, rfl, rfl, rfl, hbr⟩ := hrel
    have hd1 := hb1.below hbr
    have hd3 := hb3.below hbr
    have hB' := bel_trans hB hbr
    by_cases hlt : k < ps.length
    · have hpx := HP.out.on hB'
      obtain ⟨A', c', ev, _, hcs⟩ := hpx
      obtain ⟨bb, oo, rfl, hbb, c1, c2, c3, c4⟩ := hcs k hlt
      injection ev with ev1 _ ev3
      subst ev1
      clear hcs ev3
      have hkp : k < (W * H).toNat := by have := HN.out; omega
      have hpw := pos_of hkp hW0
      obtain ⟨⟨pm1, pm2⟩, pd1, pd2⟩ := place_of hkp hpw
      have HI := Lib.hid (HIN.out k hlt); have HZk := Lib.hid (HZ.out k hlt); have HNk := Lib.hid (HNZ.out k hlt)
      have E4 := Lib.hid (show anyB p4 (k + 1) = (anyB p4 k || p4 k) from rfl)
      have E5 := Lib.hid (show anyB p5 (k + 1) = (anyB p5 k || p5 k) from rfl)
      have E6 := Lib.hid (show anyB p6 (k + 1) = (anyB p6 k || p6 k) from rfl)
      have E7 := Lib.hid (show anyB p7 (k + 1) = (anyB p7 k || p7 k) from rfl)
      generalize pat ps k = p at *
      have HBR := Lib.hid hbr; clear hbr
      go_upto_region 10 with fail
      clear c1 c2 c3 c4
      obtain ⟨hbp, hB7, hz7⟩ := one_box wr #[.int .i64 p.r, .int .i64 p.g, .int .i64 p.b, .int .i64 p.a] 26 _ rfl
      generalize World.alloc wr _ = w7 at *
      replace hd1 := hd1.below hB7; replace hd3 := hd3.below hB7
      have hk0 : (0 : Int) ≤ (k : Int) := by omega
      have hpz : ¬ W = 0 := by omega
      have ht1 : (k : Int).tmod W = (k : Int) % W := Int.tmod_eq_emod_of_nonneg hk0
      have wr2 : IntKind.i64.wrap ((k : Int) / W) = (k : Int) / W := wrap_in _ (by omega)
      obtain ⟨⟨i1, i2, i3⟩, -⟩ := hd1.three
      go_quiet (fail)
      clear ht1 wr2 i1 i2 i3 hz7
      generalize (k : Int) % W = X at *
      generalize (k : Int) / W = Y at *
      replace hd3 : Bx (w7.drewN nq) w4.heap.size _ _ := hd3
      replace hbp : Bx (w7.drewN nq) wr.heap.size _ _ := hbp
      have HB7 := Lib.hid (HBR.out.trans (Below.mono (Below.drewN' hB7 nq) HBR.out.size))
      clear hd1 hB7
      generalize w7.drewN nq = w8 at *
      obtain ⟨⟨q1, q2, q3, q4⟩, -⟩ := hbp.four
      by_cases hpa : p.a = 0
      · obtain ⟨z4, z5, z6, z7⟩ := HZk.out hpa
        have hpb : (p.a == 0) = true := by simp [hpa]
        go_wp2_with fail
        go_roundg (ps.length - (k + 1))
        case measure => omega
        case rel => exact ⟨k + 1, by omega, rfl, by rw [E4.out, z4, Bool.or_false], by rw [E5.out, z5, Bool.or_false], by rw [E6.out, z6, Bool.or_false], by rw [E7.out, z7, Bool.or_false], by go_num, HB7.out⟩
      · obtain ⟨f1, f2, f3, f4⟩ := HI.out hpa
        obtain ⟨z4, z5, z6, z7⟩ := HNk.out hpa
        have hpb : (p.a == 0) = false := by simp [hpa]
        have Z4 := Lib.hid (E4.out.trans (by rw [z4])); have Z5 := Lib.hid (E5.out.trans (by rw [z5])); have Z6 := Lib.hid (E6.out.trans (by rw [z6])); have Z7 := Lib.hid (E7.out.trans (by rw [z7]))
        clear z4 z5 z6 z7 hbp
        generalize anyB p4 k = b4 at *
        generalize anyB p5 k = b5 at *
        generalize anyB p6 k = b6 at *
        generalize anyB p7 k = b7 at *
        obtain ⟨⟨k1, k2, k3, k4⟩, -⟩ := hd3.four
        have wx1 : IntKind.i64.wrap (bx + bw) = bx + bw := wrap_in _ (by omega)
        have wx2 : IntKind.i64.wrap (bx + bw - 1) = bx + bw - 1 := wrap_in _ (by omega)
        have wy1 : IntKind.i64.wrap (by' + bh) = by' + bh := wrap_in _ (by omega)
        have wy2 : IntKind.i64.wrap (by' + bh - 1) = by' + bh - 1 := wrap_in _ (by omega)
        go_upto_region 14 with fail
        clear q1 q2 q3 q4
        cases b4 <;> cases b5 <;> cases b6 <;> cases b7
        all_goals
          go_quiet (fail)
          go_wp2_with fail
          go_roundg (ps.length - (k + 1))
          case measure => omega
          case rel => exact ⟨k + 1, by omega, rfl, by rw [Z4.out]; simp, by rw [Z5.out]; simp, by rw [Z6.out]; simp, by rw [Z7.out]; simp, by go_num, Below.drewN' HB7.out _⟩
    · obtain rfl : k = ps.length := by omega
      rcases HF.out with ⟨e1, e2, e3, e4⟩ | ⟨e1, e4, e5, e6, e7⟩
      · subst e1 e2 e3 e4
        obtain ⟨⟨k1, k2, k3, k4⟩, -⟩ := hd3.four
        generalize anyB p4 ps.length = b4 at *
        generalize anyB p5 ps.length = b5 at *
        generalize anyB p6 ps.length = b6 at *
        generalize anyB p7 ps.length = b7 at *
        clear HF HIN HNZ HZ
        go_wp2_with fail
        go_ret
        exact ⟨rfl, hB'⟩
      · rw [e4, e5, e6, e7]
        obtain ⟨⟨k1, k2, k3, k4⟩, -⟩ := hd3.four
        have hb0 : (bw == 0) = false := by simp; omega
        have hb1' : ¬ bw = 0 := by omega
        clear HF HIN HNZ HZ e4 e5 e6 e7
        go_wp2_with fail
        go_ret
        exact ⟨rfl, hB'⟩
end Go.Proofs.Ytllmckapiplpcaa
