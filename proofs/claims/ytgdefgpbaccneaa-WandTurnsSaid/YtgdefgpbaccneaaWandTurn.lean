/- WandTurns: the walk. -/
import Derived.Test.YtgdefgpbaccneaaWandW4
import Derived.Test.YtgdefgpbaccneaaTurnMath
import Derived.Test.YtgdefgpbaccneaaFlipA
import Derived.Test.YtgdefgpbaccneaaFlipC
namespace Go.Proofs.Ytgdefgpbaccneaa
open Go.RowKit

theorem flip3_any (W H : Int) (A : Option Addr) (c : Nat) (ps : List Px) (w : World) (h : Pixs w w.heap.size (.slice A ps.length c) ps) :
    Calls Try.prog 21 #[.agg #[.int .i64 W, .int .i64 H, .slice A ps.length c], .int .i64 3] w (ImOut (ichk W H ps) H W (trL W H ps) w) := by
  by_cases hc : ichk W H ps = 0
  · rw [hc, imOut_ok]; exact flip_3 W H A c ps w h hc
  · rw [imOut_err hc]; exact flip_chk W H A c ps 3 w h hc
/-- What the two floods say of each other. -/
def TurnFact (W H : Int) (n : Nat) (E Wa Wb : Int) (la lb : List Int) : Prop :=
  la.length = lb.length ∧ (E = 0 → la.length = n ∧ Wa = W ∧ Wb = H) ∧ (E ≠ 0 → la = []) ∧
    ∀ k : Nat, k < la.length → 0 < W ∧ ∃ (a b q : Int) (m : Nat), (k : Int) % W = a ∧ (k : Int) / W = q ∧ a * H = b ∧ 0 ≤ b ∧ b ≤ 65536 ∧ 0 ≤ q ∧ q ≤ 65536 ∧ b + q = m ∧ m < la.length ∧ m ≤ 65536 ∧ la.getD k 0 = lb.getD m 0

set_option maxHeartbeats 4000000 in
theorem turns_err (W H x y t : Int) (dg : Bool) (A : Option Addr) (c : Nat) (ps : List Px) (e1 : Int) (he : e1 ≠ 0) (w : World) (hp : Pixs w w.heap.size (.slice A ps.length c) ps)
    (T1 : ∀ w', Pixs w' w'.heap.size (.slice A ps.length c) ps → Calls Try.prog 21 #[.agg #[.int .i64 W, .int .i64 H, .slice A ps.length c], .int .i64 3] w' (ImPostF e1 0 0 [] w')) :
    Calls Try.prog 8 #[.agg #[.int .i64 W, .int .i64 H, .slice A ps.length c], .agg #[.int .i64 x, .int .i64 y], .int .i64 t, .bool dg] w fun e w' => e = .returned (.bool true) ∧ Below w.heap.size w w' := by
  have HP := Lib.hid hp; have HT1 := Lib.hid T1; clear hp T1
  have he1 : (e1 != 0) = true := by simp [he]
  go_enter Try.func8, Try.ntmps8
  go_upto_region 1 with fail
  obtain ⟨hb1, hb2, hB⟩ := two_boxesF w #[.int .i64 W, .int .i64 H, .slice A ps.length c] #[.int .i64 x, .int .i64 y] 24 26 _ rfl
  generalize World.alloc (World.alloc w _) _ = w0 at *
  obtain ⟨⟨j1, j2, j3⟩, -⟩ := hb1.three
  go_wp2_with fail
  refine (HT1.out _ (HP.out.on hB)).mono ?_
  rintro e w1 ⟨Aa, na, ca, rfl, hra, hbb⟩
  replace hB := bel_trans hB hbb; clear hbb hra j1 j2 j3 hb1 hb2
  go_upto_region 2 with fail
  obtain ⟨hb9, hbb, -⟩ := one_box w1 #[.int .i64 0, .int .i64 0, .slice Aa na ca] 24 _ rfl
  generalize World.alloc w1 _ = w2 at *
  replace hB := bel_trans hB hbb; clear hbb hb9
  go_wp2_with fail
  refine (awake_any _).mono ?_
  rintro e w3 ⟨rfl, hbb⟩
  go_wp2_with fail
  go_ret
  exact ⟨rfl, bel_trans hB hbb⟩

set_option maxRecDepth 100000 in
set_option maxHeartbeats 4000000 in
theorem turns_core (W H x y t : Int) (dg : Bool) (A : Option Addr) (c : Nat) (ps pt : List Px) (E : Int) (Pa Pb : List Int → Int → Int → Prop) (w : World) (hp : Pixs w w.heap.size (.slice A ps.length c) ps)
    (T1 : ∀ w', Pixs w' w'.heap.size (.slice A ps.length c) ps → Calls Try.prog 21 #[.agg #[.int .i64 W, .int .i64 H, .slice A ps.length c], .int .i64 3] w' (ImPostF 0 H W pt w'))
    (T2 : ∀ w', Pixs w' w'.heap.size (.slice A ps.length c) ps → Calls Try.prog 9 #[.agg #[.int .i64 W, .int .i64 H, .slice A ps.length c], .agg #[.int .i64 x, .int .i64 y], .int .i64 t, .bool dg] w' (fun e w'' => ∃ l W' H', Pa l W' H' ∧ MkPost E W' H' l w' e w''))
    (T3 : ∀ w' A' c', Pixs w' w'.heap.size (.slice A' pt.length c') pt → Calls Try.prog 9 #[.agg #[.int .i64 H, .int .i64 W, .slice A' pt.length c'], .agg #[.int .i64 y, .int .i64 x], .int .i64 t, .bool dg] w' (fun e w'' => ∃ l W' H', Pb l W' H' ∧ MkPost E W' H' l w' e w''))
    (hF : ∀ la Wa Ha lb Wb Hb, Pa la Wa Ha → Pb lb Wb Hb → TurnFact W H ps.length E Wa Wb la lb) :
    Calls Try.prog 8 #[.agg #[.int .i64 W, .int .i64 H, .slice A ps.length c], .agg #[.int .i64 x, .int .i64 y], .int .i64 t, .bool dg] w fun e w' => e = .returned (.bool true) ∧ Below w.heap.size w w' := by
  have HP := Lib.hid hp; have HT1 := Lib.hid T1; have HT2 := Lib.hid T2; have HT3 := Lib.hid T3; have HF := Lib.hid hF; clear hp T1 T2 T3 hF
  go_enter Try.func8, Try.ntmps8
  go_upto_region 1 with fail
  obtain ⟨hb1, hb2, hB⟩ := two_boxesF w #[.int .i64 W, .int .i64 H, .slice A ps.length c] #[.int .i64 x, .int .i64 y] 24 26 _ rfl
  generalize World.alloc (World.alloc w _) _ = w0 at *
  obtain ⟨⟨j1, j2, j3⟩, -⟩ := hb1.three
  go_wp2_with fail
  refine (HT1.out _ (HP.out.on hB)).mono ?_
  rintro e w1 ⟨Aj, nj, cj, rfl, hrj, hbb⟩
  obtain rfl := hrj.pixs.len
  replace hb1 := hb1.below hbb; replace hb2 := hb2.below hbb; replace hB := bel_trans hB hbb; clear hbb j1 j2 j3
  go_upto_region 2 with fail
  obtain ⟨hb9, hbb, -⟩ := one_box w1 #[.int .i64 H, .int .i64 W, .slice Aj pt.length cj] 24 _ rfl
  generalize World.alloc w1 _ = w2 at *
  replace hb1 := hb1.below hbb; replace hb2 := hb2.below hbb; replace hrj := hrj.below hbb; replace hB := bel_trans hB hbb; clear hbb
  obtain ⟨⟨j1, j2, j3⟩, -⟩ := hb1.three
  obtain ⟨⟨p1, p2⟩, -⟩ := hb2.two
  go_wp2_with fail
  refine (HT2.out _ (HP.out.on hB)).mono ?_
  rintro e w3 ⟨la, Wa, Ha, hPa, va, rfl, hra, hbb⟩
  have HPa := Lib.hid hPa; clear hPa
  obtain ⟨Aa, ca, rfl⟩ := irow_shape hra
  replace hb1 := hb1.below hbb; replace hb2 := hb2.below hbb; replace hb9 := hb9.below hbb; replace hrj := hrj.below hbb; replace hB := bel_trans hB hbb; clear hbb j1 j2 j3 p1 p2
  go_upto_region 5 with fail
  obtain ⟨hb11, hbb, -⟩ := one_box w3 #[.int .i64 Wa, .int .i64 Ha, .slice Aa la.length ca] 29 _ rfl
  generalize World.alloc w3 _ = w4 at *
  replace hb1 := hb1.below hbb; replace hb2 := hb2.below hbb; replace hb9 := hb9.below hbb; replace hrj := hrj.below hbb; replace hra := hra.below hbb; replace hB := bel_trans hB hbb; clear hbb
  obtain ⟨⟨j1, j2, j3⟩, -⟩ := hb9.three
  obtain ⟨⟨p1, p2⟩, -⟩ := hb2.two
  go_wp2_with fail
  refine (HT3.out _ _ _ hrj.pixs).mono ?_
  rintro e w5 ⟨lb, Wb, Hb, hPb, vb, rfl, hrb, hbb⟩
  have hTF := HF.out _ _ _ _ _ _ HPa.out hPb; clear hPb
  obtain ⟨Ab, cb, rfl⟩ := irow_shape hrb
  obtain ⟨hll, hE0, hE1, hK⟩ := hTF
  rw [← hll] at hrb
  have HLL := Lib.hid hll; have HK := Lib.hid hK; clear hll hK
  replace hb1 := hb1.below hbb; replace hb11 := hb11.below hbb; replace hra := hra.below hbb; replace hB := bel_trans hB hbb; clear hbb j1 j2 j3 p1 p2 hb2 hb9 hrj
  rw [← HLL.out]
  go_upto_region 6 with fail
  obtain ⟨hb13, hbb, -⟩ := one_box w5 #[.int .i64 Wb, .int .i64 Hb, .slice Ab la.length cb] 29 _ rfl
  generalize World.alloc w5 _ = w6 at *
  replace hb1 := hb1.below hbb; replace hb11 := hb11.below hbb; replace hra := hra.below hbb; replace hrb := hrb.below hbb; replace hB := bel_trans hB hbb; clear hbb
  obtain ⟨⟨j1, j2, j3⟩, -⟩ := hb1.three
  obtain ⟨⟨k1, k2, k3⟩, -⟩ := hb11.three
  obtain ⟨⟨l1, l2, l3⟩, -⟩ := hb13.three
  have HRA := Lib.hid hra.ints; have HRB := Lib.hid hrb.ints; have HB := Lib.hid hB
  have HB1 := Lib.hid hb1; have HB11 := Lib.hid hb11; have HB13 := Lib.hid hb13
  clear hra hrb hB hb1 hb11 hb13
  have hEE : (E != E) = false := by simp
  have hln : ((la.length : Int) != la.length) = false := by simp
  have hmx : la.length ≤ 9223372036854775807 := by obtain ⟨_, _, _, h, _⟩ := HRA.out; omega
  rcases (show ((E == 0) = true ∧ ((la.length : Int) != ps.length) = false ∧ (Wa != W) = false ∧ (Wb != H) = false) ∨ (E == 0) = false by
    by_cases h : E = 0
    · obtain ⟨h1, rfl, rfl⟩ := hE0 h
      exact .inl ⟨by simp [h], by simp [h1], by simp, by simp⟩
    · exact .inr (by simp [h])) with ⟨f1, f2, f3, f4⟩ | f1
  all_goals
    clear hE0 hE1
    go_wp2_with fail
    go_loopg [86] la.length (SoRel la.length w6)
    case atStart => exact ⟨0, Nat.zero_le _, rfl, rfl, Below.refl _ _⟩
    case round =>
      obtain ⟨k, hk, rfl, rfl, hbr⟩ := hrel
      have HBR := Lib.hid hbr
      clear j1 j2 j3 k1 k2 k3 l1 l2 l3
      by_cases hlt : k < la.length
      · obtain ⟨hW, a, b, q, m, ea, eq, eb, b0, b1, q0, q1, em, hm, hm1, hv⟩ := HK.out k hlt
        obtain ⟨A1, c1, ev1, _, hca⟩ := HRA.out
        injection ev1 with u1 u2 u3
        subst u1 u3
        obtain ⟨ba, oa, rfl, hba, ya⟩ := hca k hlt
        obtain ⟨A2, c2, ev2, _, hcb⟩ := HRB.out
        injection ev2 with v1 v2 v3
        subst v1 v3
        obtain ⟨bb, ob, rfl, hbb, yb⟩ := hcb m (by rw [← HLL.out]; exact hm)
        rw [← hv] at yb
        replace ya := (hbr.cell (p := ⟨ba, oa + k, none⟩) hba).trans ya
        replace yb := (hbr.cell (p := ⟨bb, ob + m, none⟩) hbb).trans yb
        replace hba := Nat.lt_of_lt_of_le hba hbr.size
        replace hbb := Nat.lt_of_lt_of_le hbb hbr.size
        obtain ⟨⟨j1, j2, j3⟩, -⟩ := (HB1.out.below hbr).three
        obtain ⟨⟨k1, k2, k3⟩, -⟩ := (HB11.out.below hbr).three
        obtain ⟨⟨l1, l2, l3⟩, -⟩ := (HB13.out.below hbr).three
        have hk0 : (0 : Int) ≤ (k : Int) := by omega
        have hk1 : (k : Int) < (la.length : Int) := by omega
        have hm0 : (0 : Int) ≤ (m : Int) := by omega
        have hm1 : (m : Int) < (la.length : Int) := by omega
        have hpz : (W == 0) = false := by simp; omega
        have hpz2 : ¬ W = 0 := by omega
        have ht1 : (k : Int).tmod W = a := by rw [Int.tmod_eq_emod_of_nonneg hk0, ea]
        have ht2 : (k : Int).tdiv W = q := by rw [Int.tdiv_eq_ediv_of_nonneg hk0, eq]
        have hw1 : IntKind.i64.wrap b = b := by rw [IntKind.wrap_i64]; omega
        have hw2 : IntKind.i64.wrap q = q := by rw [IntKind.wrap_i64]; omega
        have hw3 : IntKind.i64.wrap (m : Int) = m := by rw [IntKind.wrap_i64]; omega
        clear hbr hca hcb HK ea eq u2 v2 hv
        generalize la.getD k 0 = v at *
        have hvv : (v != v) = false := by simp
        go_wp2_with fail
        go_quiet (fail)
        go_wp2_with fail
        go_roundg (la.length - (k + 1))
        case measure => omega
        case rel => exact ⟨k + 1, by omega, rfl, by go_num, Below.drewN' HBR.out _⟩
      · clear hbr
        go_wp2_with fail
        refine (awake_any _).mono ?_
        rintro e wf ⟨rfl, hb5⟩
        go_wp2_with fail
        go_ret
        exact ⟨rfl, bel_trans (bel_trans HB.out HBR.out) hb5⟩
end Go.Proofs.Ytgdefgpbaccneaa
