/- raster.Edge. -/
import Derived.Test.YtbakgdcajpagkaaMR
import Derived.Test.YtbakgdcajpagkaaMAB
import Derived.Deep.LoopGhost
import Derived.BigQuiet
namespace Go.Proofs.Ytbakgdcajpagkaa
open Go.RowKit
attribute [local go_sem 2000] run_max2m run_min2m
def edgeP (W H : Int) (ps : List Px) (x y : Int) : Px := atP W H ps (min (max x 0) (W - 1)) (min (max y 0) (H - 1))

set_option maxHeartbeats 2000000 in
theorem edge_any (W H : Int) (A : Option Addr) (c : Nat) (ps : List Px) (x y : Int) (w : World) (h : Pixs w w.heap.size (.slice A ps.length c) ps) :
    Calls Try.prog 23 #[.agg #[.int .i64 W, .int .i64 H, .slice A ps.length c], .int .i64 x, .int .i64 y] w (PxPost (edgeP W H ps x y) w) := by
  have HP := Lib.hid h; clear h
  have HD := Lib.hid (show ichk W H ps = 0 ∨ ichk W H ps ≠ 0 by omega)
  have HI := Lib.hid (ichk_iff W H ps)
  have HA := Lib.hid (show ∀ x y, atP W H ps x y = if ichk W H ps = 0 then pick W H ps x y else Px.zero from fun _ _ => rfl)
  have HC := Lib.hid (icheck_any W H A ps.length c ps)
  generalize ichk W H ps = ch at *
  go_enter Try.func23, Try.ntmps23
  go_upto_region 1 with fail
  obtain ⟨hb1, hb2, hB⟩ := two_boxes w #[.int .i64 W, .int .i64 H, .slice A ps.length c] #[.int .i64 0, .int .i64 0, .int .i64 0, .int .i64 0] 40 48 _ rfl
  generalize World.alloc (w.alloc _) _ = w0 at *
  obtain ⟨⟨i1, i2, i3⟩, _, _, _⟩ := hb1.three
  go_wp2_with fail
  refine (HC.out _ (HP.out.on hB)).mono ?_
  rintro e w1 ⟨rfl, hb⟩
  replace hb1 := hb1.below hb; replace hb2 := hb2.below hb; replace hB := bel_trans hB hb
  clear i1 i2 i3 hb
  rcases HD.out with rfl | hc
  · have hiok := HI.out.1 rfl
    have hw0 := hiok.w0; have hw1 := hiok.w1; have hh0 := hiok.h0; have hh1 := hiok.h1
    have HIO := Lib.hid hiok; clear hiok
    obtain ⟨⟨i1, i2, i3⟩, _, _, _⟩ := hb1.three
    go_wp2_with fail
    refine (at_any W H A ps.length c ps _ _ _ HIO.out (HP.out.on hB)).mono ?_
    rintro e w2 ⟨rfl, hb⟩
    replace hb2 := hb2.below hb; replace hB := bel_trans hB hb
    clear i1 i2 i3 hb
    obtain ⟨⟨r1, r2, r3, r4⟩, rf1, rf2, rf3, rf4⟩ := hb2.four
    go_wp2_with fail
    refine bodyPost_ret (v := _) (by simp [results, Try.results23, go_sem, r1, r2, r3, r4]; rfl) rfl ⟨?_, set4_below hB (Nat.le_succ _) _ _ _ _ _ _ _ _⟩
    unfold edgeP; simp [HA.out]
  · have hne : (ch != 0) = true := by simp [hc]
    obtain ⟨⟨r1, r2, r3, r4⟩, rf1, rf2, rf3, rf4⟩ := hb2.four
    go_wp2_with fail
    refine bodyPost_ret (v := .agg #[.int .i64 0, .int .i64 0, .int .i64 0, .int .i64 0]) (by simp [results, Try.results23, go_sem, r1, r2, r3, r4]) rfl ⟨?_, set4_below hB (Nat.le_succ _) _ _ _ _ _ _ _ _⟩
    unfold edgeP; rw [HA.out, if_neg hc]; rfl
end Go.Proofs.Ytbakgdcajpagkaa
namespace Go.Proofs.Ytbakgdcajpagkaa
open Go.RowKit
def MvRel (n : Nat) (w0 : World) (gh : Nat) (i : Value) (wr : World) : Prop := ∃ y : Nat, y ≤ n ∧ gh = n - y ∧ i = .int .i64 y ∧ Below w0.heap.size w0 wr
set_option maxRecDepth 100000 in
set_option maxHeartbeats 8000000 in
theorem wmoves_e (W H kind m n E : Int) (A : Option Addr) (len c : Nat) (w : World)
    (tt : len = 0 ∨ E ≠ 0 ∨ kind < 0 ∨ 3 < kind ∨ m < -16 ∨ 16 < m ∨ n < -16 ∨ 16 < n)
    (T0 : ∀ w', Below w.heap.size w w' → Calls Try.prog 22 #[.agg #[.int .i64 W, .int .i64 H, .slice A len c]] w' fun e w'' => e = .returned (.int .i64 E) ∧ Below w'.heap.size w' w'')
    (T7 : ∀ w', Calls Try.prog 16 #[] w' fun e w'' => e = .returned (.bool true) ∧ Below w'.heap.size w' w'') :
    Calls Try.prog 7 #[.agg #[.int .i64 W, .int .i64 H, .slice A len c], .int .i64 kind, .int .i64 m, .int .i64 n] w (YesPost w) := by
  replace T0 := Lib.hid T0; replace T7 := Lib.hid T7
  go_enter Try.func7, Try.ntmps7
  go_upto_region 1 with fail
  have K := Lib.hid (fr_one w #[.int .i64 W, .int .i64 H, .slice A len c] 40 _ rfl)
  generalize World.alloc w _ = w0 at *
  obtain ⟨⟨i1, i2, i3⟩, -⟩ := K.out.1.1.three
  have hlen0 : (0 : Int) ≤ (len : Int) := by omega
  by_cases hz : len = 0
  · have d0 : ((len : Int) == 0) = true := by simp [hz]
    have HB := Lib.hid K.out.2
    clear hz tt K
    go_wp2_with fail
    refine (T7.out _).mono ?_
    rintro e w2 ⟨rfl, hb⟩
    go_wp2_with fail
    go_ret
    exact ⟨rfl, bel_trans HB.out hb⟩
  have d0 : ((len : Int) == 0) = false := by simp; omega
  go_wp2_with fail
  refine (T0.out _ K.out.2).mono ?_
  rintro e w1 ⟨rfl, hb⟩
  have HB := Lib.hid (bel_trans K.out.2 hb)
  clear K i1 i2 i3 hb
  by_cases hE : E = 0
  rotate_left
  · have d1 : (E != 0) = true := by simp [hE]
    clear hE tt hz
    go_wp2_with fail
    refine (T7.out _).mono ?_
    rintro e w2 ⟨rfl, hb⟩
    go_wp2_with fail
    go_ret
    exact ⟨rfl, bel_trans HB.out hb⟩
  have d1 : (E != 0) = false := by simp [hE]
  rcases (show kind < 0 ∨ (¬ kind < 0 ∧ 3 < kind) ∨ (¬ kind < 0 ∧ ¬ 3 < kind ∧ m < -16) ∨ (¬ kind < 0 ∧ ¬ 3 < kind ∧ ¬ m < -16 ∧ 16 < m) ∨ (¬ kind < 0 ∧ ¬ 3 < kind ∧ ¬ m < -16 ∧ ¬ 16 < m ∧ n < -16) ∨ (¬ kind < 0 ∧ ¬ 3 < kind ∧ ¬ m < -16 ∧ ¬ 16 < m ∧ ¬ n < -16 ∧ 16 < n) by omega) with h1 | ⟨h1, h2⟩ | ⟨h1, h2, h3⟩ | ⟨h1, h2, h3, h4⟩ | ⟨h1, h2, h3, h4, h5⟩ | ⟨h1, h2, h3, h4, h5, h6⟩
  all_goals
    clear hE tt hz
    go_wp2_with fail
    refine (T7.out _).mono ?_
    rintro e w2 ⟨rfl, hb⟩
    go_wp2_with fail
    go_ret
    exact ⟨rfl, bel_trans HB.out hb⟩
set_option maxRecDepth 100000 in
set_option maxHeartbeats 8000000 in
theorem wmoves_ok (wn hn : Nat) (kind m n : Int) (A : Option Addr) (len c : Nat) (L : List Px) (ed : Int → Int → Px) (w : World)
    (hlen : 0 < len) (hL : L.length = len) (hN : wn * hn = len) (hwn : wn ≤ 256) (hhn : hn ≤ 256) (hk : 0 ≤ kind ∧ kind ≤ 3) (hm : -16 ≤ m ∧ m ≤ 16) (hn2 : -16 ≤ n ∧ n ≤ 16)
    (HQ : ∀ X Y : Nat, X < wn → Y < hn → pat L (Y * wn + X) = pclr (ed ((X : Int) + m) ((Y : Int) + n)))
    (T0 : ∀ w', Below w.heap.size w w' → Calls Try.prog 22 #[.agg #[.int .i64 (wn : Int), .int .i64 (hn : Int), .slice A len c]] w' fun e w'' => e = .returned (.int .i64 0) ∧ Below w'.heap.size w' w'')
    (T1 : ∀ w' g, Below w.heap.size w w' → Bx w' g 28 #[.int .i64 (m * 65536), .int .i64 (n * 65536), .int .i64 (m * 65536), .int .i64 (n * 65536), .int .i64 (m * 65536), .int .i64 (n * 65536), .int .i64 (m * 65536), .int .i64 (n * 65536)] → Calls Try.prog 19 #[.agg #[.int .i64 (wn : Int), .int .i64 (hn : Int), .slice A len c], .agg #[.int .i64 0, .int .i64 0], .agg #[.int .i64 0, .int .i64 0, .int .i64 (wn : Int), .int .i64 (hn : Int)], .agg #[.int .i64 2, .int .i64 2, .int .i64 3, .slice (some ⟨g, 0, none⟩) 4 4], .int .i64 kind, .agg #[.int .i64 0, .int .i64 0, .int .i64 (wn : Int), .int .i64 (hn : Int)]] w' (ImPost 0 (wn : Int) (hn : Int) L w'))
    (T2 : ∀ w' x y, Below w.heap.size w w' → Calls Try.prog 23 #[.agg #[.int .i64 (wn : Int), .int .i64 (hn : Int), .slice A len c], .int .i64 x, .int .i64 y] w' (PxPost (ed x y) w'))
    (T7 : ∀ w', Calls Try.prog 16 #[] w' fun e w'' => e = .returned (.bool true) ∧ Below w'.heap.size w' w'') :
    Calls Try.prog 7 #[.agg #[.int .i64 (wn : Int), .int .i64 (hn : Int), .slice A len c], .int .i64 kind, .int .i64 m, .int .i64 n] w (YesPost w) := by
  replace T0 := Lib.hid T0; replace T1 := Lib.hid T1; replace T2 := Lib.hid T2; replace T7 := Lib.hid T7; replace HQ := Lib.hid HQ
  have HL := Lib.hid hL; have HN := Lib.hid hN
  clear hL hN
  go_enter Try.func7, Try.ntmps7
  go_upto_region 1 with fail
  have K := Lib.hid (fr_one w #[.int .i64 (wn : Int), .int .i64 (hn : Int), .slice A len c] 40 _ rfl)
  generalize World.alloc w _ = w0 at *
  obtain ⟨⟨i1, i2, i3⟩, -⟩ := K.out.1.1.three
  have hlen0 : (0 : Int) ≤ (len : Int) := by omega
  have d0 : ((len : Int) == 0) = false := by simp; omega
  go_wp2_with fail
  refine (T0.out _ K.out.2).mono ?_
  rintro e w1 ⟨rfl, hb⟩
  replace K := Lib.hid (K.out.below hb)
  clear i1 i2 i3 hb T0
  have s1 : ¬ kind < 0 := by omega
  have s2 : ¬ 3 < kind := by omega
  have s3 : ¬ m < -16 := by omega
  have s4 : ¬ 16 < m := by omega
  have s5 : ¬ n < -16 := by omega
  have s6 : ¬ 16 < n := by omega
  have v1 := wrap_in (m * 65536) (by omega); have v2 := wrap_in (n * 65536) (by omega)
  go_upto_region 4 with fail
  have H9 := Lib.hid (Bx.new w1 28 #[.int .i64 (m * 65536), .int .i64 (n * 65536)])
  replace K := Lib.hid (K.out.below (bel1 w1 (.cells #[.int .i64 (m * 65536), .int .i64 (n * 65536)] 28)))
  clear s1 s2 s3 s4 s5 s6 v1 v2 d0
  generalize World.alloc w1 _ = w2 at *
  generalize w1.heap.size = g9 at *
  obtain ⟨⟨z1, z2⟩, -⟩ := H9.out.two
  go_upto_region 5 with fail
  have HS := Lib.hid (Bx.new w2 28 #[.int .i64 (m * 65536), .int .i64 (n * 65536), .int .i64 (m * 65536), .int .i64 (n * 65536), .int .i64 (m * 65536), .int .i64 (n * 65536), .int .i64 (m * 65536), .int .i64 (n * 65536)])
  replace K := Lib.hid (K.out.below (bel1 w2 (.cells #[.int .i64 (m * 65536), .int .i64 (n * 65536), .int .i64 (m * 65536), .int .i64 (n * 65536), .int .i64 (m * 65536), .int .i64 (n * 65536), .int .i64 (m * 65536), .int .i64 (n * 65536)] 28)))
  have hs3 := World.size_alloc w2 (.cells #[.int .i64 (m * 65536), .int .i64 (n * 65536), .int .i64 (m * 65536), .int .i64 (n * 65536), .int .i64 (m * 65536), .int .i64 (n * 65536), .int .i64 (m * 65536), .int .i64 (n * 65536)] 28)
  clear z1 z2 H9
  generalize World.alloc w2 (.cells #[.int .i64 (m * 65536), .int .i64 (n * 65536), .int .i64 (m * 65536), .int .i64 (n * 65536), .int .i64 (m * 65536), .int .i64 (n * 65536), .int .i64 (m * 65536), .int .i64 (n * 65536)] 28) = w3 at *
  generalize w2.heap.size = gs at *
  have n10 := Bx.new w3 24 #[.int .i64 2, .int .i64 2, .int .i64 3, .slice (some ⟨gs, 0, none⟩) 4 4]
  rw [hs3] at n10
  have H10 := Lib.hid n10
  have hb4 := bel1 w3 (.cells #[.int .i64 2, .int .i64 2, .int .i64 3, .slice (some ⟨gs, 0, none⟩) 4 4] 24)
  replace K := Lib.hid (K.out.below hb4); replace HS := Lib.hid (HS.out.below hb4)
  clear hb4 n10 hs3
  generalize World.alloc w3 _ = w4 at *
  obtain ⟨⟨i1, i2, i3⟩, -⟩ := K.out.1.1.three
  go_upto_region 6 with fail
  have H11 := Lib.hid (Bx.new w4 34 #[.int .i64 0, .int .i64 0, .int .i64 (wn : Int), .int .i64 (hn : Int)])
  have hb5 := bel1 w4 (.cells #[.int .i64 0, .int .i64 0, .int .i64 (wn : Int), .int .i64 (hn : Int)] 34)
  replace K := Lib.hid (K.out.below hb5); replace HS := Lib.hid (HS.out.below hb5); replace H10 := Lib.hid (H10.out.below hb5)
  clear hb5 i1 i2 i3
  generalize World.alloc w4 _ = w5 at *
  generalize w4.heap.size = g11 at *
  obtain ⟨⟨i1, i2, i3⟩, -⟩ := K.out.1.1.three
  obtain ⟨⟨j1, j2, j3, j4⟩, -⟩ := H10.out.four
  obtain ⟨⟨k1, k2, k3, k4⟩, -⟩ := H11.out.four
  go_wp2_with fail
  refine (T1.out _ gs K.out.2 HS.out).mono ?_
  rintro e w6 ⟨A1, n1, c1, rfl, hr, hb⟩
  replace K := Lib.hid (K.out.below hb)
  clear i1 i2 i3 j1 j2 j3 j4 k1 k2 k3 k4 hb T1 HS H10 H11
  go_upto_region 7 with fail
  have H12 := Lib.hid (Bx.new w6 40 #[.int .i64 (wn : Int), .int .i64 (hn : Int), .slice A1 n1 c1])
  have hb7 := bel1 w6 (.cells #[.int .i64 (wn : Int), .int .i64 (hn : Int), .slice A1 n1 c1] 40)
  have hP := hr.pixs.on hb7
  replace K := Lib.hid (K.out.below hb7)
  clear hb7 hr
  generalize World.alloc w6 _ = w7 at *
  generalize w6.heap.size = g12 at *
  obtain ⟨A', c', ev, -, hcc⟩ := hP
  injection ev with u1 u2 u3
  subst u1 u2
  obtain ⟨b, o, rfl, hb0, -⟩ := hcc 0 (by rw [HL.out]; omega)
  have HB0 := Lib.hid hb0
  have HC := Lib.hid (show ∀ k, k < len → w7.cell? ⟨b, o + k * 4, none⟩ = some (.int .i64 (pat L k).r) ∧ w7.cell? ⟨b, o + k * 4 + 1, none⟩ = some (.int .i64 (pat L k).g) ∧ w7.cell? ⟨b, o + k * 4 + 2, none⟩ = some (.int .i64 (pat L k).b) ∧ w7.cell? ⟨b, o + k * 4 + 3, none⟩ = some (.int .i64 (pat L k).a) from fun k hk => by
    obtain ⟨b', o', e', -, h⟩ := hcc k (by rw [HL.out]; exact hk)
    injection e' with e'
    injection e' with e1 e2
    subst e1 e2
    exact h)
  have hL : L.length = len := HL.out
  clear hcc u3 hb0
  have d7 : ((L.length : Int) != (len : Int)) = false := by simp [hL]
  clear hL
  obtain ⟨⟨i1, i2, i3⟩, -⟩ := K.out.1.1.three
  obtain ⟨⟨j1, j2, j3⟩, -⟩ := H12.out.three
  go_upto_region 10 with fail
  clear i1 i2 i3 j1 j2 j3 d7
  go_loopg [104] hn (MvRel hn w7)
  case atStart => exact ⟨0, Nat.zero_le _, rfl, rfl, Below.refl _ _⟩
  case round =>
    obtain ⟨Y, hY, rfl, rfl, hby⟩ := hrel
    by_cases hlt : Y < hn
    · have hy0 : (0 : Int) ≤ (Y : Int) := by omega
      have hy1 : (Y : Int) < (hn : Int) := by omega
      obtain ⟨⟨i1, i2, i3⟩, -⟩ := (K.out.below hby).1.1.three
      go_upto_region 13 with fail
      clear i1 i2 i3
      go_loopg [109] wn (MvRel wn w7)
      case atStart => exact ⟨0, Nat.zero_le _, rfl, rfl, hby⟩
      case round =>
        clear hby
        obtain ⟨X, hX, rfl, rfl, hbx⟩ := hrel
        by_cases hlt2 : X < wn
        · have hx0 : (0 : Int) ≤ (X : Int) := by omega
          have hx1 : (X : Int) < (wn : Int) := by omega
          have KR := Lib.hid (K.out.below hbx)
          have hkl := grid_idx hlt2 hlt
          rw [HN.out] at hkl
          have hq := HQ.out X Y hlt2 hlt
          have hp := HC.out _ hkl
          have hyw : 0 ≤ (Y : Int) * (wn : Int) ∧ (Y : Int) * (wn : Int) ≤ 256 * 256 := ⟨Int.mul_nonneg hy0 (by omega), Int.mul_le_mul (by omega) (by omega) (by omega) (by omega)⟩
          have hkk : (((Y * wn + X : Nat)) : Int) = (Y : Int) * (wn : Int) + (X : Int) := by rw [Int.natCast_add, Int.natCast_mul]
          have TE := Lib.hid (T2.out wr ((X : Int) + m) ((Y : Int) + n) KR.out.2)
          have e1 := wrap_in ((X : Int) + m) (by omega); have e2 := wrap_in ((Y : Int) + n) (by omega)
          have e3 := wrap_in ((Y : Int) * (wn : Int)) (by omega)
          have e4 : IntKind.i64.wrap ((Y : Int) * (wn : Int) + (X : Int)) = ((Y * wn + X : Nat) : Int) := by rw [hkk]; exact wrap_in _ (by omega)
          generalize ed ((X : Int) + m) ((Y : Int) + n) = p at *
          generalize Y * wn + X = k at *
          rw [hq] at hp
          clear hq hkk
          obtain ⟨⟨i1, i2, i3⟩, -⟩ := KR.out.1.1.three
          go_wp2_with fail
          refine (TE.out).mono ?_
          rintro e w8 ⟨rfl, hb⟩
          have hg16 : w7.heap.size ≤ w8.heap.size := Nat.le_trans hbx.size hb.size
          have hB8 : Below w7.heap.size w7 w8 := hbx.trans (hb.mono hbx.size)
          clear i1 i2 i3 hb TE hbx KR e1 e2
          go_upto_region 16 with fail
          have H16 := Lib.hid (Bx.new w8 48 #[.int .i64 p.r, .int .i64 p.g, .int .i64 p.b, .int .i64 p.a])
          have hB9 : Below w7.heap.size w7 (World.alloc w8 (.cells #[.int .i64 p.r, .int .i64 p.g, .int .i64 p.b, .int .i64 p.a] 48)) := hB8.trans ((bel1 w8 _).mono hg16)
          clear hB8
          generalize World.alloc w8 _ = w9 at *
          generalize w8.heap.size = g16 at *
          by_cases ha : p.a = 0
          · have da : (p.a == 0) = true := by simp [ha]
            have hpz : pclr p = Px.zero := by unfold pclr; rw [if_pos ha]
            rw [hpz] at hp
            obtain ⟨⟨m1, m2, m3, m4⟩, mf1, mf2, mf3, mf4⟩ := H16.out.four
            clear ha hpz
            go_upto_region 18 with fail
            have H17 := Lib.hid (H16.out.set4 (.int .i64 0) (.int .i64 0) (.int .i64 0) (.int .i64 0))
            have hB10 := (((hB9.setCell (p := ⟨g16, 0, none⟩) hg16 (.int .i64 0)).setCell (p := ⟨g16, 1, none⟩) hg16 (.int .i64 0)).setCell (p := ⟨g16, 2, none⟩) hg16 (.int .i64 0)).setCell (p := ⟨g16, 3, none⟩) hg16 (.int .i64 0)
            clear m1 m2 m3 m4 mf1 mf2 mf3 mf4 H16 hB9 da
            generalize World.setCell (World.setCell (World.setCell (World.setCell w9 _ _) _ _) _ _) _ _ = w10 at *
            have p1 := (hB10.cell (p := ⟨b, _, none⟩) HB0.out).trans hp.1; have p2 := (hB10.cell (p := ⟨b, _, none⟩) HB0.out).trans hp.2.1; have p3 := (hB10.cell (p := ⟨b, _, none⟩) HB0.out).trans hp.2.2.1; have p4 := (hB10.cell (p := ⟨b, _, none⟩) HB0.out).trans hp.2.2.2
            replace p1 : w10.cell? ⟨b, o + k * 4, none⟩ = some (.int .i64 0) := p1; replace p2 : w10.cell? ⟨b, o + k * 4 + 1, none⟩ = some (.int .i64 0) := p2; replace p3 : w10.cell? ⟨b, o + k * 4 + 2, none⟩ = some (.int .i64 0) := p3; replace p4 : w10.cell? ⟨b, o + k * 4 + 3, none⟩ = some (.int .i64 0) := p4
            obtain ⟨⟨m1, m2, m3, m4⟩, -⟩ := H17.out.four
            obtain ⟨⟨i1, i2, i3⟩, -⟩ := (K.out.below hB10).1.1.three
            obtain ⟨⟨j1, j2, j3⟩, -⟩ := (H12.out.below hB10).three
            have hk0 : (0 : Int) ≤ (k : Int) := by omega
            have hk1 : (k : Int) < (L.length : Int) := by have := HL.out; omega
            go_quiet (fail)
            have HBZ := Lib.hid (Below.drewN' hB10 nq)
            clear hp p1 p2 p3 p4 m1 m2 m3 m4 i1 i2 i3 j1 j2 j3 hB10 H17
            go_wp2_with fail
            go_roundg (wn - (X + 1))
            case measure => omega
            case rel => exact ⟨X + 1, by omega, rfl, by go_num, HBZ.out⟩
          · have da : (p.a == 0) = false := by simp [ha]
            have hpz : pclr p = p := by unfold pclr; rw [if_neg ha]
            rw [hpz] at hp
            obtain ⟨⟨m1, m2, m3, m4⟩, -⟩ := H16.out.four
            have p1 := (hB9.cell (p := ⟨b, _, none⟩) HB0.out).trans hp.1; have p2 := (hB9.cell (p := ⟨b, _, none⟩) HB0.out).trans hp.2.1; have p3 := (hB9.cell (p := ⟨b, _, none⟩) HB0.out).trans hp.2.2.1; have p4 := (hB9.cell (p := ⟨b, _, none⟩) HB0.out).trans hp.2.2.2
            obtain ⟨⟨i1, i2, i3⟩, -⟩ := (K.out.below hB9).1.1.three
            obtain ⟨⟨j1, j2, j3⟩, -⟩ := (H12.out.below hB9).three
            have hk0 : (0 : Int) ≤ (k : Int) := by omega
            have hk1 : (k : Int) < (L.length : Int) := by have := HL.out; omega
            clear ha hpz
            go_upto_region 18 with fail
            go_quiet (fail)
            have HBZ := Lib.hid (Below.drewN' hB9 nq)
            clear hp p1 p2 p3 p4 m1 m2 m3 m4 i1 i2 i3 j1 j2 j3 hB9 H16
            go_wp2_with fail
            go_roundg (wn - (X + 1))
            case measure => omega
            case rel => exact ⟨X + 1, by omega, rfl, by go_num, HBZ.out⟩
        · obtain rfl : X = wn := by omega
          have HBZ := Lib.hid hbx
          clear hbx
          go_wp2_with fail
          go_roundg (hn - (Y + 1))
          case measure => omega
          case rel => exact ⟨Y + 1, by omega, rfl, by go_num, HBZ.out⟩
    · obtain rfl : Y = hn := by omega
      have HBZ := Lib.hid (K.out.below hby).2
      clear hby
      go_wp2_with fail
      refine (T7.out _).mono ?_
      rintro e w8 ⟨rfl, hb⟩
      go_wp2_with fail
      go_ret
      exact ⟨rfl, bel_trans HBZ.out hb⟩
theorem mv_knots {w : World} {g : Nat} {m n : Int} (h : Bx w g 28 #[.int .i64 (m * 65536), .int .i64 (n * 65536), .int .i64 (m * 65536), .int .i64 (n * 65536), .int .i64 (m * 65536), .int .i64 (n * 65536), .int .i64 (m * 65536), .int .i64 (n * 65536)]) : Knots w w.heap.size (.slice (some ⟨g, 0, none⟩) (mvK m n).length 4) (mvK m n) := by
  obtain ⟨⟨h0, h1, h2, h3⟩, h4, h5, h6, h7⟩ := h.eight
  refine ⟨_, 4, rfl, by simp [mvK], fun i hi => ⟨g, 0, rfl, h.lt, ?_⟩⟩
  have hi : i < 4 := hi
  match i, hi with
  | 0, _ => exact ⟨h0, h1⟩
  | 1, _ => exact ⟨h2, h3⟩
  | 2, _ => exact ⟨h4, h5⟩
  | 3, _ => exact ⟨h6, h7⟩
theorem walk_wmoves (v0 : Value) (x0 : Int × Int × List Px) (kind m n : Int) (w : World) (h0 : ImgV w v0 x0) :
    Calls Try.prog 7 #[v0, .int .i64 kind, .int .i64 m, .int .i64 n] w fun e w' => e = .returned (.bool true) ∧ Below w.heap.size w w' := by
  obtain ⟨W, H, ps⟩ := x0
  obtain ⟨⟨A0, n0, c0, rfl, hp⟩, -⟩ := h0
  obtain rfl := hp.len
  dsimp only at hp ⊢
  have T0 := fun w' (hb : Below w.heap.size w w') => icheck_any W H A0 ps.length c0 ps w' (hp.on hb)
  by_cases htt : ps.length = 0 ∨ ichk W H ps ≠ 0 ∨ kind < 0 ∨ 3 < kind ∨ m < -16 ∨ 16 < m ∨ n < -16 ∨ 16 < n
  · exact wmoves_e W H kind m n _ A0 _ c0 w htt T0 awake_any
  have h1 : ichk W H ps = 0 := by
    rcases Classical.em (ichk W H ps = 0) with h | h
    · exact h
    · exact absurd (.inr (.inl h)) htt
  have hl : 0 < ps.length := by omega
  have hm : -16 ≤ m ∧ m ≤ 16 := by omega
  have hn : -16 ≤ n ∧ n ≤ 16 := by omega
  have hk : 0 ≤ kind ∧ kind ≤ 3 := by omega
  clear htt
  have io := (ichk_iff W H ps).1 h1
  rw [h1] at T0
  have i0 := io.w0; have i1 := io.w1; have i2 := io.h0; have i3 := io.h1; have i4 := io.n
  have hW : 0 < W := by
    rcases Int.lt_or_eq_of_le i0 with c | c
    · exact c
    · rw [← c, Int.zero_mul] at i4; omega
  have hH : 0 < H := by
    rcases Int.lt_or_eq_of_le i2 with c | c
    · exact c
    · rw [← c, Int.mul_zero] at i4; omega
  have ok := mv_ok hm hn
  have hv : vld kind = true := by unfold vld; simp; omega
  have fb : (Rk.mk 0 0 W H).empty = false := full_of (by dsimp only; omega)
  have no : NOk 2 2 3 (mvK m n) kind ⟨0, 0, W, H⟩ ⟨0, 0, W, H⟩ := ⟨ok, hv, fb, fb, Int.le_refl _, Int.le_refl _, Int.le_refl _, Int.le_refl _⟩
  have ew : ((W.toNat : Nat) : Int) = W := Int.toNat_of_nonneg (by omega)
  have eh : ((H.toNat : Nat) : Int) = H := Int.toNat_of_nonneg (by omega)
  have hN : W.toNat * H.toNat = ps.length := by
    have : ((W.toNat * H.toNat : Nat) : Int) = (ps.length : Int) := by rw [Int.natCast_mul, ew, eh, i4]
    omega
  have key := wmoves_ok W.toNat H.toNat kind m n A0 ps.length c0 (wpic W 0 0 ⟨0, 0, W, H⟩ ps 2 2 3 (mvK m n) kind ⟨0, 0, W, H⟩) (edgeP W H ps) w hl (by unfold wpic; simp [hN]) hN (by omega) (by omega) hk hm hn
    (fun X Y hX hY => by
      rw [wpic_grid _ _ _ _ _ _ _ _ _ _ _ (by dsimp only; omega) (by dsimp only; omega)]
      have := grid_at (w := W) (h := H) (fun X Y => wdot W 0 0 ⟨0, 0, W, H⟩ ps 2 2 3 (mvK m n) kind (0 + X) (0 + Y)) (x := (X : Int)) (y := (Y : Int)) (by omega) (by omega)
      have hk2 : (Y : Int) * W + (X : Int) = ((Y * W.toNat + X : Nat) : Int) := by rw [Int.natCast_add, Int.natCast_mul, ew]
      rw [hk2, Int.toNat_natCast] at this
      dsimp only at this ⊢
      rw [this, Int.zero_add, Int.zero_add, mv_dot io hm hn hk (by omega) (by omega)]
      unfold edgeP atP
      rw [if_pos h1])
    (by rw [ew, eh]; exact T0)
    (fun w' g hb hx => by
      have kk : Knots w' w'.heap.size (.slice (some ⟨g, 0, none⟩) (mvK m n).length 4) (mvK m n) := mv_knots hx
      have := wdraw_any W H 0 0 A0 c0 ps ⟨0, 0, W, H⟩ 2 2 3 (some ⟨g, 0, none⟩) 4 (mvK m n) kind ⟨0, 0, W, H⟩ w' (hp.on hb) kk
      rw [wDE_iff.2 (whole_ok io no), imOut_ok] at this
      rw [ew, eh]
      exact this)
    (by rw [ew, eh]; exact fun w' x y hb => edge_any W H A0 c0 ps x y w' (hp.on hb)) awake_any
  rw [ew, eh] at key
  exact key
end Go.Proofs.Ytbakgdcajpagkaa
