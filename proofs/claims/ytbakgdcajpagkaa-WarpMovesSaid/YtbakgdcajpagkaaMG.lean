/- warp.cell, warp.At. -/
import Derived.Test.YtbakgdcajpagkaaMF
import Derived.Test.YtbakgdcajpagkaaMA
import Derived.StillTailTactics
import Derived.BigRegion
import Derived.Deep.DeepCutAuto
import Derived.Deep.RegionHeld3
namespace Go.Proofs.Ytbakgdcajpagkaa
open Go.RowKit
attribute [local go_sem 2000] run_max2m run_min2m

/-- A point is returned. -/
def PtPost (p : Int × Int) (w : World) (e : Ending) (w' : World) : Prop := e = .returned (.agg #[.int .i64 p.1, .int .i64 p.2]) ∧ Below w.heap.size w w'
set_option maxHeartbeats 1000000 in
theorem cell_any (x n S : Int) (w : World) (hn : 2 ≤ n ∧ n ≤ 8) (hs : 1 ≤ S ∧ S ≤ 256) :
    Calls Try.prog 28 #[.int .i64 x, .int .i64 n, .int .i64 S] w fun e w' => e = .returned (.tuple #[.int .i64 (wcI x n S), .int .i64 (wcF x n S)]) ∧ w = w' := by
  obtain ⟨hU, hI, hF⟩ := wc_bd (x := x) hn.1 hn.2 hs.1 hs.2
  have h0 : 0 ≤ (n - 1) * S := Int.mul_nonneg (by omega) (by omega)
  have h1 : (n - 1) * S ≤ 7 * 256 := Int.mul_le_mul (by omega) hs.2 (by omega) (by omega)
  have q1 := wrap_in ((n - 1) * S) (by omega)
  have C := Lib.hid (show ∀ w', Calls Try.prog 49 #[.int .i64 x, .int .i64 0, .int .i64 ((n - 1) * S)] w' fun e w'' => e = .returned (.int .i64 (wcU x n S)) ∧ w' = w'' from fun w' => clamp_any x 0 ((n - 1) * S) w')
  have e1 : (wcU x n S).tdiv S = wcU x n S / S := Int.tdiv_eq_ediv_of_nonneg hU.1
  have e2 : min (wcU x n S / S) (n - 2) = wcI x n S := rfl
  have e3 : wcU x n S - wcI x n S * S = wcF x n S := rfl
  have E1 := Lib.hid e1; have E2 := Lib.hid e2; have E3 := Lib.hid e3
  have hq : 0 ≤ wcU x n S / S := Int.ediv_nonneg hU.1 (by omega)
  have hq2 : wcU x n S / S ≤ 1792 := by
    have := Int.ediv_le_self S hU.1
    omega
  have hp : 0 ≤ wcI x n S * S ∧ wcI x n S * S ≤ 1792 := by
    have := Int.mul_nonneg hI.1 (show 0 ≤ S by omega)
    omega
  have hz : (S == 0) = false := by simp; omega
  have q2 := wrap_in (wcI x n S * S) (by omega)
  clear e1 e2 e3
  generalize wcF x n S = F at *
  generalize wcI x n S = I at *
  generalize wcU x n S = U at *
  generalize hQ : U / S = Q at *
  have HQ := Lib.hid hQ; clear hQ
  have e1 := E1.out; have e2 := E2.out
  go_enter Try.func28, Try.ntmps28
  go_wp2_with fail
  refine (C.out _).mono ?_
  rintro e w1 ⟨rfl, rfl⟩
  go_wp2_with fail
  go_ret2
  exact ⟨by rw [← E3.out]; rfl, rfl⟩
theorem at_idx {C R S x y : Int} {ks : List (Int × Int)} (h : WOk C R S ks) : ∃ n n1 n2 n3 : Nat, n = wN C R S x y ∧ n1 = n + 1 ∧ n2 = n + C.toNat ∧ n3 = n + C.toNat + 1 ∧ wcI y R S * C + wcI x C S = (n : Int) ∧ (n : Int) + 1 = (n1 : Int) ∧ (n : Int) + C = (n2 : Int) ∧ (n2 : Int) + 1 = (n3 : Int) ∧ n3 < ks.length ∧ n1 < ks.length ∧ n2 < ks.length ∧ n < ks.length := by
  have e := wN_eq (x := x) (y := y) h
  have hc := h.c0
  refine ⟨wN C R S x y, wN C R S x y + 1, wN C R S x y + C.toNat, wN C R S x y + C.toNat + 1, rfl, rfl, rfl, rfl, ?_⟩
  generalize wN C R S x y = N at *
  omega
theorem still_of {P : Program} {f : FuncId} {args : Array Value} {W : World} {v : Value} (h : Calls P f args W fun e w' => e = .returned v ∧ W = w') : Calls P f args W fun e w'' => e = .returned v ∧ w'' = W := h.mono fun _ _ ⟨a, b⟩ => ⟨a, b.symm⟩
/-- Four numbers; a sum of products. -/
def vec4 (a b c d : Int) : Nat → Int
  | 0 => a
  | 1 => b
  | 2 => c
  | _ => d
def psum (K X : Nat → Int) : Nat → Int
  | 0 => 0
  | j + 1 => psum K X j + K j * X j
theorem psum_four (k : Int × Int × Int × Int) (a b c d : Int) : psum (vec4 k.1 k.2.1 k.2.2.1 k.2.2.2) (vec4 a b c d) 4 = wsum k a b c d := by
  show 0 + k.1 * a + k.2.1 * b + k.2.2.1 * c + k.2.2.2 * d = k.1 * a + k.2.1 * b + k.2.2.1 * c + k.2.2.2 * d
  omega
theorem vec4_all {P : Int → Prop} {a b c d : Int} (ha : P a) (hb : P b) (hc : P c) (hd : P d) (j : Nat) : P (vec4 a b c d j) := by
  match j with
  | 0 => exact ha
  | 1 => exact hb
  | 2 => exact hc
  | _ + 3 => exact hd
theorem psum_bd {K X : Nat → Int} (hK : ∀ j, 0 ≤ K j ∧ K j ≤ 65536) (hX : ∀ j, -1048576 ≤ X j ∧ X j ≤ 1048576) (j : Nat) : (-68719476736 ≤ K j * X j ∧ K j * X j ≤ 68719476736) ∧ -(68719476736 * (j : Int)) ≤ psum K X j ∧ psum K X j ≤ 68719476736 * (j : Int) := by
  have one : ∀ j, -68719476736 ≤ K j * X j ∧ K j * X j ≤ 68719476736 := fun j => by
    have h := mul_abs (hK j).1 (hX j)
    have h2 : K j * 1048576 ≤ 65536 * 1048576 := Int.mul_le_mul_of_nonneg_right (hK j).2 (by omega)
    omega
  refine ⟨one j, ?_⟩
  induction j with
  | zero => exact ⟨by simp [psum], by simp [psum]⟩
  | succ j ih =>
    have := one j
    show -(68719476736 * ((j + 1 : Nat) : Int)) ≤ psum K X j + K j * X j ∧ psum K X j + K j * X j ≤ 68719476736 * ((j + 1 : Nat) : Int)
    omega
theorem psum_wrap {K X : Nat → Int} (hK : ∀ j, 0 ≤ K j ∧ K j ≤ 65536) (hX : ∀ j, -1048576 ≤ X j ∧ X j ≤ 1048576) (j : Nat) (hj : j < 4) : IntKind.i64.wrap (K j * X j) = K j * X j ∧ IntKind.i64.wrap (psum K X j + K j * X j) = psum K X (j + 1) := by
  have h := psum_bd hK hX j
  exact ⟨wrap_in _ (by omega), wrap_in (psum K X j + K j * X j) (by omega)⟩
theorem run_idx4 (w : World) (X Y : Nat → Int) (j : Nat) (h : j < 4) : (Instr.index 59 (.agg #[.int .i64 (X 0), .int .i64 (Y 0), .int .i64 (X 1), .int .i64 (Y 1), .int .i64 (X 2), .int .i64 (Y 2), .int .i64 (X 3), .int .i64 (Y 3)]) (.int .i64 (j : Int))).run Try.prog w = .ok (.agg #[.int .i64 (X j), .int .i64 (Y j)]) w := by
  match j, h with
  | 0, _ => simp [Instr.index, run_underlying Try.underlying59, asIntOf, go_sem]
  | 1, _ => simp [Instr.index, run_underlying Try.underlying59, asIntOf, go_sem]
  | 2, _ => simp [Instr.index, run_underlying Try.underlying59, asIntOf, go_sem]
  | 3, _ => simp [Instr.index, run_underlying Try.underlying59, asIntOf, go_sem]
attribute [local go_sem 2000] run_idx4
theorem Bx.ix4 {w : World} {g : Nat} {t : TypeId} {X : Nat → Int} (h : Bx w g t #[.int .i64 (X 0), .int .i64 (X 1), .int .i64 (X 2), .int .i64 (X 3)]) {i : Nat} (hi : i < 4) : w.cell? ⟨g, i, none⟩ = some (.int .i64 (X i)) := by
  match i, hi with
  | 0, _ => exact h.cell rfl
  | 1, _ => exact h.cell rfl
  | 2, _ => exact h.cell rfl
  | 3, _ => exact h.cell rfl
theorem Bx.eight {w : World} {g : Nat} {t : TypeId} {a b c d e f p q : Value} (h : Bx w g t #[a, b, c, d, e, f, p, q]) : (w.cell? ⟨g, 0, none⟩ = some a ∧ w.cell? ⟨g, 1, none⟩ = some b ∧ w.cell? ⟨g, 2, none⟩ = some c ∧ w.cell? ⟨g, 3, none⟩ = some d) ∧ w.cell? ⟨g, 4, none⟩ = some e ∧ w.cell? ⟨g, 5, none⟩ = some f ∧ w.cell? ⟨g, 6, none⟩ = some p ∧ w.cell? ⟨g, 7, none⟩ = some q :=
  ⟨⟨h.cell rfl, h.cell rfl, h.cell rfl, h.cell rfl⟩, h.cell rfl, h.cell rfl, h.cell rfl, h.cell rfl⟩
/-- Behind the four points. -/
def AtMid (C R S : Int) (sl : Value) (X Y : Nat → Int) (w : World) (v : Value) (wx : World) : Prop :=
  ∃ g, v = .pointer (some ⟨g, 0, none⟩) ∧ Bx wx w.heap.size 24 #[.int .i64 C, .int .i64 R, .int .i64 S, sl] ∧ Bx wx (w.heap.size + 1) 28 #[.int .i64 0, .int .i64 0] ∧
  Bx wx g 59 #[.int .i64 (X 0), .int .i64 (Y 0), .int .i64 (X 1), .int .i64 (Y 1), .int .i64 (X 2), .int .i64 (Y 2), .int .i64 (X 3), .int .i64 (Y 3)] ∧ Below w.heap.size w wx
def AtRel (C R S : Int) (sl : Value) (K X Y : Nat → Int) (w : World) (g13 g14 : Nat) (k : Nat) (u : Value) (wr : World) : Prop :=
  ∃ j, j ≤ 4 ∧ k = 4 - j ∧ u = .int .i64 (j : Nat) ∧ Bx wr w.heap.size 24 #[.int .i64 C, .int .i64 R, .int .i64 S, sl] ∧ Bx wr (w.heap.size + 1) 28 #[.int .i64 0, .int .i64 0] ∧
  Bx wr g13 60 #[.int .i64 (K 0), .int .i64 (K 1), .int .i64 (K 2), .int .i64 (K 3)] ∧ Bx wr g14 28 #[.int .i64 (psum K X j), .int .i64 (psum K Y j)] ∧ Below w.heap.size w wr
set_option maxRecDepth 100000 in
set_option maxHeartbeats 8000000 in
theorem at_yes (C R S : Int) (A : Option Addr) (c : Nat) (ks : List (Int × Int)) (x y : Int) (w : World) (ok : WOk C R S ks) (h : Knots w w.heap.size (.slice A ks.length c) ks)
    (TC : ∀ w', Below w.heap.size w w' → Calls Try.prog 10 #[.agg #[.int .i64 C, .int .i64 R, .int .i64 S, .slice A ks.length c]] w' fun e w'' => e = .returned (.int .i64 0) ∧ Below w'.heap.size w' w'') :
    Calls Try.prog 12 #[.agg #[.int .i64 C, .int .i64 R, .int .i64 S, .slice A ks.length c], .int .i64 x, .int .i64 y] w (PtPost (rdiv (watX C R S ks x y) (S * S), rdiv (watY C R S ks x y) (S * S)) w) := by
  have HTC := Lib.hid TC; have HOK := Lib.hid ok; have H := Lib.hid h
  have hl64 : ks.length ≤ 64 := by have := ok.n; have := mul8 (C := C) (R := R) ⟨ok.c0, ok.c1⟩ ⟨ok.r0, ok.r1⟩; omega
  obtain ⟨b, o, cc, ev, hb, hc⟩ := h.form (by have := ok.n; have := ok.c0; have := ok.r0; have : 0 < C * R := Int.mul_pos (by omega) (by omega); omega)
  injection ev with u1 u2 u3
  subst u1 u3
  have HC := Lib.hid hc
  obtain ⟨-, hI, hF⟩ := wc_bd (x := x) ok.c0 ok.c1 ok.s0 ok.s1
  obtain ⟨-, hJ, hG⟩ := wc_bd (x := y) ok.r0 ok.r1 ok.s0 ok.s1
  have hcb : 2 ≤ C ∧ C ≤ 8 := ⟨ok.c0, ok.c1⟩
  have hrb : 2 ≤ R ∧ R ≤ 8 := ⟨ok.r0, ok.r1⟩
  have hsb : 1 ≤ S ∧ S ≤ 256 := ⟨ok.s0, ok.s1⟩
  have C1 := Lib.hid (fun w' => cell_any x C S w' hcb hsb)
  have C2 := Lib.hid (fun w' => cell_any y R S w' hrb hsb)
  obtain ⟨n, n1, n2, n3, e0, e1, e2, e3, g0, g1, g2, g3, l3, l1, l2, l0⟩ := at_idx (x := x) (y := y) ok
  clear hc u2 TC ok h
  have hJC : 0 ≤ wcI y R S * C ∧ wcI y R S * C ≤ 64 := by
    have := Int.mul_nonneg hJ.1 (show 0 ≤ C by omega)
    omega
  go_enter Try.func12, Try.ntmps12
  go_upto_region 1 with fail
  obtain ⟨hb3, hb6, hB⟩ := two_boxes w #[.int .i64 C, .int .i64 R, .int .i64 S, .slice (some ⟨b, o, none⟩) ks.length c] #[.int .i64 0, .int .i64 0] 24 28 _ rfl
  generalize World.alloc (World.alloc w _) _ = w0 at *
  obtain ⟨⟨i1, i2, i3, i4⟩, -⟩ := hb3.four
  go_wp2_with fail
  refine (HTC.out _ hB).mono ?_
  rintro e w1 ⟨rfl, hbb⟩
  replace hb3 := hb3.below hbb; replace hb6 := hb6.below hbb; replace hB := bel_trans hB hbb
  clear i1 i2 i3 i4 hbb
  obtain ⟨⟨i1, i2, i3, i4⟩, -⟩ := hb3.four
  go_wp2_with fail
  refine (C1.out _).mono ?_
  rintro e w2 ⟨rfl, rfl⟩
  go_wp2_with fail
  refine (C2.out _).mono ?_
  rintro e w2 ⟨rfl, rfl⟩
  have q1 := wrap_in (wcI y R S * C) (by omega)
  have x0 := (hB.cell (p := ⟨b, _, none⟩) hb).trans (HC.out n l0).1; have y0 := (hB.cell (p := ⟨b, _, none⟩) hb).trans (HC.out n l0).2
  have x1 := (hB.cell (p := ⟨b, _, none⟩) hb).trans (HC.out n1 l1).1; have y1 := (hB.cell (p := ⟨b, _, none⟩) hb).trans (HC.out n1 l1).2
  have x2 := (hB.cell (p := ⟨b, _, none⟩) hb).trans (HC.out n2 l2).1; have y2 := (hB.cell (p := ⟨b, _, none⟩) hb).trans (HC.out n2 l2).2
  have x3 := (hB.cell (p := ⟨b, _, none⟩) hb).trans (HC.out n3 l3).1; have y3 := (hB.cell (p := ⟨b, _, none⟩) hb).trans (HC.out n3 l3).2
  have k0 : (0 : Int) ≤ (n : Int) ∧ (n : Int) < (ks.length : Int) := by omega
  have k1 : (0 : Int) ≤ (n1 : Int) ∧ (n1 : Int) < (ks.length : Int) := by omega
  have k2 : (0 : Int) ≤ (n2 : Int) ∧ (n2 : Int) < (ks.length : Int) := by omega
  have k3 : (0 : Int) ≤ (n3 : Int) ∧ (n3 : Int) < (ks.length : Int) := by omega
  have v1 := wrap_in (n1 : Int) (by omega); have v2 := wrap_in (n2 : Int) (by omega); have v3 := wrap_in (n3 : Int) (by omega); have v0 := wrap_in (n : Int) (by omega)
  have E0 := Lib.hid e0; have E1 := Lib.hid e1; have E2 := Lib.hid e2; have E3 := Lib.hid e3
  clear e0 e1 e2 e3
  go_upto_region 6 with fail
  obtain ⟨⟨j1, j2, j3, j4⟩, -⟩ := hb3.four
  have jn0 := World.new_ne w1 _ j1; have jnb := World.new_ne w1 _ x0
  go_cut [12] (AtMid C R S (.slice (some ⟨b, o, none⟩) ks.length c) (vec4 (kx ks n) (kx ks n1) (kx ks n2) (kx ks n3)) (vec4 (ky ks n) (ky ks n1) (ky ks n2) (ky ks n3)) w)
  case first =>
    clear j2 j3
    go_region_held3 (fun w' => (w'.cell? ⟨w.heap.size, 0, none⟩ = some (.int .i64 C) ∧ w'.cell? ⟨w.heap.size, 3, none⟩ = some (.slice (some ⟨b, o, none⟩) ks.length c)) ∧ (w'.cell? ⟨b, o + n * 2, none⟩ = some (.int .i64 (kx ks n)) ∧ w'.cell? ⟨b, o + n * 2 + 1, none⟩ = some (.int .i64 (ky ks n))) ∧ (w'.cell? ⟨b, o + n1 * 2, none⟩ = some (.int .i64 (kx ks n1)) ∧ w'.cell? ⟨b, o + n1 * 2 + 1, none⟩ = some (.int .i64 (ky ks n1))) ∧ (w'.cell? ⟨b, o + n2 * 2, none⟩ = some (.int .i64 (kx ks n2)) ∧ w'.cell? ⟨b, o + n2 * 2 + 1, none⟩ = some (.int .i64 (ky ks n2))) ∧ (w'.cell? ⟨b, o + n3 * 2, none⟩ = some (.int .i64 (kx ks n3)) ∧ w'.cell? ⟨b, o + n3 * 2 + 1, none⟩ = some (.int .i64 (ky ks n3))))
      (go_keep) (fail)
    go_wp2_with fail
    go_meet
    exact ⟨_, rfl, (hb3.alloc _).drew, (hb6.alloc _).drew, (Bx.new _ _ _).drew, Below.drew (bel_alloc hB _)⟩
  case rest =>
  clear hb3 hb6 hB j1 j2 j3 j4 i1 i2 i3 i4 jn0 jnb x0 x1 x2 x3 y0 y1 y2 y3
  obtain ⟨g12, rfl, hb3, hb6, hb12, hB⟩ := hcut
  obtain ⟨⟨p0, p1, p2, p3⟩, p4, p5, p6, p7⟩ := hb12.eight
  obtain ⟨⟨j1, j2, j3, j4⟩, -⟩ := hb3.four
  have KB := wk_bd hsb.1 hsb.2 hF hG
  have hK := vec4_all (P := fun k => 0 ≤ k ∧ k ≤ 65536) KB.1 KB.2.1 KB.2.2.1 KB.2.2.2.1
  have RG := HOK.out.rng
  have hX := vec4_all (P := fun k => -1048576 ≤ k ∧ k ≤ 1048576) (RG n l0).1 (RG n1 l1).1 (RG n2 l2).1 (RG n3 l3).1
  have hY := vec4_all (P := fun k => -1048576 ≤ k ∧ k ≤ 1048576) (RG n l0).2 (RG n1 l1).2 (RG n2 l2).2 (RG n3 l3).2
  have WX := Lib.hid (psum_wrap hK hX); have WY := Lib.hid (psum_wrap hK hY)
  have eX : psum (vec4 (wk S (wcF x C S) (wcF y R S)).1 (wk S (wcF x C S) (wcF y R S)).2.1 (wk S (wcF x C S) (wcF y R S)).2.2.1 (wk S (wcF x C S) (wcF y R S)).2.2.2) (vec4 (kx ks n) (kx ks n1) (kx ks n2) (kx ks n3)) 4 = watX C R S ks x y := by rw [psum_four, E1.out, E2.out, E3.out, E0.out]; rfl
  have eY : psum (vec4 (wk S (wcF x C S) (wcF y R S)).1 (wk S (wcF x C S) (wcF y R S)).2.1 (wk S (wcF x C S) (wcF y R S)).2.2.1 (wk S (wcF x C S) (wcF y R S)).2.2.2) (vec4 (ky ks n) (ky ks n1) (ky ks n2) (ky ks n3)) 4 = watY C R S ks x y := by rw [psum_four, E1.out, E2.out, E3.out, E0.out]; rfl
  have bX := (psum_bd hK hX 4).2; have bY := (psum_bd hK hY 4).2
  have S2 : 0 < S * S ∧ S * S ≤ 65536 := ⟨Int.mul_pos (by omega) (by omega), by have : S * S ≤ 256 * 256 := Int.mul_le_mul hsb.2 hsb.2 (by omega) (by omega); omega⟩
  have D1 := Lib.hid (fun w' => div_any (watX C R S ks x y) (S * S) w' (by rw [← eX]; omega) (by rw [← eX]; omega) S2.1 (by omega))
  have D2 := Lib.hid (fun w' => div_any (watY C R S ks x y) (S * S) w' (by rw [← eY]; omega) (by rw [← eY]; omega) S2.1 (by omega))
  rw [← eX] at D1
  rw [← eY] at D2
  have EE := Lib.hid (And.intro eX eY); clear eX eY
  have u1 := wrap_in (S * S) (by omega)
  have u2 := wrap_in (S - wcF x C S) (by omega); have u3 := wrap_in (S - wcF y R S) (by omega)
  have m1 : IntKind.i64.wrap ((S - wcF x C S) * (S - wcF y R S)) = vec4 (wk S (wcF x C S) (wcF y R S)).1 (wk S (wcF x C S) (wcF y R S)).2.1 (wk S (wcF x C S) (wcF y R S)).2.2.1 (wk S (wcF x C S) (wcF y R S)).2.2.2 0 := wrap_in (wk S (wcF x C S) (wcF y R S)).1 (by omega)
  have m2 : IntKind.i64.wrap (wcF x C S * (S - wcF y R S)) = vec4 (wk S (wcF x C S) (wcF y R S)).1 (wk S (wcF x C S) (wcF y R S)).2.1 (wk S (wcF x C S) (wcF y R S)).2.2.1 (wk S (wcF x C S) (wcF y R S)).2.2.2 1 := wrap_in (wk S (wcF x C S) (wcF y R S)).2.1 (by omega)
  have m3 : IntKind.i64.wrap ((S - wcF x C S) * wcF y R S) = vec4 (wk S (wcF x C S) (wcF y R S)).1 (wk S (wcF x C S) (wcF y R S)).2.1 (wk S (wcF x C S) (wcF y R S)).2.2.1 (wk S (wcF x C S) (wcF y R S)).2.2.2 2 := wrap_in (wk S (wcF x C S) (wcF y R S)).2.2.1 (by omega)
  have m4 : IntKind.i64.wrap (wcF x C S * wcF y R S) = vec4 (wk S (wcF x C S) (wcF y R S)).1 (wk S (wcF x C S) (wcF y R S)).2.1 (wk S (wcF x C S) (wcF y R S)).2.2.1 (wk S (wcF x C S) (wcF y R S)).2.2.2 3 := wrap_in (wk S (wcF x C S) (wcF y R S)).2.2.2 (by omega)
  clear KB hK hX hY bX bY S2 RG hI hF hJ hG hJC E0 E1 E2 E3 HOK
  clear k0 k1 k2 k3 v0 v1 v2 v3 q1
  generalize hKK : vec4 (wk S (wcF x C S) (wcF y R S)).1 (wk S (wcF x C S) (wcF y R S)).2.1 (wk S (wcF x C S) (wcF y R S)).2.2.1 (wk S (wcF x C S) (wcF y R S)).2.2.2 = K at *
  generalize hXX : vec4 (kx ks n) (kx ks n1) (kx ks n2) (kx ks n3) = X at *
  generalize hYY : vec4 (ky ks n) (ky ks n1) (ky ks n2) (ky ks n3) = Y at *
  clear hKK hXX hYY
  generalize wcF x C S = F at *
  generalize wcF y R S = G at *
  generalize hQX : watX C R S ks x y = QX at *
  generalize hQY : watY C R S ks x y = QY at *
  clear hQX hQY l0 l1 l2 l3 g0 g1 g2 g3 HC H HTC C1 C2
  go_upto_region 9 with fail
  have hw13 : w.heap.size + 1 < wc.heap.size := hb6.lt
  obtain ⟨hb13, hb14, hBB⟩ := two_boxes wc #[.int .i64 (K 0), .int .i64 (K 1), .int .i64 (K 2), .int .i64 (K 3)] #[.int .i64 0, .int .i64 0] 60 28 _ rfl
  replace hb3 := hb3.below hBB; replace hb6 := hb6.below hBB; replace hb12 := hb12.below hBB; replace hB := bel_trans hB hBB
  generalize World.alloc (World.alloc wc _) _ = wd at *
  generalize wc.heap.size = g13 at *
  generalize hg14 : g13 + 1 = g14 at *
  have hn14 : g13 < g14 := by omega
  clear hg14 hBB p0 p1 p2 p3 p4 p5 p6 p7 j1 j2 j3 j4 m1 m2 m3 m4 u2 u3
  obtain ⟨⟨p0, p1, p2, p3⟩, p4, p5, p6, p7⟩ := hb12.eight
  go_upto_region 10 with fail
  clear p0 p1 p2 p3 p4 p5 p6 p7 hb12
  go_loopg [100] 4 (AtRel C R S (.slice (some ⟨b, o, none⟩) ks.length c) K X Y w g13 g14)
  case atStart => exact ⟨0, by omega, rfl, rfl, hb3, hb6, hb13, hb14, hB⟩
  case round =>
  clear hb3 hb6 hb13 hb14 hB
  obtain ⟨j, hj, rfl, rfl, hb3, hb6, hb13, hb14, hB⟩ := hrel
  by_cases hlt : j < 4
  · have hlt' : (j : Int) < 4 := by omega
    have hj0 : (0 : Int) ≤ (j : Int) := by omega
    obtain ⟨wx1, wx2⟩ := WX.out j hlt
    obtain ⟨wy1, wy2⟩ := WY.out j hlt
    have NX := Lib.hid (show psum K X j + K j * X j = psum K X (j + 1) from rfl); have NY := Lib.hid (show psum K Y j + K j * Y j = psum K Y (j + 1) from rfl)
    go_upto_region 12 with fail
    obtain ⟨hb16, hBB, -⟩ := one_box wr #[.int .i64 (X j), .int .i64 (Y j)] 28 _ rfl
    have HN := Lib.hid (show w.heap.size ≠ g14 ∧ w.heap.size + 1 ≠ g14 ∧ g13 ≠ g14 ∧ wr.heap.size ≠ g14 from ⟨by omega, by omega, by omega, by have := hb14.lt; omega⟩)
    have k3 := Lib.hid (hb3.below hBB); have k6 := Lib.hid (hb6.below hBB); have k13 := Lib.hid (hb13.below hBB); have k14 := Lib.hid (hb14.below hBB); have kB := Lib.hid (bel_trans hB hBB); have k16 := Lib.hid hb16
    clear hb3 hb6 hb13 hb14 hB hb16 hBB
    generalize World.alloc wr _ = wa at *
    generalize wr.heap.size = g16 at *
    have t1 := k13.out.ix4 hlt
    obtain ⟨⟨s1, s2⟩, s3, s4⟩ := k14.out.two
    obtain ⟨⟨r1, r2⟩, -⟩ := k16.out.two
    generalize hkj : K j = kj at t1 wx1 wx2 wy1 wy2
    go_still_tail 10, (by kernel_rfl)
    change wpList _ _ _ _ _ wa.drew
    replace k3 := Lib.hid k3.out.drew; replace k6 := Lib.hid k6.out.drew; replace k13 := Lib.hid k13.out.drew; replace k14 := Lib.hid k14.out.drew; replace k16 := Lib.hid k16.out.drew; replace kB := Lib.hid kB.out.drew
    generalize wa.drew = wb0 at *
    clear t1 s1 s2 s3 s4 r1 r2
    subst hkj
    obtain ⟨⟨s1, s2⟩, s3, s4⟩ := k14.out.two
    go_upto_region 13 with fail
    clear s1 s2 s3 s4
    obtain ⟨n1, n2, n3, n4⟩ := HN.out
    replace k3 := Lib.hid (k3.out.other n1 0 (.int .i64 (psum K X (j + 1)))); replace k6 := Lib.hid (k6.out.other n2 0 (.int .i64 (psum K X (j + 1)))); replace k13 := Lib.hid (k13.out.other n3 0 (.int .i64 (psum K X (j + 1)))); replace k16 := Lib.hid (k16.out.other n4 0 (.int .i64 (psum K X (j + 1))))
    replace k14 := Lib.hid (show Bx (World.setCell wb0 ⟨g14, 0, none⟩ (.int .i64 (psum K X (j + 1)))) g14 28 #[.int .i64 (psum K X (j + 1)), .int .i64 (psum K Y j)] from k14.out.set 0 (.int .i64 (psum K X (j + 1))))
    replace kB := Lib.hid (kB.out.setCell (p := ⟨g14, 0, none⟩) (show w.heap.size ≤ g14 from by omega) (.int .i64 (psum K X (j + 1))))
    clear n1 n2 n3 n4
    generalize World.setCell wb0 _ _ = wc0 at *
    have t1 := k13.out.ix4 hlt
    obtain ⟨⟨s1, s2⟩, s3, s4⟩ := k14.out.two
    obtain ⟨⟨r1, r2⟩, -⟩ := k16.out.two
    generalize hkj : K j = kj at t1 wx1 wx2 wy1 wy2
    go_still_tail 10, (by kernel_rfl)
    change wpList _ _ _ _ _ wc0.drew
    replace k3 := Lib.hid k3.out.drew; replace k6 := Lib.hid k6.out.drew; replace k13 := Lib.hid k13.out.drew; replace k14 := Lib.hid k14.out.drew; replace k16 := Lib.hid k16.out.drew; replace kB := Lib.hid kB.out.drew
    generalize wc0.drew = wb1 at *
    clear t1 s1 s2 s3 s4 r1 r2
    subst hkj
    obtain ⟨⟨s1, s2⟩, s3, s4⟩ := k14.out.two
    go_upto_region 14 with fail
    clear s1 s2 s3 s4
    obtain ⟨n1, n2, n3, n4⟩ := HN.out
    replace k3 := Lib.hid (k3.out.other n1 1 (.int .i64 (psum K Y (j + 1)))); replace k6 := Lib.hid (k6.out.other n2 1 (.int .i64 (psum K Y (j + 1)))); replace k13 := Lib.hid (k13.out.other n3 1 (.int .i64 (psum K Y (j + 1)))); replace k16 := Lib.hid (k16.out.other n4 1 (.int .i64 (psum K Y (j + 1))))
    replace k14 := Lib.hid (show Bx (World.setCell wb1 ⟨g14, 1, none⟩ (.int .i64 (psum K Y (j + 1)))) g14 28 #[.int .i64 (psum K X (j + 1)), .int .i64 (psum K Y (j + 1))] from k14.out.set 1 (.int .i64 (psum K Y (j + 1))))
    replace kB := Lib.hid (kB.out.setCell (p := ⟨g14, 1, none⟩) (show w.heap.size ≤ g14 from by omega) (.int .i64 (psum K Y (j + 1))))
    clear n1 n2 n3 n4
    generalize World.setCell wb1 _ _ = wc1 at *
    go_wp2_with fail
    go_roundg (4 - (j + 1))
    case measure => omega
    case rel => exact ⟨j + 1, by omega, rfl, by go_num, k3.out, k6.out, k13.out, k14.out, kB.out⟩
  · obtain rfl : j = 4 := by omega
    obtain ⟨⟨s1, s2⟩, s3, s4⟩ := hb14.two
    obtain ⟨⟨j1, j2, j3, j4⟩, -⟩ := hb3.four
    go_upto_region 15 with fail
    go_still_tail 17, (by kernel_rfl)
    still_call (still_of (D1.out _))
    repeat still_step
    still_call (still_of (D2.out _))
    repeat still_step
    refine wpStill_nil ?_
    change wpList _ _ _ _ _ wr.drew
    replace hb6 := hb6.drew; replace hB := hB.drew
    generalize wr.drew = ws at *
    obtain ⟨⟨r1, r2⟩, r3, r4⟩ := hb6.two
    have HB := Lib.hid hB
    clear s1 s2 s3 s4 j1 j2 j3 j4 hb3 hb13 hb14 hB hb6
    go_wp2_with fail
    refine bodyPost_ret (v := .agg #[.int .i64 (rdiv (psum K X 4) (S * S)), .int .i64 (rdiv (psum K Y 4) (S * S))]) (by simp [results, Try.results12, go_sem, *]) rfl ⟨by rw [EE.out.1, EE.out.2], ?_⟩
    exact (HB.out.setCell (p := ⟨w.heap.size + 1, 0, none⟩) (Nat.le_succ _) _).setCell (p := ⟨w.heap.size + 1, 1, none⟩) (Nat.le_succ _) _
set_option maxHeartbeats 1000000 in
theorem at_no (C R S E : Int) (v : Value) (x y : Int) (w : World) (hE : (E != 0) = true)
    (TC : ∀ w', Below w.heap.size w w' → Calls Try.prog 10 #[.agg #[.int .i64 C, .int .i64 R, .int .i64 S, v]] w' fun e w'' => e = .returned (.int .i64 E) ∧ Below w'.heap.size w' w'') :
    Calls Try.prog 12 #[.agg #[.int .i64 C, .int .i64 R, .int .i64 S, v], .int .i64 x, .int .i64 y] w (PtPost (0, 0) w) := by
  have HTC := Lib.hid TC; clear TC
  go_enter Try.func12, Try.ntmps12
  go_upto_region 1 with fail
  obtain ⟨hb3, hb6, hB⟩ := two_boxes w #[.int .i64 C, .int .i64 R, .int .i64 S, v] #[.int .i64 0, .int .i64 0] 24 28 _ rfl
  generalize World.alloc (World.alloc w _) _ = w0 at *
  obtain ⟨⟨i1, i2, i3, i4⟩, -⟩ := hb3.four
  go_wp2_with fail
  refine (HTC.out _ hB).mono ?_
  rintro e w1 ⟨rfl, hbb⟩
  replace hb6 := hb6.below hbb; replace hB := bel_trans hB hbb
  clear i1 i2 i3 i4 hbb
  obtain ⟨⟨r1, r2⟩, r3, r4⟩ := hb6.two
  have HB := Lib.hid hB; clear hB
  go_wp2_with fail
  refine bodyPost_ret (v := .agg #[.int .i64 0, .int .i64 0]) (by simp [results, Try.results12, go_sem, *]) rfl ⟨rfl, ?_⟩
  exact (HB.out.setCell (p := ⟨w.heap.size + 1, 0, none⟩) (Nat.le_succ _) _).setCell (p := ⟨w.heap.size + 1, 1, none⟩) (Nat.le_succ _) _
theorem wat_any (C R S : Int) (A : Option Addr) (c : Nat) (ks : List (Int × Int)) (x y : Int) (w : World) (h : Knots w w.heap.size (.slice A ks.length c) ks) :
    Calls Try.prog 12 #[.agg #[.int .i64 C, .int .i64 R, .int .i64 S, .slice A ks.length c], .int .i64 x, .int .i64 y] w (PtPost (wat C R S ks x y) w) := by
  have TC := fun w' (hb : Below w.heap.size w w') => wcheck_any C R S A c ks w' (h.on hb)
  unfold wat
  by_cases hE : wErr C R S ks = 0
  · rw [if_pos hE]
    rw [hE] at TC
    exact at_yes C R S A c ks x y w ((wErr_iff C R S ks).1 hE) h TC
  · rw [if_neg hE]
    exact at_no C R S _ _ x y w (by simp [hE]) TC
end Go.Proofs.Ytbakgdcajpagkaa
namespace Go.Proofs.Ytbakgdcajpagkaa
open Go.RowKit
theorem run_max5m {P : Program} {w : World} (ts : Array TypeId) (t : TypeId) (x y z u v : Int) : (Builtin.max_ ts t #[.int .i64 x, .int .i64 y, .int .i64 z, .int .i64 u, .int .i64 v]).run P w = .ok (.int .i64 (max (max (max (max x y) z) u) v)) w := by
  simp [Builtin.max_, Builtin.max2]
  (repeat' split) <;> omega
attribute [local go_sem 2000] run_max5m
theorem wmax_take (ks : List (Int × Int)) (j : Nat) (h : j < ks.length) : wmax (ks.take (j + 1)) = wmx (wmax (ks.take j)) (kx ks j, ky ks j) := by
  have e : ks.take (j + 1) = ks.take j ++ [ks[j]] := by rw [List.take_add_one, List.getElem?_eq_getElem h]; rfl
  unfold wmax
  rw [e, List.foldl_append]
  simp [kx, ky, h]
theorem wmax_bd {C R S : Int} {ks : List (Int × Int)} (h : WOk C R S ks) (j : Nat) : 0 ≤ wmax (ks.take j) ∧ wmax (ks.take j) ≤ 1048576 := by
  refine ⟨(foldl_ge _ 0).1, foldl_le _ 1048576 (fun p hp => ?_) 0 (by omega)⟩
  have hm := List.mem_of_mem_take hp
  obtain ⟨i, hi, rfl⟩ := List.getElem_of_mem hm
  have := h.rng i hi
  simpa [kx, ky, hi] using this
theorem reach_end (m : Int) (h0 : 0 ≤ m) : (m + 65536 - 1).tdiv 65536 = (m + 65535) / 65536 := by
  rw [Int.tdiv_eq_ediv_of_nonneg (by omega)]; congr 1; omega
theorem reach_end2 (m : Int) : -(-m / 65536) = (m + 65535) / 65536 := by omega
/-- The head of the loop over the points. -/
def WrRel (ks : List (Int × Int)) (w0 : World) (gh : Nat) (m i : Value) (wr : World) : Prop :=
  ∃ j : Nat, j ≤ ks.length ∧ gh = ks.length - j ∧ m = .int .i64 (wmax (ks.take j)) ∧ i = .int .i64 j ∧ Below w0.heap.size w0 wr
set_option maxRecDepth 100000 in
set_option maxHeartbeats 4000000 in
theorem reach_yes (C R S : Int) (A : Option Addr) (c : Nat) (ks : List (Int × Int)) (w : World) (ok : WOk C R S ks) (h : Knots w w.heap.size (.slice A ks.length c) ks)
    (TC : ∀ w', Below w.heap.size w w' → Calls Try.prog 10 #[.agg #[.int .i64 C, .int .i64 R, .int .i64 S, .slice A ks.length c]] w' fun e w'' => e = .returned (.int .i64 0) ∧ Below w'.heap.size w' w'') :
    Calls Try.prog 14 #[.agg #[.int .i64 C, .int .i64 R, .int .i64 S, .slice A ks.length c]] w fun e w' => e = .returned (.int .i64 ((wmax ks + 65535) / 65536)) ∧ Below w.heap.size w w' := by
  have HTC := Lib.hid TC; have HOK := Lib.hid ok
  have hl64 : ks.length ≤ 64 := by have := ok.n; have := mul8 (C := C) (R := R) ⟨ok.c0, ok.c1⟩ ⟨ok.r0, ok.r1⟩; omega
  obtain ⟨b, o, cc, ev, hb, hc⟩ := h.form (by have := ok.n; have := ok.c0; have := ok.r0; have : 0 < C * R := Int.mul_pos (by omega) (by omega); omega)
  injection ev with u1 u2 u3
  subst u1 u3
  have HC := Lib.hid hc
  clear hc u2 TC ok h
  go_enter Try.func14, Try.ntmps14
  go_upto_region 1 with fail
  obtain ⟨hb1, hB, -⟩ := one_box w #[.int .i64 C, .int .i64 R, .int .i64 S, .slice (some ⟨b, o, none⟩) ks.length c] 24 _ rfl
  generalize World.alloc w _ = w0 at *
  obtain ⟨⟨i1, i2, i3, i4⟩, -⟩ := hb1.four
  go_wp2_with fail
  refine (HTC.out _ hB).mono ?_
  rintro e w1 ⟨rfl, hbb⟩
  replace hb1 := hb1.below hbb; replace hB := bel_trans hB hbb
  clear i1 i2 i3 i4 hbb
  obtain ⟨⟨i1, i2, i3, i4⟩, -⟩ := hb1.four
  go_upto_region 5 with fail
  clear i1 i2 i3 i4
  go_loopg [3, 12] ks.length (WrRel ks w1)
  case atStart => exact ⟨0, Nat.zero_le _, rfl, rfl, rfl, Below.refl _ _⟩
  case round =>
    obtain ⟨j, hj, rfl, rfl, rfl, hbr⟩ := hrel
    have HBR := Lib.hid (bel_trans hB hbr); have HB1 := Lib.hid hbr
    have bd := wmax_bd HOK.out j
    by_cases hlt : j < ks.length
    · have hk0 : (0 : Int) ≤ (j : Int) := by omega
      have hk1 : (j : Int) < (ks.length : Int) := by omega
      have p1 := (HBR.out.cell (p := ⟨b, _, none⟩) hb).trans (HC.out j hlt).1; have p2 := (HBR.out.cell (p := ⟨b, _, none⟩) hb).trans (HC.out j hlt).2
      have rg := HOK.out.rng j hlt
      have E := Lib.hid (wmax_take ks j hlt)
      unfold wmx at E
      dsimp only at E
      generalize wmax (ks.take j) = m at *
      generalize kx ks j = X at *
      generalize ky ks j = Y at *
      have e1 := wrap_in (-X) (by omega); have e2 := wrap_in (-Y) (by omega)
      clear bd rg hbr
      go_upto_region 7 with fail
      obtain ⟨hb5, hb5b, -⟩ := one_box wr #[.int .i64 X, .int .i64 Y] 28 _ rfl
      have HBX := Lib.hid (HB1.out.trans (hb5b.mono (by have := HB1.out.size; omega)))
      clear p1 p2 hb5b
      generalize World.alloc wr _ = wx at *
      obtain ⟨⟨j1, j2⟩, -⟩ := hb5.two
      clear hb5
      go_wp2_with fail
      go_roundg (ks.length - (j + 1))
      case measure => omega
      case rel => exact ⟨j + 1, by omega, rfl, congrArg (Value.int .i64) (by rw [E.out]; omega), by go_num, HBX.out⟩
    · obtain rfl : j = ks.length := by omega
      rw [List.take_length] at bd ⊢
      have E := Lib.hid (reach_end (wmax ks) bd.1)
      have e1 := wrap_in (wmax ks + 65536) (by omega); have e2 := wrap_in (wmax ks + 65536 - 1) (by omega)
      clear hbr
      go_wp2_with fail
      go_ret
      exact ⟨ret_int (by first | exact E.out | omega), HBR.out⟩
set_option maxHeartbeats 1000000 in
theorem reach_no (C R S E : Int) (v : Value) (w : World) (hE : (E != 0) = true)
    (TC : ∀ w', Below w.heap.size w w' → Calls Try.prog 10 #[.agg #[.int .i64 C, .int .i64 R, .int .i64 S, v]] w' fun e w'' => e = .returned (.int .i64 E) ∧ Below w'.heap.size w' w'') :
    Calls Try.prog 14 #[.agg #[.int .i64 C, .int .i64 R, .int .i64 S, v]] w fun e w' => e = .returned (.int .i64 0) ∧ Below w.heap.size w w' := by
  have HTC := Lib.hid TC; clear TC
  go_enter Try.func14, Try.ntmps14
  go_upto_region 1 with fail
  obtain ⟨hb1, hB, -⟩ := one_box w #[.int .i64 C, .int .i64 R, .int .i64 S, v] 24 _ rfl
  generalize World.alloc w _ = w0 at *
  obtain ⟨⟨i1, i2, i3, i4⟩, -⟩ := hb1.four
  go_wp2_with fail
  refine (HTC.out _ hB).mono ?_
  rintro e w1 ⟨rfl, hbb⟩
  go_wp2_with fail
  go_ret
  exact ⟨rfl, bel_trans hB hbb⟩
theorem reach_any (C R S : Int) (A : Option Addr) (c : Nat) (ks : List (Int × Int)) (w : World) (h : Knots w w.heap.size (.slice A ks.length c) ks) :
    Calls Try.prog 14 #[.agg #[.int .i64 C, .int .i64 R, .int .i64 S, .slice A ks.length c]] w fun e w' => e = .returned (.int .i64 (wreach C R S ks)) ∧ Below w.heap.size w w' := by
  have TC := fun w' (hb : Below w.heap.size w w') => wcheck_any C R S A c ks w' (h.on hb)
  unfold wreach
  by_cases hE : wErr C R S ks = 0
  · rw [if_pos hE]
    rw [hE] at TC
    exact reach_yes C R S A c ks w ((wErr_iff C R S ks).1 hE) h TC
  · rw [if_neg hE]
    exact reach_no C R S _ _ w (by simp [hE]) TC
/-- The reference: the greatest of four numbers and one more, one after the other. -/
def rmx (m : Int) (L : Nat → Int) : Nat → Int
  | 0 => m
  | k + 1 => if L k > rmx m L k then L k else rmx m L k
def vec4r (a b c d : Int) : Nat → Int
  | 0 => a
  | 1 => b
  | 2 => c
  | _ => d
theorem rmx_four (m x y : Int) : rmx m (vec4r x (-x) y (-y)) 4 = wmx m (x, y) := by
  simp only [rmx, vec4r, wmx]; omega
theorem Bx.ix4r {w : World} {g : Nat} {t : TypeId} {X : Nat → Int} (h : Bx w g t #[.int .i64 (X 0), .int .i64 (X 1), .int .i64 (X 2), .int .i64 (X 3)]) {i : Nat} (hi : i < 4) : w.cell? ⟨g, i, none⟩ = some (.int .i64 (X i)) := by
  match i, hi with
  | 0, _ => exact h.cell rfl
  | 1, _ => exact h.cell rfl
  | 2, _ => exact h.cell rfl
  | 3, _ => exact h.cell rfl
def RrIn (m : Int) (L : Nat → Int) (w0 : World) (gh : Nat) (mv i : Value) (wr : World) : Prop :=
  ∃ k : Nat, k ≤ 4 ∧ gh = 4 - k ∧ mv = .int .i64 (rmx m L k) ∧ i = .int .i64 k ∧ wr = w0
set_option maxRecDepth 100000 in
set_option maxHeartbeats 4000000 in
theorem rreach_yes (C R S : Int) (A : Option Addr) (c : Nat) (ks : List (Int × Int)) (w : World) (ok : WOk C R S ks) (h : Knots w w.heap.size (.slice A ks.length c) ks)
    (TC : ∀ w', Below w.heap.size w w' → Calls Try.prog 11 #[.agg #[.int .i64 C, .int .i64 R, .int .i64 S, .slice A ks.length c]] w' fun e w'' => e = .returned (.int .i64 0) ∧ Below w'.heap.size w' w'') :
    Calls Try.prog 15 #[.agg #[.int .i64 C, .int .i64 R, .int .i64 S, .slice A ks.length c]] w fun e w' => e = .returned (.int .i64 ((wmax ks + 65535) / 65536)) ∧ Below w.heap.size w w' := by
  have HTC := Lib.hid TC; have HOK := Lib.hid ok
  have hl64 : ks.length ≤ 64 := by have := ok.n; have := mul8 (C := C) (R := R) ⟨ok.c0, ok.c1⟩ ⟨ok.r0, ok.r1⟩; omega
  obtain ⟨b, o, cc, ev, hb, hc⟩ := h.form (by have := ok.n; have := ok.c0; have := ok.r0; have : 0 < C * R := Int.mul_pos (by omega) (by omega); omega)
  injection ev with u1 u2 u3
  subst u1 u3
  have HC := Lib.hid hc
  clear hc u2 TC ok h
  go_enter Try.func15, Try.ntmps15
  go_upto_region 1 with fail
  obtain ⟨hb1, hB, -⟩ := one_box w #[.int .i64 C, .int .i64 R, .int .i64 S, .slice (some ⟨b, o, none⟩) ks.length c] 24 _ rfl
  generalize World.alloc w _ = w0 at *
  obtain ⟨⟨i1, i2, i3, i4⟩, -⟩ := hb1.four
  go_wp2_with fail
  refine (HTC.out _ hB).mono ?_
  rintro e w1 ⟨rfl, hbb⟩
  replace hb1 := hb1.below hbb; replace hB := bel_trans hB hbb
  clear i1 i2 i3 i4 hbb
  obtain ⟨⟨i1, i2, i3, i4⟩, -⟩ := hb1.four
  go_upto_region 5 with fail
  clear i1 i2 i3 i4
  go_loopg [3, 13] ks.length (WrRel ks w1)
  case atStart => exact ⟨0, Nat.zero_le _, rfl, rfl, rfl, Below.refl _ _⟩
  case round =>
    obtain ⟨j, hj, rfl, rfl, rfl, hbr⟩ := hrel
    have HBR := Lib.hid (bel_trans hB hbr); have HB1 := Lib.hid hbr
    have bd := wmax_bd HOK.out j
    by_cases hlt : j < ks.length
    · have hk0 : (0 : Int) ≤ (j : Int) := by omega
      have hk1 : (j : Int) < (ks.length : Int) := by omega
      have p1 := (HBR.out.cell (p := ⟨b, _, none⟩) hb).trans (HC.out j hlt).1; have p2 := (HBR.out.cell (p := ⟨b, _, none⟩) hb).trans (HC.out j hlt).2
      obtain ⟨⟨-, -, -, i4⟩, -⟩ := (hb1.below hbr).four
      have rg := HOK.out.rng j hlt
      have E := Lib.hid ((rmx_four (wmax (ks.take j)) (kx ks j) (ky ks j)).trans (wmax_take ks j hlt).symm)
      generalize wmax (ks.take j) = m at *
      generalize kx ks j = X at *
      generalize ky ks j = Y at *
      have e1 := wrap_in (-X) (by omega); have e2 := wrap_in (-Y) (by omega)
      have j1 := World.new_ne wr _ p1; have j2 := World.new_ne wr _ i4
      clear bd rg hbr
      go_upto_region 7 with fail
      go_region_held3 (fun w' => w'.cell? ⟨w.heap.size, 3, none⟩ = some (.slice (some ⟨b, o, none⟩) ks.length c) ∧ w'.cell? ⟨b, o + j * 2, none⟩ = some (.int .i64 X) ∧ w'.cell? ⟨b, o + j * 2 + 1, none⟩ = some (.int .i64 Y))
        (go_keep) (fail)
      go_upto_region 9 with fail
      have hb5 := (Bx.new wr 3 #[.int .i64 X, .int .i64 (-X), .int .i64 Y, .int .i64 (-Y)]).drew
      have HBX := Lib.hid ((bel_alloc (Below.refl _ _) (.cells #[.int .i64 X, .int .i64 (-X), .int .i64 Y, .int .i64 (-Y)] 3) : Below wr.heap.size wr _).drew)
      replace HBX := Lib.hid (HB1.out.trans (HBX.out.mono (by have := HB1.out.size; omega)))
      clear p1 p2 i4 j1 j2 e1 e2
      generalize World.drew (World.alloc wr _) = wx at *
      generalize wr.heap.size = g5 at *
      have h4 : Bx wx g5 3 #[.int .i64 (vec4r X (-X) Y (-Y) 0), .int .i64 (vec4r X (-X) Y (-Y) 1), .int .i64 (vec4r X (-X) Y (-Y) 2), .int .i64 (vec4r X (-X) Y (-Y) 3)] := hb5
      clear hb5
      generalize vec4r X (-X) Y (-Y) = L at *
      go_loopg [3, 45] 4 (RrIn m L wx)
      case atStart => exact ⟨0, by omega, rfl, rfl, rfl, rfl⟩
      case round =>
        obtain ⟨k, hk, rfl, rfl, rfl, rfl⟩ := hrel
        by_cases hkl : k < 4
        · have hkl' : (k : Int) < 4 := by omega
          have hk00 : (0 : Int) ≤ (k : Int) := by omega
          have t1 := h4.ix4r hkl
          have E5 := Lib.hid (show rmx m L (k + 1) = if L k > rmx m L k then L k else rmx m L k from rfl)
          generalize L k = lk at *
          by_cases hgt : rmx m L k < lk
          · go_wp2_with fail
            go_roundg (4 - (k + 1))
            case measure => omega
            case rel => exact ⟨k + 1, by omega, rfl, by rw [E5.out, if_pos hgt], by go_num, rfl⟩
          · go_wp2_with fail
            go_roundg (4 - (k + 1))
            case measure => omega
            case rel => exact ⟨k + 1, by omega, rfl, by rw [E5.out, if_neg (Int.not_lt.mpr hgt)], by go_num, rfl⟩
        · obtain rfl : k = 4 := by omega
          have E6 := E.out
          go_wp2_with fail
          go_roundg (ks.length - (j + 1))
          case measure => omega
          case rel => exact ⟨j + 1, by omega, rfl, by rw [E6], by go_num, HBX.out⟩
    · obtain rfl : j = ks.length := by omega
      rw [List.take_length] at bd ⊢
      have E := Lib.hid (reach_end2 (wmax ks))
      have FL := Lib.hid (fun w' => rfloor_any (-wmax ks) 65536 w' (by omega) (by omega) (by omega) (by omega))
      have e1 := wrap_in (-wmax ks) (by omega); have e2 := wrap_in (-(-wmax ks / 65536)) (by omega)
      clear hbr bd
      go_wp2_with fail
      refine (FL.out _).mono ?_
      rintro e w2 ⟨rfl, n, rfl⟩
      go_wp2_with fail
      go_ret
      exact ⟨ret_int E.out, Below.drewN' HBR.out n⟩
set_option maxHeartbeats 1000000 in
theorem rreach_no (C R S E : Int) (v : Value) (w : World) (hE : (E != 0) = true)
    (TC : ∀ w', Below w.heap.size w w' → Calls Try.prog 11 #[.agg #[.int .i64 C, .int .i64 R, .int .i64 S, v]] w' fun e w'' => e = .returned (.int .i64 E) ∧ Below w'.heap.size w' w'') :
    Calls Try.prog 15 #[.agg #[.int .i64 C, .int .i64 R, .int .i64 S, v]] w fun e w' => e = .returned (.int .i64 0) ∧ Below w.heap.size w w' := by
  have HTC := Lib.hid TC; clear TC
  go_enter Try.func15, Try.ntmps15
  go_upto_region 1 with fail
  obtain ⟨hb1, hB, -⟩ := one_box w #[.int .i64 C, .int .i64 R, .int .i64 S, v] 24 _ rfl
  generalize World.alloc w _ = w0 at *
  obtain ⟨⟨i1, i2, i3, i4⟩, -⟩ := hb1.four
  go_wp2_with fail
  refine (HTC.out _ hB).mono ?_
  rintro e w1 ⟨rfl, hbb⟩
  go_wp2_with fail
  go_ret
  exact ⟨rfl, bel_trans hB hbb⟩
theorem rreach_any (C R S : Int) (A : Option Addr) (c : Nat) (ks : List (Int × Int)) (w : World) (h : Knots w w.heap.size (.slice A ks.length c) ks) :
    Calls Try.prog 15 #[.agg #[.int .i64 C, .int .i64 R, .int .i64 S, .slice A ks.length c]] w fun e w' => e = .returned (.int .i64 (wreach C R S ks)) ∧ Below w.heap.size w w' := by
  have TC := fun w' (hb : Below w.heap.size w w') => rwcheck_any C R S A c ks w' (h.on hb)
  unfold wreach
  by_cases hE : wErr C R S ks = 0
  · rw [if_pos hE]
    rw [hE] at TC
    exact rreach_yes C R S A c ks w ((wErr_iff C R S ks).1 hE) h TC
  · rw [if_neg hE]
    exact rreach_no C R S _ _ w (by simp [hE]) TC
end Go.Proofs.Ytbakgdcajpagkaa
