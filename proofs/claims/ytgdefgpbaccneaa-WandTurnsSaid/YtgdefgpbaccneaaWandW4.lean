/- WandCloses: the walk. -/
import Derived.Test.YtgdefgpbaccneaaWandW3
namespace Go.Proofs.Ytgdefgpbaccneaa
open Go.RowKit

theorem ferr_zero {chk W H x y : Int} {u : Bool} (h : ferr chk W H x y u = 0) : chk = 0 ∧ 0 ≤ x ∧ x < W ∧ 0 ≤ y ∧ y < H ∧ u = true := by
  unfold ferr at h
  split at h
  · rename_i h1
    split at h
    · rename_i h2; exact ⟨h1, h2⟩
    · cases h
  · rename_i h1; exact absurd h h1
/-- A flood that answers, one that does not. -/
theorem flood_yes (W H x y t : Int) (dg : Bool) (A : Option Addr) (n c : Nat) (ps : List Px) (hE : ferr (ichk W H ps) W H x y (uok t) = 0) (w : World) (h : Pixs w w.heap.size (.slice A n c) ps) :
    Calls Try.prog 9 #[.agg #[.int .i64 W, .int .i64 H, .slice A n c], .agg #[.int .i64 x, .int .i64 y], .int .i64 t, .bool dg] w
      (fun e w' => ∃ l, FloodIs ps.length W dg (simP ps t (y * W + x).toNat) (y * W + x).toNat l ∧ MkPost 0 W H l w e w') :=
  (flood_any W H x y t dg A n c ps w h).mono fun e w' ⟨l, h1, h2⟩ => ⟨l, h1 hE, by rw [hE, mkOut_ok] at h2; exact h2⟩
theorem flood_no (W H x y t : Int) (dg : Bool) (A : Option Addr) (n c : Nat) (ps : List Px) (hE : ferr (ichk W H ps) W H x y (uok t) ≠ 0) (w : World) (h : Pixs w w.heap.size (.slice A n c) ps) :
    Calls Try.prog 9 #[.agg #[.int .i64 W, .int .i64 H, .slice A n c], .agg #[.int .i64 x, .int .i64 y], .int .i64 t, .bool dg] w (MkPost (ferr (ichk W H ps) W H x y (uok t)) 0 0 [] w) :=
  (flood_any W H x y t dg A n c ps w h).mono fun e w' ⟨l, _, h2⟩ => by rw [mkOut_err hE] at h2; exact h2
/-- A similar neighbor of a selected pixel is selected. -/
theorem flood_close {N : Nat} {W : Int} {dg : Bool} {sim : Nat → Prop} {s : Nat} {l : List Int} (h : FloodIs N W dg sim s l) {k m : Nat} (hk : k < N) (hm : m < N) (h0 : l.getD k 0 = 0) (hs : sim k) (hj : Adj W dg k m) : l.getD m 0 = 0 := by
  rcases h.2 m hm with ⟨_, r⟩ | ⟨e, _⟩
  · rcases h.2 k hk with ⟨e, _⟩ | ⟨_, r'⟩
    · omega
    · exact absurd (r.step hm hk hj.symm hs) r'
  · exact e
theorem dist_self (p : Px) : dist p p = 0 := by unfold dist dif; simp
def InRel (wz : World) (g : Nat) (i : Value) (wr : World) : Prop := ∃ j : Nat, j ≤ 9 ∧ g = 9 - j ∧ i = .int .i64 j ∧ wr = wz

set_option maxRecDepth 100000 in
set_option maxHeartbeats 8000000 in
theorem walk_closes (v0 : Value) (x0 : Int × Int × List Px) (v1 : Value) (x1 : Int × Int) (t : Int) (dg : Bool) (w : World) (h0 : ImgV w v0 x0) (h1 : PtV v1 x1) :
    Calls Try.prog 5 #[v0, v1, .int .i64 t, .bool dg] w fun e w' => e = .returned (.bool true) ∧ Below w.heap.size w w' := by
  obtain ⟨⟨A, n, c, rfl, hp⟩, _, _⟩ := h0
  obtain ⟨rfl, _, _⟩ := h1
  obtain ⟨W, H, ps⟩ := x0
  obtain ⟨x, y⟩ := x1
  obtain rfl : ps.length = n := hp.len
  have HP := Lib.hid hp; clear hp
  by_cases hE : ferr (ichk W H ps) W H x y (uok t) = 0
  rotate_left
  · have HC := Lib.hid (flood_no W H x y t dg A ps.length c ps hE)
    generalize ferr (ichk W H ps) W H x y (uok t) = er at *
    have hne : (er != 0) = true := by simp [hE]
    clear hE
    go_enter Try.func5, Try.ntmps5
    go_wp2_with fail
    obtain ⟨hI, hX, hB⟩ := boxIP w W H x y (.slice A ps.length c) _ rfl
    generalize World.alloc (w.alloc _) _ = wa at *
    refine (HC.out _ (HP.out.on hB)).mono ?_
    rintro e w2 ⟨v, rfl, hrow, hb2⟩
    obtain ⟨M1, m1, rfl⟩ := irow_shape_n 0 rfl hrow
    have hB2 := bel_trans hB hb2
    clear hrow hb2 hI hX hB
    go_wp2_with fail
    refine (awake_any _).mono ?_
    rintro e w5 ⟨rfl, hb5⟩
    go_wp2_with fail
    go_ret
    exact ⟨rfl, bel_trans (bel_alloc hB2 _) hb5⟩
  · obtain ⟨e1, g1, g2, g3, g4, e2⟩ := ferr_zero hE
    have HC := Lib.hid (flood_yes W H x y t dg A ps.length c ps hE)
    have hok := (ichk_iff W H ps).1 e1
    have hl := ichk_len W H ps e1
    have HE := Lib.hid e1
    have HW := Lib.hid (And.intro hok.w1 hok.h1)
    have HN := Lib.hid hok.n
    have HT := Lib.hid ((uok_iff t).1 e2)
    clear hok e1 e2 hE
    have hyW : 0 ≤ y * W ∧ y * W ≤ 65536 := by
      have e1 : 0 ≤ y * W := Int.mul_nonneg g3 (by omega)
      have e2 : y * W ≤ 256 * 256 := Int.mul_le_mul (by have := HW.out.2; omega) HW.out.1 (by omega) (by omega)
      omega
    have hpl := place_bd g1 g2 g3 g4
    obtain ⟨s, hs⟩ : ∃ s : Nat, y * W + x = s := ⟨(y * W + x).toNat, by omega⟩
    have hsN : s < ps.length := by have := HN.out; omega
    have HS := Lib.hid hs; clear hs hpl
    go_enter Try.func5, Try.ntmps5
    go_wp2_with fail
    obtain ⟨hI, hX, hB⟩ := boxIP w W H x y (.slice A ps.length c) _ rfl
    generalize World.alloc (w.alloc _) _ = wa at *
    refine (HC.out _ (HP.out.on hB)).mono ?_
    rintro e w2 ⟨l, hfl, v, rfl, hrow, hb2⟩
    have es : (y * W + x).toNat = s := by rw [HS.out]; rfl
    rw [es] at hfl
    have hll : l.length = ps.length := hfl.1
    obtain ⟨M1, m1, rfl⟩ := irow_shape_n ps.length hll hrow
    have HFL := Lib.hid hfl; have HLL := Lib.hid hll
    have HI := Lib.hid (hI.below hb2); have HX := Lib.hid (hX.below hb2); have HB := Lib.hid (bel_trans hB hb2)
    have HN1 := Lib.hid (Mk.new W H 29 hrow)
    clear hrow hb2 hI hX hB hfl hll es
    go_upto_region 4 with fail
    have hb9 := bel1 w2 (.cells #[.int .i64 W, .int .i64 H, .slice M1 ps.length m1] 29)
    have HI := Lib.hid (HI.out.below hb9); have HX := Lib.hid (HX.out.below hb9); have HB := Lib.hid (bel_trans HB.out hb9)
    clear hb9
    generalize World.alloc w2 _ = wy at *
    obtain ⟨i0, i1, i2, i3⟩ := HI.out
    go_wp2_with fail
    refine (richeck_any W H A ps.length c ps _ (HP.out.on HB.out)).mono ?_
    rintro e wz ⟨rfl, hb3⟩
    rw [HE.out]
    have HI := Lib.hid (HI.out.below hb3); have HX := Lib.hid (HX.out.below hb3); have HB := Lib.hid (bel_trans HB.out hb3); have HN1 := Lib.hid (HN1.out.below hb3)
    clear hb3 i0 i1 i2 i3
    obtain ⟨i0, i1, i2, i3⟩ := HI.out
    obtain ⟨z0, z1, z2⟩ := HX.out
    obtain ⟨u1, ga, qa⟩ := HN1.out
    obtain ⟨A1, cc1, eq1, _, ra⟩ := qa
    rw [HLL.out] at eq1
    subst eq1
    obtain ⟨ba, oa, rfl, hba, ya⟩ := ra s (by rw [HLL.out]; exact hsN)
    have HMC := Lib.hid (show ∀ k, k < ps.length → wz.cell? ⟨ba, oa + k, none⟩ = some (.int .i64 (l.getD k 0)) from fun k hk => by
      obtain ⟨b', o', e, _, hx⟩ := ra k (by rw [HLL.out]; exact hk)
      injection e with e
      injection e with e1 e2 _
      subst e1 e2
      exact hx)
    have hfs : l.getD s 0 = 65535 := by
      rcases HFL.out.2 s hsN with ⟨e, _⟩ | ⟨_, r⟩
      · exact e
      · exact absurd Reach.start r
    rw [hfs] at ya
    have HGA := Lib.hid ga
    obtain ⟨ga0, ga1, ga2, ga3⟩ := ga
    have hs := HS.out
    have hln : ((ps.length : Int) != ps.length) = false := by simp
    clear ra hfs
    go_wp2_with fail
    clear hs i0 i1 i2 i3 z0 z1 z2 ga0 ga1 ga2 ga3 ya hln
    go_loopg [103] ps.length (SoRel ps.length wz)
    case atStart => exact ⟨0, Nat.zero_le _, rfl, rfl, Below.refl _ _⟩
    case round =>
      obtain ⟨k, hk, rfl, rfl, hbr⟩ := hrel
      have HBR := Lib.hid (bel_trans HB.out hbr)
      by_cases hlt : k < ps.length
      · obtain ⟨i0, i1, i2, i3⟩ := HI.out.below hbr
        obtain ⟨A', c', ev, _, hcc⟩ := HP.out.on HBR.out
        obtain ⟨b, o, ea, hb, c1, c2, c3, c4⟩ := hcc k hlt
        injection ev with ev1 ev2 ev3
        rw [ea] at ev1
        subst ev1
        clear ev2 ev3
        obtain ⟨b', o', ea', _, d1, d2, d3, d4⟩ := hcc s hsN
        rw [ea] at ea'
        injection ea' with ev1
        injection ev1 with eb eo _
        subst eb eo
        clear hcc ea
        have HGr := Lib.hid (HGA.out.below hbr)
        have HYA := Lib.hid (And.intro (Nat.lt_of_lt_of_le hba hbr.size) ((hbr.cell (p := ⟨ba, oa + k, none⟩) hba).trans (HMC.out k hlt)))
        have HSI := Lib.hid (show (simP ps t s k ↔ dist (pat ps k) (pat ps s) ≤ t) from Iff.rfl)
        generalize pat ps k = q at *
        generalize pat ps s = p at *
        go_wp2_with fail
        have hkn0 : (0 : Int) ≤ (k : Int) := by omega
        have hkn1 : (k : Int) < (ps.length : Int) := by omega
        have hsn0 : (0 : Int) ≤ (s : Int) := by omega
        have hsn1 : (s : Int) < (ps.length : Int) := by omega
        have hS0 : wr.drew.cell? ⟨w.heap.size, 2, none⟩ = some (.slice (some ⟨b, o, none⟩) ps.length c) ∧ wr.drew.cell? ⟨b, o + k * 4, none⟩ = some (.int .i64 q.r) ∧ wr.drew.cell? ⟨b, o + k * 4 + 1, none⟩ = some (.int .i64 q.g) ∧ wr.drew.cell? ⟨b, o + k * 4 + 2, none⟩ = some (.int .i64 q.b) ∧ wr.drew.cell? ⟨b, o + k * 4 + 3, none⟩ = some (.int .i64 q.a) ∧ wr.drew.cell? ⟨b, o + s * 4, none⟩ = some (.int .i64 p.r) ∧ wr.drew.cell? ⟨b, o + s * 4 + 1, none⟩ = some (.int .i64 p.g) ∧ wr.drew.cell? ⟨b, o + s * 4 + 2, none⟩ = some (.int .i64 p.b) ∧ wr.drew.cell? ⟨b, o + s * 4 + 3, none⟩ = some (.int .i64 p.a) := ⟨i3, c1, c2, c3, c4, d1, d2, d3, d4⟩
        have HS4 := Lib.hid (show ∀ w4, Below wr.drew.heap.size wr.drew w4 → w4.cell? ⟨w.heap.size, 2, none⟩ = some (.slice (some ⟨b, o, none⟩) ps.length c) ∧ w4.cell? ⟨b, o + k * 4, none⟩ = some (.int .i64 q.r) ∧ w4.cell? ⟨b, o + k * 4 + 1, none⟩ = some (.int .i64 q.g) ∧ w4.cell? ⟨b, o + k * 4 + 2, none⟩ = some (.int .i64 q.b) ∧ w4.cell? ⟨b, o + k * 4 + 3, none⟩ = some (.int .i64 q.a) ∧ w4.cell? ⟨b, o + s * 4, none⟩ = some (.int .i64 p.r) ∧ w4.cell? ⟨b, o + s * 4 + 1, none⟩ = some (.int .i64 p.g) ∧ w4.cell? ⟨b, o + s * 4 + 2, none⟩ = some (.int .i64 p.b) ∧ w4.cell? ⟨b, o + s * 4 + 3, none⟩ = some (.int .i64 p.a) from fun w4 hb4 => ⟨(hb4.cell (p := ⟨w.heap.size, 2, none⟩) i0).trans i3, (hb4.cell (p := ⟨b, o + k * 4, none⟩) hb).trans c1, (hb4.cell (p := ⟨b, o + k * 4 + 1, none⟩) hb).trans c2, (hb4.cell (p := ⟨b, o + k * 4 + 2, none⟩) hb).trans c3, (hb4.cell (p := ⟨b, o + k * 4 + 3, none⟩) hb).trans c4, (hb4.cell (p := ⟨b, o + s * 4, none⟩) hb).trans d1, (hb4.cell (p := ⟨b, o + s * 4 + 1, none⟩) hb).trans d2, (hb4.cell (p := ⟨b, o + s * 4 + 2, none⟩) hb).trans d3, (hb4.cell (p := ⟨b, o + s * 4 + 3, none⟩) hb).trans d4⟩)
        go_region_held3 (fun w' => w'.cell? ⟨w.heap.size, 2, none⟩ = some (.slice (some ⟨b, o, none⟩) ps.length c) ∧ w'.cell? ⟨b, o + k * 4, none⟩ = some (.int .i64 q.r) ∧ w'.cell? ⟨b, o + k * 4 + 1, none⟩ = some (.int .i64 q.g) ∧ w'.cell? ⟨b, o + k * 4 + 2, none⟩ = some (.int .i64 q.b) ∧ w'.cell? ⟨b, o + k * 4 + 3, none⟩ = some (.int .i64 q.a) ∧ w'.cell? ⟨b, o + s * 4, none⟩ = some (.int .i64 p.r) ∧ w'.cell? ⟨b, o + s * 4 + 1, none⟩ = some (.int .i64 p.g) ∧ w'.cell? ⟨b, o + s * 4 + 2, none⟩ = some (.int .i64 p.b) ∧ w'.cell? ⟨b, o + s * 4 + 3, none⟩ = some (.int .i64 p.a))
          (first | assumption | exact hS0 | exact HS4.out _ hbw4 | go_keep)
          ((go_at_call 20; refine (dist_any _ _ _ _ _ _ _ _ _).mono ?_; rintro e w4 ⟨rfl, hbw4⟩))
        have hZ := bel_trans hbr.drew hbw4
        obtain ⟨ga0, ga1, ga2, ga3⟩ := (show ImgAt wr.drew w2.heap.size W H _ from HGr.out).below hbw4
        have ya := (hbw4.cell (p := ⟨ba, oa + k, none⟩) HYA.out.1).trans HYA.out.2
        have hl3 : ba < w4.heap.size := Nat.lt_of_lt_of_le HYA.out.1 hbw4.size
        have j0 : w.heap.size < w4.heap.size := Nat.lt_of_lt_of_le i0 hbw4.size
        have j1 := (hbw4.cell (p := ⟨w.heap.size, 0, none⟩) i0).trans i1
        have j2 := (hbw4.cell (p := ⟨w.heap.size, 1, none⟩) i0).trans i2
        have HZ := Lib.hid hZ
        clear hbw4 hS0 i0 i1 i2 i3 c1 c2 c3 c4 d1 d2 d3 d4 hZ hbr
        have hdd : dist (Px.mk q.r q.g q.b q.a) (Px.mk p.r p.g p.b p.a) = dist q p := rfl
        rw [hdd]
        clear hdd
        generalize dist q p = d at *
        rcases HFL.out.2 k hlt with ⟨e, r⟩ | ⟨e, r⟩
        · rw [e] at ya
          have hd : d ≤ t := HSI.out.1 (r.sim' (by unfold simP; rw [dist_self]; exact HT.out.1))
          have HR := Lib.hid (And.intro e r)
          clear e r
          go_wp2_with fail
          go_roundg (ps.length - (k + 1))
          case measure => omega
          case rel => exact ⟨k + 1, by omega, rfl, by go_num, HZ.out⟩
        · rw [e] at ya
          have HR := Lib.hid (And.intro e r)
          clear e r
          by_cases hd : d ≤ t
          rotate_left
          · go_wp2_with fail
            go_roundg (ps.length - (k + 1))
            case measure => omega
            case rel => exact ⟨k + 1, by omega, rfl, by go_num, HZ.out⟩
          · have HSK := Lib.hid (HSI.out.2 hd)
            have hx0 : 0 ≤ (k : Int) % W := Int.emod_nonneg _ (by omega)
            have hx1 : (k : Int) % W < W := Int.emod_lt_of_pos _ (by omega)
            have hy0 : 0 ≤ (k : Int) / W := Int.ediv_nonneg (by omega) (by omega)
            have hy2 : (k : Int) / W < H := row_lt (by omega) (by have := HN.out; omega)
            have htm : (k : Int).tmod W = k % W := Int.tmod_eq_emod_of_nonneg (by omega)
            have htd : (k : Int).tdiv W = k / W := Int.tdiv_eq_ediv_of_nonneg (by omega)
            have hy1 : (k : Int) / W ≤ k := Int.ediv_le_self _ (by omega)
            have hWb := HW.out.1
            have hHb := HW.out.2
            have hwn : (W == 0) = false := by simp; omega
            have hwm : (W == -1) = false := by simp; omega
            go_wp2_with fail
            go_quiet (fail)
            clear htm htd hwn hwm
            have HKK := Lib.hid (show ∀ u v : Int, 0 ≤ u → u < W → 0 ≤ v → v < H → -1 ≤ u - (k : Int) % W → u - (k : Int) % W ≤ 1 → -1 ≤ v - (k : Int) / W → v - (k : Int) / W ≤ 1 → (dg = true ∨ (k : Int) % W = u ∨ (k : Int) / W = v) → Adj W dg k (v * W + u) from
              fun u v a1 a2 a3 a4 b1 b2 b3 b4 hc => by
                have m := place_mod (y := v) a1 a2
                refine ⟨by omega, by omega, by omega, by omega, ?_⟩
                rw [m.1, m.2]; exact hc)
            generalize (k : Int) % W = X at *
            generalize (k : Int) / W = Y at *
            have HW4 := Lib.hid (show Below wz.heap.size wz (w4.drewN nq) from Below.drewN' HZ.out nq)
            generalize hw5 : w4.drewN nq = w5 at *
            replace ya : w5.cell? ⟨ba, oa + k, none⟩ = some (.int .i64 0) := by rw [← hw5]; exact ya
            replace ga3 : w5.cell? ⟨w2.heap.size, 2, none⟩ = some (.slice (some ⟨ba, oa, none⟩) ps.length cc1) := by rw [← hw5]; exact ga3
            replace j1 : w5.cell? ⟨w.heap.size, 0, none⟩ = some (.int .i64 W) := by rw [← hw5]; exact j1
            replace j2 : w5.cell? ⟨w.heap.size, 1, none⟩ = some (.int .i64 H) := by rw [← hw5]; exact j2
            replace j0 : w.heap.size < w5.heap.size := by rw [← hw5]; exact j0
            replace ga0 : w2.heap.size < w5.heap.size := by rw [← hw5]; exact ga0
            replace hl3 : ba < w5.heap.size := by rw [← hw5]; exact hl3
            clear hw5 ga1 ga2
            go_wp2_with fail
            go_loopg [155] 9 (InRel w5)
            case atStart => exact ⟨0, by omega, rfl, rfl, rfl⟩
            case round =>
              obtain ⟨j, hj, rfl, rfl, rfl⟩ := hrel
              by_cases hj9 : j < 9
              rotate_left
              · have htj : decide ((j : Int) < 9) = false := by rw [decide_eq_false_iff_not]; omega
                go_wp2_with fail
                go_roundg (ps.length - (k + 1))
                case measure => omega
                case rel => exact ⟨k + 1, by omega, rfl, by go_num, HW4.out⟩
              · have htj : decide ((j : Int) < 9) = true := by rw [decide_eq_true_eq]; omega
                go_upto_region 21 with fail
                have hu1 : -1 ≤ X + (j : Int) % 3 - 1 - X ∧ X + (j : Int) % 3 - 1 - X ≤ 1 := by omega
                have hv1 : -1 ≤ Y + (j : Int) / 3 - 1 - Y ∧ Y + (j : Int) / 3 - 1 - Y ≤ 1 := by omega
                generalize X + (j : Int) % 3 - 1 = u at *
                generalize Y + (j : Int) / 3 - 1 = v at *
                rcases (show u < 0 ∨ (0 ≤ u ∧ v < 0) ∨ (0 ≤ u ∧ 0 ≤ v ∧ W ≤ u) ∨ (0 ≤ u ∧ 0 ≤ v ∧ u < W ∧ H ≤ v) ∨ (0 ≤ u ∧ 0 ≤ v ∧ u < W ∧ v < H) by omega) with h | ⟨h, h'⟩ | ⟨h, h', h2⟩ | ⟨h, h', h2, h3⟩ | ⟨h, h', h2, h3⟩
                case inr.inr.inr.inr =>
                  have hvW : 0 ≤ v * W ∧ v * W ≤ 65536 := by
                    have e1 : 0 ≤ v * W := Int.mul_nonneg h' (by omega)
                    have e2 : v * W ≤ 256 * 256 := Int.mul_le_mul (by omega) hWb (by omega) (by omega)
                    omega
                  have hpl := place_bd h h2 h' h3
                  obtain ⟨m, hm⟩ : ∃ m : Nat, v * W + u = m := ⟨(v * W + u).toNat, by omega⟩
                  have hmN : m < ps.length := by have := HN.out; omega
                  have HM := Lib.hid hm
                  by_cases hadj : dg = true ∨ X = u ∨ Y = v
                  · have ha := HKK.out u v h h2 h' h3 hu1.1 hu1.2 hv1.1 hv1.2 hadj
                    rw [hm] at ha
                    have hz := flood_close HFL.out hlt hmN HR.out.1 HSK.out ha
                    have ym := (HW4.out.cell (p := ⟨ba, oa + m, none⟩) hba).trans (HMC.out m hmN)
                    rw [hz] at ym
                    have hcs : dg = true ∨ (dg = false ∧ (u == X) = true) ∨ (dg = false ∧ (u == X) = false ∧ (v == Y) = true) := by
                      cases dg
                      · by_cases e : u = X
                        · exact .inr (.inl ⟨rfl, by simp [e]⟩)
                        · refine .inr (.inr ⟨rfl, by simp [e], ?_⟩)
                          rcases hadj with e' | e' | e'
                          · cases e'
                          · exact absurd e'.symm e
                          · simp [e'.symm]
                      · exact .inl rfl
                    clear hadj ha hz hpl
                    rcases hcs with rfl | ⟨rfl, tx⟩ | ⟨rfl, tx, ty⟩
                    all_goals
                      go_wp2_with fail
                      go_roundg (9 - (j + 1))
                      case measure => omega
                      case rel => exact ⟨j + 1, by omega, rfl, by go_num, rfl⟩
                  · have hdg : dg = false := by
                      cases dg
                      · rfl
                      · exact absurd (.inl rfl) hadj
                    subst hdg
                    have tx : (u == X) = false := by rw [beq_eq_false_iff_ne]; intro e; exact hadj (.inr (.inl e.symm))
                    have ty : (v == Y) = false := by rw [beq_eq_false_iff_ne]; intro e; exact hadj (.inr (.inr e.symm))
                    clear hadj hpl hm
                    go_wp2_with fail
                    go_roundg (9 - (j + 1))
                    case measure => omega
                    case rel => exact ⟨j + 1, by omega, rfl, by go_num, rfl⟩
                all_goals
                  go_wp2_with fail
                  go_roundg (9 - (j + 1))
                  case measure => omega
                  case rel => exact ⟨j + 1, by omega, rfl, by go_num, rfl⟩
      · go_wp2_with fail
        refine (awake_any _).mono ?_
        rintro e w5 ⟨rfl, hb5⟩
        go_wp2_with fail
        go_ret
        exact ⟨rfl, bel_trans HBR.out hb5⟩
end Go.Proofs.Ytgdefgpbaccneaa
