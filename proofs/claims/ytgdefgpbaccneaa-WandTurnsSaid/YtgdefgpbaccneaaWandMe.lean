/- measured: a mask of a function of the pixels. -/
import Derived.Test.YtgdefgpbaccneaaWandCl
import Derived.Test.YtgdefgpbaccneaaRow
import Derived.Test.YtgdefgpbaccneaaImgChk
import Derived.Test.YtgdefgpbaccneaaImgRChk
import Derived.Deep.OwnRows
import Derived.Deep.Onto
namespace Go.Proofs.Ytgdefgpbaccneaa
open Go.RowKit

theorem irow_made (w : World) (B n : Nat) (hB : B ≤ w.heap.size) (hl : n ≤ 1000000) : IRow (w.alloc (.cells (madeCells #[.int .i64 0] n) 3)) B (.slice (some ⟨w.heap.size, 0, none⟩) n n) (List.replicate n 0) := by
  have h := IRow.made w B (List.replicate n 0) hB (by simpa using hl)
  have e : ((List.replicate n (0 : Int)).map (Value.int .i64)).toArray = madeCells #[.int .i64 0] n := by
    have := toList_made (.int .i64 0) 1 n rfl (by omega)
    rw [Nat.mul_one] at this
    rw [← this]
    rfl
  rw [e] at h
  simpa using h

/-- The world has grown (opaque). -/
def Bel (w w' : World) : Prop := Below w.heap.size w w'
theorem Bel.call {w w1 w2 : World} (h : Bel w w1) (hb : Below w1.heap.size w1 w2) : Bel w w2 := bel_trans h hb
theorem Bel.set {w w1 : World} (h : Bel w w1) {g k : Nat} {v : Value} (hg : w.heap.size ≤ g) : Bel w (w1.setCell ⟨g, k, none⟩ v) := Below.setCell (p := ⟨g, k, none⟩) h hg v
theorem Bel.drew {w w1 : World} (h : Bel w w1) : Bel w w1.drew := Below.drew h
theorem cell_set_other (w : World) (g k b o : Nat) (v : Value) (h : b ≠ g) : (w.setCell ⟨g, k, none⟩ v).cell? ⟨b, o, none⟩ = w.cell? ⟨b, o, none⟩ := by
  simp [World.cell?, World.setCell, Array.getElem?_modify, Ne.symm h]
theorem size_set (w : World) (a : Addr) (v : Value) : (w.setCell a v).heap.size = w.heap.size := by simp
/-- A mask that the call made. -/
def MaskIs (W H : Int) (l : List Int) (B : Nat) (r : Value) (w' : World) : Prop := ∃ v, r = .agg #[.int .i64 W, .int .i64 H, v] ∧ IRow w' B v l
def MePost (W H : Int) (l : List Int) (w : World) (e : Ending) (w' : World) : Prop := ∃ v, e = .returned (.agg #[.int .i64 W, .int .i64 H, v]) ∧ IRow w' w.heap.size v l ∧ Below w.heap.size w w'
/-- Behind the statement that makes the mask. -/
def MeMid (W H : Int) (n : Nat) (w0 : World) (m : Value) (wx : World) : Prop :=
  ∃ gm gv, m = .pointer (some ⟨gm, 0, none⟩) ∧ w0.heap.size ≤ gm ∧ gm < wx.heap.size ∧ gm ≠ gv ∧ wx.cell? ⟨gm, 0, none⟩ = some (.int .i64 W) ∧ wx.cell? ⟨gm, 1, none⟩ = some (.int .i64 H) ∧ wx.cell? ⟨gm, 2, none⟩ = some (.slice (some ⟨gv, 0, none⟩) n n) ∧
    wx.frozen? ⟨gm, 0, none⟩ = false ∧ IRow wx w0.heap.size (.slice (some ⟨gv, 0, none⟩) n n) (List.replicate n 0) ∧ Below w0.heap.size w0 wx
def MeRel (W H : Int) (l : List Int) (gm gv : Nat) (w0 : World) (i : Value) (wr : World) : Prop :=
  ∃ k : Nat, k ≤ l.length ∧ i = .int .i64 k ∧ gm < wr.heap.size ∧ wr.cell? ⟨gm, 0, none⟩ = some (.int .i64 W) ∧ wr.cell? ⟨gm, 1, none⟩ = some (.int .i64 H) ∧ wr.cell? ⟨gm, 2, none⟩ = some (.slice (some ⟨gv, 0, none⟩) l.length l.length) ∧
    IRow wr w0.heap.size (.slice (some ⟨gv, 0, none⟩) l.length l.length) (partD 0 l k) ∧ Below w0.heap.size w0 wr

theorem memid1 (W H : Int) (n s : Nat) (w0 : World) (hs : w0.heap.size = s) (hn : n ≤ 65536) :
    MeMid W H n w0 (.pointer (some ⟨s + 1, 0, none⟩)) ((w0.alloc (.cells (madeCells #[.int .i64 0] n) 3)).alloc (.cells #[.int .i64 W, .int .i64 H, .slice (some ⟨s, 0, none⟩) n n] 29)).drew := by
  subst hs
  refine ⟨w0.heap.size + 1, w0.heap.size, rfl, by omega, by simp, by omega, by simp, by simp, by simp, by simp, ?_, ?_⟩
  · exact ((irow_made w0 w0.heap.size n (Nat.le_refl _) (by omega)).alloc _).drewN 1
  · exact (bel_alloc (bel_alloc (Below.refl _ _) _) _).drew
theorem memid2 (W H : Int) (n s : Nat) (w0 : World) (hs : w0.heap.size = s) (hn : n ≤ 65536) :
    MeMid W H n w0 (.pointer (some ⟨s, 0, none⟩)) ((w0.alloc (.cells #[.int .i64 W, .int .i64 H, .slice (some ⟨s + 1, 0, none⟩) n n] 29)).alloc (.cells (madeCells #[.int .i64 0] n) 3)).drew := by
  subst hs
  refine ⟨w0.heap.size, w0.heap.size + 1, rfl, by omega, by simp; omega, by omega, by simp, by simp, by simp, by simp, ?_, ?_⟩
  · have := irow_made (w0.alloc (.cells #[.int .i64 W, .int .i64 H, .slice (some ⟨w0.heap.size + 1, 0, none⟩) n n] 29)) w0.heap.size n (by simp) (by omega)
    rw [World.size_alloc] at this
    exact this.drewN 1
  · exact (bel_alloc (bel_alloc (Below.refl _ _) _) _).drew

set_option maxHeartbeats 2000000 in
theorem measured_any (W H : Int) (A : Option Addr) (n c : Nat) (ps : List Px) (F : Nat) (caps : Array Value) (f : Px → Int) (w : World) (h : Pixs w w.heap.size (.slice A n c) ps) (hn : ps.length ≤ 65536)
    (hent : ∀ (args : Array Value) (w : World), (callFunc F args).run Try.prog w = .ok (.enter F args) w)
    (hcl : ∀ p W, Below w.heap.size w W → Calls Try.prog F (#[.agg #[.int .i64 p.r, .int .i64 p.g, .int .i64 p.b, .int .i64 p.a]] ++ caps) W fun e w' => e = .returned (.int .i64 (f p)) ∧ Below W.heap.size W w') :
    Calls Try.prog 31 #[.agg #[.int .i64 W, .int .i64 H, .slice A n c], .func (.func F) #[] caps] w (MePost W H (ps.map f) w) := by
  obtain rfl := h.len
  have HP := Lib.hid h; clear h
  have HC := Lib.hid hcl; clear hcl
  have hmk : ∀ w, (Instr.makeSlice 27 (.int .i64 (ps.length : Int)) (.int .i64 (ps.length : Int))).run Try.prog w = .ok (.slice (some ⟨w.heap.size, 0, none⟩) ps.length ps.length) (w.alloc (.cells (madeCells #[.int .i64 0] ps.length) 3)) :=
    fun w => run_make_row' 27 3 (.int .i64 0) 8 Try.underlying27 Try.infoInt rfl .i64 .i64 ps.length (by omega) (by omega) w
  go_enter Try.func31, Try.ntmps31
  go_upto_region 1 with fail
  generalize hw0 : World.alloc (w.alloc _) _ = w0
  have hs0 : w0.heap.size = w.heap.size + 2 := by rw [← hw0]; simp
  have hB0 : Below w.heap.size w w0 := by rw [← hw0]; exact bel_alloc (bel_alloc (Below.refl _ _) _) _
  have b0 : w0.cell? ⟨w.heap.size, 0, none⟩ = some (.int .i64 W) := by rw [← hw0]; simp
  have b1 : w0.cell? ⟨w.heap.size, 1, none⟩ = some (.int .i64 H) := by rw [← hw0]; simp
  have b2 : w0.cell? ⟨w.heap.size, 2, none⟩ = some (.slice A ps.length c) := by rw [← hw0]; simp
  have r0 : w0.cell? ⟨w.heap.size + 1, 0, none⟩ = some (.int .i64 0) := by rw [← hw0]; simp
  have r1 : w0.cell? ⟨w.heap.size + 1, 1, none⟩ = some (.int .i64 0) := by rw [← hw0]; simp
  have r2 : w0.cell? ⟨w.heap.size + 1, 2, none⟩ = some (.slice none 0 0) := by rw [← hw0]; simp
  have rf0 : w0.frozen? ⟨w.heap.size + 1, 0, none⟩ = false := by rw [← hw0]; simp
  have rf1 : w0.frozen? ⟨w.heap.size + 1, 1, none⟩ = false := by rw [← hw0]; simp
  have rf2 : w0.frozen? ⟨w.heap.size + 1, 2, none⟩ = false := by rw [← hw0]; simp
  go_cut [5] (MeMid W H ps.length w0)
  case first =>
    go_region
    all_goals go_wp2_with fail
    all_goals go_meet
    · exact memid1 W H ps.length _ w0 hs0 hn
    · exact memid2 W H ps.length _ w0 hs0 hn
  case rest =>
    obtain ⟨gm, gv, rfl, hgm, hgm', hne, m0, m1, m2, _, hrow, hbel⟩ := hcut
    have hsz := hbel.size
    have e0 := (hbel.cell (p := ⟨w.heap.size, 0, none⟩) (by simp; omega)).trans b0
    have e2 := (hbel.cell (p := ⟨w.heap.size, 2, none⟩) (by simp; omega)).trans b2
    have HR := Lib.hid (show IRow wc w0.heap.size (.slice (some ⟨gv, 0, none⟩) (ps.map f).length (ps.map f).length) (partD 0 (ps.map f) 0) by rw [partD_zero, List.length_map]; exact hrow)
    go_wp2_with fail
    go_loopw [20] (MeRel W H (ps.map f) gm gv w0) (fun i _ => ps.length - (intOf i).toNat)
    case atStart => exact ⟨0, Nat.zero_le _, rfl, hgm', m0, m1, by rw [List.length_map]; exact m2, HR.out, hbel⟩
    case round =>
      obtain ⟨k, hk, rfl, hgr, n0, n1, n2, hrw, hbr⟩ := hrel
      rw [List.length_map] at hk n2 hrw
      have hszr := hbr.size
      by_cases hlt : k < ps.length
      · have hP := (HP.out.on hB0).on hbr
        obtain ⟨A', c', ev, _, hc⟩ := hP
        obtain ⟨b, o, rfl, hb, c1, c2, c3, c4⟩ := hc k hlt
        injection ev with ev1 _ ev3
        subst ev1
        clear hc ev3
        have HPS := Lib.hid (partD_set 0 (ps.map f) k (by rw [List.length_map]; exact hlt))
        have HPA := Lib.hid (partD_at 0 (ps.map f) k (by rw [List.length_map]; exact hlt))
        have HG := Lib.hid (show (ps.map f).getD k 0 = f (pat ps k) by simp [pat, hlt])
        have HRW := Lib.hid hrw; clear hrw
        generalize pat ps k = p at *
        go_wp2_with fail
        have hbA : Below wr.heap.size wr (wr.alloc (.cells #[.int .i64 p.r, .int .i64 p.g, .int .i64 p.b, .int .i64 p.a] 37)) := bel_alloc (Below.refl _ _) _
        have hszA : wr.heap.size < (wr.alloc (.cells #[.int .i64 p.r, .int .i64 p.g, .int .i64 p.b, .int .i64 p.a] 37)).heap.size := by simp
        generalize hwA : wr.alloc (.cells #[.int .i64 p.r, .int .i64 p.g, .int .i64 p.b, .int .i64 p.a] 37) = wA at *
        have a2 := (hbA.cell (p := ⟨gm, 2, none⟩) hgr).trans n2
        have p0 : wA.cell? ⟨wr.heap.size, 0, none⟩ = some (.int .i64 p.r) := by rw [← hwA]; simp
        have p1 : wA.cell? ⟨wr.heap.size, 1, none⟩ = some (.int .i64 p.g) := by rw [← hwA]; simp
        have p2 : wA.cell? ⟨wr.heap.size, 2, none⟩ = some (.int .i64 p.b) := by rw [← hwA]; simp
        have p3 : wA.cell? ⟨wr.heap.size, 3, none⟩ = some (.int .i64 p.a) := by rw [← hwA]; simp
        have hBA : Bel w wA.drew := Below.drew (bel_trans (bel_trans hB0 hbr) hbA)
        have hRA := HRW.out.below hbA
        have q0 := hRA.cell HPA.out
        have q1 := hRA.frozen k
        have hgvA := HRW.out.lo
        have hgw : w.heap.size ≤ gv := by omega
        have hgv2 : (wr.heap.size == gv) = false := by simp; omega
        have hgv3 : (gm == gv) = false := by simp [hne]
        have HRA := Lib.hid hRA; clear hRA
        have hneq : wr.heap.size ≠ gv := by omega
        have hS0 : Bel w wA.drew ∧ wr.heap.size < wA.drew.heap.size ∧ wA.drew.cell? ⟨gm, 2, none⟩ = some (.slice (some ⟨gv, 0, none⟩) ps.length ps.length) ∧ wA.drew.cell? ⟨wr.heap.size, 0, none⟩ = some (.int .i64 p.r) ∧ wA.drew.cell? ⟨wr.heap.size, 1, none⟩ = some (.int .i64 p.g) ∧ wA.drew.cell? ⟨wr.heap.size, 2, none⟩ = some (.int .i64 p.b) ∧ wA.drew.cell? ⟨wr.heap.size, 3, none⟩ = some (.int .i64 p.a) := ⟨hBA, hszA, a2, p0, p1, p2, p3⟩
        have HS4 := Lib.hid (show ∀ w4, Below wA.drew.heap.size wA.drew w4 → Bel w w4 ∧ wr.heap.size < w4.heap.size ∧ w4.cell? ⟨gm, 2, none⟩ = some (.slice (some ⟨gv, 0, none⟩) ps.length ps.length) ∧ w4.cell? ⟨wr.heap.size, 0, none⟩ = some (.int .i64 p.r) ∧ w4.cell? ⟨wr.heap.size, 1, none⟩ = some (.int .i64 p.g) ∧ w4.cell? ⟨wr.heap.size, 2, none⟩ = some (.int .i64 p.b) ∧ w4.cell? ⟨wr.heap.size, 3, none⟩ = some (.int .i64 p.a) from fun w4 hb => ⟨Bel.call hBA hb, Nat.lt_of_lt_of_le hszA hb.size, (hb.cell (p := ⟨gm, 2, none⟩) (Nat.lt_trans hgr hszA)).trans a2, (hb.cell (p := ⟨wr.heap.size, 0, none⟩) hszA).trans p0, (hb.cell (p := ⟨wr.heap.size, 1, none⟩) hszA).trans p1, (hb.cell (p := ⟨wr.heap.size, 2, none⟩) hszA).trans p2, (hb.cell (p := ⟨wr.heap.size, 3, none⟩) hszA).trans p3⟩)
        have HS5 := Lib.hid (show ∀ w4, Bel w w4 ∧ wr.heap.size < w4.heap.size ∧ w4.cell? ⟨gm, 2, none⟩ = some (.slice (some ⟨gv, 0, none⟩) ps.length ps.length) ∧ w4.cell? ⟨wr.heap.size, 0, none⟩ = some (.int .i64 p.r) ∧ w4.cell? ⟨wr.heap.size, 1, none⟩ = some (.int .i64 p.g) ∧ w4.cell? ⟨wr.heap.size, 2, none⟩ = some (.int .i64 p.b) ∧ w4.cell? ⟨wr.heap.size, 3, none⟩ = some (.int .i64 p.a) → Bel w (w4.setCell ⟨gv, k, none⟩ (.int .i64 (f p))) ∧ wr.heap.size < (w4.setCell ⟨gv, k, none⟩ (.int .i64 (f p))).heap.size ∧ (w4.setCell ⟨gv, k, none⟩ (.int .i64 (f p))).cell? ⟨gm, 2, none⟩ = some (.slice (some ⟨gv, 0, none⟩) ps.length ps.length) ∧ (w4.setCell ⟨gv, k, none⟩ (.int .i64 (f p))).cell? ⟨wr.heap.size, 0, none⟩ = some (.int .i64 p.r) ∧ (w4.setCell ⟨gv, k, none⟩ (.int .i64 (f p))).cell? ⟨wr.heap.size, 1, none⟩ = some (.int .i64 p.g) ∧ (w4.setCell ⟨gv, k, none⟩ (.int .i64 (f p))).cell? ⟨wr.heap.size, 2, none⟩ = some (.int .i64 p.b) ∧ (w4.setCell ⟨gv, k, none⟩ (.int .i64 (f p))).cell? ⟨wr.heap.size, 3, none⟩ = some (.int .i64 p.a) from fun w4 h => ⟨Bel.set h.1 hgw, by rw [size_set]; exact h.2.1, by rw [cell_set_other _ _ _ _ _ _ hne]; exact h.2.2.1, by rw [cell_set_other _ _ _ _ _ _ hneq]; exact h.2.2.2.1, by rw [cell_set_other _ _ _ _ _ _ hneq]; exact h.2.2.2.2.1, by rw [cell_set_other _ _ _ _ _ _ hneq]; exact h.2.2.2.2.2.1, by rw [cell_set_other _ _ _ _ _ _ hneq]; exact h.2.2.2.2.2.2⟩)
        go_region_held3 (fun w' => Bel w w' ∧ wr.heap.size < w'.heap.size ∧ w'.cell? ⟨gm, 2, none⟩ = some (.slice (some ⟨gv, 0, none⟩) ps.length ps.length) ∧ w'.cell? ⟨wr.heap.size, 0, none⟩ = some (.int .i64 p.r) ∧ w'.cell? ⟨wr.heap.size, 1, none⟩ = some (.int .i64 p.g) ∧ w'.cell? ⟨wr.heap.size, 2, none⟩ = some (.int .i64 p.b) ∧ w'.cell? ⟨wr.heap.size, 3, none⟩ = some (.int .i64 p.a))
          (first | assumption | exact hS0 | exact HS4.out _ hbw4 | exact HS5.out _ (HS4.out _ hbw4) | go_keep)
          ((refine (HC.out p _ (by assumption)).mono ?_; rintro e w4 ⟨rfl, hbw4⟩; have q2 := (hbw4.cell (p := ⟨gv, k, none⟩) (Nat.lt_trans hgvA.2 hszA)).trans q0; have q3 := (hbw4.frozen (p := ⟨gv, k, none⟩) (Nat.lt_trans hgvA.2 hszA)).trans q1))
        have HST := Lib.hid ((HRA.out.drewN 1).below hbw4 |>.stored k (f p))
        have hX := (bel_trans hbr hbA).drew
        have hY := bel_trans hX hbw4
        go_wp2_with fail
        go_roundw
        case rel =>
          refine ⟨k + 1, by rw [List.length_map]; omega, by go_num, ?_, ?_, ?_, ?_, ?_, hY.setCell (p := ⟨gv, k, none⟩) hgvA.1 _⟩
          · simp; exact Nat.lt_of_lt_of_le (Nat.lt_trans hgr hszA) hbw4.size
          · rw [cell_set_other _ _ _ _ _ _ hne, hbw4.cell (p := ⟨gm, 0, none⟩) (Nat.lt_trans hgr hszA)]; exact (hbA.cell (p := ⟨gm, 0, none⟩) hgr).trans n0
          · rw [cell_set_other _ _ _ _ _ _ hne, hbw4.cell (p := ⟨gm, 1, none⟩) (Nat.lt_trans hgr hszA)]; exact (hbA.cell (p := ⟨gm, 1, none⟩) hgr).trans n1
          · rw [List.length_map, cell_set_other _ _ _ _ _ _ hne, hbw4.cell (p := ⟨gm, 2, none⟩) (Nat.lt_trans hgr hszA)]; exact a2
          · rw [List.length_map, ← HPS.out, HG.out]; exact HST.out.1
        case measure => simp [intOf]; omega
      · obtain rfl : k = ps.length := by omega
        have hpa := partD_all 0 (ps.map f)
        rw [List.length_map] at hpa
        rw [hpa] at hrw
        have hzz := (hB0.trans (hbr.mono hB0.size))
        have s0 := (hbr.cell (p := ⟨w.heap.size + 1, 0, none⟩) (by simp; omega)).trans r0
        have s1 := (hbr.cell (p := ⟨w.heap.size + 1, 1, none⟩) (by simp; omega)).trans r1
        have s2 := (hbr.cell (p := ⟨w.heap.size + 1, 2, none⟩) (by simp; omega)).trans r2
        have sf0 := (hbr.frozen (p := ⟨w.heap.size + 1, 0, none⟩) (by simp; omega)).trans rf0
        have sf1 := (hbr.frozen (p := ⟨w.heap.size + 1, 1, none⟩) (by simp; omega)).trans rf1
        have sf2 := (hbr.frozen (p := ⟨w.heap.size + 1, 2, none⟩) (by simp; omega)).trans rf2
        have HRW := Lib.hid hrw; clear hrw
        go_wp2_with fail
        refine bodyPost_ret (v := .agg #[.int .i64 W, .int .i64 H, .slice (some ⟨gv, 0, none⟩) ps.length ps.length]) (by simp [results, Try.results31, go_sem, s0, s1, s2]) rfl ⟨_, rfl, ?_, ?_⟩
        · unfold IRow
          have t := ownsRow_setCell_below (ownsRow_setCell_below (ownsRow_setCell_below HRW.out (a := ⟨w.heap.size + 1, 0, none⟩) (by simp; omega) (.int .i64 W)) (a := ⟨w.heap.size + 1, 1, none⟩) (by simp; omega) (.int .i64 H)) (a := ⟨w.heap.size + 1, 2, none⟩) (by simp; omega) (.slice (some ⟨gv, 0, none⟩) ps.length ps.length)
          exact World.ownsRow.mono t (by omega)
        · exact ((hzz.setCell (p := ⟨w.heap.size + 1, 0, none⟩) (Nat.le_succ _) _).setCell (p := ⟨w.heap.size + 1, 1, none⟩) (Nat.le_succ _) _).setCell (p := ⟨w.heap.size + 1, 2, none⟩) (Nat.le_succ _) _
end Go.Proofs.Ytgdefgpbaccneaa
