/- Inverse and Table, both. -/
import Derived.Test.YtccecikaidonhaaCurveRis
import Derived.Test.YtccecikaidonhaaKnotRow
import Derived.Deep.RegionHeld3
import Derived.Deep.AppendLies
namespace Go.Proofs.Ytccecikaidonhaa
open Go.RowKit

/-- The inverse curve. -/
def inv (ks : List (Int × Int)) : List (Int × Int) := ks.map fun k => (k.2, k.1)
theorem inv_length (ks : List (Int × Int)) : (inv ks).length = ks.length := by simp [inv]
theorem inv_take (ks : List (Int × Int)) (k : Nat) (h : k < ks.length) : (inv ks).take (k + 1) = (inv ks).take k ++ [(ky ks k, kx ks k)] := by
  rw [List.take_succ_eq_append_getElem (by rw [inv_length]; exact h)]
  simp [inv, kx, ky, h]
def ierr (ks : List (Int × Int)) : Int := if chk ks = 0 then (if risB ks then 0 else 1) else chk ks
def iout (ks : List (Int × Int)) : List (Int × Int) := if risB ks then inv ks else []
theorem risB_chk (ks : List (Int × Int)) (h : chk ks ≠ 0) : risB ks = false := by unfold risB; rw [decide_eq_false h]; rfl
def InvPost (ks : List (Int × Int)) (w : World) (e : Ending) (w' : World) : Prop :=
  ∃ v, e = .returned (.tuple #[v, .int .i64 (ierr ks)]) ∧ KRow w' w.heap.size v (iout ks) ∧ Below w.heap.size w w'
/-- What lies in the made slice after k rounds. -/
def part (l : List (Int × Int)) (k : Nat) : List (Int × Int) := l.take k ++ List.replicate (l.length - k) (0, 0)
theorem part_length (l : List (Int × Int)) (k : Nat) (h : k ≤ l.length) : (part l k).length = l.length := by simp [part]; omega
theorem part_zero (l : List (Int × Int)) : part l 0 = List.replicate l.length (0, 0) := by simp [part]
theorem part_all (l : List (Int × Int)) : part l l.length = l := by simp [part]
theorem part_set (l : List (Int × Int)) (k : Nat) (h : k < l.length) : (part l k).set k (l.getD k (0, 0)) = part l (k + 1) := by
  have hl : (l.take k).length = k := by rw [List.length_take]; omega
  unfold part
  rw [List.set_append_right _ _ (by omega), hl, Nat.sub_self, List.take_succ_eq_append_getElem h]
  obtain ⟨m, hm⟩ : ∃ m, l.length - k = m + 1 := ⟨l.length - k - 1, by omega⟩
  have e : l.getD k (0, 0) = l[k] := by simp [h]
  rw [hm, List.replicate_succ, List.set_cons_zero, show l.length - (k + 1) = m by omega, e, List.append_assoc]
  rfl

def InvRel (l : List (Int × Int)) (v : Value) (w : World) (i : Value) (wr : World) : Prop :=
  ∃ k : Nat, k ≤ l.length ∧ i = .int .i64 k ∧ KRow wr w.heap.size v (part l k) ∧ Below w.heap.size w wr
def RInvRel (l : List (Int × Int)) (w : World) (v i : Value) (wr : World) : Prop :=
  ∃ k : Nat, k ≤ l.length ∧ i = .int .i64 k ∧ KRow wr w.heap.size v (l.take k) ∧ Below w.heap.size w wr


set_option maxHeartbeats 400000 in
theorem inverse_bad (v : Value) (ks : List (Int × Int)) (w : World) (h : Knots w w.heap.size v ks) (hc : chk ks ≠ 0) :
    Calls Try.prog 18 #[v] w (InvPost ks w) := by
  have H := Lib.hid h; clear h
  have E1 := Lib.hid (show ierr ks = chk ks by unfold ierr; rw [if_neg hc])
  have E2 := Lib.hid (show iout ks = [] by unfold iout; rw [risB_chk ks hc]; rfl)
  have hne : (chk ks != 0) = true := by simp [hc]
  generalize hcc : chk ks = cc at *
  have HCC := Lib.hid hcc; clear hcc hc
  go_enter Try.func18, Try.ntmps18
  go_wp2_with fail
  refine (check_any _ ks _ H.out).mono ?_
  rintro e w1 ⟨rfl, hb1⟩
  rw [HCC.out]
  go_wp2_with fail
  go_ret2
  exact ⟨_, by rw [E1.out]; rfl, by rw [E2.out]; exact KRow.nil _ _, hb1⟩
set_option maxHeartbeats 400000 in
theorem inverse_no (v : Value) (ks : List (Int × Int)) (w : World) (h : Knots w w.heap.size v ks) (hc : chk ks = 0) (hr : risB ks = false) :
    Calls Try.prog 18 #[v] w (InvPost ks w) := by
  have H := Lib.hid h; clear h
  have E1 := Lib.hid (show ierr ks = 1 by unfold ierr; rw [if_pos hc, hr]; rfl)
  have E2 := Lib.hid (show iout ks = [] by unfold iout; rw [hr]; rfl)
  have HC := Lib.hid hc; clear hc
  have HR := Lib.hid hr; clear hr
  go_enter Try.func18, Try.ntmps18
  go_wp2_with fail
  refine (check_any _ ks _ H.out).mono ?_
  rintro e w1 ⟨rfl, hb1⟩
  rw [HC.out]
  go_wp2_with fail
  refine (rising_any _ ks _ (H.out.on hb1)).mono ?_
  rintro e w2 ⟨rfl, hb2⟩
  rw [HR.out]
  go_wp2_with fail
  go_ret2
  exact ⟨_, by rw [E1.out]; rfl, by rw [E2.out]; exact KRow.nil _ _, bel_trans hb1 hb2⟩

set_option maxHeartbeats 400000 in
theorem rinverse_bad (v : Value) (ks : List (Int × Int)) (w : World) (h : Knots w w.heap.size v ks) (hc : chk ks ≠ 0) :
    Calls Try.prog 19 #[v] w (InvPost ks w) := by
  have H := Lib.hid h; clear h
  have E1 := Lib.hid (show ierr ks = chk ks by unfold ierr; rw [if_neg hc])
  have E2 := Lib.hid (show iout ks = [] by unfold iout; rw [risB_chk ks hc]; rfl)
  have hne : (chk ks != 0) = true := by simp [hc]
  generalize hcc : chk ks = cc at *
  have HCC := Lib.hid hcc; clear hcc hc
  go_enter Try.func19, Try.ntmps19
  go_wp2_with fail
  refine (rcheck_any _ ks _ H.out).mono ?_
  rintro e w1 ⟨rfl, hb1⟩
  rw [HCC.out]
  go_wp2_with fail
  go_ret2
  exact ⟨_, by rw [E1.out]; rfl, by rw [E2.out]; exact KRow.nil _ _, hb1⟩
set_option maxHeartbeats 400000 in
theorem rinverse_no (v : Value) (ks : List (Int × Int)) (w : World) (h : Knots w w.heap.size v ks) (hc : chk ks = 0) (hr : risB ks = false) :
    Calls Try.prog 19 #[v] w (InvPost ks w) := by
  have H := Lib.hid h; clear h
  have E1 := Lib.hid (show ierr ks = 1 by unfold ierr; rw [if_pos hc, hr]; rfl)
  have E2 := Lib.hid (show iout ks = [] by unfold iout; rw [hr]; rfl)
  have HC := Lib.hid hc; clear hc
  have HR := Lib.hid hr; clear hr
  go_enter Try.func19, Try.ntmps19
  go_wp2_with fail
  refine (rcheck_any _ ks _ H.out).mono ?_
  rintro e w1 ⟨rfl, hb1⟩
  rw [HC.out]
  go_wp2_with fail
  refine (rrising_any _ ks _ (H.out.on hb1)).mono ?_
  rintro e w2 ⟨rfl, hb2⟩
  rw [HR.out]
  go_wp2_with fail
  go_ret2
  exact ⟨_, by rw [E1.out]; rfl, by rw [E2.out]; exact KRow.nil _ _, bel_trans hb1 hb2⟩

set_option maxHeartbeats 2000000 in
theorem inverse_yes (v : Value) (ks : List (Int × Int)) (w : World) (h : Knots w w.heap.size v ks) (r : Ris ks) :
    Calls Try.prog 18 #[v] w (InvPost ks w) := by
  have H := Lib.hid h; clear h
  obtain ⟨b, o, c, rfl, hb, hcell⟩ := H.out.form (by have := r.good.n2; omega)
  have HK := Lib.hid hcell
  clear hcell
  have hr := (risB_iff ks).2 r
  have hc := (chk_iff ks).2 r.good
  have hn2 := r.good.n2
  have hn16 := r.good.n16
  have E1 := Lib.hid (show ierr ks = 0 by unfold ierr; rw [if_pos hc, hr]; rfl)
  have E2 := Lib.hid (show iout ks = inv ks by unfold iout; rw [hr]; rfl)
  have HC := Lib.hid hc; clear hc
  have HR := Lib.hid hr; clear hr
  obtain ⟨i0, hi0, hz0, hz1, hz2⟩ := info_parts Try.infoKnot
  have HI := Lib.hid hi0; clear hi0
  have HZ0 := Lib.hid hz0; clear hz0
  have HZ1 := Lib.hid hz1; clear hz1
  have HZ2 := Lib.hid hz2; clear hz2
  go_enter Try.func18, Try.ntmps18
  go_wp2_with fail
  refine (check_any _ ks _ H.out).mono ?_
  rintro e w1 ⟨rfl, hb1⟩
  rw [HC.out]
  go_wp2_with fail
  refine (rising_any _ ks _ (H.out.on hb1)).mono ?_
  rintro e w2 ⟨rfl, hb2⟩
  rw [HR.out]
  have hB2 := bel_trans hb1 hb2
  clear hb1 hb2
  go_wp2_with (at_make; refine fmake 33 2 22 16 i0 _ Try.underlying22 HI.out HZ0.out HZ1.out HZ2.out rfl (by omega) (by omega) _ rfl _ _ rfl w.heap.size _ _ ks.length rfl rfl (by omega) (by omega) (by omega) hB2.size ?_; intro w3 hown hb3)
  have hlen := inv_length ks
  have hs2 := hB2.size
  have hB3 : Below w.heap.size w w3 := hB2.trans (hb3.mono hs2)
  have hK0 : KRow w3 w.heap.size (.slice (some ⟨w2.heap.size, 0, none⟩) ks.length ks.length) (part (inv ks) 0) := by
    unfold KRow
    rw [part_zero, flat2_zero, List.length_replicate, hlen]
    exact hown
  have HL := Lib.hid hlen; clear hlen
  clear hown
  have hs3 := hb3.size
  clear hb3
  go_wp2_with fail
  go_loopw [21] (InvRel (inv ks) (.slice (some ⟨w2.heap.size, 0, none⟩) ks.length ks.length) w) (fun i _ => ks.length - (intOf i).toNat)
  case atStart => exact ⟨0, Nat.zero_le _, rfl, hK0, hB3⟩
  case round =>
    obtain ⟨k, hk, rfl, hrow, hbel⟩ := hrel
    rw [HL.out] at hk
    have hsz := hbel.size
    by_cases hlt : k < ks.length
    · have c1 := (hbel.cell (p := ⟨b, o + k * 2, none⟩) hb).trans (HK.out k hlt).1
      have c2 := (hbel.cell (p := ⟨b, o + k * 2 + 1, none⟩) hb).trans (HK.out k hlt).2
      have hpl := part_length (inv ks) k (by rw [HL.out]; omega)
      rw [HL.out] at hpl
      have hrow' : FRow 33 2 wr w.heap.size (.slice (some ⟨w2.heap.size, 0, none⟩) ks.length ks.length) ks.length (flat2 (part (inv ks) k)) := by rw [← hpl]; unfold KRow at hrow; rw [hpl] at hrow ⊢; exact hrow
      have d1 := hrow'.cell (flat2_x _ k (by rw [hpl]; exact hlt))
      have d2 := hrow'.cell (flat2_y _ k (by rw [hpl]; exact hlt))
      have f1 := hrow'.frozen (k * 2)
      have f2 := hrow'.frozen (k * 2 + 1)
      have hgl := hrow'.lo.2
      generalize kx (part (inv ks) k) k = z1 at *
      generalize ky (part (inv ks) k) k = z2 at *
      have HRW := Lib.hid hrow'; clear hrow' hrow hpl
      have hlw : b < wr.heap.size := by omega
      generalize hX : kx ks k = X at *
      generalize hY : ky ks k = Y at *
      have HX := Lib.hid hX; clear hX
      have HY := Lib.hid hY; clear hY
      go_wp2_with fail
      go_roundw
      case rel =>
        have hR2 := (((HRW.out.stored (k * 2) Y).stored (k * 2 + 1) X).alloc (.cells #[.int .i64 X, .int .i64 Y] 33))
        have hset := part_set (inv ks) k (by rw [HL.out]; exact hlt)
        rw [show (inv ks).getD k (0, 0) = (Y, X) by rw [← HX.out, ← HY.out]; simp [inv, kx, ky, hlt]] at hset
        rw [show ((flat2 (part (inv ks) k)).set (k * 2) Y).set (k * 2 + 1) X = flat2 (part (inv ks) (k + 1)) by rw [← hset, flat2_set]] at hR2
        refine ⟨k + 1, by rw [HL.out]; omega, by go_num, ?_, ?_⟩
        · unfold KRow
          rw [part_length _ _ (by rw [HL.out]; omega), HL.out]
          exact hR2
        · exact ((hbel.setCell (p := ⟨w2.heap.size, k * 2, none⟩) hs2 _).setCell (p := ⟨w2.heap.size, k * 2 + 1, none⟩) hs2 _).alloc (by simpa using hsz) _
      case measure => simp [intOf]; omega
    · obtain rfl : k = ks.length := by omega
      go_wp2_with fail
      go_ret2
      refine ⟨_, by rw [E1.out]; rfl, ?_, hbel⟩
      rw [E2.out]
      have := part_all (inv ks)
      rw [HL.out] at this
      rw [this] at hrow
      exact hrow

set_option maxHeartbeats 2000000 in
theorem rinverse_yes (v : Value) (ks : List (Int × Int)) (w : World) (h : Knots w w.heap.size v ks) (r : Ris ks) :
    Calls Try.prog 19 #[v] w (InvPost ks w) := by
  have H := Lib.hid h; clear h
  obtain ⟨b, o, c, rfl, hb, hcell⟩ := H.out.form (by have := r.good.n2; omega)
  have HK := Lib.hid hcell
  clear hcell
  have hr := (risB_iff ks).2 r
  have hc := (chk_iff ks).2 r.good
  have hn2 := r.good.n2
  have hn16 := r.good.n16
  have E1 := Lib.hid (show ierr ks = 0 by unfold ierr; rw [if_pos hc, hr]; rfl)
  have E2 := Lib.hid (show iout ks = inv ks by unfold iout; rw [hr]; rfl)
  have HC := Lib.hid hc; clear hc
  have HR := Lib.hid hr; clear hr
  have HL := Lib.hid (inv_length ks)
  obtain ⟨i0, hi0, hz0, hz1, hz2⟩ := info_parts Try.infoKnot
  have HI := Lib.hid hi0; clear hi0
  have HZ0 := Lib.hid hz0; clear hz0
  have HZ1 := Lib.hid hz1; clear hz1
  have HZ2 := Lib.hid hz2; clear hz2
  go_enter Try.func19, Try.ntmps19
  go_wp2_with fail
  refine (rcheck_any _ ks _ H.out).mono ?_
  rintro e w1 ⟨rfl, hb1⟩
  rw [HC.out]
  go_wp2_with fail
  refine (rrising_any _ ks _ (H.out.on hb1)).mono ?_
  rintro e w2 ⟨rfl, hb2⟩
  rw [HR.out]
  have hB2 := bel_trans hb1 hb2
  clear hb1 hb2
  have hs2 := hB2.size
  go_wp2_with fail
  go_loopw [5, 6] (RInvRel (inv ks) w) (fun _ i _ => ks.length - (intOf i).toNat)
  case atStart => exact ⟨0, Nat.zero_le _, rfl, FRow.made 33 2 w2 w.heap.size 0 [] hs2 (by omega) rfl, hB2.alloc hs2 _⟩
  case round =>
    obtain ⟨k, hk, rfl, hrow, hbel⟩ := hrel
    rw [HL.out] at hk
    have hsz := hbel.size
    by_cases hlt : k < ks.length
    · have c1 := (hbel.cell (p := ⟨b, o + k * 2, none⟩) hb).trans (HK.out k hlt).1
      have c2 := (hbel.cell (p := ⟨b, o + k * 2 + 1, none⟩) hb).trans (HK.out k hlt).2
      have hlw : b < wr.heap.size := by omega
      have HT := Lib.hid (inv_take ks k hlt)
      generalize hX : kx ks k = X at *
      generalize hY : ky ks k = Y at *
      have HX := Lib.hid hX; clear hX
      have HY := Lib.hid hY; clear hY
      have HRW := Lib.hid hrow; clear hrow
      go_wp2_with fail
      have hkn0 : (0 : Int) ≤ (k : Int) := by omega
      have hkn1 : (k : Int) < (ks.length : Int) := by omega
      go_region_held3 (fun w' => w'.cell? ⟨b, o + k * 2, none⟩ = some (.int .i64 X) ∧ w'.cell? ⟨b, o + k * 2 + 1, none⟩ = some (.int .i64 Y))
        (first
          | go_keep
          | (go_split_ands; refine ⟨?_, ?_⟩ <;> (rw [hbw4.cell (by simpa using hb)]; assumption)))
        ((refine fpush_step 33 2 22 16 i0 _ Try.underlying22 HI.out HZ0.out HZ1.out HZ2.out rfl (by omega) (by omega) _ (by rfl) _ _ (by rfl) w.heap.size _ _ _ (by rfl) ((FRow.alloc HRW.out _).drew) wr.heap.size [Y, X] (by rfl) (by rfl) (cells_new wr 33 [Y, X]) (by simp; omega) (by simp; omega) ?_; intro v' w4 hrow4 hbw4))
      go_wp2
      go_roundw
      case rel =>
        refine ⟨k + 1, by rw [HL.out]; omega, by go_num, ?_, ((hbel.alloc hsz _).drew).trans hbw4⟩
        unfold KRow
        rw [HT.out, List.length_append, flat2_append]
        exact hrow4
      case measure => simp [intOf]; omega
    · obtain rfl : k = ks.length := by omega
      have hta : (inv ks).take ks.length = inv ks := by rw [← HL.out, List.take_length]
      rw [hta] at hrow
      go_wp2_with fail
      go_ret2
      exact ⟨_, by rw [E1.out]; rfl, by rw [E2.out]; exact hrow, hbel⟩

theorem inverse_any (v : Value) (ks : List (Int × Int)) (w : World) (h : Knots w w.heap.size v ks) : Calls Try.prog 18 #[v] w (InvPost ks w) := by
  by_cases hc : chk ks = 0
  · by_cases hr : risB ks = true
    · exact inverse_yes v ks w h ((risB_iff ks).1 hr)
    · exact inverse_no v ks w h hc (by simpa using hr)
  · exact inverse_bad v ks w h hc
theorem rinverse_any (v : Value) (ks : List (Int × Int)) (w : World) (h : Knots w w.heap.size v ks) : Calls Try.prog 19 #[v] w (InvPost ks w) := by
  by_cases hc : chk ks = 0
  · by_cases hr : risB ks = true
    · exact rinverse_yes v ks w h ((risB_iff ks).1 hr)
    · exact rinverse_no v ks w h hc (by simpa using hr)
  · exact rinverse_bad v ks w h hc
end Go.Proofs.Ytccecikaidonhaa
