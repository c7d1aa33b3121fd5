/- Table, both. -/
import Derived.Test.YtccecikaidonhaaCurveAt
import Derived.Test.YtccecikaidonhaaRow
namespace Go.Proofs.Ytccecikaidonhaa
open Go.RowKit

def terr (ks : List (Int × Int)) (n : Int) : Int := if chk ks = 0 then (if n < 2 ∨ 256 < n then 2 else 0) else chk ks
def tab (ks : List (Int × Int)) (n : Nat) : List Int := (List.range n).map fun (i : Nat) => val ks (rdiv ((i : Int) * 65535) ((n : Int) - 1))
def tout (ks : List (Int × Int)) (n : Int) : List Int := if chk ks = 0 ∧ 2 ≤ n ∧ n ≤ 256 then tab ks n.toNat else []
theorem tab_length (ks : List (Int × Int)) (n : Nat) : (tab ks n).length = n := by simp [tab]
theorem tab_get (ks : List (Int × Int)) (n i : Nat) (h : i < n) : (tab ks n).getD i 0 = val ks (rdiv ((i : Int) * 65535) ((n : Int) - 1)) := by simp [tab, h]
theorem tab_take (ks : List (Int × Int)) (n k : Nat) (h : k < n) : (tab ks n).take (k + 1) = (tab ks n).take k ++ [val ks (rdiv ((k : Int) * 65535) ((n : Int) - 1))] := by
  rw [List.take_succ_eq_append_getElem (by rw [tab_length]; exact h)]
  simp [tab]
def TabPost (ks : List (Int × Int)) (n : Int) (w : World) (e : Ending) (w' : World) : Prop :=
  ∃ v, e = .returned (.tuple #[v, .int .i64 (terr ks n)]) ∧ IRow w' w.heap.size v (tout ks n) ∧ Below w.heap.size w w'
def TabRel (l : List Int) (v : Value) (w : World) (i : Value) (wr : World) : Prop :=
  ∃ k : Nat, k ≤ l.length ∧ i = .int .i64 k ∧ IRow wr w.heap.size v (partD 0 l k) ∧ Below w.heap.size w wr
def RTabRel (l : List Int) (w : World) (v i : Value) (wr : World) : Prop :=
  ∃ k : Nat, k ≤ l.length ∧ i = .int .i64 k ∧ IRow wr w.heap.size v (l.take k) ∧ Below w.heap.size w wr

set_option maxHeartbeats 400000 in
theorem table_bad (v : Value) (ks : List (Int × Int)) (n : Int) (w : World) (h : Knots w w.heap.size v ks) (hc : chk ks ≠ 0) :
    Calls Try.prog 23 #[v, .int .i64 n] w (TabPost ks n w) := by
  have H := Lib.hid h; clear h
  have E1 := Lib.hid (show terr ks n = chk ks by unfold terr; rw [if_neg hc])
  have E2 := Lib.hid (show tout ks n = [] by unfold tout; rw [if_neg (fun e => hc e.1)])
  have hne : (chk ks != 0) = true := by simp [hc]
  generalize hcc : chk ks = cc at *
  have HCC := Lib.hid hcc; clear hcc hc
  go_enter Try.func23, Try.ntmps23
  go_wp2_with fail
  refine (check_any _ ks _ H.out).mono ?_
  rintro e w1 ⟨rfl, hb1⟩
  rw [HCC.out]
  go_wp2_with fail
  go_ret2
  exact ⟨_, by rw [E1.out]; rfl, by rw [E2.out]; exact IRow.nil _ _, hb1⟩
set_option maxHeartbeats 400000 in
theorem table_rng (v : Value) (ks : List (Int × Int)) (n : Int) (w : World) (h : Knots w w.heap.size v ks) (hc : chk ks = 0) (hn : n < 2 ∨ 256 < n) :
    Calls Try.prog 23 #[v, .int .i64 n] w (TabPost ks n w) := by
  have H := Lib.hid h; clear h
  have E1 := Lib.hid (show terr ks n = 2 by unfold terr; rw [if_pos hc, if_pos hn])
  have E2 := Lib.hid (show tout ks n = [] by unfold tout; rw [if_neg (fun e => by omega)])
  have HC := Lib.hid hc; clear hc
  rcases hn with hn | hn
  all_goals
    go_enter Try.func23, Try.ntmps23
    go_wp2_with fail
    refine (check_any _ ks _ H.out).mono ?_
    rintro e w1 ⟨rfl, hb1⟩
    rw [HC.out]
    go_wp2_with fail
    go_ret2
    exact ⟨_, by rw [E1.out]; rfl, by rw [E2.out]; exact IRow.nil _ _, hb1⟩

set_option maxHeartbeats 400000 in
theorem rtable_bad (v : Value) (ks : List (Int × Int)) (n : Int) (w : World) (h : Knots w w.heap.size v ks) (hc : chk ks ≠ 0) :
    Calls Try.prog 24 #[v, .int .i64 n] w (TabPost ks n w) := by
  have H := Lib.hid h; clear h
  have E1 := Lib.hid (show terr ks n = chk ks by unfold terr; rw [if_neg hc])
  have E2 := Lib.hid (show tout ks n = [] by unfold tout; rw [if_neg (fun e => hc e.1)])
  have hne : (chk ks != 0) = true := by simp [hc]
  generalize hcc : chk ks = cc at *
  have HCC := Lib.hid hcc; clear hcc hc
  go_enter Try.func24, Try.ntmps24
  go_wp2_with fail
  refine (rcheck_any _ ks _ H.out).mono ?_
  rintro e w1 ⟨rfl, hb1⟩
  rw [HCC.out]
  go_wp2_with fail
  go_ret2
  exact ⟨_, by rw [E1.out]; rfl, by rw [E2.out]; exact IRow.nil _ _, hb1⟩
set_option maxHeartbeats 400000 in
theorem rtable_rng (v : Value) (ks : List (Int × Int)) (n : Int) (w : World) (h : Knots w w.heap.size v ks) (hc : chk ks = 0) (hn : n < 2 ∨ 256 < n) :
    Calls Try.prog 24 #[v, .int .i64 n] w (TabPost ks n w) := by
  have H := Lib.hid h; clear h
  have E1 := Lib.hid (show terr ks n = 2 by unfold terr; rw [if_pos hc, if_pos hn])
  have E2 := Lib.hid (show tout ks n = [] by unfold tout; rw [if_neg (fun e => by omega)])
  have HC := Lib.hid hc; clear hc
  rcases hn with hn | hn
  all_goals
    go_enter Try.func24, Try.ntmps24
    go_wp2_with fail
    refine (rcheck_any _ ks _ H.out).mono ?_
    rintro e w1 ⟨rfl, hb1⟩
    rw [HC.out]
    go_wp2_with fail
    go_ret2
    exact ⟨_, by rw [E1.out]; rfl, by rw [E2.out]; exact IRow.nil _ _, hb1⟩

set_option maxHeartbeats 2000000 in
theorem table_yes (v : Value) (ks : List (Int × Int)) (n : Nat) (w : World) (h : Knots w w.heap.size v ks) (hc : chk ks = 0) (hn2 : 2 ≤ n) (hn256 : n ≤ 256) :
    Calls Try.prog 23 #[v, .int .i64 n] w (TabPost ks n w) := by
  have H := Lib.hid h; clear h
  have E1 := Lib.hid (show terr ks n = 0 by unfold terr; rw [if_pos hc, if_neg (by omega)])
  have E2 := Lib.hid (show tout ks n = tab ks n by unfold tout; rw [if_pos ⟨hc, by omega, by omega⟩]; rfl)
  have g := (chk_iff ks).1 hc
  have HC := Lib.hid hc; clear hc
  have HL := Lib.hid (tab_length ks n)
  go_enter Try.func23, Try.ntmps23
  go_wp2_with fail
  refine (check_any _ ks _ H.out).mono ?_
  rintro e w1 ⟨rfl, hb1⟩
  rw [HC.out]
  have hs1 := hb1.size
  go_wp2_with (at_make; refine imake _ rfl _ _ rfl w.heap.size _ _ n rfl rfl (by omega) (by omega) (by omega) hs1 ?_; intro w3 hown hb3)
  have hB3 := bel_trans hb1 hb3
  have hK0 : IRow w3 w.heap.size (.slice (some ⟨w1.heap.size, 0, none⟩) n n) (partD 0 (tab ks n) 0) := by rw [partD_zero, HL.out]; exact hown
  clear hown hb3
  go_loopw [24] (TabRel (tab ks n) (.slice (some ⟨w1.heap.size, 0, none⟩) n n) w) (fun i _ => n - (intOf i).toNat)
  case atStart => exact ⟨0, Nat.zero_le _, rfl, hK0, hB3⟩
  case round =>
    obtain ⟨k, hk, rfl, hrow, hbel⟩ := hrel
    rw [HL.out] at hk
    have hsz := hbel.size
    by_cases hlt : k < n
    · have HKN := Lib.hid ((H.out.below hbel).more hsz)
      have HTG := Lib.hid (tab_get ks n k hlt)
      have HPS := Lib.hid (partD_set 0 (tab ks n) k (by rw [HL.out]; exact hlt))
      have HPA := Lib.hid (partD_at 0 (tab ks n) k (by rw [HL.out]; exact hlt))
      go_wp2_with fail
      refine (div_any _ _ _ (by omega) (by omega) (by omega) (by omega)).mono ?_
      rintro e w4 ⟨rfl, rfl⟩
      go_wp2_with fail
      refine (value_any _ ks _ _ HKN.out g).mono ?_
      rintro e w4 ⟨rfl, hb4⟩
      rw [← HTG.out]
      have hrow4 := hrow.below hb4
      have c1 := hrow4.cell HPA.out
      have f1 := hrow4.frozen k
      have hB4 := bel_trans hbel hb4
      generalize hy : (tab ks n).getD k 0 = y at *
      have HST := Lib.hid (hrow4.stored k y)
      clear hrow4 hrow hb4
      go_wp2_with fail
      go_roundw
      case rel => exact ⟨k + 1, by rw [HL.out]; omega, by go_num, by rw [← HPS.out]; exact HST.out.1, hB4.setCell (p := ⟨w1.heap.size, k, none⟩) hs1 _⟩
      case measure => simp [intOf]; omega
    · obtain rfl : k = n := by omega
      have hpa := partD_all 0 (tab ks k)
      rw [HL.out] at hpa
      rw [hpa] at hrow
      go_wp2_with fail
      go_ret2
      exact ⟨_, by rw [E1.out]; rfl, by rw [E2.out]; exact hrow, hbel⟩

set_option maxHeartbeats 2000000 in
theorem rtable_yes (v : Value) (ks : List (Int × Int)) (n : Nat) (w : World) (h : Knots w w.heap.size v ks) (hc : chk ks = 0) (hn2 : 2 ≤ n) (hn256 : n ≤ 256) :
    Calls Try.prog 24 #[v, .int .i64 n] w (TabPost ks n w) := by
  have H := Lib.hid h; clear h
  have E1 := Lib.hid (show terr ks n = 0 by unfold terr; rw [if_pos hc, if_neg (by omega)])
  have E2 := Lib.hid (show tout ks n = tab ks n by unfold tout; rw [if_pos ⟨hc, by omega, by omega⟩]; rfl)
  have g := (chk_iff ks).1 hc
  have HC := Lib.hid hc; clear hc
  have HL := Lib.hid (tab_length ks n)
  go_enter Try.func24, Try.ntmps24
  go_wp2_with fail
  refine (rcheck_any _ ks _ H.out).mono ?_
  rintro e w1 ⟨rfl, hb1⟩
  rw [HC.out]
  have hs1 := hb1.size
  go_wp2_with fail
  go_loopw [7, 8] (RTabRel (tab ks n) w) (fun _ i _ => n - (intOf i).toNat)
  case atStart => exact ⟨0, Nat.zero_le _, rfl, IRow.made w1 w.heap.size [] hs1 (by simp), hb1.alloc hs1 _⟩
  case round =>
    obtain ⟨k, hk, rfl, hrow, hbel⟩ := hrel
    rw [HL.out] at hk
    have hsz := hbel.size
    by_cases hlt : k < n
    · have HKN := Lib.hid ((H.out.below hbel).more hsz)
      have HTT := Lib.hid (tab_take ks n k hlt)
      have hlen : ((tab ks n).take k).length ≤ k := List.length_take_le _ _
      go_wp2_with fail
      refine (rdiv_any _ _ _ (by omega) (by omega) (by omega) (by omega)).mono ?_
      rintro e w4 ⟨rfl, n4, rfl⟩
      go_wp2_with fail
      refine (rat_any _ ks _ _ (Knots.drewN HKN.out n4)).mono ?_
      rintro e w4 ⟨rfl, hb4⟩
      rw [show cat ks (rdiv ((k : Int) * 65535) ((n : Int) - 1)) = val ks (rdiv ((k : Int) * 65535) ((n : Int) - 1)) by unfold cat; rw [if_pos HC.out]]
      have hB4 := bel_trans (Below.drewN' hbel n4) hb4
      have hrow4 := (hrow.drewN n4).below hb4
      have hs4 := hB4.size
      generalize val ks (rdiv ((k : Int) * 65535) ((n : Int) - 1)) = y at *
      clear hrow hb4
      go_wp2_with (at_builtin; refine push_new _ rfl _ _ rfl w.heap.size _ _ rfl hrow4 _ rfl (by omega) hs4 ?_; intro v' w5 hown5 hbw)
      go_roundw
      case rel => exact ⟨k + 1, by rw [HL.out]; omega, by go_num, by rw [HTT.out]; exact hown5, hB4.trans hbw⟩
      case measure => simp [intOf]; omega
    · obtain rfl : k = n := by omega
      have hta : (tab ks k).take k = tab ks k := by rw [List.take_of_length_le (by rw [HL.out]; omega)]
      rw [hta] at hrow
      go_wp2_with fail
      go_ret2
      exact ⟨_, by rw [E1.out]; rfl, by rw [E2.out]; exact hrow, hbel⟩
theorem table_any (v : Value) (ks : List (Int × Int)) (n : Int) (w : World) (h : Knots w w.heap.size v ks) : Calls Try.prog 23 #[v, .int .i64 n] w (TabPost ks n w) := by
  by_cases hc : chk ks = 0
  · by_cases hn : n < 2 ∨ 256 < n
    · exact table_rng v ks n w h hc hn
    · obtain ⟨m, rfl⟩ := Int.eq_ofNat_of_zero_le (show 0 ≤ n by omega)
      exact table_yes v ks m w h hc (by omega) (by omega)
  · exact table_bad v ks n w h hc
theorem rtable_any (v : Value) (ks : List (Int × Int)) (n : Int) (w : World) (h : Knots w w.heap.size v ks) : Calls Try.prog 24 #[v, .int .i64 n] w (TabPost ks n w) := by
  by_cases hc : chk ks = 0
  · by_cases hn : n < 2 ∨ 256 < n
    · exact rtable_rng v ks n w h hc hn
    · obtain ⟨m, rfl⟩ := Int.eq_ofNat_of_zero_le (show 0 ≤ n by omega)
      exact rtable_yes v ks m w h hc (by omega) (by omega)
  · exact rtable_bad v ks n w h hc
end Go.Proofs.Ytccecikaidonhaa
