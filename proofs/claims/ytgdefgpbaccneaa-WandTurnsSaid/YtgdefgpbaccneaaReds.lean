/- The images and masks of the law's examples. -/
import Derived.Test.YtgdefgpbaccneaaPxRow
import Derived.Test.YtgdefgpbaccneaaWandRef
import Derived.Test.YtgdefgpbaccneaaWandSame
namespace Go.Proofs.Ytgdefgpbaccneaa
open Go.RowKit

def red (r : Int) : Px := ⟨r, 0, 0, 0⟩
/-- An image that the call made. -/
def ImPost (W H : Int) (ps : List Px) (w : World) (e : Ending) (w' : World) : Prop :=
  ∃ A n c, e = .returned (.agg #[.int .i64 W, .int .i64 H, .slice A n c]) ∧ Pixs w' w'.heap.size (.slice A n c) ps ∧ Below w.heap.size w w'
def RedRel (W H : Int) (xs : List Int) (gb : Nat) (w3 : World) (g : Nat) (i : Value) (wr : World) : Prop :=
  ∃ (k : Nat) (v : Value), k ≤ xs.length ∧ g = xs.length - k ∧ i = .int .i64 k ∧ BoxAt wr gb W H v ∧ PRow wr (gb + 1) v ((xs.take k).map red) ∧ Below gb w3 wr ∧ gb < wr.heap.size
theorem red_take (xs : List Int) (k : Nat) (h : k < xs.length) : (xs.take (k + 1)).map red = (xs.take k).map red ++ [red (xs.getD k 0)] := by
  rw [List.take_succ_eq_append_getElem h, List.map_append]
  simp [h]

set_option maxHeartbeats 2000000 in
theorem reds_any (W : Int) (v : Value) (xs : List Int) (w : World) (hW : 0 < W) (hn : xs.length ≤ 1000) (h : Ints w w.heap.size v xs) :
    Calls Try.prog 28 #[.int .i64 W, v] w (ImPost W ((xs.length : Int) / W) (xs.map red) w) := by
  obtain ⟨A1, c1, rfl, l1, r1⟩ := h
  have R1 := Lib.hid r1; clear r1
  have h1 : (0 : Int) ≤ (xs.length : Int) / W := Int.ediv_nonneg (by omega) (by omega)
  have h2 : (xs.length : Int) / W ≤ (xs.length : Int) := Int.ediv_le_self _ (by omega)
  go_enter Try.func28, Try.ntmps28
  go_wp2_with fail
  have hR := BoxAt.new w 0 0 (.slice none 0 0) 24
  have hB0 := bel1 w (.cells #[.int .i64 0, .int .i64 0, .slice none 0 0] 24)
  have hs0 : (w.alloc (.cells #[.int .i64 0, .int .i64 0, .slice none 0 0] 24)).heap.size = w.heap.size + 1 := by simp
  generalize World.alloc w (.cells #[.int .i64 0, .int .i64 0, .slice none 0 0] 24) = w3 at *
  have hM := BoxAt.new w3 W ((xs.length : Int) / W) (.slice none 0 0) 24
  have hB3 := bel1 w3 (.cells #[.int .i64 W, .int .i64 ((xs.length : Int) / W), .slice none 0 0] 24)
  have hsz3 : w3.heap.size < (w3.alloc (.cells #[.int .i64 W, .int .i64 ((xs.length : Int) / W), .slice none 0 0] 24)).heap.size := by simp
  rw [hs0] at hM hB3 hsz3
  have HM := Lib.hid hM; have HR := Lib.hid hR
  have HS0 := Lib.hid hs0
  clear hM hR hs0
  go_loopg [16] xs.length (RedRel W ((xs.length : Int) / W) xs (w.heap.size + 1) w3)
  case atStart => exact ⟨0, .slice none 0 0, Nat.zero_le _, rfl, rfl, HM.out, PRow.nil _ _, hB3, hsz3⟩
  case round =>
    obtain ⟨k, v, hk, rfl, rfl, hbox, hrow, hbr, hszr⟩ := hrel
    clear hB3 hsz3
    have HBR := Lib.hid hbr
    have HBX := Lib.hid hbox
    have HRr := Lib.hid (HR.out.cutBelow hbr (by omega))
    have HBw := Lib.hid (hB0.trans (hbr.mono (Nat.le_succ _)))
    obtain ⟨A2, cap2, ev1⟩ := hrow.shape
    have hlen : ((xs.take k).map red).length = k := by rw [List.length_map, List.length_take]; omega
    rw [hlen] at ev1
    subst ev1
    have HRW := Lib.hid hrow; have HLN := Lib.hid hlen
    clear hbr hbox hrow hlen
    have hlw : w.heap.size < w.heap.size + 1 + 1 := by omega
    by_cases hlt : k < xs.length
    · obtain ⟨b, o, rfl, hb, hc⟩ := R1.out k hlt
      replace hc := (HBw.out.cell (p := ⟨b, o + k, none⟩) hb).trans hc
      have hbz : b < wr.heap.size := by omega
      have HT := Lib.hid (red_take xs k hlt)
      generalize xs.getD k 0 = x at *
      obtain ⟨⟨m0, m1, m2, m3⟩, mf0, mf1, mf2⟩ := HBX.out
      go_wp2_with (at_builtin; refine ppush _ rfl _ _ rfl (w.heap.size + 1 + 1) _ _ rfl HRW.out (red x) _ rfl rfl (by rw [HLN.out]; omega) (by omega) ?_; intro v' w5 hown5 hbw; have HB5 := Lib.hid (HBX.out.cutBelow hbw (Nat.lt_succ_self _)); obtain ⟨A5, cap5, ev5⟩ := hown5.shape; rw [List.length_append, HLN.out, List.length_singleton] at ev5; subst ev5; obtain ⟨⟨s0, s1, s2, s3⟩, sf0, sf1, sf2⟩ := HB5.out)
      go_roundg (xs.length - (k + 1))
      case measure => omega
      case rel =>
        refine ⟨k + 1, _, by omega, rfl, by go_num, HB5.out.setV, ?_, ?_, ?_⟩
        · rw [HT.out]; exact hown5.set (Nat.lt_succ_self _) (Nat.le_refl _)
        · exact (HBR.out.trans (hbw.mono (Nat.le_succ _))).setCell (p := ⟨w.heap.size + 1, 2, none⟩) (Nat.le_refl _) _
        · rw [size_set]; exact s0
    · obtain rfl : k = xs.length := by omega
      have hrow3 := HRW.out
      rw [List.take_length] at hrow3
      have HRW3 := Lib.hid hrow3; clear hrow3
      obtain ⟨⟨g0, g1, g2, g3⟩, k0, k1, k2⟩ := HRr.out
      obtain ⟨⟨m0, m1, m2, m3⟩, mf0, mf1, mf2⟩ := HBX.out
      go_wp2_with fail
      refine bodyPost_ret (v := .agg #[.int .i64 W, .int .i64 ((xs.length : Int) / W), .slice A2 xs.length cap2]) (by simp [results, Try.results28, go_sem, g1, g2, g3]) rfl ?_
      exact ⟨_, _, _, rfl, (((HRW3.out.set hlw (Nat.le_refl _)).set hlw (Nat.le_refl _)).set hlw (Nat.le_refl _)).pixs, set3 HBw.out (Nat.le_refl _)⟩
set_option maxHeartbeats 2000000 in
theorem values_any (W : Int) (A : Option Addr) (n c : Nat) (w : World) (hW : 0 < W) (hn : n ≤ 1000) :
    Calls Try.prog 29 #[.int .i64 W, .slice A n c] w fun e w' => e = .returned (.agg #[.int .i64 W, .int .i64 ((n : Int) / W), .slice A n c]) ∧ Below w.heap.size w w' := by
  have h1 : (0 : Int) ≤ (n : Int) / W := Int.ediv_nonneg (by omega) (by omega)
  have h2 : (n : Int) / W ≤ (n : Int) := Int.ediv_le_self _ (by omega)
  go_enter Try.func29, Try.ntmps29
  go_wp2_with fail
  refine bodyPost_ret (v := .agg #[.int .i64 W, .int .i64 ((n : Int) / W), .slice A n c]) (by simp [results, Try.results29, go_sem]) rfl ⟨rfl, ?_⟩
  first | exact bel1 _ _ | exact set3 (bel1 _ _) (Nat.le_refl _)
end Go.Proofs.Ytgdefgpbaccneaa
