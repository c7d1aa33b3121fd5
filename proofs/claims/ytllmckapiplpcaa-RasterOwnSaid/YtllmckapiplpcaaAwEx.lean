/- The calls of the law's examples. -/
import Derived.Test.YtllmckapiplpcaaJoinB
import Derived.Test.YtllmckapiplpcaaPutA
import Derived.Test.YtllmckapiplpcaaBoxA
import Derived.Test.YtllmckapiplpcaaRasSame
import Derived.Test.YtllmckapiplpcaaRasAt
import Derived.Test.YtllmckapiplpcaaRasAny
namespace Go.Proofs.Ytllmckapiplpcaa
open Go.RowKit

def pa : Px := ⟨1, 0, 0, 9⟩
def pb : Px := ⟨0, 2, 0, 8⟩
def pc : Px := ⟨0, 0, 3, 7⟩
theorem ex_new0 (w : World) : Calls Try.prog 15 #[.int .i64 2, .int .i64 0, .agg #[.int .i64 1, .int .i64 0, .int .i64 0, .int .i64 9]] w (ImPost 15 0 0 [] w) := by
  have := new_any 2 0 pa w
  rw [show nerr 2 0 pa = 15 by decide, imOut_err (by omega)] at this
  exact this
theorem ex_new1 (w : World) : Calls Try.prog 15 #[.int .i64 2, .int .i64 1, .agg #[.int .i64 0, .int .i64 0, .int .i64 3, .int .i64 7]] w (ImPost 0 2 1 [pc, pc] w) := by
  have := new_any 2 1 pc w
  rw [show nerr 2 1 pc = 0 by decide, imOut_ok] at this
  exact this
section
variable (A : Option Addr) (c : Nat) (w : World) (h : Pixs w w.heap.size (.slice A 2 c) [pa, pb])
include h
theorem ex_check : Calls Try.prog 18 #[.agg #[.int .i64 2, .int .i64 1, .slice A 2 c]] w fun e w' => e = .returned (.int .i64 0) ∧ Below w.heap.size w w' := by
  have := icheck_any 2 1 A 2 c [pa, pb] w h
  rw [show ichk 2 1 [pa, pb] = 0 by decide +kernel] at this
  exact this
theorem ex_edge1 : Calls Try.prog 23 #[.agg #[.int .i64 2, .int .i64 1, .slice A 2 c], .int .i64 5, .int .i64 9] w fun e w' => e = .returned (.agg #[.int .i64 0, .int .i64 2, .int .i64 0, .int .i64 8]) ∧ Below w.heap.size w w' := by
  have := edge_any 2 1 A c [pa, pb] 5 9 w h
  rw [show edgeP 2 1 [pa, pb] 5 9 = pb by decide +kernel] at this
  exact this
theorem ex_edge2 : Calls Try.prog 23 #[.agg #[.int .i64 2, .int .i64 1, .slice A 2 c], .int .i64 (-5), .int .i64 0] w fun e w' => e = .returned (.agg #[.int .i64 1, .int .i64 0, .int .i64 0, .int .i64 9]) ∧ Below w.heap.size w w' := by
  have := edge_any 2 1 A c [pa, pb] (-5) 0 w h
  rw [show edgeP 2 1 [pa, pb] (-5) 0 = pa by decide +kernel] at this
  exact this
theorem ex_at1 : Calls Try.prog 21 #[.agg #[.int .i64 2, .int .i64 1, .slice A 2 c], .int .i64 2, .int .i64 0] w fun e w' => e = .returned (.agg #[.int .i64 0, .int .i64 0, .int .i64 0, .int .i64 0]) ∧ Below w.heap.size w w' := by
  have := pat_any 2 1 A c [pa, pb] 2 0 w h
  rw [show atP 2 1 [pa, pb] 2 0 = Px.zero by decide +kernel] at this
  exact this
theorem ex_at2 : Calls Try.prog 21 #[.agg #[.int .i64 2, .int .i64 1, .slice A 2 c], .int .i64 1, .int .i64 0] w fun e w' => e = .returned (.agg #[.int .i64 0, .int .i64 2, .int .i64 0, .int .i64 8]) ∧ Below w.heap.size w w' := by
  have := pat_any 2 1 A c [pa, pb] 1 0 w h
  rw [show atP 2 1 [pa, pb] 1 0 = pb by decide +kernel] at this
  exact this
theorem ex_crop : Calls Try.prog 27 #[.agg #[.int .i64 2, .int .i64 1, .slice A 2 c], .agg #[.int .i64 1, .int .i64 (-1), .int .i64 2, .int .i64 2]] w (ImPost 0 2 2 [Px.zero, Px.zero, pb, Px.zero] w) := by
  have := crop_any 2 1 A c [pa, pb] w h 1 (-1) 2 2
  rw [show cerr (ichk 2 1 [pa, pb]) 1 (-1) 2 2 = 0 by decide +kernel, imOut_ok, show cropL 2 1 [pa, pb] 1 (-1) 2 2 = [Px.zero, Px.zero, pb, Px.zero] by decide +kernel] at this
  exact this
theorem ex_flip : Calls Try.prog 31 #[.agg #[.int .i64 2, .int .i64 1, .slice A 2 c], .int .i64 3] w (ImPost 0 1 2 [pa, pb] w) := by
  have := flip_any 2 1 A c [pa, pb] w h 3
  rw [show ferr (ichk 2 1 [pa, pb]) 3 = 0 by decide +kernel, imOut_ok, show flipL 2 1 [pa, pb] 3 = [pa, pb] by decide +kernel] at this
  exact this
theorem ex_put (A2 : Option Addr) (c2 : Nat) (h2 : Pixs w w.heap.size (.slice A2 1 c2) [pc]) : Calls Try.prog 29 #[.agg #[.int .i64 2, .int .i64 1, .slice A 2 c], .agg #[.int .i64 1, .int .i64 1, .slice A2 1 c2], .agg #[.int .i64 1, .int .i64 0]] w (ImPost 0 2 1 [pa, pc] w) := by
  have := put_any 2 1 A c [pa, pb] 1 1 A2 c2 [pc] 1 0 w h h2
  rw [show perr 2 1 [pa, pb] 1 1 [pc] = 0 by decide +kernel, imOut_ok, show putL 2 1 [pa, pb] 1 1 [pc] (clampC 1) (clampC 0) = [pa, pc] by decide +kernel] at this
  exact this
theorem ex_box : Calls Try.prog 33 #[.agg #[.int .i64 2, .int .i64 1, .slice A 2 c]] w fun e w' => e = .returned (.agg #[.int .i64 0, .int .i64 0, .int .i64 2, .int .i64 1]) ∧ Below w.heap.size w w' := by
  have := box_any 2 1 A c [pa, pb] w h
  have e : boxP 2 1 [pa, pb] = ⟨0, 0, 2, 1⟩ := by kernel_rfl
  rw [e] at this
  exact this
end
theorem ex_same (w : World) (W H W' H' : Int) (v1 v2 : Value) (xs ys : List Px) (b : Bool) (hb : decide (W = W' ∧ H = H' ∧ xs = ys) = b) (h1 : Pixs w w.heap.size v1 xs) (h2 : Pixs w w.heap.size v2 ys) :
    Calls Try.prog 25 #[.agg #[.int .i64 W, .int .i64 H, v1], .agg #[.int .i64 W', .int .i64 H', v2]] w fun e w' => e = .returned (.bool b) ∧ Below w.heap.size w w' := by
  have := psame_any W H W' H' v1 v2 xs ys w h1 h2
  rw [hb] at this
  exact this
theorem ex_join (A : Option Addr) (c : Nat) (T : Addr) (w : World) (ht : Imgs w w.heap.size (.slice (some T) 1 1) [⟨2, 1, A, c, [pa, pb]⟩]) : Calls Try.prog 35 #[.int .i64 2, .int .i64 1, .slice (some T) 1 1] w (ImPost 0 2 1 [pa, pb] w) := by
  have := join_any 2 1 (some T) 1 [⟨2, 1, A, c, [pa, pb]⟩] w ht
  have e1 : joinErr 2 1 [⟨2, 1, A, c, [pa, pb]⟩] = 0 := by
    have e2 : ichk 2 1 [pa, pb] = 0 := by decide +kernel
    have e3 : colsOf 2 = 1 ∧ colsOf 1 = 1 := by decide
    simp [joinErr, e3.1, e3.2, scanErr, tilErr, tget, e2]; decide
  have e4 : joinL 2 1 [⟨2, 1, A, c, [pa, pb]⟩] = [pa, pb] := by
    have e3 : colsOf 2 = 1 := by decide
    simp [joinL, gridL, joinF, tget, e3, List.range_succ, pick, pat]
  rw [e1, imOut_ok, e4] at this
  exact this
theorem lsame (w : World) (W H W' H' : Int) (v1 v2 : Value) (xs ys : List Px) (b : Bool) (hb : decide (W = W' ∧ H = H' ∧ xs = ys) = b) (h1 : Pixs w w.heap.size v1 xs) (h2 : Pixs w w.heap.size v2 ys) :
    Calls Try.prog 20 #[.agg #[.int .i64 W, .int .i64 H, v1], .agg #[.int .i64 W', .int .i64 H', v2]] w fun e w' => e = .returned (.bool b) ∧ Below w.heap.size w w' := by
  have := isame_any W H W' H' v1 v2 xs ys w h1 h2
  rw [hb] at this
  exact this
/-- A slice of pixels that is written out. -/
theorem lit_pixs {w : World} {g : Nat} {t : TypeId} {ps : List Px} (hb : Bx w g t ((flat4 ps).map (Value.int .i64)).toArray) (hl : ps.length ≤ 100) : Pixs w w.heap.size (.slice (some ⟨g, 0, none⟩) ps.length ps.length) ps := by
  refine ⟨_, _, rfl, by omega, fun i hi => ⟨g, 0, rfl, hb.lt, ?_⟩⟩
  obtain ⟨f1, f2, f3, f4⟩ := flat4_get ps i hi
  simp only [Nat.zero_add]
  refine ⟨hb.cell ?_, hb.cell ?_, hb.cell ?_, hb.cell ?_⟩
  · simp [f1]
  · simp [f2]
  · simp [f3]
  · simp [f4]
end Go.Proofs.Ytllmckapiplpcaa
