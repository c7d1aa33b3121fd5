/- Two nested loops that append the pixels of a raster one after the other: words for them. -/
import Derived.Test.YtllmckapiplpcaaGrid
import Derived.Test.YtllmckapiplpcaaImgRChk
namespace Go.Proofs.Ytllmckapiplpcaa
open Go.RowKit

/-- The image at box gt holds the first q pixels of l; all blocks below gt are as in wb. -/
def GridRel (W H : Int) (l : List Px) (gt : Nat) (wb : World) (q : Nat) (wr : World) : Prop :=
  ∃ v, Bx wr gt 24 #[.int .i64 W, .int .i64 H, v] ∧ PRow wr (gt + 1) v (l.take q) ∧ Below gt wb wr
/-- The heads of the outer and of the inner loop. -/
def OutRel (W H : Int) (l : List Px) (gt : Nat) (wb : World) (a b : Nat) (gh : Nat) (i : Value) (wr : World) : Prop := ∃ y : Nat, y ≤ b ∧ gh = b - y ∧ i = .int .i64 y ∧ GridRel W H l gt wb (y * a) wr
def InRel (W H : Int) (l : List Px) (gt : Nat) (wb : World) (a y : Nat) (gh : Nat) (i : Value) (wr : World) : Prop := ∃ x : Nat, x ≤ a ∧ gh = a - x ∧ i = .int .i64 x ∧ GridRel W H l gt wb (y * a + x) wr
def OneRel (W H : Int) (l : List Px) (gt : Nat) (wb : World) (gh : Nat) (i : Value) (wr : World) : Prop := ∃ x : Nat, x ≤ l.length ∧ gh = l.length - x ∧ i = .int .i64 x ∧ GridRel W H l gt wb x wr
section
variable {W H : Int} {l : List Px} {gt : Nat} {wb w w' : World} {q : Nat}
theorem GridRel.start (hb : Bx w gt 24 #[.int .i64 W, .int .i64 H, .slice none 0 0]) (h : Below gt wb w) : GridRel W H l gt wb 0 w := ⟨_, hb, PRow.nil _ _, h⟩
theorem GridRel.step {v' : Value} {u : Px} {vs : Value} {w7 w8 : World} (hb : Bx w7 gt 24 #[.int .i64 W, .int .i64 H, vs]) (hB : Below gt wb w7) (hr : PRow w8 (gt + 1) v' (l.take q ++ [u])) (h8 : Below (gt + 1) w7 w8) (hq : q < l.length) (hu : pat l q = u) :
    GridRel W H l gt wb (q + 1) (w8.setCell ⟨gt, 2, none⟩ v') := by
  refine ⟨v', ?_, ?_, ?_⟩
  · have := (hb.low (Nat.lt_succ_self _) h8).set 2 v'
    exact this
  · rw [take_succ_pat l q hq, hu]
    exact hr.set (Nat.lt_succ_self _) (Nat.le_refl _)
  · exact (hB.trans (h8.mono (Nat.le_succ _))).setCell (p := ⟨gt, 2, none⟩) (Nat.le_refl _) _
end
theorem grid_idx {a b x y : Nat} (hx : x < a) (hy : y < b) : y * a + x < a * b := by
  have : (y + 1) * a ≤ b * a := Nat.mul_le_mul_right _ (by omega)
  rw [Nat.add_mul, Nat.one_mul, Nat.mul_comm b a] at this
  omega
theorem grid_nat {a b : Nat} (f : Int → Int → Px) {x y : Nat} (hx : x < a) (hy : y < b) : pat (gridL a b f) (y * a + x) = f x y := by
  have := grid_at (w := (a : Int)) (h := (b : Int)) f (x := (x : Int)) (y := (y : Int)) (by omega) (by omega)
  rw [show ((y : Int) * (a : Int) + (x : Int)).toNat = y * a + x by rw [← Int.natCast_mul, ← Int.natCast_add]; exact Int.toNat_natCast _] at this
  exact this
theorem grid_len_nat (a b : Nat) (f : Int → Int → Px) : (gridL a b f).length = a * b := by
  rw [grid_length, ← Int.natCast_mul]; exact Int.toNat_natCast _
theorem PRow.nshape {w : World} {B : Nat} {v : Value} {ps : List Px} (h : PRow w B v ps) {n : Nat} (hn : ps.length = n) : ∃ A cap, v = .slice A n cap := by subst hn; exact h.shape
theorem take_len {l : List Px} {q : Nat} (h : q ≤ l.length) : (l.take q).length = q := by rw [List.length_take]; omega
theorem Bx.set4 {w : World} {g : Nat} {t : TypeId} {a' b' c' d' : Value} (h : Bx w g t #[a', b', c', d']) (a b c d : Value) : Bx ((((w.setCell ⟨g, 0, none⟩ a).setCell ⟨g, 1, none⟩ b).setCell ⟨g, 2, none⟩ c).setCell ⟨g, 3, none⟩ d) g t #[a, b, c, d] := by
  have := (((h.set 0 a).set 1 b).set 2 c).set 3 d
  exact this
theorem Bx.set3 {w : World} {g : Nat} {t : TypeId} {a' b' c' : Value} (h : Bx w g t #[a', b', c']) (a b c : Value) : Bx (((w.setCell ⟨g, 0, none⟩ a).setCell ⟨g, 1, none⟩ b).setCell ⟨g, 2, none⟩ c) g t #[a, b, c] := by
  have := ((h.set 0 a).set 1 b).set 2 c
  exact this
end Go.Proofs.Ytllmckapiplpcaa
