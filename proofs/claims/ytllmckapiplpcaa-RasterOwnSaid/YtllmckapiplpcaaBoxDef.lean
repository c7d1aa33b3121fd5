/- The bounding box: words, and the joins as one contract. -/
import Derived.Test.YtllmckapiplpcaaRJoin2
namespace Go.Proofs.Ytllmckapiplpcaa
open Go.RowKit

def jn (a b : Rc) : Rc := if a.w = 0 then b else hull a b
def BOk (b : Rc) : Prop := b = Rc.zero ∨ b.sm
theorem jn_sm {a b : Rc} (ha : BOk a) (hb : b.sm) : (jn a b).sm := by
  rcases ha with rfl | ha
  · exact hb
  · unfold jn
    have := ha.w1
    rw [if_neg (by omega)]
    exact hull_sm ha hb
/-- The box of the first k pixels. -/
def boxN (W : Int) (ps : List Px) : Nat → Rc
  | 0 => Rc.zero
  | k + 1 => if (pat ps k).a = 0 then boxN W ps k else jn (boxN W ps k) ⟨(k : Int) % W, (k : Int) / W, 1, 1⟩
def boxP (W H : Int) (ps : List Px) : Rc := if ichk W H ps = 0 then boxN W ps ps.length else Rc.zero
theorem boxN_zero (W : Int) (ps : List Px) : boxN W ps 0 = Rc.zero := rfl
theorem boxN_skip {W : Int} {ps : List Px} {k : Nat} (h : (pat ps k).a = 0) : boxN W ps (k + 1) = boxN W ps k := by simp [boxN, h]
theorem boxN_join {W : Int} {ps : List Px} {k : Nat} (h : (pat ps k).a ≠ 0) : boxN W ps (k + 1) = jn (boxN W ps k) ⟨(k : Int) % W, (k : Int) / W, 1, 1⟩ := by simp [boxN, h]
theorem one_sm {W H : Int} {k : Nat} (hW : W ≤ 256) (hH : H ≤ 256) (hk : k < (W * H).toNat) (h0 : 0 ≤ W) : Rc.sm ⟨(k : Int) % W, (k : Int) / W, 1, 1⟩ := by
  have hp := place_of hk (pos_of hk h0)
  exact ⟨hp.1.1, hp.2.1, by simp, by simp, by simp only; omega, by simp only; omega⟩
theorem boxN_ok {W H : Int} {ps : List Px} (i : IOk W H ps) : ∀ k, k ≤ ps.length → BOk (boxN W ps k)
  | 0, _ => .inl rfl
  | k + 1, h => by
    have ih := boxN_ok i k (by omega)
    by_cases c : (pat ps k).a = 0
    · rw [boxN_skip c]; exact ih
    · rw [boxN_join c]
      exact .inr (jn_sm ih (one_sm i.w1 i.h1 (by have := i.n; omega) i.w0))
theorem join_jn (a b : Rc) (ha : BOk a) (hb : b.sm) (w : World) :
    Calls Try.prog 49 #[.agg #[.int .i64 a.x, .int .i64 a.y, .int .i64 a.w, .int .i64 a.h], .agg #[.int .i64 b.x, .int .i64 b.y, .int .i64 b.w, .int .i64 b.h]] w (RcPost (jn a b) w) := by
  rcases ha with rfl | ha
  · exact join_zero b hb w
  · have := ha.w1
    unfold jn
    rw [if_neg (by omega)]
    exact join_two a b ha hb w
theorem rjoin_jn (a b : Rc) (ha : BOk a) (hb : b.sm) (w : World) :
    Calls Try.prog 50 #[.agg #[.int .i64 a.x, .int .i64 a.y, .int .i64 a.w, .int .i64 a.h], .agg #[.int .i64 b.x, .int .i64 b.y, .int .i64 b.w, .int .i64 b.h]] w (RcPost (jn a b) w) := by
  rcases ha with rfl | ha
  · exact rjoin_zero b hb w
  · have := ha.w1
    unfold jn
    rw [if_neg (by omega)]
    exact rjoin_two a b ha hb w
/-- The variable box at gt holds the box of the first q pixels; all blocks below gt are as in wb. -/
def BoxAt2 (W : Int) (ps : List Px) (gt : Nat) (wb : World) (q : Nat) (wr : World) : Prop :=
  Bx wr gt 37 #[.int .i64 (boxN W ps q).x, .int .i64 (boxN W ps q).y, .int .i64 (boxN W ps q).w, .int .i64 (boxN W ps q).h] ∧ Below gt wb wr
def BoxRel (W : Int) (ps : List Px) (gt : Nat) (wb : World) (gh : Nat) (i : Value) (wr : World) : Prop := ∃ k : Nat, k ≤ ps.length ∧ gh = ps.length - k ∧ i = .int .i64 k ∧ BoxAt2 W ps gt wb k wr
end Go.Proofs.Ytllmckapiplpcaa
