/- Slices of knots that the call itself made. -/
import Derived.Test.YtmbglkholoblaaaDoorRow
import Derived.Test.YtmbglkholoblaaaDoorKnotMem
namespace Go.Proofs.YtmbglkholoblaaaDoor
open Go.RowKit

def flat2 (ks : List (Int × Int)) : List Int := ks.flatMap fun k => [k.1, k.2]
theorem flat2_nil : flat2 [] = [] := rfl
theorem flat2_cons (k : Int × Int) (ks : List (Int × Int)) : flat2 (k :: ks) = k.1 :: k.2 :: flat2 ks := rfl
theorem flat2_append (a b : List (Int × Int)) : flat2 (a ++ b) = flat2 a ++ flat2 b := by simp [flat2]
theorem flat2_length : ∀ ks : List (Int × Int), (flat2 ks).length = ks.length * 2
  | [] => rfl
  | k :: ks => by rw [flat2_cons]; simp [flat2_length ks]; omega
theorem flat2_x : ∀ (ks : List (Int × Int)) (i : Nat), i < ks.length → (flat2 ks)[i * 2]? = some (kx ks i)
  | [], i, h => absurd h (by simp)
  | k :: ks, 0, _ => rfl
  | k :: ks, i + 1, h => by
    have := flat2_x ks i (by simpa using h)
    rw [flat2_cons, show (i + 1) * 2 = i * 2 + 1 + 1 by omega]
    simpa [kx] using this
theorem flat2_y : ∀ (ks : List (Int × Int)) (i : Nat), i < ks.length → (flat2 ks)[i * 2 + 1]? = some (ky ks i)
  | [], i, h => absurd h (by simp)
  | k :: ks, 0, _ => rfl
  | k :: ks, i + 1, h => by
    have := flat2_y ks i (by simpa using h)
    rw [flat2_cons, show (i + 1) * 2 + 1 = i * 2 + 1 + 1 + 1 by omega]
    simpa [ky] using this
theorem flat2_set : ∀ (ks : List (Int × Int)) (i : Nat) (p : Int × Int), flat2 (ks.set i p) = ((flat2 ks).set (i * 2) p.1).set (i * 2 + 1) p.2
  | [], i, p => by simp [flat2]
  | k :: ks, 0, p => rfl
  | k :: ks, i + 1, p => by
    have := flat2_set ks i p
    rw [List.set_cons_succ, flat2_cons, flat2_cons, this, show (i + 1) * 2 = i * 2 + 1 + 1 by omega]
    rfl
theorem flat2_zero : ∀ n : Nat, flat2 (List.replicate n (0, 0)) = List.replicate (n * 2) 0
  | 0 => rfl
  | n + 1 => by rw [List.replicate_succ, flat2_cons, flat2_zero n, show (n + 1) * 2 = n * 2 + 1 + 1 by omega]; rfl

/-- The slice of knots v is the call's own and holds the knots ks. -/
def KRow (w : World) (B : Nat) (v : Value) (ks : List (Int × Int)) : Prop := FRow 77 2 w B v ks.length (flat2 ks)

section
variable {w w' : World} {B : Nat} {v : Value} {ks : List (Int × Int)}
theorem KRow.nil (w : World) (B : Nat) : KRow w B (.slice none 0 0) [] := FRow.nil _ _ _ _
theorem KRow.drewN (h : KRow w B v ks) (k : Nat) : KRow (w.drewN k) B v ks := h
theorem KRow.drew (h : KRow w B v ks) : KRow w.drew B v ks := h
theorem KRow.alloc (h : KRow w B v ks) (o : Obj) : KRow (w.alloc o) B v ks := FRow.alloc h o
theorem KRow.below (h : KRow w B v ks) (hb : Below w.heap.size w w') : KRow w' B v ks := FRow.below h hb
theorem KRow.knots (h : KRow w B v ks) (hn : ks.length ≤ 9223372036854775807) : Knots w w.heap.size v ks := by
  by_cases h0 : ks.length = 0
  · have : ks = [] := List.eq_nil_of_length_eq_zero h0
    subst this
    obtain ⟨A, c, rfl⟩ := FRow.shape h
    exact ⟨A, c, rfl, by simp, fun i hi => absurd hi (by simp)⟩
  · obtain ⟨g, cap, rfl, hB, hlt⟩ := FRow.form h (by omega)
    exact ⟨_, _, rfl, hn, fun i hi => ⟨g, 0, rfl, hlt, by rw [Nat.zero_add]; exact FRow.cell h (flat2_x ks i hi), by rw [Nat.zero_add]; exact FRow.cell h (flat2_y ks i hi)⟩⟩
end
theorem Tryd.infoKnot : (Tryd.prog.info? 77).map (fun i => (i.zero, i.size, i.bytes)) = some (some (.agg #[.int .i64 0, .int .i64 0]), 2, 16) := by kernel_rfl
end Go.Proofs.YtmbglkholoblaaaDoor
