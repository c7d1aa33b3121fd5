/- Slices of pixels of the call's own. -/
import Derived.Test.YtmbglkholoblaaaDoorRow
import Derived.Test.YtmbglkholoblaaaDoorImgMem
import Derived.Deep.OwnRows
import Derived.Deep.Onto
namespace Go.Proofs.YtmbglkholoblaaaDoor
open Go.RowKit

/-- The cells of a list of pixels. -/
def flat4 (ps : List Px) : List Int := ps.flatMap fun p => [p.r, p.g, p.b, p.a]
theorem flat4_nil : flat4 [] = [] := rfl
theorem flat4_cons (p : Px) (ps : List Px) : flat4 (p :: ps) = p.r :: p.g :: p.b :: p.a :: flat4 ps := rfl
theorem flat4_append (ps qs : List Px) : flat4 (ps ++ qs) = flat4 ps ++ flat4 qs := by simp [flat4]
theorem flat4_length (ps : List Px) : (flat4 ps).length = ps.length * 4 := by
  induction ps with
  | nil => rfl
  | cons p ps ih => rw [flat4_cons]; simp only [List.length_cons, ih]; omega
theorem flat4_get (ps : List Px) (i : Nat) (h : i < ps.length) : (flat4 ps)[i * 4]? = some (pat ps i).r ∧ (flat4 ps)[i * 4 + 1]? = some (pat ps i).g ∧ (flat4 ps)[i * 4 + 2]? = some (pat ps i).b ∧ (flat4 ps)[i * 4 + 3]? = some (pat ps i).a := by
  induction ps generalizing i with
  | nil => simp at h
  | cons p ps ih =>
    cases i with
    | zero => exact ⟨rfl, rfl, rfl, rfl⟩
    | succ i =>
      have hi := ih i (by simpa using h)
      have e : (i + 1) * 4 = i * 4 + 1 + 1 + 1 + 1 := by omega
      have ep : pat (p :: ps) (i + 1) = pat ps i := by simp [pat]
      rw [flat4_cons, e, ep]
      exact hi
theorem flat4_set (ps : List Px) (i : Nat) (p : Px) (h : i < ps.length) : flat4 (ps.set i p) = ((((flat4 ps).set (i * 4) p.r).set (i * 4 + 1) p.g).set (i * 4 + 2) p.b).set (i * 4 + 3) p.a := by
  induction ps generalizing i with
  | nil => simp at h
  | cons q ps ih =>
    cases i with
    | zero => rfl
    | succ i =>
      have hi := ih i (by simpa using h)
      have e : (i + 1) * 4 = i * 4 + 1 + 1 + 1 + 1 := by omega
      rw [List.set_cons_succ, flat4_cons, hi, flat4_cons, e]
      rfl
theorem flat4_rep (n : Nat) : flat4 (List.replicate n Px.zero) = List.replicate (n * 4) 0 := by
  induction n with
  | zero => rfl
  | succ n ih =>
    rw [List.replicate_succ, flat4_cons, ih, show (n + 1) * 4 = n * 4 + 1 + 1 + 1 + 1 by omega]
    rfl
/-- The slice value v is the call's own and holds the pixels ps. -/
def PRow (w : World) (B : Nat) (v : Value) (ps : List Px) : Prop := FRow 25 4 w B v ps.length (flat4 ps)
section
variable {w w' : World} {B B' : Nat} {v : Value} {ps : List Px}
theorem PRow.nil (w : World) (B : Nat) : PRow w B (.slice none 0 0) [] := FRow.nil _ _ _ _
theorem PRow.drewN (h : PRow w B v ps) (n : Nat) : PRow (w.drewN n) B v ps := h
theorem PRow.drew (h : PRow w B v ps) : PRow w.drew B v ps := h
theorem PRow.alloc (h : PRow w B v ps) (o : Obj) : PRow (w.alloc o) B v ps := FRow.alloc h o
theorem PRow.below (h : PRow w B v ps) (hb : Below w.heap.size w w') : PRow w' B v ps := FRow.below h hb
theorem PRow.mono (h : PRow w B v ps) (hB : B' ≤ B) : PRow w B' v ps := World.ownsRow.mono h hB
theorem PRow.shape (h : PRow w B v ps) : ∃ A cap, v = .slice A ps.length cap := FRow.shape h
theorem PRow.set {g k : Nat} {u : Value} (h : PRow w B v ps) (hg : g < B) (hB : B' ≤ B) : PRow (w.setCell ⟨g, k, none⟩ u) B' v ps :=
  World.ownsRow.mono (ownsRow_setCell_below h (a := ⟨g, k, none⟩) hg u) hB
theorem PRow.pixs (h : PRow w B v ps) : Pixs w w.heap.size v ps := by
  have h0 := h
  rcases h with ⟨hl, ⟨rfl, hn⟩ | ⟨g, cap, cur, rfl, hB, hg, hnc, hcm, hcs, ht⟩⟩
  · have : ps = [] := List.eq_nil_of_length_eq_zero hn
    subst this
    exact Pixs.nil _ _
  · refine ⟨_, _, rfl, by unfold maxLen at hcm; omega, fun i hi => ⟨g, 0, rfl, (World.ownsRow.lt h0 g rfl).2, ?_⟩⟩
    have hh := flat4_get ps i hi
    have h1 : FRow 25 4 w B (.slice (some ⟨g, 0, none⟩) ps.length cap) ps.length (flat4 ps) := h0
    simp only [Nat.zero_add]
    exact ⟨h1.cell hh.1, h1.cell hh.2.1, h1.cell hh.2.2.1, h1.cell hh.2.2.2⟩
end
theorem Tryd.infoPx : (Tryd.prog.info? 25).map (fun i => (i.zero, i.size, i.bytes)) = some (some (.agg #[.int .i64 0, .int .i64 0, .int .i64 0, .int .i64 0]), 4, 32) := by kernel_rfl
/-- append(v, p), p in a new block. -/
theorem ppush (w : World) {ops : Array Oper} {rest : List Oper} {o : Oper} {a : Act} {Q : Exit → Act → World → Prop} (hgd : o.guard = none) (s x : Operand)
    (ho : o.op = .call { callee := .builtin .append, args := #[s, x], argTypes := #[43, 43] }) (B : Nat) (v : Value) (ps : List Px) (hs : a.eval s = v) (hown : PRow w B v ps)
    (p : Px) (gx : Nat) (hx : a.eval x = .slice (some ⟨gx, 0, none⟩) 1 1) (hgx : gx = w.heap.size) (hl : ps.length ≤ 1000000000000) (hB : B ≤ w.heap.size)
    (h : ∀ v' w', PRow w' B v' (ps ++ [p]) → Below B w w' → wpList Tryd.prog ops Q rest (a.put o.dst v') w') :
    wpList Tryd.prog ops Q (o :: rest) a (w.alloc (.cells #[.int .i64 p.r, .int .i64 p.g, .int .i64 p.b, .int .i64 p.a] 25)) := by
  subst hgx
  obtain ⟨i0, hi0, hz0, hz1, hz2⟩ := info_parts Tryd.infoPx
  refine fpush 25 4 43 32 i0 _ Tryd.underlying43 hi0 hz0 hz1 hz2 rfl (by omega) (by omega) _ hgd s x ho B v ps.length (flat4 ps) hs (FRow.alloc hown _) w.heap.size [p.r, p.g, p.b, p.a] hx rfl ?_ hl (Nat.le_trans hB (by simp)) fun v' w' h1 h2 => h v' w' ?_ (((Below.refl _ _).alloc hB _).trans h2)
  · exact cells_new w 25 [p.r, p.g, p.b, p.a]
  · unfold PRow
    rw [List.length_append, flat4_append]
    exact h1
end Go.Proofs.YtmbglkholoblaaaDoor
