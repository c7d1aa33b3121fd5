/- An image's pixels are filled one after the other: words for such a loop; New and its reference. -/
import Derived.Test.YtmbglkholoblaaaDoorRas1
namespace Go.Proofs.YtmbglkholoblaaaDoor
open Go.RowKit

section
variable {w w' : World} {B g n cap : Nat} {ps : List Px}
theorem PRow.len (h : PRow w B (.slice (some ⟨g, 0, none⟩) n cap) ps) : ps.length = n := by
  obtain ⟨A, c, e⟩ := h.shape
  injection e with _ e _
  exact e.symm
theorem PRow.put (h : PRow w B (.slice (some ⟨g, 0, none⟩) n cap) ps) (k : Nat) (hk : k < n) (p : Px) :
    PRow ((((w.setCell ⟨g, k * 4, none⟩ (.int .i64 p.r)).setCell ⟨g, k * 4 + 1, none⟩ (.int .i64 p.g)).setCell ⟨g, k * 4 + 2, none⟩ (.int .i64 p.b)).setCell ⟨g, k * 4 + 3, none⟩ (.int .i64 p.a)) B (.slice (some ⟨g, 0, none⟩) n cap) (ps.set k p) := by
  obtain rfl := h.len
  have h1 : FRow 25 4 w B (.slice (some ⟨g, 0, none⟩) ps.length cap) ps.length (flat4 ps) := h
  have h2 := (((h1.stored (k * 4) p.r).stored (k * 4 + 1) p.g).stored (k * 4 + 2) p.b).stored (k * 4 + 3) p.a
  unfold PRow
  rw [List.length_set, flat4_set ps k p hk]
  exact h2
theorem PRow.at4 (h : PRow w B (.slice (some ⟨g, 0, none⟩) n cap) ps) {k : Nat} (hk : k < n) :
    (w.cell? ⟨g, k * 4, none⟩ = some (.int .i64 (pat ps k).r) ∧ w.cell? ⟨g, k * 4 + 1, none⟩ = some (.int .i64 (pat ps k).g) ∧ w.cell? ⟨g, k * 4 + 2, none⟩ = some (.int .i64 (pat ps k).b) ∧ w.cell? ⟨g, k * 4 + 3, none⟩ = some (.int .i64 (pat ps k).a)) ∧
    (w.frozen? ⟨g, k * 4, none⟩ = false ∧ w.frozen? ⟨g, k * 4 + 1, none⟩ = false ∧ w.frozen? ⟨g, k * 4 + 2, none⟩ = false ∧ w.frozen? ⟨g, k * 4 + 3, none⟩ = false) := by
  obtain rfl := h.len
  have h1 : FRow 25 4 w B (.slice (some ⟨g, 0, none⟩) ps.length cap) ps.length (flat4 ps) := h
  have hh := flat4_get ps k hk
  exact ⟨⟨h1.cell hh.1, h1.cell hh.2.1, h1.cell hh.2.2.1, h1.cell hh.2.2.2⟩, h1.frozen _, h1.frozen _, h1.frozen _, h1.frozen _⟩
theorem PRow.lo (h : PRow w B (.slice (some ⟨g, 0, none⟩) n cap) ps) : B ≤ g ∧ g < w.heap.size := World.ownsRow.lt h g rfl
end
section
variable {B g g' : Nat} {a w : World}
theorem KB.bx {t : TypeId} {vs : Array Value} (h : KB B g a w) (hb : Bx a g' t vs) (hl : g' < B) (hn : g' ≠ g) : Bx w g' t vs := (h.block g' hl hn).trans hb
theorem KB.pixs {v : Value} {ps : List Px} {B' : Nat} (h : KB B g a w) (hp : Pixs a B' v ps) (h1 : B' ≤ g) (h2 : B' ≤ B) : Pixs w B' v ps := hp.keep fun b o hb => h.cell (Nat.lt_of_lt_of_le hb h2) (by omega)
theorem KB.set4 (h : KB B g a w) (j0 j1 j2 j3 : Nat) (x y z u : Value) : KB B g a ((((w.setCell ⟨g, j0, none⟩ x).setCell ⟨g, j1, none⟩ y).setCell ⟨g, j2, none⟩ z).setCell ⟨g, j3, none⟩ u) := (((h.set _ _).set _ _).set _ _).set _ _
end
/-- The head of a loop that fills the pixels of a new image. -/
def FillRel (l : List Px) (g B n : Nat) (w0 : World) (gh : Nat) (i : Value) (wr : World) : Prop :=
  ∃ k : Nat, k ≤ l.length ∧ gh = l.length - k ∧ i = .int .i64 k ∧ PRow wr B (.slice (some ⟨g, 0, none⟩) n n) (partD Px.zero l k) ∧ KB w0.heap.size g w0 wr
theorem FillRel.start {l : List Px} {g B n : Nat} {w0 : World} (hn : l.length = n) (h : PRow w0 B (.slice (some ⟨g, 0, none⟩) n n) (List.replicate n Px.zero)) : FillRel l g B n w0 n (.int .i64 0) w0 :=
  ⟨0, Nat.zero_le _, by omega, rfl, by rw [partD_zero, hn]; exact h, KB.refl _ _ _⟩
theorem part_put {l : List Px} {g B n cap k : Nat} {w : World} (hk : k < l.length) (hn : l.length = n) (h : PRow w B (.slice (some ⟨g, 0, none⟩) n cap) (partD Px.zero l k)) {p : Px} (hp : pat l k = p) :
    PRow ((((w.setCell ⟨g, k * 4, none⟩ (.int .i64 p.r)).setCell ⟨g, k * 4 + 1, none⟩ (.int .i64 p.g)).setCell ⟨g, k * 4 + 2, none⟩ (.int .i64 p.b)).setCell ⟨g, k * 4 + 3, none⟩ (.int .i64 p.a)) B (.slice (some ⟨g, 0, none⟩) n cap) (partD Px.zero l (k + 1)) := by
  rw [← partD_set Px.zero l k hk, show l.getD k Px.zero = p from hp]
  exact h.put k (by omega) p
/-- An image and an error. -/
def ImPost (err W H : Int) (ps : List Px) (w : World) (e : Ending) (w' : World) : Prop :=
  ∃ A n c, e = .returned (.tuple #[.agg #[.int .i64 W, .int .i64 H, .slice A n c], .int .i64 err]) ∧ PRow w' w.heap.size (.slice A n c) ps ∧ Below w.heap.size w w'
def ImOut (err W H : Int) (ps : List Px) : World → Ending → World → Prop := ImPost err (if err = 0 then W else 0) (if err = 0 then H else 0) (if err = 0 then ps else [])
theorem imOut_err {err W H : Int} {l : List Px} (h : err ≠ 0) : ImOut err W H l = ImPost err 0 0 [] := by unfold ImOut; simp [h]
theorem imOut_of {err W H : Int} {l : List Px} {w w' : World} {e : Ending} (h : err ≠ 0) (hp : ImPost err 0 0 [] w e w') : ImOut err W H l w e w' := by rw [imOut_err h]; exact hp
theorem imOut_ok (W H : Int) (l : List Px) : ImOut 0 W H l = ImPost 0 W H l := by unfold ImOut; simp
theorem PRow.set3 {w : World} {B B' g : Nat} {v : Value} {ps : List Px} (h : PRow w B v ps) (hg : g < B) (hB : B' ≤ B) (a b c : Value) : PRow (((w.setCell ⟨g, 0, none⟩ a).setCell ⟨g, 1, none⟩ b).setCell ⟨g, 2, none⟩ c) B' v ps :=
  ((h.set hg (Nat.le_refl _)).set hg (Nat.le_refl _)).set hg hB
theorem one_box (w : World) (vs : Array Value) (t : TypeId) (w0 : World) (hw : w0 = w.alloc (.cells vs t)) : Bx w0 w.heap.size t vs ∧ Below w.heap.size w w0 ∧ w0.heap.size = w.heap.size + 1 := by
  subst hw
  exact ⟨Bx.new w t vs, bel1 _ _, World.size_alloc _ _⟩
/-- The error of New. -/
def nerr (W H : Int) (p : Px) : Int := if sized W H then (if pxOk p then 0 else 2) else 15
theorem sized_nat {W H : Int} (h : sized W H = true) : ∃ n : Nat, W * H = n ∧ n ≤ 65536 ∧ (W * H).toNat = n := ⟨(W * H).toNat, by have := wh_bd W H h; omega, by have := wh_bd W H h; omega, rfl⟩
theorem pat_rep (n k : Nat) (p : Px) (h : k < n) : pat (List.replicate n p) k = p := by simp [pat, h]

theorem three_boxes (w : World) (vs us ts : Array Value) (t u v : TypeId) (w0 : World) (hw : w0 = ((w.alloc (.cells vs t)).alloc (.cells us u)).alloc (.cells ts v)) :
    Bx w0 w.heap.size t vs ∧ Bx w0 (w.heap.size + 1) u us ∧ Bx w0 (w.heap.size + 1 + 1) v ts ∧ Below w.heap.size w w0 ∧ w0.heap.size = w.heap.size + 3 := by
  obtain ⟨a, b, c⟩ := two_boxes w vs us t u _ rfl
  have d := Bx.new ((w.alloc (.cells vs t)).alloc (.cells us u)) v ts
  rw [World.size_alloc, World.size_alloc] at d
  subst hw
  exact ⟨a.alloc _, b.alloc _, d, bel_alloc c _, by rw [World.size_alloc, World.size_alloc, World.size_alloc]⟩
theorem Bx.other4 {w : World} {g g' : Nat} {t : TypeId} {vs : Array Value} (h : Bx w g t vs) (hne : g ≠ g') (j0 j1 j2 j3 : Nat) (a b c d : Value) : Bx ((((w.setCell ⟨g', j0, none⟩ a).setCell ⟨g', j1, none⟩ b).setCell ⟨g', j2, none⟩ c).setCell ⟨g', j3, none⟩ d) g t vs := (((h.other hne _ _).other hne _ _).other hne _ _).other hne _ _
theorem wrap_in (n : Int) (h : -9223372036854775808 ≤ n ∧ n ≤ 9223372036854775807) : IntKind.i64.wrap n = n := by rw [IntKind.wrap_i64]; omega
theorem pos_of {w h : Int} {k : Nat} (hk : k < (w * h).toNat) (hw : 0 ≤ w) : 0 < w := by
  rcases Int.lt_or_eq_of_le hw with c | c
  · exact c
  · rw [← c, Int.zero_mul] at hk; simp at hk
end Go.Proofs.YtmbglkholoblaaaDoor
