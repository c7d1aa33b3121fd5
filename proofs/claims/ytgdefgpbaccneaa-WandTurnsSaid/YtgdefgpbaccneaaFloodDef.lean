/- The answer of a flood, and the heads of the program's loops. -/
import Derived.Test.YtgdefgpbaccneaaWandNb
import Derived.Test.YtgdefgpbaccneaaKeep
import Derived.Test.YtgdefgpbaccneaaWandSim
namespace Go.Proofs.Ytgdefgpbaccneaa
open Go.RowKit

def simP (ps : List Px) (t : Int) (s b : Nat) : Prop := dist (pat ps b) (pat ps s) ≤ t
def ferr (chk W H x y : Int) (u : Bool) : Int := if chk = 0 then (if 0 ≤ x ∧ x < W ∧ 0 ≤ y ∧ y < H ∧ u = true then 0 else 2) else chk
theorem ferr_chk {chk : Int} (W H x y : Int) (u : Bool) (h : chk ≠ 0) : ferr chk W H x y u = chk := by unfold ferr; rw [if_neg h]
theorem ferr_no {W H x y : Int} {u : Bool} (h : ¬ (0 ≤ x ∧ x < W ∧ 0 ≤ y ∧ y < H ∧ u = true)) : ferr 0 W H x y u = 2 := by unfold ferr; rw [if_pos rfl, if_neg h]
theorem ferr_ok {W H x y : Int} {u : Bool} (h : 0 ≤ x ∧ x < W ∧ 0 ≤ y ∧ y < H ∧ u = true) : ferr 0 W H x y u = 0 := by unfold ferr; rw [if_pos rfl, if_pos h]
/-- The answer of Flood. -/
def FlOut (W H x y t : Int) (dg : Bool) (ps : List Px) (chk : Int) (w : World) (e : Ending) (w' : World) : Prop :=
  ∃ l, (ferr chk W H x y (uok t) = 0 → FloodIs ps.length W dg (simP ps t (y * W + x).toNat) (y * W + x).toNat l) ∧ MkOut (ferr chk W H x y (uok t)) W H l w e w'
theorem flOut_err {W H x y t : Int} {dg : Bool} {ps : List Px} {chk err : Int} {w w' : World} {e : Ending} (h : ferr chk W H x y (uok t) = err) (hn : err ≠ 0) (hp : MkPost err 0 0 [] w e w') : FlOut W H x y t dg ps chk w e w' :=
  ⟨[], fun h0 => absurd (h.symm.trans h0) hn, by rw [h]; exact mkOut_of hn hp⟩

def PtAt (w : World) (b : Nat) (x y : Int) : Prop := b < w.heap.size ∧ w.cell? ⟨b, 0, none⟩ = some (.int .i64 x) ∧ w.cell? ⟨b, 1, none⟩ = some (.int .i64 y)
theorem PtAt.below {w w' : World} {b : Nat} {x y : Int} (h : PtAt w b x y) (hb : Below w.heap.size w w') : PtAt w' b x y := by
  obtain ⟨h0, h1, h2⟩ := h
  exact ⟨Nat.lt_of_lt_of_le h0 hb.size, (hb.cell (p := ⟨b, 0, none⟩) h0).trans h1, (hb.cell (p := ⟨b, 1, none⟩) h0).trans h2⟩
theorem PtAt.new (w : World) (x y : Int) (t : TypeId) : PtAt (w.alloc (.cells #[.int .i64 x, .int .i64 y] t)) w.heap.size x y := ⟨by simp, by simp, by simp⟩
theorem boxesF (w : World) (W H x y : Int) (v : Value) (w0 : World)
    (hw : w0 = ((w.alloc (.cells #[.int .i64 W, .int .i64 H, v] 24)).alloc (.cells #[.int .i64 x, .int .i64 y] 26)).alloc (.cells #[.int .i64 0, .int .i64 0, .slice none 0 0] 29)) :
    ImgAt w0 w.heap.size W H v ∧ PtAt w0 (w.heap.size + 1) x y ∧ BoxAt w0 (w.heap.size + 2) 0 0 (.slice none 0 0) ∧ Below w.heap.size w w0 := by
  subst hw
  have a := ImgAt.new w W H v 24
  have b := PtAt.new (w.alloc (.cells #[.int .i64 W, .int .i64 H, v] 24)) x y 26
  have d := BoxAt.new ((w.alloc (.cells #[.int .i64 W, .int .i64 H, v] 24)).alloc (.cells #[.int .i64 x, .int .i64 y] 26)) 0 0 (.slice none 0 0) 29
  simp only [World.size_alloc] at b d
  exact ⟨(a.below (bel1 _ _)).below (bel1 _ _), b.below (bel1 _ _), d, bel_alloc (bel_alloc (bel1 _ _) _) _⟩
section
variable {w w' : World} {b B g : Nat} {W H : Int} {v : Value} {p : Px}
theorem ImgAt.kb (h : ImgAt w b W H v) (hk : KB B g w w') (h1 : b < B) (h2 : b ≠ g) : ImgAt w' b W H v := by
  obtain ⟨h0, h3, h4, h5⟩ := h
  exact ⟨Nat.lt_of_lt_of_le h0 hk.size, (hk.cell h1 h2).trans h3, (hk.cell h1 h2).trans h4, (hk.cell h1 h2).trans h5⟩
theorem BoxAt.kb (h : BoxAt w b W H v) (hk : KB B g w w') (h1 : b < B) (h2 : b ≠ g) : BoxAt w' b W H v := by
  obtain ⟨h0, h3, h4, h5⟩ := h
  exact ⟨h0.kb hk h1 h2, (hk.frozen h1 h2).trans h3, (hk.frozen h1 h2).trans h4, (hk.frozen h1 h2).trans h5⟩
theorem PxAt.kb (h : PxAt w b p) (hk : KB B g w w') (h1 : b < B) (h2 : b ≠ g) : PxAt w' b p := by
  obtain ⟨h0, h3, h4, h5, h6⟩ := h
  exact ⟨Nat.lt_of_lt_of_le h0 hk.size, (hk.cell h1 h2).trans h3, (hk.cell h1 h2).trans h4, (hk.cell h1 h2).trans h5, (hk.cell h1 h2).trans h6⟩
end
/-- The heads of the program's two loops. -/
def FlRel (N : Nat) (W : Int) (dg : Bool) (sim : Nat → Prop) (s B0 gv : Nat) (w2 : World) (g : Nat) (v : Value) (wr : World) : Prop :=
  ∃ (M st : List Int) (p : Nat), DInv N W dg sim s M st p [] ∧ 2 * zeros M + st.length ≤ g ∧ st.length + zeros M ≤ N ∧ IRow wr B0 (.slice (some ⟨gv, 0, none⟩) N N) M ∧ IRow wr w2.heap.size v st ∧ KB w2.heap.size gv w2 wr
def FlIn (N : Nat) (W : Int) (dg : Bool) (sim : Nat → Prop) (s B0 gv : Nat) (w2 : World) (q : Nat) (l : List Int) (vn : Value) (B3 m0 : Nat) (g : Nat) (v i : Value) (wr : World) : Prop :=
  ∃ (j : Nat) (M st : List Int), j ≤ l.length ∧ g = l.length - j ∧ i = .int .i64 j ∧ DInv N W dg sim s M st q (l.drop j) ∧ 2 * zeros M + st.length + 1 ≤ m0 ∧ st.length + zeros M ≤ N ∧
    IRow wr B0 (.slice (some ⟨gv, 0, none⟩) N N) M ∧ IRow wr w2.heap.size v st ∧ IRow wr B3 vn l ∧ (∀ k, v.ownBlock = some k → vn.ownBlock ≠ some k) ∧ KB w2.heap.size gv w2 wr
/-- What the first statements leave: the mask, the pixel, the marks. -/
theorem flood_base {wc w2 : World} {gm gv n s B : Nat} {W H : Int} {p : Px} (hw : w2 = (wc.setCell ⟨gv, s, none⟩ (.int .i64 65535)).alloc (.cells #[.int .i64 p.r, .int .i64 p.g, .int .i64 p.b, .int .i64 p.a] 37))
    (hgm : gm < wc.heap.size) (hne : gm ≠ gv) (m0 : wc.cell? ⟨gm, 0, none⟩ = some (.int .i64 W)) (m1 : wc.cell? ⟨gm, 1, none⟩ = some (.int .i64 H)) (m2 : wc.cell? ⟨gm, 2, none⟩ = some (.slice (some ⟨gv, 0, none⟩) n n))
    (hrow : IRow wc B (.slice (some ⟨gv, 0, none⟩) n n) (List.replicate n 0)) :
    ImgAt w2 gm W H (.slice (some ⟨gv, 0, none⟩) n n) ∧ PxAt w2 wc.heap.size p ∧ IRow w2 B (.slice (some ⟨gv, 0, none⟩) n n) ((List.replicate n 0).set s 65535) ∧ KB wc.heap.size gv wc w2 ∧ w2.heap.size = wc.heap.size + 1 := by
  subst hw
  have hk : KB wc.heap.size gv wc ((wc.setCell ⟨gv, s, none⟩ (.int .i64 65535)).alloc (.cells #[.int .i64 p.r, .int .i64 p.g, .int .i64 p.b, .int .i64 p.a] 37)) := ((KB.refl _ _ _).set _ _).alloc _ (by simp)
  have hpx := PxAt.new (wc.setCell ⟨gv, s, none⟩ (.int .i64 65535)) p 37
  rw [size_set] at hpx
  exact ⟨ImgAt.kb ⟨hgm, m0, m1, m2⟩ hk hgm hne, hpx, (hrow.stored s 65535).1.alloc _, hk, by simp⟩
theorem IRow.made' (w : World) (B g : Nat) (x : Int) (hg : g = w.heap.size) (hB : B ≤ w.heap.size) : IRow (w.alloc (.cells #[.int .i64 x] 3)) B (.slice (some ⟨g, 0, none⟩) 1 1) [x] := by
  subst hg
  exact IRow.made w B [x] hB (by simp)
end Go.Proofs.Ytgdefgpbaccneaa
