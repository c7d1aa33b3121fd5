/- Boxes of images, numbers and masks; the shape of the answers. -/
import Derived.Test.YtgdefgpbaccneaaWandMe
namespace Go.Proofs.Ytgdefgpbaccneaa
open Go.RowKit

def ImgAt (w : World) (b : Nat) (W H : Int) (v : Value) : Prop :=
  b < w.heap.size ∧ w.cell? ⟨b, 0, none⟩ = some (.int .i64 W) ∧ w.cell? ⟨b, 1, none⟩ = some (.int .i64 H) ∧ w.cell? ⟨b, 2, none⟩ = some v
def IntAt (w : World) (b : Nat) (x : Int) : Prop := b < w.heap.size ∧ w.cell? ⟨b, 0, none⟩ = some (.int .i64 x)
def BoxAt (w : World) (b : Nat) (W H : Int) (v : Value) : Prop :=
  ImgAt w b W H v ∧ w.frozen? ⟨b, 0, none⟩ = false ∧ w.frozen? ⟨b, 1, none⟩ = false ∧ w.frozen? ⟨b, 2, none⟩ = false
section
variable {w w' : World} {b : Nat} {W H : Int} {v : Value} {x : Int}
theorem ImgAt.below (h : ImgAt w b W H v) (hb : Below w.heap.size w w') : ImgAt w' b W H v := by
  obtain ⟨h0, h1, h2, h3⟩ := h
  exact ⟨Nat.lt_of_lt_of_le h0 hb.size, (hb.cell (p := ⟨b, 0, none⟩) h0).trans h1, (hb.cell (p := ⟨b, 1, none⟩) h0).trans h2, (hb.cell (p := ⟨b, 2, none⟩) h0).trans h3⟩
theorem IntAt.below (h : IntAt w b x) (hb : Below w.heap.size w w') : IntAt w' b x := by
  obtain ⟨h0, h1⟩ := h
  exact ⟨Nat.lt_of_lt_of_le h0 hb.size, (hb.cell (p := ⟨b, 0, none⟩) h0).trans h1⟩
theorem BoxAt.below (h : BoxAt w b W H v) (hb : Below w.heap.size w w') : BoxAt w' b W H v := by
  obtain ⟨h0, h1, h2, h3⟩ := h
  exact ⟨h0.below hb, (hb.frozen (p := ⟨b, 0, none⟩) h0.1).trans h1, (hb.frozen (p := ⟨b, 1, none⟩) h0.1).trans h2, (hb.frozen (p := ⟨b, 2, none⟩) h0.1).trans h3⟩
theorem ImgAt.new (w : World) (W H : Int) (v : Value) (t : TypeId) : ImgAt (w.alloc (.cells #[.int .i64 W, .int .i64 H, v] t)) w.heap.size W H v := ⟨by simp, by simp, by simp, by simp⟩
theorem BoxAt.new (w : World) (W H : Int) (v : Value) (t : TypeId) : BoxAt (w.alloc (.cells #[.int .i64 W, .int .i64 H, v] t)) w.heap.size W H v := ⟨ImgAt.new _ _ _ _ _, by simp, by simp, by simp⟩
theorem IntAt.new (w : World) (x : Int) (t : TypeId) : IntAt (w.alloc (.cells #[.int .i64 x] t)) w.heap.size x := ⟨by simp, by simp⟩
theorem PxAt.new (w : World) (p : Px) (t : TypeId) : PxAt (w.alloc (.cells #[.int .i64 p.r, .int .i64 p.g, .int .i64 p.b, .int .i64 p.a] t)) w.heap.size p := ⟨by simp, by simp, by simp, by simp, by simp⟩
theorem ImgAt.drew (h : ImgAt w b W H v) : ImgAt w.drew b W H v := h
theorem IntAt.drew (h : IntAt w b x) : IntAt w.drew b x := h
theorem BoxAt.drew (h : BoxAt w b W H v) : BoxAt w.drew b W H v := h
end
/-- The world at hand grew from w by one block. -/
theorem bel1 (w : World) (o : Obj) : Below w.heap.size w (w.alloc o) := bel_alloc (Below.refl _ _) _

/-- A mask and an error. -/
def MkPost (err W H : Int) (l : List Int) (w : World) (e : Ending) (w' : World) : Prop :=
  ∃ v, e = .returned (.tuple #[.agg #[.int .i64 W, .int .i64 H, v], .int .i64 err]) ∧ IRow w' w.heap.size v l ∧ Below w.heap.size w w'
def MkOut (err W H : Int) (l : List Int) : World → Ending → World → Prop := MkPost err (if err = 0 then W else 0) (if err = 0 then H else 0) (if err = 0 then l else [])
theorem mkOut_err {err W H : Int} {l : List Int} (h : err ≠ 0) : MkOut err W H l = MkPost err 0 0 [] := by unfold MkOut; simp [h]
theorem mkOut_of {err W H : Int} {l : List Int} {w w' : World} {e : Ending} (h : err ≠ 0) (hp : MkPost err 0 0 [] w e w') : MkOut err W H l w e w' := by rw [mkOut_err h]; exact hp
theorem mkOut_ok (W H : Int) (l : List Int) : MkOut 0 W H l = MkPost 0 W H l := by unfold MkOut; simp
/-- The error of Similar, of Soft. -/
def serr (chk : Int) (ok : Bool) : Int := if chk = 0 then (if ok then 0 else 2) else chk
def serr2 (chk : Int) (ok : Bool) (n f : Int) : Int := if chk = 0 then (if ok then (if n < f then 0 else 24) else 2) else chk
theorem serr_chk {chk : Int} (ok : Bool) (h : chk ≠ 0) : serr chk ok = chk := by unfold serr; rw [if_neg h]
theorem serr2_chk {chk : Int} (ok : Bool) (n f : Int) (h : chk ≠ 0) : serr2 chk ok n f = chk := by unfold serr2; rw [if_neg h]
theorem ent_sim (args : Array Value) (w : World) : (callFunc 32 args).run Try.prog w = .ok (.enter 32 args) w := by simp [go_sem]
theorem ent_soft (args : Array Value) (w : World) : (callFunc 34 args).run Try.prog w = .ok (.enter 34 args) w := by simp [go_sem]
theorem ent_opq (args : Array Value) (w : World) : (callFunc 37 args).run Try.prog w = .ok (.enter 37 args) w := by simp [go_sem]

theorem irow_shape {w : World} {B : Nat} {v : Value} {l : List Int} (h : IRow w B v l) : ∃ A cap, v = .slice A l.length cap := by
  rcases h with ⟨hl, ⟨rfl, hn⟩ | ⟨g, cap, cur, rfl, _⟩⟩
  · exact ⟨_, _, by rw [hn]⟩
  · exact ⟨_, _, rfl⟩
theorem irow_set {w : World} {B B' g k : Nat} {v u : Value} {l : List Int} (h : IRow w B v l) (hg : g < B) (hB : B' ≤ B) : IRow (w.setCell ⟨g, k, none⟩ u) B' v l :=
  World.ownsRow.mono (ownsRow_setCell_below h (a := ⟨g, k, none⟩) hg u) hB
theorem ichk_len (W H : Int) (ps : List Px) (h : ichk W H ps = 0) : ps.length ≤ 65536 := by
  have i := (ichk_iff W H ps).1 h
  have e1 : W * H ≤ 256 * 256 := Int.mul_le_mul i.w1 i.h1 i.h0 (by omega)
  have := i.n
  omega

set_option maxHeartbeats 2000000 in
theorem opaque_any (W H : Int) (A : Option Addr) (n c : Nat) (ps : List Px) (w : World) (h : Pixs w w.heap.size (.slice A n c) ps) :
    Calls Try.prog 17 #[.agg #[.int .i64 W, .int .i64 H, .slice A n c]] w (MkOut (ichk W H ps) W H (ps.map Px.a) w) := by
  obtain rfl := h.len
  have HP := Lib.hid h; clear h
  have HL := Lib.hid (ichk_len W H ps)
  have HD := Lib.hid (show ichk W H ps = 0 ∨ ichk W H ps ≠ 0 by omega)
  generalize hE : ichk W H ps = ch at *
  have HE := Lib.hid hE; clear hE
  go_enter Try.func17, Try.ntmps17
  go_wp2_with fail
  have hI := (ImgAt.new w W H (.slice A ps.length c) 24).below (bel1 _ (.cells #[.int .i64 0, .int .i64 0, .slice none 0 0] 29))
  have hR := BoxAt.new (w.alloc (.cells #[.int .i64 W, .int .i64 H, .slice A ps.length c] 24)) 0 0 (.slice none 0 0) 29
  rw [World.size_alloc] at hR
  have hB := bel_trans (bel1 w (.cells #[.int .i64 W, .int .i64 H, .slice A ps.length c] 24)) (bel1 _ (.cells #[.int .i64 0, .int .i64 0, .slice none 0 0] 29))
  generalize World.alloc (w.alloc _) _ = w0 at *
  refine (icheck_any W H A ps.length c ps _ (HP.out.on hB)).mono ?_
  rintro e w1 ⟨rfl, hb1⟩
  rw [HE.out]
  have hB1 := bel_trans hB hb1
  obtain ⟨i0, i1, i2, i3⟩ := hI.below hb1
  obtain ⟨⟨r0, r1, r2, r3⟩, f0, f1, f2⟩ := hR.below hb1
  rcases HD.out with rfl | hc
  · have hl := HL.out rfl
    go_wp2_with fail
    refine (measured_any W H A ps.length c ps 37 #[] Px.a w1 (HP.out.on hB1) hl ent_opq (fun p W' _ => by simpa using opqcl_any p W')).mono ?_
    rintro e w2 ⟨v, rfl, hrow, hb2⟩
    have hB2 := bel_trans hB1 hb2
    obtain ⟨⟨g0, g1, g2, g3⟩, k0, k1, k2⟩ := (hR.below hb1).below hb2
    obtain ⟨A', cap, rfl⟩ := irow_shape hrow
    have HRW := Lib.hid hrow; clear hrow
    clear hb1 hb2 hI hR i0 i1 i2 i3
    go_wp2_with fail
    refine bodyPost_ret (v := .tuple #[.agg #[.int .i64 W, .int .i64 H, .slice A' (ps.map Px.a).length cap], .int .i64 0]) (by simp [results, Try.results17, go_sem, g1, g2, g3]) rfl ⟨_, rfl, ?_, ?_⟩
    · exact irow_set (irow_set (irow_set HRW.out r0 (Nat.le_refl _)) r0 (Nat.le_refl _)) r0 hB1.size
    · exact ((hB2.setCell (p := ⟨w.heap.size + 1, 0, none⟩) (Nat.le_succ _) _).setCell (p := ⟨w.heap.size + 1, 1, none⟩) (Nat.le_succ _) _).setCell (p := ⟨w.heap.size + 1, 2, none⟩) (Nat.le_succ _) _
  · have hne : (ch != 0) = true := by simp [hc]
    clear hb1 hI hR
    go_wp2_with fail
    refine bodyPost_ret (v := .tuple #[.agg #[.int .i64 0, .int .i64 0, .slice none 0 0], .int .i64 ch]) (by simp [results, Try.results17, go_sem, r1, r2, r3]) rfl (mkOut_of hc ⟨.slice none 0 0, rfl, IRow.nil _ _, ?_⟩)
    exact ((hB1.setCell (p := ⟨w.heap.size + 1, 0, none⟩) (Nat.le_succ _) _).setCell (p := ⟨w.heap.size + 1, 1, none⟩) (Nat.le_succ _) _).setCell (p := ⟨w.heap.size + 1, 2, none⟩) (Nat.le_succ _) _
end Go.Proofs.Ytgdefgpbaccneaa
