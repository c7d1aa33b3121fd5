/- RasterOwn: an image as an argument, with what its slice weighs; the whole walk. -/
import Derived.Test.YtllmckapiplpcaaRasWC
import Derived.Test.YtllmckapiplpcaaRasOpen
namespace Go.Proofs.Ytllmckapiplpcaa
open Go.ChangeShapes Go.WideShapes Go.RowKit Go.Deep

def ImgS (w : World) (v : Value) (x : Int × Int × List Px) : Prop := ∃ A n c, v = .agg #[.int .i64 x.1, .int .i64 x.2.1, .slice A n c] ∧ Pixs w w.heap.size (.slice A n c) x.2.2 ∧ (A = none → c = 0) ∧ n * 32 ≤ 140737488355328
theorem bytesPx : Try.prog.bytesOf 26 = 32 := by kernel_rfl
theorem open_img_sized {H : Type} {enc : TypeId × Value → H} {W : World} {base b0 : Nat} {r : Reach} {v : Value} {d : DataW H} {p : List MemPlace} (hv : Value.okWide Try.prog W r b0 24 v) (h : DataW.Trod enc Try.prog W base (fun _ => true) true 24 v d p)
    {ts : List TypeId} {ds : List (DataW H)} {j : Nat} (ht : ts[j]? = some 24) (hd : ds[j]? = some d) (hw : (DataW.weightsEach Try.prog ts ds).all (· ≤ reachBytes) = true) : ∃ x, ImgS W v x := by
  obtain ⟨v0, v1, v2, y0, y1, y2, n, rfl, e1, e2, t0, t1, t2⟩ := Joins.open_agg3 Try.underlying24 (by kernel_rfl) (by kernel_rfl) hv h
  obtain ⟨a, ha, _, wa⟩ := DataW.trod_int Try.underlying3 t0
  obtain ⟨b, hb, _, wb⟩ := DataW.trod_int Try.underlying3 t1
  obtain ⟨A, n', c, ps, rfl, hp⟩ := open_pixs t2
  injection ha with ha _
  injection hb with hb _
  subst ha hb
  refine ⟨(a, b, ps), A, n', c, rfl, hp, ?_, ?_⟩
  · rcases open_slice Try.underlying22 t2 with ⟨hcs, _⟩ | ⟨a', len, cap, m, n2, D, Pl, hcs, _⟩
    · simp at hcs
      exact fun _ => hcs.2.2
    · simp at hcs
      intro e
      rw [e] at hcs
      exact absurd hcs.1 (by simp)
  · rcases open_slice Try.underlying22 t2 with ⟨hcs, _⟩ | ⟨a', len, cap, m, n2, D, Pl, hcs, _, hlc, _, _, hy, _⟩
    · simp at hcs
      rw [hcs.2.1]; omega
    · simp at hcs
      obtain ⟨_, rfl, _⟩ := hcs
      have hmem : (((List.range n').map D).length + ((List.range (m - n')).map fun j => D (n' + j)).length) * Try.prog.bytesOf 26 ∈ d.weights Try.prog 24 := by
        rw [e1]
        simp [DataW.weights, Try.underlying24, DataW.weightsEach, hy, Try.underlying22]
      have := List.all_eq_true.1 hw _ (DataW.weights_mem_each ht hd _ hmem)
      simp only [List.length_map, List.length_range, bytesPx, decide_eq_true_eq] at this
      have hr : reachBytes = 140737488351232 := rfl
      omega
theorem walk_own (v0 : Value) (x0 : Int × Int × List Px) (v1 : Value) (x1 : Int × Int × Int × Int) (w : World) (h0 : ImgS w v0 x0) (h1 : RcV v1 x1) :
    Calls Try.prog 14 #[v0, v1] w fun e w' => e = .returned (.bool true) ∧ Below w.heap.size w w' := by
  obtain ⟨A, n, c, rfl, hp, hnil, hby⟩ := h0
  obtain ⟨W, H, ps⟩ := x0
  obtain rfl := hp.len
  obtain ⟨rfl, _⟩ := h1
  obtain ⟨x, y, p, q⟩ := x1
  exact own_core W H A c ps x y p q _ _ _ _ _ _ _ _ _ _ _ _ w hp hnil hby (fun w' A' c' h => crop_any W H A' c' ps w' h x y p q) (fun w' h => put_any W H A c ps W H A c ps 0 0 w' h h) (fun w' h => flip_any W H A c ps w' h 2)
end Go.Proofs.Ytllmckapiplpcaa
