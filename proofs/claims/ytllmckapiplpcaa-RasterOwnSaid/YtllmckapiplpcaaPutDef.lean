/- Put: words, and the plain law. -/
import Derived.Test.YtllmckapiplpcaaPCopy
namespace Go.Proofs.Ytllmckapiplpcaa
open Go.RowKit

/-- The pixels of the image, when the first k pixels of the part have been put. -/
def putN (W H pw ax ay : Int) (ps qs : List Px) : Nat → List Px
  | 0 => ps
  | k + 1 => if 0 ≤ ax + (k : Int) % pw ∧ ax + (k : Int) % pw < W ∧ 0 ≤ ay + (k : Int) / pw ∧ ay + (k : Int) / pw < H
      then (putN W H pw ax ay ps qs k).set ((ay + (k : Int) / pw) * W + (ax + (k : Int) % pw)).toNat (pat qs k) else putN W H pw ax ay ps qs k
def putF (W H : Int) (ps : List Px) (pw ph : Int) (qs : List Px) (ax ay : Int) (x y : Int) : Px :=
  if 0 ≤ x - ax ∧ x - ax < pw ∧ 0 ≤ y - ay ∧ y - ay < ph then pick pw ph qs (x - ax) (y - ay) else pick W H ps x y
def putL (W H : Int) (ps : List Px) (pw ph : Int) (qs : List Px) (ax ay : Int) : List Px := gridL W H (putF W H ps pw ph qs ax ay)
theorem putN_length (W H pw ax ay : Int) (ps qs : List Px) : ∀ k, (putN W H pw ax ay ps qs k).length = ps.length
  | 0 => rfl
  | k + 1 => by
    unfold putN
    split
    · rw [List.length_set]; exact putN_length W H pw ax ay ps qs k
    · exact putN_length W H pw ax ay ps qs k
theorem pat_set (l : List Px) (i j : Nat) (p : Px) (h : i < l.length) : pat (l.set i p) j = if i = j then p else pat l j := by
  unfold pat
  rw [List.getD_eq_getElem?_getD, List.getD_eq_getElem?_getD, List.getElem?_set]
  split
  · simp
  · rfl
theorem flat_inj {W x y x' y' : Int} (hx : 0 ≤ x ∧ x < W) (hx' : 0 ≤ x' ∧ x' < W) (h : y * W + x = y' * W + x') : x = x' ∧ y = y' := by
  have a := place_mod (w := W) (x := x) (y := y) hx
  have b := place_mod (w := W) (x := x') (y := y') hx'
  rw [h] at a
  exact ⟨a.1.symm.trans b.1, a.2.symm.trans b.2⟩
theorem putN_pat {W H pw ph ax ay : Int} {ps qs : List Px} (i : IOk W H ps) (p : IOk pw ph qs) {x y : Int} (hx : 0 ≤ x ∧ x < W) (hy : 0 ≤ y ∧ y < H) : ∀ k, k ≤ qs.length →
    pat (putN W H pw ax ay ps qs k) (y * W + x).toNat = if 0 ≤ x - ax ∧ x - ax < pw ∧ 0 ≤ y - ay ∧ (y - ay) * pw + (x - ax) < k then pat qs ((y - ay) * pw + (x - ax)).toNat else pat ps (y * W + x).toNat
  | 0, _ => by
    rw [if_neg]
    · rfl
    · rintro ⟨h1, h2, h3, h4⟩
      have := Int.mul_nonneg h3 (show 0 ≤ pw by omega)
      omega
  | k + 1, hk => by
    have ih := putN_pat (ax := ax) (ay := ay) i p hx hy k (by omega)
    have hpl := p.n
    have hkp : k < (pw * ph).toNat := by omega
    have hpw := pos_of hkp p.w0
    have hpp := place_of hkp hpw
    have hkk := Int.mul_ediv_add_emod (k : Int) pw
    rw [Int.mul_comm] at hkk
    have hi := idx_lt (W := W) (H := H) (x := x) (y := y) ⟨hx.1, hx.2, hy.1, hy.2⟩
    have hin := i.n
    unfold putN
    by_cases c : 0 ≤ ax + (k : Int) % pw ∧ ax + (k : Int) % pw < W ∧ 0 ≤ ay + (k : Int) / pw ∧ ay + (k : Int) / pw < H
    · rw [if_pos c]
      have hi2 := idx_lt c
      rw [pat_set _ _ _ _ (by rw [putN_length]; omega)]
      by_cases e : ((ay + (k : Int) / pw) * W + (ax + (k : Int) % pw)).toNat = (y * W + x).toNat
      · rw [if_pos e]
        have e2 := flat_inj (W := W) ⟨c.1, c.2.1⟩ hx (show (ay + (k : Int) / pw) * W + (ax + (k : Int) % pw) = y * W + x by omega)
        have e3 : x - ax = (k : Int) % pw := by omega
        have e4 : y - ay = (k : Int) / pw := by omega
        rw [e3, e4, if_pos ⟨hpp.1.1, hpp.1.2, hpp.2.1, by omega⟩, hkk, Int.toNat_natCast]
      · rw [if_neg e, ih]
        by_cases d : 0 ≤ x - ax ∧ x - ax < pw ∧ 0 ≤ y - ay ∧ (y - ay) * pw + (x - ax) < k
        · rw [if_pos d, if_pos ⟨d.1, d.2.1, d.2.2.1, by omega⟩]
        · rw [if_neg d, if_neg]
          rintro ⟨d1, d2, d3, d4⟩
          have d5 : (y - ay) * pw + (x - ax) = (k : Int) := by omega
          have f := place_mod (w := pw) (x := x - ax) (y := y - ay) ⟨d1, d2⟩
          rw [d5] at f
          exact e (by rw [f.1, f.2, show ay + (y - ay) = y by omega, show ax + (x - ax) = x by omega])
    · rw [if_neg c, ih]
      by_cases d : 0 ≤ x - ax ∧ x - ax < pw ∧ 0 ≤ y - ay ∧ (y - ay) * pw + (x - ax) < k
      · rw [if_pos d, if_pos ⟨d.1, d.2.1, d.2.2.1, by omega⟩]
      · rw [if_neg d, if_neg]
        rintro ⟨d1, d2, d3, d4⟩
        have d5 : (y - ay) * pw + (x - ax) = (k : Int) := by omega
        have f := place_mod (w := pw) (x := x - ax) (y := y - ay) ⟨d1, d2⟩
        rw [d5] at f
        exact c (by rw [f.1, f.2, show ay + (y - ay) = y by omega, show ax + (x - ax) = x by omega]; omega)
theorem put_all {W H pw ph ax ay : Int} {ps qs : List Px} (i : IOk W H ps) (p : IOk pw ph qs) : putN W H pw ax ay ps qs qs.length = putL W H ps pw ph qs ax ay := by
  have hin := i.n
  have hpn := p.n
  refine list_ext_pat (by rw [putN_length, putL, grid_length]; omega) fun k hk => ?_
  rw [putN_length] at hk
  have hkp : k < (W * H).toNat := by omega
  have hW := pos_of hkp i.w0
  have hp := place_of hkp hW
  have hkk := Int.mul_ediv_add_emod (k : Int) W
  rw [Int.mul_comm] at hkk
  have h1 := putN_pat (ax := ax) (ay := ay) i p (x := (k : Int) % W) (y := (k : Int) / W) hp.1 hp.2 qs.length (Nat.le_refl _)
  rw [hkk, Int.toNat_natCast] at h1
  rw [h1, putL, grid_pat _ _ _ _ hkp, putF]
  generalize (k : Int) % W = x at *
  generalize (k : Int) / W = y at *
  have hpick : pick W H ps x y = pat ps k := by rw [pick_in ⟨hp.1.1, hp.1.2, hp.2.1, hp.2.2⟩, hkk, Int.toNat_natCast]
  rw [hpick]
  by_cases d : 0 ≤ x - ax ∧ x - ax < pw ∧ 0 ≤ y - ay ∧ y - ay < ph
  · have := idx_lt d
    rw [if_pos d, if_pos ⟨d.1, d.2.1, d.2.2.1, by omega⟩, pick_in d]
  · rw [if_neg d, if_neg]
    rintro ⟨d1, d2, d3, d4⟩
    apply d
    refine ⟨d1, d2, d3, ?_⟩
    rcases Int.lt_or_le (y - ay) ph with c | c
    · exact c
    · have := Int.mul_le_mul_of_nonneg_right c (show 0 ≤ pw by omega)
      rw [Int.mul_comm] at this
      omega
theorem putF_ok {W H pw ph ax ay : Int} {ps qs : List Px} (i : IOk W H ps) (p : IOk pw ph qs) (x y : Int) : (putF W H ps pw ph qs ax ay x y).ok := by
  unfold putF
  split
  · exact pick_ok p _ _
  · exact pick_ok i _ _
def PutRel (L : Nat → List Px) (m g B n : Nat) (w0 : World) (gh : Nat) (i : Value) (wr : World) : Prop :=
  ∃ k : Nat, k ≤ m ∧ gh = m - k ∧ i = .int .i64 k ∧ PRow wr B (.slice (some ⟨g, 0, none⟩) n n) (L k) ∧ KB w0.heap.size g w0 wr
def clampC (x : Int) : Int := min (max x (-1048576)) 1048576
theorem clampC_bd (x : Int) : -1048576 ≤ clampC x ∧ clampC x ≤ 1048576 := by unfold clampC; omega
theorem four_boxes (w : World) (vs us ts rs : Array Value) (t u v r : TypeId) (w0 : World) (hw : w0 = (((w.alloc (.cells vs t)).alloc (.cells us u)).alloc (.cells ts v)).alloc (.cells rs r)) :
    Bx w0 w.heap.size t vs ∧ Bx w0 (w.heap.size + 1) u us ∧ Bx w0 (w.heap.size + 1 + 1) v ts ∧ Bx w0 (w.heap.size + 1 + 1 + 1) r rs ∧ Below w.heap.size w w0 ∧ w0.heap.size = w.heap.size + 4 := by
  obtain ⟨a, b, c, d, e⟩ := three_boxes w vs us ts t u v _ rfl
  have f := Bx.new (((w.alloc (.cells vs t)).alloc (.cells us u)).alloc (.cells ts v)) r rs
  rw [e] at f
  subst hw
  exact ⟨a.alloc _, b.alloc _, c.alloc _, f, bel_alloc d _, by rw [World.size_alloc, e]⟩
/-- The error of Put. -/
def perr (W H : Int) (ps : List Px) (pw ph : Int) (qs : List Px) : Int := if ichk W H ps = 0 then ichk pw ph qs else ichk W H ps
end Go.Proofs.Ytllmckapiplpcaa
