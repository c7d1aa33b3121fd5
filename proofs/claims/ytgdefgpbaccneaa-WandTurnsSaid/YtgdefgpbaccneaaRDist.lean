/- The reference's Dist: the same. -/
import Derived.Test.YtgdefgpbaccneaaDist
import Derived.Test.YtgdefgpbaccneaaRow
namespace Go.Proofs.Ytgdefgpbaccneaa
open Go.RowKit

/-- The greatest of the first k numbers of a list, and 0. -/
def mxTo (l : List Int) : Nat → Int
  | 0 => 0
  | k + 1 => if mxTo l k < l.getD k 0 then l.getD k 0 else mxTo l k
theorem mx_four (a b c d : Int) (ha : 0 ≤ a) : mxTo [a, b, c, d] 4 = max (max (max a b) c) d := by
  simp only [mxTo, List.getD_cons_zero, List.getD_cons_succ]
  (repeat' split) <;> omega
def RDistRel (l : List Int) (w : World) (n i : Value) (wr : World) : Prop := ∃ k : Nat, k ≤ 4 ∧ i = .int .i64 k ∧ n = .int .i64 (mxTo l k) ∧ wr = w
/-- Between the two statements: both boxes hold the limited pixels. -/
def rdistMid (r g b a r' g' b' a' : Int) (w wx : World) : Prop :=
  wx.cell? ⟨w.heap.size, 0, none⟩ = some (.int .i64 (lim16 r)) ∧ wx.cell? ⟨w.heap.size, 1, none⟩ = some (.int .i64 (lim16 g)) ∧ wx.cell? ⟨w.heap.size, 2, none⟩ = some (.int .i64 (lim16 b)) ∧ wx.cell? ⟨w.heap.size, 3, none⟩ = some (.int .i64 (lim16 a)) ∧
  wx.cell? ⟨w.heap.size + 1, 0, none⟩ = some (.int .i64 (lim16 r')) ∧ wx.cell? ⟨w.heap.size + 1, 1, none⟩ = some (.int .i64 (lim16 g')) ∧ wx.cell? ⟨w.heap.size + 1, 2, none⟩ = some (.int .i64 (lim16 b')) ∧ wx.cell? ⟨w.heap.size + 1, 3, none⟩ = some (.int .i64 (lim16 a')) ∧ Below w.heap.size w wx
set_option maxHeartbeats 4000000 in
theorem rdist_any (r g b a r' g' b' a' : Int) (w : World) :
    Calls Try.prog 26 #[.agg #[.int .i64 r, .int .i64 g, .int .i64 b, .int .i64 a], .agg #[.int .i64 r', .int .i64 g', .int .i64 b', .int .i64 a']] w fun e w' => e = .returned (.int .i64 (dist ⟨r, g, b, a⟩ ⟨r', g', b', a'⟩)) ∧ Below w.heap.size w w' := by
  go_enter Try.func26, Try.ntmps26
  go_upto_region 1 with fail
  go_cut [] (rdistMid r g b a r' g' b' a' w)
  case first =>
    go_region_with (go_at_call 43; refine (rlimit_any _ _ _ _ _).mono ?_; rintro e w4 ⟨rfl, hbw4⟩; obtain ⟨hz4, hz5, hz6⟩ := size_on (n := w.heap.size) (by first | exact size_two _ _ _ | assumption) hbw4; obtain ⟨hc4, hf4⟩ := below_rules hbw4)
    all_goals
      go_wp2_with fail
      go_meet
      have hB : Below w.heap.size w w4 := by
        refine Below.trans (b := _) ?_ (Below.mono (by assumption) (by omega))
        refine Below.trans (b := _) ?_ (Below.mono (by assumption) (by simp; omega))
        exact (bel_alloc (bel_alloc (Below.refl _ _) _) _).drew
      have hlt2 : w.heap.size < w.heap.size + 1 + 1 := by omega
      obtain ⟨q0, q1, q2, q3, q4, q5, q6, q7⟩ := mid8 w4 w.heap.size (.int .i64 (lim16 r)) (.int .i64 (lim16 g)) (.int .i64 (lim16 b)) (.int .i64 (lim16 a)) (.int .i64 (lim16 r')) (.int .i64 (lim16 g')) (.int .i64 (lim16 b')) (.int .i64 (lim16 a')) (.int .i64 r) (.int .i64 g) (.int .i64 b) (.int .i64 a) (.int .i64 r') (.int .i64 g') (.int .i64 b') (.int .i64 a') (by simp [*]) (by simp [*]) (by simp [*]) (by simp [*]) (by simp [*]) (by simp [*]) (by simp [*]) (by simp [*]) _ rfl
      exact ⟨q0, q1, q2, q3, q4, q5, q6, q7, ((((((((hB.setCell (p := ⟨w.heap.size, 0, none⟩) (Nat.le_refl _) _).setCell (p := ⟨w.heap.size, 1, none⟩) (Nat.le_refl _) _).setCell (p := ⟨w.heap.size, 2, none⟩) (Nat.le_refl _) _).setCell (p := ⟨w.heap.size, 3, none⟩) (Nat.le_refl _) _).setCell (p := ⟨w.heap.size + 1, 0, none⟩) (Nat.le_succ _) _).setCell (p := ⟨w.heap.size + 1, 1, none⟩) (Nat.le_succ _) _).setCell (p := ⟨w.heap.size + 1, 2, none⟩) (Nat.le_succ _) _).setCell (p := ⟨w.heap.size + 1, 3, none⟩) (Nat.le_succ _) _)⟩
  case rest =>
    obtain ⟨c0, c1, c2, c3, d0, d1, d2, d3, hbel⟩ := hcut
    have E : Hid (dist ⟨r, g, b, a⟩ ⟨r', g', b', a'⟩ = max (max (max (dif (lim16 r) (lim16 r')) (dif (lim16 g) (lim16 g'))) (dif (lim16 b) (lim16 b'))) (dif (lim16 a) (lim16 a'))) := rfl
    have b1 := lim16_bd r
    have b2 := lim16_bd g
    have b3 := lim16_bd b
    have b4 := lim16_bd a
    have b5 := lim16_bd r'
    have b6 := lim16_bd g'
    have b7 := lim16_bd b'
    have b8 := lim16_bd a'
    generalize lim16 r = x0 at *
    generalize lim16 g = x1 at *
    generalize lim16 b = x2 at *
    generalize lim16 a = x3 at *
    generalize lim16 r' = y0 at *
    generalize lim16 g' = y1 at *
    generalize lim16 b' = y2 at *
    generalize lim16 a' = y3 at *
    have hd0 := dif_bd x0 y0 (by omega) (by omega)
    have hd1 := dif_bd x1 y1 (by omega) (by omega)
    have hd2 := dif_bd x2 y2 (by omega) (by omega)
    have hd3 := dif_bd x3 y3 (by omega) (by omega)
    go_wp2_with fail
    go_region_held3 (fun w' => w'.cell? ⟨w.heap.size, 0, none⟩ = some (.int .i64 x0) ∧ w'.cell? ⟨w.heap.size, 1, none⟩ = some (.int .i64 x1) ∧ w'.cell? ⟨w.heap.size, 2, none⟩ = some (.int .i64 x2) ∧ w'.cell? ⟨w.heap.size, 3, none⟩ = some (.int .i64 x3) ∧
        w'.cell? ⟨w.heap.size + 1, 0, none⟩ = some (.int .i64 y0) ∧ w'.cell? ⟨w.heap.size + 1, 1, none⟩ = some (.int .i64 y1) ∧ w'.cell? ⟨w.heap.size + 1, 2, none⟩ = some (.int .i64 y2) ∧ w'.cell? ⟨w.heap.size + 1, 3, none⟩ = some (.int .i64 y3))
      (go_keep)
      ((go_at_call 44; refine (gap_any _ _ _ (by omega) (by omega)).mono ?_; rintro e w5 ⟨rfl, rfl⟩))
    go_wp2_with fail
    have HCN : Hid (∀ j u, [dif x0 y0, dif x1 y1, dif x2 y2, dif x3 y3][j]? = some u → ((wc.alloc (.cells #[.int .i64 (dif x0 y0), .int .i64 (dif x1 y1), .int .i64 (dif x2 y2), .int .i64 (dif x3 y3)] 3)).drew).cell? ⟨wc.heap.size, j, none⟩ = some (.int .i64 u)) := cells_new wc 3 [dif x0 y0, dif x1 y1, dif x2 y2, dif x3 y3]
    have HMX := Lib.hid (mx_four (dif x0 y0) (dif x1 y1) (dif x2 y2) (dif x3 y3) hd0.1)
    have hBW : Below w.heap.size w ((wc.alloc (.cells #[.int .i64 (dif x0 y0), .int .i64 (dif x1 y1), .int .i64 (dif x2 y2), .int .i64 (dif x3 y3)] 3)).drew) := (hbel.alloc hbel.size _).drew
    go_loopw [6, 35] (RDistRel [dif x0 y0, dif x1 y1, dif x2 y2, dif x3 y3] ((wc.alloc (.cells #[.int .i64 (dif x0 y0), .int .i64 (dif x1 y1), .int .i64 (dif x2 y2), .int .i64 (dif x3 y3)] 3)).drew)) (fun _ i _ => 4 - (intOf i).toNat)
    case atStart => exact ⟨0, by omega, rfl, rfl, rfl⟩
    case round =>
      generalize ((wc.alloc (.cells #[.int .i64 (dif x0 y0), .int .i64 (dif x1 y1), .int .i64 (dif x2 y2), .int .i64 (dif x3 y3)] 3)).drew) = W at *
      generalize hl : [dif x0 y0, dif x1 y1, dif x2 y2, dif x3 y3] = l at *
      have hln : l.length = 4 := by rw [← hl]; rfl
      clear hl
      obtain ⟨k, hk, rfl, rfl, rfl⟩ := hrel
      by_cases hlt : k < 4
      · have hc := HCN.out k (l.getD k 0) (by have : k < l.length := by { rw [hln]; exact hlt }; simp [this])
        have HS : Hid (mxTo l (k + 1) = if mxTo l k < l.getD k 0 then l.getD k 0 else mxTo l k) := rfl
        generalize l.getD k 0 = x at *
        generalize mxTo l k = m at *
        clear hln
        by_cases hq : m < x
        · go_wp2_with fail
          go_roundw
          case rel => exact ⟨k + 1, by omega, by go_num, by rw [HS.out, if_pos hq], rfl⟩
          case measure => simp [intOf]; omega
        · go_wp2_with fail
          go_roundw
          case rel => exact ⟨k + 1, by omega, by go_num, by rw [HS.out, if_neg hq], rfl⟩
          case measure => simp [intOf]; omega
      · obtain rfl : k = 4 := by omega
        go_wp2_with fail
        go_ret
        exact ⟨ret_int (by rw [E.out, HMX.out]), hBW⟩
end Go.Proofs.Ytgdefgpbaccneaa
