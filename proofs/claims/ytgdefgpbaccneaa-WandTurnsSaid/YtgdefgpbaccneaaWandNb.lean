/- wand.neighbors. -/
import Derived.Test.YtgdefgpbaccneaaWandBox
import Derived.Test.YtgdefgpbaccneaaFloodMath
namespace Go.Proofs.Ytgdefgpbaccneaa
open Go.RowKit

theorem imake8 (w : World) {ops : Array Oper} {rest : List Oper} {o : Oper} {a : Act} {Q : Exit → Act → World → Prop} (hgd : o.guard = none) (l c : Operand)
    (ho : o.op = .makeSlice 27 l c) (B : Nat) (hl : a.eval l = .int .i64 0) (hc : a.eval c = .int .i64 8) (hB : B ≤ w.heap.size)
    (h : ∀ w', IRow w' B (.slice (some ⟨w.heap.size, 0, none⟩) 0 8) [] → Below w.heap.size w w' → wpList Try.prog ops Q rest (a.put o.dst (.slice (some ⟨w.heap.size, 0, none⟩) 0 8)) w') : wpList Try.prog ops Q (o :: rest) a w := by
  obtain ⟨i0, hi0, hz0, hz1, hz2⟩ := info_parts Try.infoInt
  refine wpList_make_own w hgd l c 27 ho B 3 i0 _ 1 Try.underlying27 hi0 hz0 hz1 .i64 .i64 8 8 hl hc rfl (by rw [hz2]; omega) (by unfold maxLen; omega) hB fun w' h1 h2 => h w' h1 ?_
  exact ⟨h2.os, h2.tape, h2.output, h2.size, fun k hk => h2.block k hk (by simp)⟩

theorem nb1_skip {W H k dx dy : Int} {dg : Bool} (h : (dx = 0 ∧ dy = 0) ∨ (dx ≠ 0 ∧ dy ≠ 0 ∧ dg = false)) : nb1 W H k dg dx dy = [] := by unfold nb1; rw [if_pos h]
theorem nb1_out {W H k dx dy : Int} {dg : Bool} (h : ¬ ((dx = 0 ∧ dy = 0) ∨ (dx ≠ 0 ∧ dy ≠ 0 ∧ dg = false))) (h2 : ¬ (0 ≤ k % W + dx ∧ k % W + dx < W ∧ 0 ≤ k / W + dy ∧ k / W + dy < H)) : nb1 W H k dg dx dy = [] := by unfold nb1; rw [if_neg h, if_neg h2]
theorem nb1_in {W H k dx dy : Int} {dg : Bool} (h : ¬ ((dx = 0 ∧ dy = 0) ∨ (dx ≠ 0 ∧ dy ≠ 0 ∧ dg = false))) (h2 : 0 ≤ k % W + dx ∧ k % W + dx < W ∧ 0 ≤ k / W + dy ∧ k / W + dy < H) : nb1 W H k dg dx dy = [k + dy * W + dx] := by unfold nb1; rw [if_neg h, if_pos h2]
theorem nbnext {b : Nat} {dx : Int} (h : (b : Int) - 1 = dx) : Value.int .i64 (dx + 1) = .int .i64 (((b + 1 : Nat) : Int) - 1) := by congr 1; omega
theorem nbmeas {b : Nat} {dx : Int} (h : (b : Int) - 1 = dx) (hb : b < 3) : (2 - intOf (.int .i64 (dx + 1))).toNat < (2 - intOf (.int .i64 dx)).toNat := by simp [intOf]; omega
def NbPost (l : List Int) (w : World) (e : Ending) (w' : World) : Prop := ∃ v, e = .returned v ∧ IRow w' w.heap.size v l ∧ Below w.heap.size w w'
/-- The heads of the two loops. -/
def NbOut (W H k : Int) (dg : Bool) (w1 : World) (v dy : Value) (wr : World) : Prop :=
  ∃ a : Nat, a ≤ 3 ∧ dy = .int .i64 ((a : Int) - 1) ∧ IRow wr w1.heap.size v (nbAll W H k dg a) ∧ Below w1.heap.size w1 wr
def NbIn (W H k : Int) (dg : Bool) (a : Nat) (w1 : World) (v dx : Value) (wr : World) : Prop :=
  ∃ b : Nat, b ≤ 3 ∧ dx = .int .i64 ((b : Int) - 1) ∧ IRow wr w1.heap.size v (nbAll W H k dg a ++ nbRow W H k dg ((a : Int) - 1) b) ∧ Below w1.heap.size w1 wr

set_option maxRecDepth 8000 in
set_option maxHeartbeats 8000000 in
theorem neighbors_any (W H k : Int) (v0 : Value) (dg : Bool) (w : World) (hW : 0 < W ∧ W ≤ 256) (hH : 0 < H ∧ H ≤ 256) (hk : 0 ≤ k ∧ k < 65536) :
    Calls Try.prog 24 #[.agg #[.int .i64 W, .int .i64 H, v0], .int .i64 k, .bool dg] w (NbPost (nbAll W H k dg 3) w) := by
  have hx0 : 0 ≤ k % W := Int.emod_nonneg _ (by omega)
  have hx1 : k % W < W := Int.emod_lt_of_pos _ hW.1
  have hy0 : 0 ≤ k / W := Int.ediv_nonneg (by omega) (by omega)
  have hy1 : k / W ≤ k := Int.ediv_le_self _ (by omega)
  have htm : k.tmod W = k % W := Int.tmod_eq_emod_of_nonneg (by omega)
  have htd : k.tdiv W = k / W := Int.tdiv_eq_ediv_of_nonneg (by omega)
  have hwn : (W == 0) = false := by simp; omega
  have hwm : (W == -1) = false := by simp; omega
  go_enter Try.func24, Try.ntmps24
  go_wp2_with fail
  go_quiet (fail)
  have hI : ImgAt ((w.alloc (.cells #[.int .i64 W, .int .i64 H, v0] 24)).drewN nq) w.heap.size W H v0 := ImgAt.new w W H v0 _
  have hB : Below w.heap.size w ((w.alloc (.cells #[.int .i64 W, .int .i64 H, v0] 24)).drewN nq) := Below.drewN' (bel1 _ _) _
  generalize World.drewN (w.alloc _) nq = w1 at *
  have HI := Lib.hid hI; clear hI
  go_wp2_with (at_make; refine imake8 _ rfl _ _ rfl w1.heap.size rfl rfl (Nat.le_refl _) ?_; intro w3 hown hb3)
  go_loopw [9, 10] (NbOut W H k dg w1) (fun _ dy _ => (2 - intOf dy).toNat)
  case atStart => exact ⟨0, by omega, rfl, hown, hb3⟩
  case round =>
    obtain ⟨a, ha, rfl, hrow, hbr⟩ := hrel
    by_cases hlt : a < 3
    · have hm : -256 ≤ ((a : Int) - 1) * W ∧ ((a : Int) - 1) * W ≤ 256 := by
        match a, hlt with
        | 0, _ => simp; omega
        | 1, _ => simp
        | 2, _ => simp; omega
      have htA : decide ((a : Int) - 1 ≤ 1) = true := by rw [decide_eq_true_eq]; omega
      go_wp2_with fail
      clear htA
      go_loopw [9, 11] (NbIn W H k dg a w1) (fun _ dx _ => (2 - intOf dx).toNat)
      case atStart => exact ⟨0, by omega, rfl, by simpa [nbRow] using hrow, hbr⟩
      case round =>
        obtain ⟨b, hb, rfl, hrow2, hbr2⟩ := hrel
        by_cases hlb : b < 3
        · have hlen : (nbAll W H k dg a ++ nbRow W H k dg ((a : Int) - 1) b).length ≤ 1000000000000 := by
            have h1 := nbAll_len W H k dg a
            have h2 := nbRow_len W H k dg ((a : Int) - 1) b
            rw [List.length_append]; omega
          have HLEN := Lib.hid hlen; clear hlen
          have HSZ := Lib.hid hbr2.size
          have hbw2 := hbr2
          have HBR := Lib.hid hbr2; clear hbr2
          obtain ⟨j0, j1, j2, j3⟩ := HI.out.below hbw2; clear hbw2
          have HS := Lib.hid (nbRow_succ W H k dg ((a : Int) - 1) b)
          have hdxb : -1 ≤ (b : Int) - 1 ∧ (b : Int) - 1 ≤ 1 := by omega
          have hdyb : -1 ≤ (a : Int) - 1 ∧ (a : Int) - 1 ≤ 1 := by omega
          clear hrow hbr hown hb3 htm htd hwn hwm
          have HR2 := Lib.hid hrow2; clear hrow2
          generalize hdx : (b : Int) - 1 = dx at *
          generalize hdy : (a : Int) - 1 = dy at *
          have HDX := Lib.hid hdx; clear hdx
          have HDY := Lib.hid hdy; clear hdy
          by_cases hx : dx = 0
          · by_cases hy : dy = 0
            · have tx : (dx == 0) = true := by simp [hx]
              have ty : (dy == 0) = true := by simp [hy]
              have HK := Lib.hid (And.intro hx hy); clear hx hy
              go_wp2_with fail
              go_roundw
              case rel => exact ⟨b + 1, by omega, nbnext HDX.out, by rw [HDY.out, HS.out, nb1_skip (.inl HK.out)]; simpa using HR2.out, HBR.out⟩
              case measure => (have hq := HDX.out; simp [intOf]; omega)
            · have tx : (dx == 0) = true := by simp [hx]
              have ty : (dy == 0) = false := by simp [hy]
              have tx' : (dx != 0) = false := by simp [hx]
              have HK := Lib.hid (show ¬ ((dx = 0 ∧ dy = 0) ∨ (dx ≠ 0 ∧ dy ≠ 0 ∧ dg = false)) by simp [hx, hy]); clear hx hy
              rcases (show k % W + dx < 0 ∨ (0 ≤ k % W + dx ∧ W ≤ k % W + dx) ∨ (0 ≤ k % W + dx ∧ k % W + dx < W ∧ k / W + dy < 0) ∨ (0 ≤ k % W + dx ∧ k % W + dx < W ∧ 0 ≤ k / W + dy ∧ H ≤ k / W + dy) ∨ (0 ≤ k % W + dx ∧ k % W + dx < W ∧ 0 ≤ k / W + dy ∧ k / W + dy < H) by omega) with h | ⟨h, h'⟩ | ⟨h, h', h''⟩ | ⟨h, h', h'', h3⟩ | ⟨h, h', h'', h3⟩
              · go_wp2_with fail
                go_roundw
                case rel => exact ⟨b + 1, by omega, nbnext HDX.out, by rw [HDY.out, HS.out, nb1_out HK.out (by omega)]; simpa using HR2.out, HBR.out⟩
                case measure => (have hq := HDX.out; simp [intOf]; omega)
              · go_wp2_with fail
                go_roundw
                case rel => exact ⟨b + 1, by omega, nbnext HDX.out, by rw [HDY.out, HS.out, nb1_out HK.out (by omega)]; simpa using HR2.out, HBR.out⟩
                case measure => (have hq := HDX.out; simp [intOf]; omega)
              · go_wp2_with fail
                go_roundw
                case rel => exact ⟨b + 1, by omega, nbnext HDX.out, by rw [HDY.out, HS.out, nb1_out HK.out (by omega)]; simpa using HR2.out, HBR.out⟩
                case measure => (have hq := HDX.out; simp [intOf]; omega)
              · go_wp2_with fail
                go_roundw
                case rel => exact ⟨b + 1, by omega, nbnext HDX.out, by rw [HDY.out, HS.out, nb1_out HK.out (by omega)]; simpa using HR2.out, HBR.out⟩
                case measure => (have hq := HDX.out; simp [intOf]; omega)
              · go_wp2_with (at_builtin; refine push_new _ rfl _ _ rfl w1.heap.size _ _ rfl HR2.out _ rfl HLEN.out HSZ.out ?_; intro v' w5 hown5 hbw)
                go_roundw
                case rel => exact ⟨b + 1, by omega, nbnext HDX.out, by rw [HDY.out, HS.out, nb1_in HK.out ⟨h, h', h'', h3⟩, ← List.append_assoc]; exact hown5, HBR.out.trans hbw⟩
                case measure => (have hq := HDX.out; simp [intOf]; omega)
          · have tx : (dx == 0) = false := by simp [hx]
            have tx' : (dx != 0) = true := by simp [hx]
            by_cases hy : dy = 0
            · have ty' : (dy != 0) = false := by simp [hy]
              have HK := Lib.hid (show ¬ ((dx = 0 ∧ dy = 0) ∨ (dx ≠ 0 ∧ dy ≠ 0 ∧ dg = false)) by simp [hx, hy]); clear hx hy
              rcases (show k % W + dx < 0 ∨ (0 ≤ k % W + dx ∧ W ≤ k % W + dx) ∨ (0 ≤ k % W + dx ∧ k % W + dx < W ∧ k / W + dy < 0) ∨ (0 ≤ k % W + dx ∧ k % W + dx < W ∧ 0 ≤ k / W + dy ∧ H ≤ k / W + dy) ∨ (0 ≤ k % W + dx ∧ k % W + dx < W ∧ 0 ≤ k / W + dy ∧ k / W + dy < H) by omega) with h | ⟨h, h'⟩ | ⟨h, h', h''⟩ | ⟨h, h', h'', h3⟩ | ⟨h, h', h'', h3⟩
              · go_wp2_with fail
                go_roundw
                case rel => exact ⟨b + 1, by omega, nbnext HDX.out, by rw [HDY.out, HS.out, nb1_out HK.out (by omega)]; simpa using HR2.out, HBR.out⟩
                case measure => (have hq := HDX.out; simp [intOf]; omega)
              · go_wp2_with fail
                go_roundw
                case rel => exact ⟨b + 1, by omega, nbnext HDX.out, by rw [HDY.out, HS.out, nb1_out HK.out (by omega)]; simpa using HR2.out, HBR.out⟩
                case measure => (have hq := HDX.out; simp [intOf]; omega)
              · go_wp2_with fail
                go_roundw
                case rel => exact ⟨b + 1, by omega, nbnext HDX.out, by rw [HDY.out, HS.out, nb1_out HK.out (by omega)]; simpa using HR2.out, HBR.out⟩
                case measure => (have hq := HDX.out; simp [intOf]; omega)
              · go_wp2_with fail
                go_roundw
                case rel => exact ⟨b + 1, by omega, nbnext HDX.out, by rw [HDY.out, HS.out, nb1_out HK.out (by omega)]; simpa using HR2.out, HBR.out⟩
                case measure => (have hq := HDX.out; simp [intOf]; omega)
              · go_wp2_with (at_builtin; refine push_new _ rfl _ _ rfl w1.heap.size _ _ rfl HR2.out _ rfl HLEN.out HSZ.out ?_; intro v' w5 hown5 hbw)
                go_roundw
                case rel => exact ⟨b + 1, by omega, nbnext HDX.out, by rw [HDY.out, HS.out, nb1_in HK.out ⟨h, h', h'', h3⟩, ← List.append_assoc]; exact hown5, HBR.out.trans hbw⟩
                case measure => (have hq := HDX.out; simp [intOf]; omega)
            · have ty' : (dy != 0) = true := by simp [hy]
              cases dg
              · have HK := Lib.hid (And.intro hx hy); clear hx hy
                go_wp2_with fail
                go_roundw
                case rel => exact ⟨b + 1, by omega, nbnext HDX.out, by rw [HDY.out, HS.out, nb1_skip (.inr ⟨HK.out.1, HK.out.2, rfl⟩)]; simpa using HR2.out, HBR.out⟩
                case measure => (have hq := HDX.out; simp [intOf]; omega)
              · have HK := Lib.hid (show ¬ ((dx = 0 ∧ dy = 0) ∨ (dx ≠ 0 ∧ dy ≠ 0 ∧ true = false)) by simp [hx]); clear hx hy
                rcases (show k % W + dx < 0 ∨ (0 ≤ k % W + dx ∧ W ≤ k % W + dx) ∨ (0 ≤ k % W + dx ∧ k % W + dx < W ∧ k / W + dy < 0) ∨ (0 ≤ k % W + dx ∧ k % W + dx < W ∧ 0 ≤ k / W + dy ∧ H ≤ k / W + dy) ∨ (0 ≤ k % W + dx ∧ k % W + dx < W ∧ 0 ≤ k / W + dy ∧ k / W + dy < H) by omega) with h | ⟨h, h'⟩ | ⟨h, h', h''⟩ | ⟨h, h', h'', h3⟩ | ⟨h, h', h'', h3⟩
                · go_wp2_with fail
                  go_roundw
                  case rel => exact ⟨b + 1, by omega, nbnext HDX.out, by rw [HDY.out, HS.out, nb1_out HK.out (by omega)]; simpa using HR2.out, HBR.out⟩
                  case measure => (have hq := HDX.out; simp [intOf]; omega)
                · go_wp2_with fail
                  go_roundw
                  case rel => exact ⟨b + 1, by omega, nbnext HDX.out, by rw [HDY.out, HS.out, nb1_out HK.out (by omega)]; simpa using HR2.out, HBR.out⟩
                  case measure => (have hq := HDX.out; simp [intOf]; omega)
                · go_wp2_with fail
                  go_roundw
                  case rel => exact ⟨b + 1, by omega, nbnext HDX.out, by rw [HDY.out, HS.out, nb1_out HK.out (by omega)]; simpa using HR2.out, HBR.out⟩
                  case measure => (have hq := HDX.out; simp [intOf]; omega)
                · go_wp2_with fail
                  go_roundw
                  case rel => exact ⟨b + 1, by omega, nbnext HDX.out, by rw [HDY.out, HS.out, nb1_out HK.out (by omega)]; simpa using HR2.out, HBR.out⟩
                  case measure => (have hq := HDX.out; simp [intOf]; omega)
                · go_wp2_with (at_builtin; refine push_new _ rfl _ _ rfl w1.heap.size _ _ rfl HR2.out _ rfl HLEN.out HSZ.out ?_; intro v' w5 hown5 hbw)
                  go_roundw
                  case rel => exact ⟨b + 1, by omega, nbnext HDX.out, by rw [HDY.out, HS.out, nb1_in HK.out ⟨h, h', h'', h3⟩, ← List.append_assoc]; exact hown5, HBR.out.trans hbw⟩
                  case measure => (have hq := HDX.out; simp [intOf]; omega)
        · obtain rfl : b = 3 := by omega
          go_wp2_with fail
          go_roundw
          case rel => exact ⟨a + 1, by omega, by go_num, by rw [nbAll_succ]; exact hrow2, hbr2⟩
          case measure => simp [intOf]; omega
    · obtain rfl : a = 3 := by omega
      go_wp2_with fail
      go_ret
      exact ⟨_, rfl, World.ownsRow.mono hrow hB.size, bel_trans hB hbr⟩
end Go.Proofs.Ytgdefgpbaccneaa
