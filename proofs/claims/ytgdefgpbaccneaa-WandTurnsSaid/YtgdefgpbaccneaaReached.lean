/- The reference's search. -/
import Derived.Test.YtgdefgpbaccneaaBRow
import Derived.Test.YtgdefgpbaccneaaFloodDef
import Derived.Deep.LoopGhost
namespace Go.Proofs.Ytgdefgpbaccneaa
open Go.RowKit

def RePost (N : Nat) (W : Int) (dg : Bool) (sim : Nat → Prop) (s : Nat) (w : World) (e : Ending) (w' : World) : Prop :=
  ∃ v on, e = .returned v ∧ BRow w' w.heap.size v on ∧ FloodIs N W dg sim s (mkL on) ∧ Below w.heap.size w w'
/-- The heads of the loops. -/
def ReOut (N : Nat) (W : Int) (dg : Bool) (sim : Nat → Prop) (s B0 gv : Nat) (w2 : World) (g : Nat) (v i : Value) (wr : World) : Prop :=
  ∃ (k : Nat) (on : List Bool) (fd : List Int) (p : Nat), k ≤ fd.length ∧ i = .int .i64 k ∧ DInv N W dg sim s (mkL on) (fd.drop k) p [] ∧ 2 * zeros (mkL on) + (fd.length - k) ≤ g ∧ fd.length + zeros (mkL on) ≤ N ∧
    BRow wr B0 (.slice (some ⟨gv, 0, none⟩) N N) on ∧ IRow wr w2.heap.size v fd ∧ KB w2.heap.size gv w2 wr
def ReIn (N : Nat) (W : Int) (dg : Bool) (sim : Nat → Prop) (s B0 gv : Nat) (w2 : World) (k q m0 : Nat) (R : Nat → List Int) (g : Nat) (v d : Value) (wr : World) : Prop :=
  ∃ (a : Nat) (on : List Bool) (fd : List Int), a ≤ 3 ∧ g = 3 - a ∧ d = .int .i64 ((a : Int) - 1) ∧ k < fd.length ∧ DInv N W dg sim s (mkL on) (fd.drop (k + 1)) q (R a) ∧ 2 * zeros (mkL on) + (fd.length - (k + 1)) + 1 ≤ m0 ∧ fd.length + zeros (mkL on) ≤ N ∧
    BRow wr B0 (.slice (some ⟨gv, 0, none⟩) N N) on ∧ IRow wr w2.heap.size v fd ∧ KB w2.heap.size gv w2 wr
theorem cand_out {W H x y dx dy : Int} {dg : Bool} (h : ¬ (0 ≤ x + dx ∧ 0 ≤ y + dy ∧ x + dx < W ∧ y + dy < H ∧ (dg = true ∨ dx = 0 ∨ dy = 0))) : cand W H x y dg dx dy = [] := by unfold cand; rw [if_neg h]
theorem cand_in {W H x y dx dy : Int} {dg : Bool} (h : 0 ≤ x + dx ∧ 0 ≤ y + dy ∧ x + dx < W ∧ y + dy < H ∧ (dg = true ∨ dx = 0 ∨ dy = 0)) : cand W H x y dg dx dy = [(y + dy) * W + (x + dx)] := by unfold cand; rw [if_pos h]
theorem re_base {w w2 : World} {s n : Nat} (hw : w2 = w.alloc (.cells ((madeCells #[.bool false] n).setIfInBounds s (.bool true)) 4)) (hn : n ≤ 65536) :
    BRow w2 w.heap.size (.slice (some ⟨w.heap.size, 0, none⟩) n n) ((List.replicate n false).set s true) ∧ Below w.heap.size w w2 ∧ w2.heap.size = w.heap.size + 1 := by
  subst hw
  have h := (brow_made w w.heap.size n (Nat.le_refl _) (by omega)).stored s true
  simp only [World.setCell_alloc_new] at h
  exact ⟨h, bel1 _ _, by simp⟩

set_option maxRecDepth 100000 in
set_option maxHeartbeats 8000000 in
theorem reached_any (W H : Int) (s N : Nat) (v : Value) (sm : List Bool) (dg : Bool) (w : World) (hW : 0 < W ∧ W ≤ 256) (hH : 0 < H ∧ H ≤ 256) (hN : (N : Int) = W * H) (hs : s < N) (hsm : sm.length = N) (h : Bools w w.heap.size v sm) :
    Calls Try.prog 27 #[.int .i64 W, .int .i64 H, .int .i64 s, v, .bool dg] w (RePost N W dg (fun b => sm.getD b false = true) s w) := by
  have hNl : N ≤ 65536 := by
    have e2 : W * H ≤ 256 * 256 := Int.mul_le_mul hW.2 hH.2 (by omega) (by omega)
    omega
  subst hsm
  obtain ⟨A, c, rfl, hc⟩ := h
  obtain ⟨b, o, rfl, hb, _⟩ := hc s hs
  have HC := Lib.hid (show ∀ i, i < sm.length → w.cell? ⟨b, o + i, none⟩ = some (.bool (sm.getD i false)) from fun i hi => by
    obtain ⟨b', o', e, _, hx⟩ := hc i hi
    injection e with e
    injection e with e1 e2 _
    subst e1 e2
    exact hx)
  clear hc
  have HN := Lib.hid hN; clear hN
  have hmk : ∀ w, (Instr.makeSlice 49 (.int .i64 (sm.length : Int)) (.int .i64 (sm.length : Int))).run Try.prog w = .ok (.slice (some ⟨w.heap.size, 0, none⟩) sm.length sm.length) (w.alloc (.cells (madeCells #[.bool false] sm.length) 4)) :=
    fun w => run_make_row' 49 4 (.bool false) 1 Try.underlying49 Try.infoBool rfl .i64 .i64 sm.length (by omega) (by omega) w
  generalize hsim : (fun b => sm.getD b false = true) = sim
  have HSIM := Lib.hid (show ∀ b, sim b ↔ sm.getD b false = true from fun b => by rw [← hsim])
  clear hsim
  have hmade := brow_made w w.heap.size sm.length (Nat.le_refl _) (by omega)
  have k0 := hmade.cell (i := s) (by simpa using hs)
  have k1 := hmade.frozen s
  clear hmade
  go_enter Try.func27, Try.ntmps27
  go_wp2_with fail
  clear k0 k1 hmk
  obtain ⟨hON0, hB2, hsz2⟩ := re_base (w := w) (s := s) rfl hNl
  generalize World.alloc w _ = w2 at *
  have HON0 := Lib.hid hON0; have HSZ2 := Lib.hid hsz2; clear hON0 hsz2
  have HZ := Lib.hid (show zeros (mkL ((List.replicate sm.length false).set s true)) + 1 = sm.length by
    rw [mkL_set, mkL_rep, zeros_set _ _ (by simpa using hs) (by simp [List.getD_eq_getElem?_getD, hs])]; simp [zeros])
  go_loopg [12, 13] (2 * sm.length) (ReOut sm.length W dg sim s w.heap.size w.heap.size w2)
  case atStart =>
    refine ⟨0, _, [(s : Int)], s, by simp, rfl, by rw [mkL_set, mkL_rep]; exact dinv_start hs, ?_, ?_, HON0.out.alloc _, IRow.made' w2 w2.heap.size _ (s : Int) HSZ2.out.symm (Nat.le_refl _), (KB.refl _ _ _).alloc _ (Nat.le_refl _)⟩
    · have := HZ.out; simp only [List.length_singleton]; omega
    · have := HZ.out; simp only [List.length_singleton]; omega
  case round =>
    obtain ⟨k, on, fd, pp, hkl, rfl, hD, hms, hln, hON, hFD, hkb⟩ := hrel
    have HDI := Lib.hid hD; have HMS := Lib.hid hms; have HLN := Lib.hid hln; have HON := Lib.hid hON; have HKR := Lib.hid hkb; have HFD := Lib.hid hFD
    clear hD hms hln hON hkb hFD
    by_cases hlt : k < fd.length
    rotate_left
    · obtain rfl : k = fd.length := by omega
      obtain ⟨A1, cap1, rfl⟩ := irow_shape HFD.out
      go_wp2_with fail
      go_ret
      refine ⟨_, on, rfl, HON.out, ?_, HKR.out.toBelow hB2 (Nat.le_refl _) (by have := HSZ2.out; omega)⟩
      have hh := HDI.out
      rw [List.drop_length] at hh
      exact hh.done
    · obtain ⟨gs, cap1, rfl, hgs, hgs'⟩ := HFD.out.form (by omega)
      have hf2 : fd[k]? = some fd[k] := List.getElem?_eq_getElem hlt
      have hdr := List.drop_eq_getElem_cons hlt
      obtain ⟨qn, hq, hqN, hqm⟩ := HDI.out.stk fd[k] (hdr ▸ List.mem_cons_self)
      rw [hq] at hf2
      have hqc := HFD.out.cell hf2
      have HDR := Lib.hid (show fd.drop k = (qn : Int) :: fd.drop (k + 1) by rw [hdr, hq])
      clear hf2 hdr hq hqm
      have hfl : fd.length ≤ 65536 := by have := HLN.out; omega
      have hx0 : 0 ≤ (qn : Int) % W := Int.emod_nonneg _ (by omega)
      have hx1 : (qn : Int) % W < W := Int.emod_lt_of_pos _ hW.1
      have hy0 : 0 ≤ (qn : Int) / W := Int.ediv_nonneg (by omega) (by omega)
      have hy1 : (qn : Int) / W ≤ qn := Int.ediv_le_self _ (by omega)
      have hy2 : (qn : Int) / W < H := row_lt hW.1 (by have := HN.out; omega)
      have htm : (qn : Int).tmod W = qn % W := Int.tmod_eq_emod_of_nonneg (by omega)
      have htd : (qn : Int).tdiv W = qn / W := Int.tdiv_eq_ediv_of_nonneg (by omega)
      have hwn : (W == 0) = false := by simp; omega
      have hwm : (W == -1) = false := by simp; omega
      have hki : (k : Int) < (fd.length : Int) := by omega
      have hki0 : (0 : Int) ≤ (k : Int) := by omega
      go_wp2_with fail
      go_quiet (fail)
      clear htm htd hwn hwm hki hki0 hqc
      have HD2 := Lib.hid (show DInv sm.length W dg sim s (mkL on) (fd.drop (k + 1)) qn (allR W H ((qn : Int) % W) ((qn : Int) / W) dg 0) from by
        refine HDI.out.pop (by rw [HDR.out]; simp) (fun x hx => ?_) (fun x hx => ?_) (fun b hb hj => .inr (allR_has hW.1 ⟨by omega, by have := HN.out; omega⟩ hj))
        · rw [HDR.out] at hx; exact List.mem_cons.1 hx
        · rw [HDR.out]; exact List.mem_cons_of_mem _ hx)
      have HMS2 := Lib.hid (show 2 * zeros (mkL on) + (fd.length - (k + 1)) + 1 ≤ gk by have := HMS.out; omega)
      have HPL := Lib.hid (fun (dx dy : Int) (hdx : -1 ≤ dx ∧ dx ≤ 1) (hdy : -1 ≤ dy ∧ dy ≤ 1) => cand_mem (W := W) (H := H) (k := (qn : Int)) (dg := dg) hdx hdy)
      generalize hX : (qn : Int) % W = X at *
      generalize hY : (qn : Int) / W = Y at *
      clear hX hY
      go_wp2_with fail
      go_loopg [12, 16] 3 (ReIn sm.length W dg sim s w.heap.size w.heap.size w2 k qn gk (allR W H X Y dg))
      case atStart => exact ⟨0, on, fd, by omega, rfl, rfl, hlt, HD2.out, HMS2.out, HLN.out, HON.out.drewN _, HFD.out.drewN _, HKR.out.drewN _⟩
      case round =>
        obtain ⟨a, on1, fd1, ha, rfl, rfl, hkl1, hD, hms, hln, hON, hFD, hkb⟩ := hrel
        clear HDI HMS HLN HON HFD HKR HD2 HMS2
        have HD3 := Lib.hid hD; have HMS3 := Lib.hid hms; have HLN3 := Lib.hid hln; have HON3 := Lib.hid hON; have HK3 := Lib.hid hkb; have HFD3 := Lib.hid hFD
        clear hD hms hln hON hkb hFD
        by_cases hla : a < 3
        rotate_left
        · obtain rfl : a = 3 := by omega
          have htA : decide (((3 : Nat) : Int) - 1 ≤ 1) = false := by decide
          go_wp2_with fail
          go_roundg (2 * zeros (mkL on1) + (fd1.length - (k + 1)))
          case measure => have := HMS3.out; omega
          case rel => exact ⟨k + 1, on1, fd1, qn, hkl1, by go_num, by have hh := HD3.out; rw [allR_end] at hh; exact hh, Nat.le_refl _, HLN3.out, HON3.out, HFD3.out, HK3.out⟩
        · have htA : decide ((a : Int) - 1 ≤ 1) = true := by rw [decide_eq_true_eq]; omega
          go_wp2_with fail
          clear htA
          go_loopg [12, 17] 3 (ReIn sm.length W dg sim s w.heap.size w.heap.size w2 k qn gk (fun b => rowR W H X Y dg ((a : Int) - 1) b ++ allR W H X Y dg (a + 1)))
          case atStart => exact ⟨0, on1, fd1, by omega, rfl, rfl, hkl1, by have hh := HD3.out; rw [allR_step _ _ _ _ _ _ hla] at hh; exact hh, HMS3.out, HLN3.out, HON3.out, HFD3.out, HK3.out⟩
          case round =>
            obtain ⟨b1, on2, fd2, hb1, rfl, rfl, hkl2, hD, hms, hln, hON, hFD, hkb⟩ := hrel
            clear HD3 HMS3 HLN3 HON3 HK3 HFD3
            have HD4 := Lib.hid hD; have HMS4 := Lib.hid hms; have HLN4 := Lib.hid hln; have HON4 := Lib.hid hON; have HK4 := Lib.hid hkb; have HFD4 := Lib.hid hFD
            clear hD hms hln hON hkb hFD
            by_cases hlb : b1 < 3
            rotate_left
            · obtain rfl : b1 = 3 := by omega
              have htA : decide (((3 : Nat) : Int) - 1 ≤ 1) = false := by decide
              go_wp2_with fail
              go_roundg (3 - (a + 1))
              case measure => omega
              case rel => exact ⟨a + 1, on2, fd2, by omega, rfl, by go_num, hkl2, by have hh : DInv sm.length W dg sim s (mkL on2) (fd2.drop (k + 1)) qn (rowR W H X Y dg ((a : Int) - 1) 3 ++ allR W H X Y dg (a + 1)) := HD4.out; rw [rowR_end, List.nil_append] at hh; exact hh, HMS4.out, HLN4.out, HON4.out, HFD4.out, HK4.out⟩
            · have htB : decide ((b1 : Int) - 1 ≤ 1) = true := by rw [decide_eq_true_eq]; omega
              have hh : DInv sm.length W dg sim s (mkL on2) (fd2.drop (k + 1)) qn (rowR W H X Y dg ((a : Int) - 1) b1 ++ allR W H X Y dg (a + 1)) := HD4.out
              rw [rowR_step _ _ _ _ _ _ _ hlb, List.append_assoc] at hh
              have HD4 := Lib.hid hh; clear hh
              have hdxb : -1 ≤ (b1 : Int) - 1 ∧ (b1 : Int) - 1 ≤ 1 := by omega
              have hdyb : -1 ≤ (a : Int) - 1 ∧ (a : Int) - 1 ≤ 1 := by omega
              generalize hdx : (b1 : Int) - 1 = dx at *
              generalize hdy : (a : Int) - 1 = dy at *
              have HDX := Lib.hid hdx; clear hdx
              have HDY := Lib.hid hdy; clear hdy
              by_cases hin : 0 ≤ X + dx ∧ 0 ≤ Y + dy ∧ X + dx < W ∧ Y + dy < H ∧ (dg = true ∨ dx = 0 ∨ dy = 0)
              rotate_left
              · have hh := HD4.out
                rw [cand_out hin, List.nil_append] at hh
                have HD5 := Lib.hid hh
                have HNO := Lib.hid hin
                clear hh hin HD4
                rcases (show X + dx < 0 ∨ (0 ≤ X + dx ∧ Y + dy < 0) ∨ (0 ≤ X + dx ∧ 0 ≤ Y + dy ∧ W ≤ X + dx) ∨ (0 ≤ X + dx ∧ 0 ≤ Y + dy ∧ X + dx < W ∧ H ≤ Y + dy) ∨ (0 ≤ X + dx ∧ 0 ≤ Y + dy ∧ X + dx < W ∧ Y + dy < H) by omega) with h | ⟨h, h'⟩ | ⟨h, h', h2⟩ | ⟨h, h', h2, h3⟩ | ⟨h, h', h2, h3⟩
                case inr.inr.inr.inr =>
                  have hdg : dg = false := by
                    cases dg
                    · rfl
                    · exact absurd ⟨h, h', h2, h3, .inl rfl⟩ HNO.out
                  subst hdg
                  have tx : (dx != 0) = true := by
                    rw [bne_iff_ne]; intro e; exact HNO.out ⟨h, h', h2, h3, .inr (.inl e)⟩
                  have ty : (dy != 0) = true := by
                    rw [bne_iff_ne]; intro e; exact HNO.out ⟨h, h', h2, h3, .inr (.inr e)⟩
                  go_wp2_with fail
                  go_roundg (3 - (b1 + 1))
                  case measure => omega
                  case rel => exact ⟨b1 + 1, on2, fd2, by omega, rfl, nbnext HDX.out, hkl2, HD5.out, HMS4.out, HLN4.out, HON4.out, HFD4.out, HK4.out⟩
                all_goals
                  go_wp2_with fail
                  go_roundg (3 - (b1 + 1))
                  case measure => omega
                  case rel => exact ⟨b1 + 1, on2, fd2, by omega, rfl, nbnext HDX.out, hkl2, HD5.out, HMS4.out, HLN4.out, HON4.out, HFD4.out, HK4.out⟩
              · have hpl := HPL.out dx dy hdxb hdyb hin
                have hh := HD4.out
                rw [cand_in hin] at hh
                have hyW : 0 ≤ (Y + dy) * W ∧ (Y + dy) * W ≤ 65536 := by
                  have e1 : 0 ≤ (Y + dy) * W := Int.mul_nonneg hin.2.1 (by omega)
                  have e2 : (Y + dy) * W ≤ 256 * 256 := Int.mul_le_mul (by omega) hW.2 (by omega) (by omega)
                  omega
                obtain ⟨n, hn⟩ : ∃ n : Nat, (Y + dy) * W + (X + dx) = n := ⟨((Y + dy) * W + (X + dx)).toNat, by omega⟩
                rw [hn] at hh hpl
                have hnN : n < sm.length := by have := HN.out; omega
                have HADJ := Lib.hid hpl.2.2
                have HD5 := Lib.hid (show DInv sm.length W dg sim s (mkL on2) (fd2.drop (k + 1)) qn ((n : Int) :: (rowR W H X Y dg dy (b1 + 1) ++ allR W H X Y dg (a + 1))) from hh)
                clear hh hpl HD4
                obtain ⟨h, h', h2, h3, hcase⟩ := hin
                have hBw := HK4.out.toBelow hB2 (Nat.le_refl _) (by have := HSZ2.out; omega)
                have s1 := (hBw.cell (p := ⟨b, o + n, none⟩) hb).trans (HC.out n hnN)
                have hbr : b < wr.heap.size := Nat.lt_of_lt_of_le hb hBw.size
                have hol : on2.length = sm.length := HON4.out.len
                have o1 := HON4.out.cell (i := n) (by omega)
                have o2 := HON4.out.frozen n
                have HSN := Lib.hid (HSIM.out n)
                have HOL := Lib.hid hol
                have hMn := mkL_getD on2 n
                generalize hsb : sm.getD n false = sb at *
                generalize hob : on2.getD n false = ob at *
                have HMN := Lib.hid hMn
                clear hsb hob hBw hol hMn
                obtain ⟨A6, cap6, rfl⟩ := irow_shape HFD4.out
                have hfl2 : fd2.length ≤ 65536 := by have := HLN4.out; omega
                have hcs : dg = true ∨ (dg = false ∧ (dx != 0) = false) ∨ (dg = false ∧ (dx != 0) = true ∧ (dy != 0) = false) := by
                  cases dg
                  · by_cases e : dx = 0
                    · exact .inr (.inl ⟨rfl, by simp [e]⟩)
                    · refine .inr (.inr ⟨rfl, by simp [e], ?_⟩)
                      rcases hcase with e' | e' | e'
                      · cases e'
                      · exact absurd e' e
                      · simp [e']
                  · exact .inl rfl
                clear hcase
                rcases hcs with rfl | ⟨rfl, tx⟩ | ⟨rfl, tx, ty⟩
                all_goals
                  cases sb
                  · go_wp2_with fail
                    go_roundg (3 - (b1 + 1))
                    case measure => omega
                    case rel => exact ⟨b1 + 1, on2, fd2, by omega, rfl, nbnext HDX.out, hkl2, HD5.out.skip (.inr (fun e => by have := HSN.out.1 e; cases this)), HMS4.out, HLN4.out, HON4.out, HFD4.out, HK4.out⟩
                  · cases ob
                    rotate_left
                    · go_wp2_with fail
                      go_roundg (3 - (b1 + 1))
                      case measure => omega
                      case rel => exact ⟨b1 + 1, on2, fd2, by omega, rfl, nbnext HDX.out, hkl2, HD5.out.skip (.inl (by rw [HMN.out]; decide)), HMS4.out, HLN4.out, HON4.out, HFD4.out, HK4.out⟩
                    · go_wp2_with (at_builtin; refine push_at _ rfl _ _ rfl w2.heap.size _ _ rfl (irow_set HFD4.out (show w.heap.size < w2.heap.size by have := HSZ2.out; omega) (Nat.le_refl _)) _ _ rfl (by rw [size_set]) (by omega) (by rw [size_set]; exact HK4.out.size) ?_; intro v' w6 hown6 hgr6 hat6)
                      go_roundg (3 - (b1 + 1))
                      case measure => omega
                      case rel =>
                        have hM0 : (mkL on2).getD n 0 = 0 := by rw [HMN.out]; rfl
                        have hz := zeros_set (mkL on2) n (by rw [mkL_len]; have := HOL.out; omega) hM0
                        have hgv2 : w.heap.size < w2.heap.size := by have := HSZ2.out; omega
                        refine ⟨b1 + 1, on2.set n true, fd2 ++ [(n : Int)], by omega, rfl, nbnext HDX.out, by rw [List.length_append]; omega, ?_, ?_, ?_, ?_, hown6, ?_⟩
                        · rw [mkL_set, List.drop_append_of_le_length (by omega)]
                          exact HD5.out.push hnN hM0 (HSN.out.2 (by trivial)) HADJ.out
                        · rw [mkL_set, List.length_append, List.length_singleton]; have := HMS4.out; omega
                        · rw [mkL_set, List.length_append, List.length_singleton]; have := HLN4.out; omega
                        · refine BRow.kept (HON4.out.stored n true) hgr6 ?_
                          intro k hk e
                          have := (irow_lt HFD4.out e).1
                          simp [Value.ownBlock] at hk
                          omega
                        · refine (HK4.out.set n _).grown hgr6 (by rw [size_set]; exact HK4.out.size) ?_
                          intro k hk
                          exact (irow_lt HFD4.out hk).1
end Go.Proofs.Ytgdefgpbaccneaa
