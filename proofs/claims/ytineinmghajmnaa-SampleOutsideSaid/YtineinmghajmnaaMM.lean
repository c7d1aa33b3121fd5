/- kernel.Taps returns the first pixel and the normalized weights, in new memory. -/
import Derived.Test.YtineinmghajmnaaMA
import Derived.Test.YtineinmghajmnaaML
namespace Go.Proofs.Ytineinmghajmnaa
open Go.RowKit

theorem raw_snoc (kind x : Int) (k : Nat) (h : k < kn kind x) : (raw kind x).take (k + 1) = (raw kind x).take k ++ [wt kind (x - ((k1 kind x + k) * 65536 + 32768))] := by
  rw [take_snoc_int _ _ (by rw [raw_length]; exact h), raw_get _ _ _ h]

/-- The first loop's head. -/
def TapRel1 (kind x : Int) (w : World) (v s i : Value) (wr : World) : Prop :=
  ∃ k : Nat, k ≤ kn kind x ∧ i = .int .i64 (k1 kind x + k) ∧ IRow wr w.heap.size v ((raw kind x).take k) ∧ s = .int .i64 ((raw kind x).take k).sum ∧ Below w.heap.size w wr
/-- The second loop's head. -/
def TapRel2 (l : List Int) (v : Value) (w : World) (rest best i : Value) (wr : World) : Prop :=
  ∃ k : Nat, k ≤ l.length ∧ i = .int .i64 k ∧ rest = .int .i64 (65536 - ((nrm l).take k).sum) ∧ best = .int .i64 (bst (nrm l) k) ∧ IRow wr w.heap.size v (cur l k) ∧ Below w.heap.size w wr

theorem sum_le (kind x : Int) (k : Nat) (hk : k ≤ 4) : -16777216 ≤ ((raw kind x).take k).sum ∧ ((raw kind x).take k).sum ≤ 16777216 := by
  have h : ∀ (l : List Int), (∀ a ∈ l, -2097152 ≤ a ∧ a ≤ 2097152) → -2097152 * (l.length : Int) ≤ l.sum ∧ l.sum ≤ 2097152 * (l.length : Int) := by
    intro l
    induction l with
    | nil => intro _; simp
    | cons a l ih =>
      intro h
      have h1 := h a (by simp)
      have h2 := ih fun b hb => h b (by simp [hb])
      simp only [List.sum_cons, List.length_cons]
      omega
  have h' := h ((raw kind x).take k) (by
    intro a ha
    have := List.mem_of_mem_take ha
    unfold raw at this
    rw [List.mem_map] at this
    obtain ⟨i, _, rfl⟩ := this
    exact wt_le _ _)
  have : ((raw kind x).take k).length ≤ k := List.length_take_le _ _
  omega

set_option maxHeartbeats 1000000 in
theorem taps_valid (kind x : Int) (w : World) (hv : vld kind = true) :
    Calls Try.prog 58 #[.int .i64 kind, .int .i64 x] w fun e w' => ∃ v, e = .returned (.tuple #[.int .i64 (tapFirst kind x), v]) ∧ IRow w' w.heap.size v (taps kind x) ∧ Below w.heap.size w w' := by
  have hX : Hid (cl x = min 1099511627776 (max x (-1099511627776))) := rfl
  have hX0 : -1099511627776 ≤ cl x := by unfold cl; omega
  have hX1 : cl x ≤ 1099511627776 := by unfold cl; omega
  have HF := Lib.hid (show tapFirst kind x = k1 kind (cl x) by unfold tapFirst; rw [hv]; rfl)
  have HT := Lib.hid (show taps kind x = fin (raw kind (cl x)) by unfold taps; rw [hv]; rfl)
  generalize cl x = X at *
  obtain ⟨n1, n2, n3⟩ := kn_le kind X hv
  have hs := spt_le kind
  have hb1 := k1_bd kind X hX0 hX1
  have hb2 := kl_bd kind X hX0 hX1
  have HV := Lib.hid hv; clear hv
  have N3 := Lib.hid n3; clear n3
  have E1 : Hid (k1 kind X = (X - spt kind * 65536 - 32768) / 65536 + 1) := rfl
  have E2 : Hid (kl kind X = (X + spt kind * 65536 - 32768 - 1) / 65536) := rfl
  go_enter Try.func58, Try.ntmps58
  go_wp2_with fail
  refine (kvalid_any _ _).mono ?_
  rintro e w' ⟨rfl, rfl⟩
  rw [HV.out]
  go_wp2_with fail
  refine (clamp_any _ _ _ _).mono ?_
  rintro e w' ⟨rfl, rfl⟩
  rw [← hX.out]
  go_wp2_with fail
  refine (support_any _ _).mono ?_
  rintro e w' ⟨rfl, rfl⟩
  go_wp2_with fail
  refine (floor_any _ _ _ (by omega) (by omega) (by omega) (by omega)).mono ?_
  rintro e w' ⟨rfl, rfl⟩
  go_wp2_with fail
  refine (floor_any _ _ _ (by omega) (by omega) (by omega) (by omega)).mono ?_
  rintro e w' ⟨rfl, rfl⟩
  go_wp2_with fail
  rw [← E1.out, ← E2.out]
  clear E1 E2 hX
  go_loopw [5, 8, 9] (TapRel1 kind X w) (fun _ _ i _ => (k1 kind X + kn kind X - intOf i).toNat)
  case atStart => exact ⟨0, Nat.zero_le _, by go_num, IRow.nil _ _, rfl, Below.refl _ _⟩
  case round =>
    obtain ⟨k, hk, rfl, hown, rfl, hbel⟩ := hrel
    have hsz := hbel.size
    have hsum := sum_le kind X k (by omega)
    have hwt := wt_le kind (X - ((k1 kind X + k) * 65536 + 32768))
    have hlen : ((raw kind X).take k).length ≤ k := List.length_take_le _ _
    by_cases hlt : k < kn kind X
    · have hc : k1 kind X + k ≤ kl kind X := by have := N3.out; omega
      go_wp2_with fail
      refine (weight_any _ _ _).mono ?_
      rintro e w' ⟨rfl, rfl⟩
      go_wp2_with (at_builtin; refine push_law _ rfl _ _ rfl w.heap.size _ _ rfl (hown.alloc _) wr.heap.size (wt kind (X - ((k1 kind X + k) * 65536 + 32768))) rfl (by simp) (by omega) (by simp; omega) ?_; intro v' w1 hown1 hbw)
      have R1 := (hbel.alloc hsz _).trans hbw
      have R2 := raw_snoc kind X k hlt
      clear hbw hown
      go_roundw
      case rel => exact ⟨k + 1, by omega, by go_num, by rw [R2]; exact hown1, by rw [R2, sum_snoc], R1⟩
      case measure => simp [intOf]; omega
    · have hc : kl kind X < k1 kind X + k := by have := N3.out; omega
      obtain rfl : k = kn kind X := by omega
      rw [List.take_of_length_le (by rw [raw_length]; omega)] at hown
      have hl : (raw kind X).length = kn kind X := raw_length _ _
      obtain ⟨g, cap, rfl, hg1, hg2⟩ := hown.form (by omega)
      rw [List.take_of_length_le (by rw [raw_length]; omega)]
      have hR := raw_raw kind X HV.out
      clear hsum hwt hlen hlt
      generalize raw kind X = l at *
      have HLN := Lib.hid hl; clear hl
      have hln := hR.n1
      have hln2 := hR.n2
      go_wp2_with fail
      rw [← HLN.out]
      go_loopw [11, 12, 57] (TapRel2 l (.slice (some ⟨g, 0, none⟩) l.length cap) w) (fun _ _ i _ => l.length - (intOf i).toNat)
      case atStart => exact ⟨0, Nat.zero_le _, rfl, rfl, rfl, by rw [cur_zero]; exact hown, hbel⟩
      case round =>
        obtain ⟨k, hk', rfl, rfl, rfl, hown2, hbel2⟩ := hrel
        have hns := hR.nsum k hk'
        have hlo := hown2.lo
        by_cases hlt : k < l.length
        · have hbk : bst (nrm l) k ≤ k := by rcases bst_lt (nrm l) k with h | h <;> omega
          have hc := hown2.cell (cur_at l k hlt)
          have hf := hown2.frozen k
          have hst := (hown2.stored k ((nrm l).getD k 0)).1
          have hgr := (hown2.stored k ((nrm l).getD k 0)).2
          rw [cur_set l k hlt] at hst
          have hcb := hst.cell (cur_old l (k + 1) (bst (nrm l) k) (by omega) (by omega))
          have hck := hst.cell (cur_old l (k + 1) k (by omega) (by omega))
          have hnk := nrm_get l k hlt
          have hel := hR.el k
          have hnel := hR.nel k
          have hs1 := hR.s1
          have hs2 := hR.s2
          have hbs : bst (nrm l) (k + 1) = if (nrm l).getD (bst (nrm l) k) 0 < (nrm l).getD k 0 then k else bst (nrm l) k := rfl
          have hsn : ((nrm l).take (k + 1)).sum = ((nrm l).take k).sum + (nrm l).getD k 0 := by rw [take_snoc_int _ _ (by rw [nrm_length]; omega), sum_snoc]
          generalize (nrm l).getD k 0 = nk at *
          generalize (nrm l).getD (bst (nrm l) k) 0 = nb at *
          generalize l.getD k 0 = lk at *
          have HNK := Lib.hid hnk; clear hnk
          have HBS := Lib.hid hbs; clear hbs
          have HSN := Lib.hid hsn; clear hsn
          have HST := Lib.hid hst; clear hst
          have HGR := Lib.hid hgr; clear hgr
          generalize bst (nrm l) k = bk at *
          go_wp2_with fail
          refine (div_any _ _ _ (by omega) (by omega) (by omega) (by omega)).mono ?_
          rintro e w' ⟨rfl, rfl⟩
          rw [← HNK.out]
          go_wp2_with fail
          go_quiet (fail)
          by_cases hgt : nb < nk
          · go_wp2
            go_roundw
            case rel => exact ⟨k + 1, by omega, by go_num, by rw [HSN.out]; go_num, by rw [HBS.out, if_pos hgt], HST.out, Below.drewN' (hbel2.grown HGR.out (by have := hbel2.size; omega) (by intro j hj; injection hj with hj; omega)) _⟩
            case measure => simp [intOf]; omega
          · go_wp2
            go_roundw
            case rel => exact ⟨k + 1, by omega, by go_num, by rw [HSN.out]; go_num, by rw [HBS.out, if_neg hgt], HST.out, Below.drewN' (hbel2.grown HGR.out (by have := hbel2.size; omega) (by intro j hj; injection hj with hj; omega)) _⟩
            case measure => simp [intOf]; omega
        · obtain rfl : k = l.length := by omega
          rw [cur_all] at hown2
          have hbk : bst (nrm l) l.length < l.length := by rcases bst_lt (nrm l) l.length with h | h <;> omega
          have hnl := nrm_length l
          have hnel := hR.nel (bst (nrm l) l.length)
          have hc := hown2.cell (i := bst (nrm l) l.length) (x := (nrm l).getD (bst (nrm l) l.length) 0) (by simp [hnl, hbk])
          have hf := hown2.frozen (bst (nrm l) l.length)
          have hst := hown2.stored (bst (nrm l) l.length) ((nrm l).getD (bst (nrm l) l.length) 0 + (65536 - (nrm l).sum))
          rw [show (nrm l).take l.length = nrm l by rw [← hnl, List.take_length]] at *
          have HST := Lib.hid hst; clear hst
          have HFN : Hid (fin l = (nrm l).set (bst (nrm l) l.length) ((nrm l).getD (bst (nrm l) l.length) 0 + (65536 - (nrm l).sum))) := rfl
          clear hnl hlt
          generalize (nrm l).getD (bst (nrm l) l.length) 0 = nb at *
          generalize bst (nrm l) l.length = bk at *
          generalize (nrm l).sum = sm at *
          go_wp2_with fail
          go_ret2
          exact ⟨_, by rw [HF.out]; rfl, by rw [HT.out, HFN.out]; exact HST.out.1, hbel2.grown HST.out.2 (by have := hbel2.size; omega) (by intro j hj; injection hj with hj; omega)⟩

set_option maxHeartbeats 400000 in
theorem taps_any (kind x : Int) (w : World) :
    Calls Try.prog 58 #[.int .i64 kind, .int .i64 x] w fun e w' => ∃ v, e = .returned (.tuple #[.int .i64 (tapFirst kind x), v]) ∧ IRow w' w.heap.size v (taps kind x) ∧ Below w.heap.size w w' := by
  by_cases hv : vld kind = true
  · exact taps_valid kind x w hv
  · have hv' : vld kind = false := by simpa using hv
    have HF := Lib.hid (show tapFirst kind x = 0 by unfold tapFirst; rw [hv']; rfl)
    have HT := Lib.hid (show taps kind x = [] by unfold taps; rw [hv']; rfl)
    have HV := Lib.hid hv'; clear hv hv'
    go_enter Try.func58, Try.ntmps58
    go_wp2_with fail
    refine (kvalid_any _ _).mono ?_
    rintro e w' ⟨rfl, rfl⟩
    rw [HV.out]
    go_wp2_with fail
    go_ret2
    exact ⟨_, by rw [HF.out]; rfl, by rw [HT.out]; exact IRow.nil _ _, Below.refl _ _⟩
end Go.Proofs.Ytineinmghajmnaa
namespace Go.Proofs.Ytineinmghajmnaa
open Go.RowKit

/-- The second loop's head. -/
def TapRel3 (l : List Int) (v : Value) (w : World) (total best i : Value) (wr : World) : Prop :=
  ∃ k : Nat, k ≤ l.length ∧ i = .int .i64 k ∧ total = .int .i64 ((nrm l).take k).sum ∧ best = .int .i64 (bst (nrm l) k) ∧ IRow wr w.heap.size v (cur l k) ∧ Below w.heap.size w wr

set_option maxHeartbeats 1000000 in
theorem rtaps_valid (kind x : Int) (w : World) (hv : vld kind = true) :
    Calls Try.prog 65 #[.int .i64 kind, .int .i64 x] w fun e w' => ∃ v, e = .returned (.tuple #[.int .i64 (tapFirst kind x), v]) ∧ IRow w' w.heap.size v (taps kind x) ∧ Below w.heap.size w w' := by
  have hX : Hid (cl x = min 1099511627776 (max x (-1099511627776))) := rfl
  have hX0 : -1099511627776 ≤ cl x := by unfold cl; omega
  have hX1 : cl x ≤ 1099511627776 := by unfold cl; omega
  have HF := Lib.hid (show tapFirst kind x = k1 kind (cl x) by unfold tapFirst; rw [hv]; rfl)
  have HT := Lib.hid (show taps kind x = fin (raw kind (cl x)) by unfold taps; rw [hv]; rfl)
  generalize cl x = X at *
  obtain ⟨n1, n2, n3⟩ := kn_le kind X hv
  have hs := spt_le kind
  have hb1 := k1_bd kind X hX0 hX1
  have hb2 := kl_bd kind X hX0 hX1
  have HV := Lib.hid hv; clear hv
  have N3 := Lib.hid n3; clear n3
  have E1 : Hid (k1 kind X = (X - spt kind * 65536 - 32768) / 65536 + 1) := rfl
  have E2 := Lib.hid (show ∀ j : Int, j * 65536 + 32768 < X + spt kind * 65536 ↔ j ≤ kl kind X by intro j; unfold kl; omega)
  go_enter Try.func65, Try.ntmps65
  go_wp2_with fail
  refine (rkvalid_any _ _).mono ?_
  rintro e w' ⟨rfl, rfl⟩
  rw [HV.out]
  go_wp2_with fail
  refine (rclamp_any _ _ _ _).mono ?_
  rintro e w' ⟨rfl, rfl⟩
  rw [← hX.out]
  go_wp2_with fail
  refine (rsupport_any _ _).mono ?_
  rintro e w' ⟨rfl, rfl⟩
  go_wp2_with fail
  refine (rfloor_any _ _ _ (by omega) (by omega) (by omega) (by omega)).mono ?_
  rintro e w' ⟨rfl, n0, rfl⟩
  go_wp2_with fail
  rw [← E1.out]
  clear hX
  go_loopw [8, 9, 10] (TapRel1 kind X w) (fun _ _ i _ => (k1 kind X + kn kind X - intOf i).toNat)
  case atStart => exact ⟨0, Nat.zero_le _, by go_num, IRow.drewN (IRow.made w w.heap.size [] (Nat.le_refl _) (by simp)) n0, rfl, Below.drewN' ((Below.refl _ _).alloc (Nat.le_refl _) _) n0⟩
  case round =>
    obtain ⟨k, hk, rfl, hown, rfl, hbel⟩ := hrel
    have hsz := hbel.size
    have hsum := sum_le kind X k (by omega)
    have hwt := wt_le kind (X - ((k1 kind X + k) * 65536 + 32768))
    have hlen : ((raw kind X).take k).length ≤ k := List.length_take_le _ _
    by_cases hlt : k < kn kind X
    · have hc := (E2.out (k1 kind X + k)).2 (by have := N3.out; omega)
      go_wp2_with fail
      refine (rweight_any _ _ _).mono ?_
      rintro e w' ⟨rfl, n1, rfl⟩
      have R3 := Lib.hid (raw_snoc kind X k hlt)
      have HLK := Lib.hid (show ((raw kind X).take k).length = k by rw [List.length_take, raw_length]; omega)
      obtain ⟨m, hm⟩ : ∃ m, m = k + 1 := ⟨_, rfl⟩
      have hm1 : m ≤ k + 1 := by omega
      have hm2 : k + 1 ≤ m := by omega
      clear hm
      go_wp2_with (at_builtin; refine push_newN _ _ rfl _ _ rfl w.heap.size _ _ rfl hown _ rfl (by omega) hsz ?_; intro v' w1 hown1 hbw; rw [← R3.out] at hown1; obtain ⟨g, cap, rfl, hg1, hg2⟩ := hown1.form' (n := m) (by rw [List.length_take, raw_length]; omega) (by omega); have hcy := hown1.cell (i := m - 1) (x := wt kind (X - ((k1 kind X + k) * 65536 + 32768))) (by rw [show m - 1 = k by omega, R3.out, List.getElem?_append_right (by rw [HLK.out]; omega), HLK.out, Nat.sub_self]; rfl))
      have R1 := hbel.trans hbw
      go_roundw
      case rel => exact ⟨k + 1, by omega, by go_num, hown1, by rw [R3.out, sum_snoc], R1⟩
      case measure => simp [intOf]; omega
    · have hc : ¬ (k1 kind X + k) * 65536 + 32768 < X + spt kind * 65536 := by rw [E2.out]; have := N3.out; omega
      obtain rfl : k = kn kind X := by omega
      rw [List.take_of_length_le (by rw [raw_length]; omega)] at hown
      have hl : (raw kind X).length = kn kind X := raw_length _ _
      obtain ⟨g, cap, rfl, hg1, hg2⟩ := hown.form (by omega)
      rw [List.take_of_length_le (by rw [raw_length]; omega)]
      have hR := raw_raw kind X HV.out
      clear hsum hwt hlen hlt
      generalize raw kind X = l at *
      have HLN := Lib.hid hl; clear hl
      have hln := hR.n1
      have hln2 := hR.n2
      go_wp2_with fail
      rw [← HLN.out]
      go_loopw [11, 12, 13] (TapRel3 l (.slice (some ⟨g, 0, none⟩) l.length cap) w) (fun _ _ i _ => l.length - (intOf i).toNat)
      case atStart => exact ⟨0, Nat.zero_le _, rfl, by simp, rfl, by rw [cur_zero]; exact hown, hbel⟩
      case round =>
        obtain ⟨k, hk', rfl, rfl, rfl, hown2, hbel2⟩ := hrel
        have hns := hR.nsum k hk'

        have hlo := hown2.lo
        by_cases hlt : k < l.length
        · have hbk : bst (nrm l) k ≤ k := by rcases bst_lt (nrm l) k with h | h <;> omega
          have hc := hown2.cell (cur_at l k hlt)
          have hnk := nrm_get l k hlt
          have hel := hR.el k
          have hnel := hR.nel k
          have hs1 := hR.s1
          have hs2 := hR.s2
          have hbs : bst (nrm l) (k + 1) = if (nrm l).getD (bst (nrm l) k) 0 < (nrm l).getD k 0 then k else bst (nrm l) k := rfl
          have hsn : ((nrm l).take (k + 1)).sum = ((nrm l).take k).sum + (nrm l).getD k 0 := by rw [take_snoc_int _ _ (by rw [nrm_length]; omega), sum_snoc]
          have hset := Lib.hid (cur_set l k hlt)
          have hold := Lib.hid (fun j (hj : j < k + 1) => cur_old l (k + 1) j (by omega) hj)
          generalize hnn : (nrm l).getD k 0 = nk at *
          generalize hnb : (nrm l).getD (bst (nrm l) k) 0 = nb at *
          have HNN := Lib.hid hnn; clear hnn
          have HNB := Lib.hid hnb; clear hnb
          generalize l.getD k 0 = lk at *
          have HNK := Lib.hid hnk; clear hnk
          have HBS := Lib.hid hbs; clear hbs
          have HSN := Lib.hid hsn; clear hsn
          generalize bst (nrm l) k = bk at *
          go_wp2_with fail
          refine (rdiv_any _ _ _ (by omega) (by omega) (by omega) (by omega)).mono ?_
          rintro e w' ⟨rfl, n4, rfl⟩
          rw [← HNK.out]
          have hc3 : (wr.drewN n4).cell? ⟨g, k, none⟩ = some (.int .i64 lk) := hc
          have hf : (wr.drewN n4).frozen? ⟨g, k, none⟩ = false := hown2.frozen k
          have hst := ((hown2.drewN n4).stored k nk).1
          have hgr := ((hown2.drewN n4).stored k nk).2
          rw [hset.out] at hst
          have hcb := hst.cell (i := bk) (x := nb) (by rw [hold.out bk (by omega), HNB.out])
          have hck := hst.cell (i := k) (x := nk) (by rw [hold.out k (by omega), HNN.out])
          have HST := Lib.hid hst; clear hst
          have HGR := Lib.hid hgr; clear hgr
          go_wp2_with fail
          go_quiet (fail)
          by_cases hgt : nb < nk
          · go_wp2
            go_roundw
            case rel => exact ⟨k + 1, by omega, by go_num, by rw [HSN.out], by rw [HBS.out, if_pos hgt], HST.out, Below.drewN' ((Below.drewN' hbel2 n4).grown HGR.out (show w.heap.size ≤ (wr.drewN n4).heap.size from hbel2.size) (by intro j hj; injection hj with hj; omega)) _⟩
            case measure => simp [intOf]; omega
          · go_wp2
            go_roundw
            case rel => exact ⟨k + 1, by omega, by go_num, by rw [HSN.out], by rw [HBS.out, if_neg hgt], HST.out, Below.drewN' ((Below.drewN' hbel2 n4).grown HGR.out (show w.heap.size ≤ (wr.drewN n4).heap.size from hbel2.size) (by intro j hj; injection hj with hj; omega)) _⟩
            case measure => simp [intOf]; omega
        · obtain rfl : k = l.length := by omega
          rw [cur_all] at hown2
          have hbk : bst (nrm l) l.length < l.length := by rcases bst_lt (nrm l) l.length with h | h <;> omega
          have hnl := nrm_length l
          have hnel := hR.nel (bst (nrm l) l.length)
          have hc := hown2.cell (i := bst (nrm l) l.length) (x := (nrm l).getD (bst (nrm l) l.length) 0) (by simp [hnl, hbk])
          have hf := hown2.frozen (bst (nrm l) l.length)
          have hst := hown2.stored (bst (nrm l) l.length) ((nrm l).getD (bst (nrm l) l.length) 0 + 65536 - (nrm l).sum)
          rw [show (nrm l).take l.length = nrm l by rw [← hnl, List.take_length]] at *
          have HST := Lib.hid hst; clear hst
          have HFN := Lib.hid (show fin l = (nrm l).set (bst (nrm l) l.length) ((nrm l).getD (bst (nrm l) l.length) 0 + 65536 - (nrm l).sum) by unfold fin; rw [show (nrm l).getD (bst (nrm l) l.length) 0 + (65536 - (nrm l).sum) = (nrm l).getD (bst (nrm l) l.length) 0 + 65536 - (nrm l).sum by omega])
          clear hnl hlt
          generalize (nrm l).getD (bst (nrm l) l.length) 0 = nb at *
          generalize bst (nrm l) l.length = bk at *
          generalize (nrm l).sum = sm at *
          go_wp2_with fail
          go_ret2
          exact ⟨_, by rw [HF.out]; rfl, by rw [HT.out, HFN.out]; exact HST.out.1, hbel2.grown HST.out.2 (by have := hbel2.size; omega) (by intro j hj; injection hj with hj; omega)⟩

set_option maxHeartbeats 400000 in
theorem rtaps_any (kind x : Int) (w : World) :
    Calls Try.prog 65 #[.int .i64 kind, .int .i64 x] w fun e w' => ∃ v, e = .returned (.tuple #[.int .i64 (tapFirst kind x), v]) ∧ IRow w' w.heap.size v (taps kind x) ∧ Below w.heap.size w w' := by
  by_cases hv : vld kind = true
  · exact rtaps_valid kind x w hv
  · have hv' : vld kind = false := by simpa using hv
    have HF := Lib.hid (show tapFirst kind x = 0 by unfold tapFirst; rw [hv']; rfl)
    have HT := Lib.hid (show taps kind x = [] by unfold taps; rw [hv']; rfl)
    have HV := Lib.hid hv'; clear hv hv'
    go_enter Try.func65, Try.ntmps65
    go_wp2_with fail
    refine (rkvalid_any _ _).mono ?_
    rintro e w' ⟨rfl, rfl⟩
    rw [HV.out]
    go_wp2_with fail
    go_ret2
    exact ⟨_, by rw [HF.out]; rfl, by rw [HT.out]; exact IRow.nil _ _, Below.refl _ _⟩
end Go.Proofs.Ytineinmghajmnaa
