/- The normalized weights have the sum One; the pixel of the position is among them; one pixel further they are the same. No program in sight. -/
import Derived.Test.YtineinmghajmnaaML
import Derived.Test.YtineinmghajmnaaMAI
import Derived.Test.YtineinmghajmnaaMD
import Derived.Test.YtineinmghajmnaaMAD
import Derived.WideKeyPair
namespace Go.Proofs.Ytineinmghajmnaa

theorem sum_set : ∀ (l : List Int) (b : Nat) (v : Int), b < l.length → (l.set b v).sum = l.sum - l.getD b 0 + v
  | [], b, v, h => absurd h (by simp)
  | a :: l, 0, v, _ => by simp; omega
  | a :: l, b + 1, v, h => by
    have := sum_set l b v (by simpa using h)
    simp only [List.set_cons_succ, List.sum_cons, this, List.getD_cons_succ]
    omega
theorem fin_length (l : List Int) : (fin l).length = l.length := by simp [fin, nrm_length]
theorem fin_sum (l : List Int) (h : 1 ≤ l.length) : (fin l).sum = 65536 := by
  unfold fin
  have hb : bst (nrm l) l.length < l.length := by rcases bst_lt (nrm l) l.length with h' | h' <;> omega
  rw [sum_set _ _ _ (by rw [nrm_length]; exact hb)]
  omega
theorem getD_set (l : List Int) (b : Nat) (v : Int) (i : Nat) : (l.set b v).getD i 0 = l.getD i 0 ∨ (l.set b v).getD i 0 = v := by
  by_cases h : i = b
  · subst h
    by_cases hi : i < l.length
    · right; simp [hi]
    · left; simp at hi; simp [hi]
  · left
    have : b ≠ i := fun e => h e.symm
    simp [this]
theorem Raw.fel {l : List Int} (h : Raw l) (i : Nat) : -20000000 ≤ (fin l).getD i 0 ∧ (fin l).getD i 0 ≤ 20000000 := by
  have h1 := h.nel i
  have h2 := h.nel (bst (nrm l) l.length)
  have h3 := h.nsum l.length (Nat.le_refl _)
  rw [show (nrm l).take l.length = nrm l by rw [← nrm_length l, List.take_length]] at h3
  have h4 := h.n2
  unfold fin
  rcases getD_set (nrm l) (bst (nrm l) l.length) ((nrm l).getD (bst (nrm l) l.length) 0 + (65536 - (nrm l).sum)) i with e | e
  · rw [e]; omega
  · rw [e]; omega
theorem fin_take {l : List Int} (h : Raw l) : ∀ k, k ≤ l.length → -20000000 * (k : Int) ≤ ((fin l).take k).sum ∧ ((fin l).take k).sum ≤ 20000000 * (k : Int)
  | 0, _ => by simp
  | k + 1, hk => by
    have h1 := fin_take h k (by omega)
    have h2 := h.fel k
    rw [take_snoc_int _ _ (by rw [fin_length]; omega), sum_snoc]
    omega
theorem cl_id (x : Int) (h0 : -1099511627776 ≤ x) (h1 : x ≤ 1099511627776) : cl x = x := by unfold cl; omega
theorem k1_at (kind x : Int) (hv : vld kind = true) : k1 kind x ≤ x / 65536 ∧ x / 65536 < k1 kind x + kn kind x := by
  have h := kn_le kind x hv
  have h2 := spt_le kind
  have h3 : 1 ≤ spt kind := by
    rw [vld_iff] at hv
    unfold spt; split <;> (try split) <;> omega
  have h4 := h.2.2
  unfold kl at h4
  unfold k1 at *
  omega
theorem kn_spt (kind x : Int) (hv : vld kind = true) : (kn kind x : Int) = 2 * spt kind ∨ (kn kind x : Int) = 2 * spt kind - 1 := by
  obtain ⟨h1, _⟩ := kn_r kind x _ hv rfl
  split at h1 <;> omega
theorem taps_shift (kind x : Int) (hv : vld kind = true) (h0 : -1099511627776 ≤ x) (h1 : x + 65536 ≤ 1099511627776) : taps kind (x + 65536) = taps kind x ∧ tapFirst kind (x + 65536) = tapFirst kind x + 1 := by
  unfold taps tapFirst
  rw [hv, cl_id x h0 (by omega), cl_id (x + 65536) (by omega) h1, raw_eq _ _ hv, raw_eq _ _ hv]
  constructor
  · rw [show (x + 65536 - spt kind * 65536 - 32768) % 65536 = (x - spt kind * 65536 - 32768) % 65536 by omega]
  · simp only [if_true]
    unfold k1
    omega
end Go.Proofs.Ytineinmghajmnaa
namespace Go.Proofs.Ytineinmghajmnaa
open Go.RowKit
set_option maxRecDepth 100000 in
set_option maxHeartbeats 8000000 in
theorem splain_e (p : Px) (u0 u1 t0 t1 kd : Int) (VP : Bool) (w : World) (tt : VP = false ∨ (VP = true ∧ p.a < 1))
    (TV : ∀ w', Calls Try.prog 21 #[.agg #[.int .i64 p.r, .int .i64 p.g, .int .i64 p.b, .int .i64 p.a]] w' fun e w'' => e = .returned (.bool VP) ∧ Below w'.heap.size w' w'')
    (T7 : ∀ w', Calls Try.prog 11 #[] w' fun e w'' => e = .returned (.bool true) ∧ Below w'.heap.size w' w'') :
    Calls Try.prog 7 #[.agg #[.int .i64 p.r, .int .i64 p.g, .int .i64 p.b, .int .i64 p.a], .agg #[.int .u8 u0, .int .u8 u1], .agg #[.int .u8 t0, .int .u8 t1], .int .u8 kd] w (YesPost w) := by
  replace T7 := Lib.hid T7; replace TV := Lib.hid TV; replace tt := Lib.hid tt
  go_enter Try.func7, Try.ntmps7
  go_upto_region 1 with fail
  have K := Lib.hid (fr_three w #[.int .i64 p.r, .int .i64 p.g, .int .i64 p.b, .int .i64 p.a] #[.int .u8 u0, .int .u8 u1] #[.int .u8 t0, .int .u8 t1] 27 43 43 _ rfl)
  generalize World.alloc (World.alloc (World.alloc w _) _) _ = w0 at *
  go_wp2_with fail
  refine (T7.out _).mono ?_
  rintro e w1 ⟨rfl, hb⟩
  replace K := Lib.hid (K.out.below hb)
  clear hb
  obtain ⟨⟨a1, a2, a3, a4⟩, -⟩ := K.out.1.1.four
  go_wp2_with fail
  refine (TV.out _).mono ?_
  rintro e w2 ⟨rfl, hb⟩
  replace K := Lib.hid (K.out.below hb)
  clear hb a1 a2 a3 a4
  rcases tt.out with rfl | ⟨rfl, h1⟩
  · have HB := Lib.hid K.out.2
    clear tt K
    go_wp2_with fail
    refine (T7.out _).mono ?_
    rintro e w4 ⟨rfl, hb⟩
    go_wp2_with fail
    go_ret
    exact ⟨by simp, bel_trans HB.out hb⟩
  · obtain ⟨⟨a1, a2, a3, a4⟩, -⟩ := K.out.1.1.four
    have HB := Lib.hid K.out.2
    clear tt K
    go_wp2_with fail
    refine (T7.out _).mono ?_
    rintro e w4 ⟨rfl, hb⟩
    go_wp2_with fail
    go_ret
    exact ⟨by simp, bel_trans HB.out hb⟩
set_option maxRecDepth 100000 in
set_option maxHeartbeats 8000000 in
theorem splain_ok (p : Px) (u0 u1 t0 t1 kd k a0 a1 b0 b1 : Int) (wn hn N tw th M : Nat) (w : World)
    (hpa : ¬ p.a < 1) (ha0 : 0 ≤ a0 ∧ a0 ≤ 23) (ha1 : 0 ≤ a1 ∧ a1 ≤ 23) (hb0 : 0 ≤ b0 ∧ b0 ≤ 23) (hb1 : 0 ≤ b1 ∧ b1 ≤ 23) (hk : 0 ≤ k ∧ k ≤ 4)
    (hu0 : u0.tmod 24 = a0) (hu1 : u1.tmod 24 = a1) (ht0 : t0.tmod 24 = b0) (ht1 : t1.tmod 24 = b1) (hkd : kd.tmod 5 = k)
    (hwn : 1 + a0 = (wn : Int)) (hhn : 1 + a1 = (hn : Int)) (htw : 1 + b0 = (tw : Int)) (hth : 1 + b1 = (th : Int)) (hN : wn * hn = N) (hM : tw * th = M) (hN9 : N ≤ 1000) (hM9 : M ≤ 1000) (hM0 : 0 < M)
    (T1 : ∀ w' A n c, Pixs w' w'.heap.size (.slice A n c) (List.replicate N p) → Calls Try.prog 19 #[.agg #[.int .i64 (wn : Int), .int .i64 (hn : Int), .slice A n c], .int .i64 (tw : Int), .int .i64 (th : Int), .int .i64 k] w' (ImPost 0 (tw : Int) (th : Int) (List.replicate M p) w'))
    (TV : ∀ w', Calls Try.prog 21 #[.agg #[.int .i64 p.r, .int .i64 p.g, .int .i64 p.b, .int .i64 p.a]] w' fun e w'' => e = .returned (.bool true) ∧ Below w'.heap.size w' w'')
    (T7 : ∀ w', Calls Try.prog 11 #[] w' fun e w'' => e = .returned (.bool true) ∧ Below w'.heap.size w' w'') :
    Calls Try.prog 7 #[.agg #[.int .i64 p.r, .int .i64 p.g, .int .i64 p.b, .int .i64 p.a], .agg #[.int .u8 u0, .int .u8 u1], .agg #[.int .u8 t0, .int .u8 t1], .int .u8 kd] w (YesPost w) := by
  obtain ⟨VP, hVP⟩ : ∃ VP, VP = true := ⟨_, rfl⟩
  rw [← hVP] at TV
  replace T7 := Lib.hid T7; replace TV := Lib.hid TV; replace T1 := Lib.hid T1
  go_enter Try.func7, Try.ntmps7
  go_upto_region 1 with fail
  have K := Lib.hid (fr_three w #[.int .i64 p.r, .int .i64 p.g, .int .i64 p.b, .int .i64 p.a] #[.int .u8 u0, .int .u8 u1] #[.int .u8 t0, .int .u8 t1] 27 43 43 _ rfl)
  generalize World.alloc (World.alloc (World.alloc w _) _) _ = w0 at *
  go_wp2_with fail
  refine (T7.out _).mono ?_
  rintro e w1 ⟨rfl, hb⟩
  replace K := Lib.hid (K.out.below hb)
  clear hb
  obtain ⟨⟨a1, a2, a3, a4⟩, -⟩ := K.out.1.1.four
  go_wp2_with fail
  refine (TV.out _).mono ?_
  rintro e w2 ⟨rfl, hb⟩
  replace K := Lib.hid (K.out.below hb)
  clear hb a1 a2 a3 a4
  subst hVP
  have HA := Lib.hid (And.intro ha0 ha1); have HBb := Lib.hid (And.intro hb0 hb1)
  have e1 := wrap_u8 a0 (by omega); have e2 := wrap_in a0 (by omega); have e3 : IntKind.i64.wrap (1 + a0) = (wn : Int) := by rw [hwn]; exact wrap_in _ (by omega)
  have e4 := wrap_u8 a1 (by omega); have e5 := wrap_in a1 (by omega); have e6 : IntKind.i64.wrap (1 + a1) = (hn : Int) := by rw [hhn]; exact wrap_in _ (by omega)
  have g1 := Lib.hid (And.intro (wrap_u8 b0 (by omega)) (wrap_in b0 (by omega))); have g2 := Lib.hid (And.intro (wrap_u8 b1 (by omega)) (wrap_in b1 (by omega)))
  have g3 := Lib.hid (show IntKind.i64.wrap (1 + b0) = (tw : Int) by rw [htw]; exact wrap_in _ (by omega)); have g4 := Lib.hid (show IntKind.i64.wrap (1 + b1) = (th : Int) by rw [hth]; exact wrap_in _ (by omega))
  have g5 := Lib.hid (And.intro ht0 ht1); have g6 := Lib.hid (And.intro hkd (And.intro (wrap_u8 k (by omega)) (wrap_in k (by omega))))
  have hNI : IntKind.i64.wrap ((wn : Int) * (hn : Int)) = (N : Int) := by rw [← hN, Int.natCast_mul]; exact wrap_in _ (by rw [← Int.natCast_mul, hN]; omega)
  have HMI := Lib.hid (show IntKind.i64.wrap ((tw : Int) * (th : Int)) = (M : Int) by rw [← hM, Int.natCast_mul]; exact wrap_in _ (by rw [← Int.natCast_mul, hM]; omega))
  clear hwn hhn htw hth hN hM ha0 ha1 hb0 hb1 ht0 ht1 hkd hk
  obtain ⟨⟨c1, c2, c3, c4⟩, -⟩ := K.out.1.1.four
  obtain ⟨⟨i1, i2⟩, -⟩ := K.out.1.2.1.two
  go_upto_region 4 with fail
  clear e1 e2 e3 e4 e5 e6 i1 i2 c1 c2 c3 c4 hu0 hu1 hpa
  obtain ⟨hbt, hBt, hzt⟩ := one_box w2 #[.int .i64 (wn : Int), .int .i64 (hn : Int), .slice none 0 0] 24 _ rfl
  generalize World.alloc w2 _ = w3 at *
  obtain ⟨⟨i1, i2, i3⟩, -⟩ := hbt.three
  go_upto_region 5 with fail
  clear i1 i2 i3 hNI
  go_loopg [45] N (OneRel (wn : Int) (hn : Int) (List.replicate N p) w2.heap.size w2)
  case atStart => exact ⟨0, Nat.zero_le _, by rw [List.length_replicate]; rfl, rfl, GridRel.start hbt hBt⟩
  case round =>
    clear hbt hBt hzt
    obtain ⟨n, hn9, rfl, rfl, v, hbx, hrw, hbr⟩ := hrel
    have hlr := hbx.lt
    rw [List.length_replicate] at hn9
    have hlN : (List.replicate N p).length = N := List.length_replicate
    by_cases hlt : n < N
    · obtain ⟨A1, cap1, rfl⟩ := hrw.nshape (take_len (by omega))
      have HBX := Lib.hid hbx; have HRW := Lib.hid hrw; have HBR := Lib.hid hbr
      have HGU := Lib.hid (show pat (List.replicate N p) n = p by simp [pat, hlt])
      obtain ⟨⟨q1, q2, q3, q4⟩, -⟩ := (K.out.below hbr).1.1.four
      obtain ⟨⟨i1, i2, i3⟩, -⟩ := hbx.three
      clear hbx hrw hbr hlN
      have hk1 : (n : Int) < (N : Int) := by omega
      go_wp2_with (at_builtin; refine ppush _ rfl _ _ rfl (w2.heap.size + 1) _ _ rfl HRW.out p _ rfl rfl (by rw [take_len (by rw [List.length_replicate]; omega)]; omega) (by omega) ?_; intro v' w8 hown8 hb8; obtain ⟨A5, cap5, rfl⟩ := hown8.nshape (n := n + 1) (by rw [List.length_append, take_len (by rw [List.length_replicate]; omega)]; rfl); have hB8 := HBX.out.low (Nat.lt_succ_self _) hb8; obtain ⟨⟨s1, s2, s3⟩, sf1, sf2, sf3⟩ := hB8.three)
      go_roundg (N - (n + 1))
      case measure => have hz : (List.replicate N p).length = N := List.length_replicate
                      omega
      case rel => exact ⟨n + 1, by rw [List.length_replicate]; omega, by rw [List.length_replicate], by go_num, GridRel.step HBX.out HBR.out hown8 hb8 (by rw [List.length_replicate]; omega) HGU.out⟩
    · obtain rfl : n = N := by omega
      have hta : (List.replicate n p).take n = List.replicate n p := List.take_of_length_le (by omega)
      rw [hta] at hrw
      obtain ⟨A1, cap1, rfl⟩ := hrw.nshape hlN
      replace K := Lib.hid (K.out.below hbr)
      have HBX := Lib.hid hbx; have HRW := Lib.hid hrw
      clear hbx hrw hbr hta hlN
      have hk1 : ¬ (n : Int) < (n : Int) := by omega
      go_upto_region 8 with fail
      obtain ⟨⟨i1, i2⟩, -⟩ := K.out.1.2.2.1.two
      obtain ⟨f1, f2⟩ := g1.out; obtain ⟨f3, f4⟩ := g2.out; obtain ⟨f5, f6⟩ := g5.out
      have f7 := g3.out; have f8 := g4.out
      go_quiet (fail)
      have HBq : Below wr.heap.size wr (wr.drewN nq) := Below.drewN' (Below.refl _ _) nq
      replace K := Lib.hid (K.out.below HBq)
      have HBX5 := Lib.hid (HBX.out.below HBq)
      have P5 := Lib.hid (HRW.out.pixs.on HBq)
      clear i1 i2 f1 f2 f3 f4 f5 f6 f7 f8 HBq HBX HRW hk1 g1 g2 g3 g4 g5
      generalize wr.drewN nq = w5 at *
      obtain ⟨⟨i1, i2, i3⟩, -⟩ := HBX5.out.three
      obtain ⟨f1, f2, f3⟩ := g6.out
      go_wp2_with fail
      refine (T1.out _ _ _ _ P5.out).mono ?_
      rintro e w6 ⟨A2, n2, c2, rfl, hr2, hb⟩
      replace K := Lib.hid (K.out.below hb)
      clear i1 i2 i3 f1 f2 f3 g6 P5 HBX5
      go_upto_region 10 with fail
      have K12 := Lib.hid (Bx.new w6 24 #[.int .i64 (tw : Int), .int .i64 (th : Int), .slice A2 n2 c2])
      have hb7 := bel1 w6 (.cells #[.int .i64 (tw : Int), .int .i64 (th : Int), .slice A2 n2 c2] 24)
      replace K := Lib.hid (K.out.below hb7)
      have P1 := Lib.hid (hr2.pixs.on hb7)
      clear hb7 hr2 hb
      generalize World.alloc w6 _ = w7 at *
      generalize w6.heap.size = g12 at *
      have hn2 := P1.out.len
      have hlM : (List.replicate M p).length = M := List.length_replicate
      rw [hlM] at hn2
      subst hn2
      have d1 : IntKind.i64.wrap ((tw : Int) * (th : Int)) = (M : Int) := HMI.out
      obtain ⟨⟨j1, j2, j3⟩, -⟩ := K12.out.three
      go_upto_region 13 with fail
      clear d1 j1 j2 j3 hlM
      obtain ⟨A', c', ev, -, hcc⟩ := P1.out
      rw [List.length_replicate] at ev hcc
      injection ev with u1 u2 u3
      subst u1
      obtain ⟨b, o, rfl, hb0, -⟩ := hcc 0 hM0
      have HB0 := Lib.hid hb0
      have HC := Lib.hid (show ∀ k, k < M → w7.cell? ⟨b, o + k * 4, none⟩ = some (.int .i64 p.r) ∧ w7.cell? ⟨b, o + k * 4 + 1, none⟩ = some (.int .i64 p.g) ∧ w7.cell? ⟨b, o + k * 4 + 2, none⟩ = some (.int .i64 p.b) ∧ w7.cell? ⟨b, o + k * 4 + 3, none⟩ = some (.int .i64 p.a) from fun k hk => by
        obtain ⟨b', o', e', -, h⟩ := hcc k hk
        injection e' with e'
        injection e' with e1 e2
        subst e1 e2
        have hpk : pat (List.replicate M p) k = p := by simp [pat, hk]
        rw [hpk] at h
        exact h)
      clear hcc hb0 u3
      go_loopg [100] M (MvRel M w7)
      case atStart => exact ⟨0, Nat.zero_le _, rfl, rfl, Below.refl _ _⟩
      case round =>
        obtain ⟨m, hm9, rfl, rfl, hby⟩ := hrel
        by_cases hlt2 : m < M
        · have hk0 : (0 : Int) ≤ (m : Int) := by omega
          have hk1 : (m : Int) < (M : Int) := by omega
          have hp := HC.out m hlt2
          have p1 := (hby.cell (p := ⟨b, _, none⟩) HB0.out).trans hp.1; have p2 := (hby.cell (p := ⟨b, _, none⟩) HB0.out).trans hp.2.1; have p3 := (hby.cell (p := ⟨b, _, none⟩) HB0.out).trans hp.2.2.1; have p4 := (hby.cell (p := ⟨b, _, none⟩) HB0.out).trans hp.2.2.2
          have HBY := Lib.hid hby
          clear hp hby
          go_upto_region 15 with fail
          clear p1 p2 p3 p4
          have H15 := Lib.hid (Bx.new wr 27 #[.int .i64 p.r, .int .i64 p.g, .int .i64 p.b, .int .i64 p.a])
          have HBV := Lib.hid (HBY.out.trans ((bel1 wr (.cells #[.int .i64 p.r, .int .i64 p.g, .int .i64 p.b, .int .i64 p.a] 27)).mono HBY.out.size))
          clear HBY
          generalize World.alloc wr _ = wv at *
          generalize wr.heap.size = g15 at *
          obtain ⟨⟨m1, m2, m3, m4⟩, -⟩ := H15.out.four
          obtain ⟨⟨l1, l2, l3, l4⟩, -⟩ := (K.out.below HBV.out).1.1.four
          go_wp2_with fail
          go_roundg (M - (m + 1))
          case measure => omega
          case rel => exact ⟨m + 1, by omega, rfl, by go_num, HBV.out⟩
        · obtain rfl : m = M := by omega
          have HBZ := Lib.hid (bel_trans K.out.2 hby)
          clear hby
          go_wp2_with fail
          go_ret
          exact ⟨by simp, HBZ.out⟩
end Go.Proofs.Ytineinmghajmnaa
namespace Go.Proofs.Ytineinmghajmnaa
open Go.RowKit Go.ChangeShapes Go.WideShapes
/-! A mean of one color. -/
theorem one_color (p : Px) : ∀ l : List (Int × Px), (∀ t ∈ l, t.2 = p) →
    bsA l = (l.map Prod.fst).sum * p.a ∧ bsR l = (l.map Prod.fst).sum * p.a * p.r ∧ bsG l = (l.map Prod.fst).sum * p.a * p.g ∧ bsB l = (l.map Prod.fst).sum * p.a * p.b
  | [], _ => by simp [bsA, bsR, bsG, bsB]
  | t :: l, h => by
    obtain ⟨h1, h2, h3, h4⟩ := one_color p l (fun u hu => h u (List.mem_cons_of_mem _ hu))
    have ht : t.2 = p := h t (by simp)
    unfold bsA bsR bsG bsB at *
    simp only [List.map_cons, List.sum_cons, h1, h2, h3, h4, ht]
    refine ⟨?_, ?_, ?_, ?_⟩ <;> grind
theorem sum_row (us : List Int) (c : Int) : ∀ n, n ≤ us.length → ((List.range n).map fun j => us.getD j 0 * c).sum = (us.take n).sum * c
  | 0, _ => by simp
  | n + 1, h => by
    have ih := sum_row us c n (by omega)
    rw [List.range_succ, List.map_append, List.sum_append, ih, take_snoc_int _ _ (by omega), sum_snoc]
    simp only [List.map_cons, List.map_nil, List.sum_cons, List.sum_nil]
    grind
theorem wpre_fst (px : Int → Int → Px) (fx fy : Int) (us vs : List Int) : ∀ K, K ≤ vs.length → ((wpre px fx fy us vs K 0).map Prod.fst).sum = us.sum * (vs.take K).sum
  | 0, _ => by simp [wpre]
  | K + 1, h => by
    have ih := wpre_fst px fx fy us vs K (by omega)
    unfold wpre at ih ⊢
    rw [List.range_zero, List.map_nil, List.append_nil] at ih ⊢
    rw [List.range_succ, List.flatMap_append, List.map_append, List.sum_append, ih, take_snoc_int _ _ (by omega), sum_snoc]
    have e : ((List.flatMap (fun k => (List.range us.length).map (wcell px fx fy us vs k)) [K]).map Prod.fst) = (List.range us.length).map fun j => us.getD j 0 * vs.getD K 0 := by
      rw [List.flatMap_singleton, List.map_map]; rfl
    rw [e, sum_row us _ _ (Nat.le_refl _), List.take_length]
    grind
theorem wpre_snd (p : Px) (fx fy : Int) (us vs : List Int) (k j : Nat) : ∀ t ∈ wpre (fun _ _ => p) fx fy us vs k j, t.2 = p := by
  intro t ht
  unfold wpre at ht
  rw [List.mem_append, List.mem_flatMap] at ht
  rcases ht with ⟨_, _, ht⟩ | ht
  · rw [List.mem_map] at ht
    obtain ⟨_, _, rfl⟩ := ht
    rfl
  · rw [List.mem_map] at ht
    obtain ⟨_, _, rfl⟩ := ht
    rfl
theorem taps_sum {kind x : Int} (hv : vld kind = true) : (taps kind x).sum = 65536 := by
  unfold taps
  rw [hv, if_pos rfl]
  exact fin_sum _ (by rw [raw_length]; exact (kn_le kind _ hv).1)
theorem samp_plain {p : Px} (hp : p.ok) (ha : 1 ≤ p.a) {kind : Int} (hv : vld kind = true) (x y : Int) : samp (fun _ _ => p) kind x y = p := by
  unfold samp
  by_cases h0 : kind = 0
  · rw [if_pos h0]
  · rw [if_neg h0]
    obtain ⟨h1, h2, h3, h4⟩ := one_color p _ (wpre_snd p (tapFirst kind x) (tapFirst kind y) (taps kind x) (taps kind y) (taps kind y).length 0)
    rw [wpre_fst _ _ _ _ _ _ (Nat.le_refl _), List.take_length, taps_sum hv, taps_sum hv] at h1 h2 h3 h4
    unfold wmean
    rw [h1, h2, h3, h4, blend_one hp]
    unfold pclr
    rw [if_neg (by omega)]
theorem pnear_plain (p : Px) (W H : Int) (N : Nat) (hW : 0 < W) (hH : 0 < H) (hN : W * H = N) : pnear W H (List.replicate N p) = fun _ _ => p := by
  funext x y
  unfold pnear
  have hin : 0 ≤ min (max x 0) (W - 1) ∧ min (max x 0) (W - 1) < W ∧ 0 ≤ min (max y 0) (H - 1) ∧ min (max y 0) (H - 1) < H := by omega
  have hi := idx_lt hin
  rw [pick_in hin]
  have hk : (min (max y 0) (H - 1) * W + min (max x 0) (W - 1)).toNat < N := by omega
  generalize (min (max y 0) (H - 1) * W + min (max x 0) (W - 1)).toNat = k at hk ⊢
  simp [pat, hk]
theorem rpic_plain {p : Px} (hp : p.ok) (ha : 1 ≤ p.a) {kind W H tw th : Int} (hv : vld kind = true) (hW : 0 < W) (hH : 0 < H) {N M : Nat} (hN : W * H = N) (hM : tw * th = M) :
    sRpic W H (List.replicate N p) tw th kind = List.replicate M p := by
  unfold sRpic gridL
  have hf : rdot W H (List.replicate N p) tw th kind = fun _ _ => p := by
    funext X Y
    unfold rdot
    rw [pnear_plain p W H N hW hH hN]
    exact samp_plain hp ha hv _ _
  rw [hf, hM, Int.toNat_natCast]
  apply List.ext_getElem <;> simp
/-- An argument of the type [2]uint8. -/
def U2V (v : Value) (x : Int × Int) : Prop := v = .agg #[.int .u8 x.1, .int .u8 x.2] ∧ (0 ≤ x.1 ∧ x.1 ≤ 255) ∧ (0 ≤ x.2 ∧ x.2 ≤ 255)
theorem wf_u8 {x : Int} (h : (Lit.int .u8 x).wf = true) : 0 ≤ x ∧ x ≤ 255 := by
  simp [Lit.wf, IntKind.min, IntKind.max, IntKind.signed, IntKind.bits] at h
  omega
theorem arrU2 : WideMaps.ArrKey Try.prog 43 5 2 := ⟨by kernel_rfl, by kernel_rfl, by kernel_rfl, by kernel_rfl⟩
set_option maxRecDepth 100000 in
theorem open_u2 {H : Type} {enc : TypeId × Value → H} {W : World} {base b0 : Nat} {r : Reach} {v : Value} {d : DataW H} {p : List MemPlace}
    (hv : Value.okWide Try.prog W r b0 43 v) (h : DataW.Trod enc Try.prog W base (fun _ => true) true 43 v d p) : ∃ x, U2V v x := by
  obtain ⟨a, b, rfl, _, _, wa, wb⟩ := WideMaps.open_pair arrU2 Try.underlying5 hv h
  exact ⟨(a, b), rfl, wf_u8 wa, wf_u8 wb⟩
theorem walk_splain (v0 : Value) (p : Px) (v1 : Value) (u : Int × Int) (v2 : Value) (t : Int × Int) (kd : Int) (w : World) (h0 : PxV v0 p) (h1 : U2V v1 u) (h2 : U2V v2 t) (hkd : 0 ≤ kd ∧ kd ≤ 255) :
    Calls Try.prog 7 #[v0, v1, v2, .int .u8 kd] w fun e w' => e = .returned (.bool true) ∧ Below w.heap.size w w' := by
  obtain ⟨rfl, -⟩ := h0
  obtain ⟨rfl, hu0, hu1⟩ := h1
  obtain ⟨rfl, ht0, ht1⟩ := h2
  have TV := fun w => pvalid_any p.r p.g p.b p.a w
  by_cases hok : pxOk p = true ∧ 1 ≤ p.a
  rotate_left
  · refine splain_e p u.1 u.2 t.1 t.2 kd (pxOk p) w ?_ TV awake_any
    cases hc : pxOk p
    · exact .inl rfl
    · have hna : ¬ 1 ≤ p.a := fun h => hok ⟨hc, h⟩
      exact .inr ⟨rfl, by omega⟩
  obtain ⟨hok, ha⟩ := hok
  have hp := (pxOk_iff p).1 hok
  rw [show (⟨p.r, p.g, p.b, p.a⟩ : Px) = p from rfl, hok] at TV
  have hv : vld (kd % 5) = true := by unfold vld; simp; omega
  have nn : ∀ a b : Int, 0 ≤ a ∧ a ≤ 23 → 0 ≤ b ∧ b ≤ 23 → (1 + a).toNat * (1 + b).toNat ≤ 1000 ∧ 0 < (1 + a).toNat * (1 + b).toNat := by
    intro a b ha hb
    have h1 : (1 + a).toNat * (1 + b).toNat ≤ 24 * 24 := Nat.mul_le_mul (by omega) (by omega)
    exact ⟨by omega, Nat.mul_pos (by omega) (by omega)⟩
  have n1 := nn (u.1 % 24) (u.2 % 24) (by omega) (by omega)
  have n2 := nn (t.1 % 24) (t.2 % 24) (by omega) (by omega)
  refine splain_ok p u.1 u.2 t.1 t.2 kd (kd % 5) (u.1 % 24) (u.2 % 24) (t.1 % 24) (t.2 % 24) (1 + u.1 % 24).toNat (1 + u.2 % 24).toNat _ (1 + t.1 % 24).toNat (1 + t.2 % 24).toNat _ w (by omega) (by omega) (by omega) (by omega) (by omega) (by omega)
    (Int.tmod_eq_emod_of_nonneg hu0.1) (Int.tmod_eq_emod_of_nonneg hu1.1) (Int.tmod_eq_emod_of_nonneg ht0.1) (Int.tmod_eq_emod_of_nonneg ht1.1) (Int.tmod_eq_emod_of_nonneg hkd.1)
    (by omega) (by omega) (by omega) (by omega) rfl rfl n1.1 n2.1 n2.2 (fun w' A n c hP => ?_) TV awake_any
  obtain rfl := hP.len
  have hWH : (((1 + u.1 % 24).toNat : Nat) : Int) * (((1 + u.2 % 24).toNat : Nat) : Int) = (((1 + u.1 % 24).toNat * (1 + u.2 % 24).toNat : Nat) : Int) := (Int.natCast_mul _ _).symm
  have hTT : (((1 + t.1 % 24).toNat : Nat) : Int) * (((1 + t.2 % 24).toNat : Nat) : Int) = (((1 + t.1 % 24).toNat * (1 + t.2 % 24).toNat : Nat) : Int) := (Int.natCast_mul _ _).symm
  have q := sres_any (((1 + u.1 % 24).toNat : Nat) : Int) (((1 + u.2 % 24).toNat : Nat) : Int) A c _ (((1 + t.1 % 24).toNat : Nat) : Int) (((1 + t.2 % 24).toNat : Nat) : Int) (kd % 5) w' hP
  have io : IOk (((1 + u.1 % 24).toNat : Nat) : Int) (((1 + u.2 % 24).toNat : Nat) : Int) (List.replicate ((1 + u.1 % 24).toNat * (1 + u.2 % 24).toNat) p) := by
    refine ⟨by omega, by omega, by omega, by omega, by omega, ?_, fun i hi => ?_⟩
    · rw [List.length_replicate, hWH]
    · rw [List.length_replicate] at hi
      have hpi : pat (List.replicate ((1 + u.1 % 24).toNat * (1 + u.2 % 24).toNat) p) i = p := by simp [pat, hi]
      rw [hpi]
      exact hp
  rw [sRE_iff.2 ⟨io, by omega, by omega, by omega, hv⟩, imOut_ok, rpic_plain hp ha hv (by omega) (by omega) hWH hTT] at q
  exact q
end Go.Proofs.Ytineinmghajmnaa
