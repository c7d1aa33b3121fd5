/- WandRegions: the walk. -/
import Derived.Test.YtgdefgpbaccneaaWandW4
namespace Go.Proofs.Ytgdefgpbaccneaa
open Go.RowKit

def limPx (p : Px) : Int × Int × Int × Int := (lim16 p.r, lim16 p.g, lim16 p.b, lim16 p.a)
theorem sim0_iff (ps : List Px) (s b : Nat) : simP ps 0 s b ↔ limPx (pat ps b) = limPx (pat ps s) := by
  unfold simP dist dif limPx
  rw [Prod.mk.injEq, Prod.mk.injEq, Prod.mk.injEq]
  omega
theorem region_same {N : Nat} {W : Int} {dg : Bool} {ps : List Px} {s s2 : Nat} {l1 l2 : List Int} (h1 : FloodIs N W dg (simP ps 0 s) s l1) (h2 : FloodIs N W dg (simP ps 0 s2) s2 l2) (hs : s < N) (hs2 : s2 < N) (hn : l1.getD s2 0 ≠ 0) : l1 = l2 := by
  have r : Reach N W dg (simP ps 0 s) s s2 := by
    rcases h1.2 s2 hs2 with ⟨_, r⟩ | ⟨e, _⟩
    · exact r
    · exact absurd e hn
  have hss : simP ps 0 s s := (sim0_iff ps s s).2 rfl
  have e := (sim0_iff ps s s2).1 (r.sim' hss)
  have hc : ∀ b, simP ps 0 s2 b ↔ simP ps 0 s b := fun b => by rw [sim0_iff, sim0_iff, e]
  have h2' := floodIs_congr (fun b _ => hc b) h2
  refine floodIs_eq (s := s2) ⟨h1.1, fun k hk => ?_⟩ h2'
  rcases h1.2 k hk with ⟨a, b⟩ | ⟨a, b⟩
  · exact .inl ⟨a, (r.back hs hss).trans b⟩
  · exact .inr ⟨a, fun q => b (r.trans q)⟩
theorem flood_more {N : Nat} {W : Int} {dg dg' : Bool} {sim sim' : Nat → Prop} {s : Nat} {l l' : List Int} (h : FloodIs N W dg sim s l) (h' : FloodIs N W dg' sim' s l') (hd : dg = true → dg' = true) (hs : ∀ b, sim b → sim' b) {k : Nat} (hk : k < N) (hn : l.getD k 0 ≠ 0) : l'.getD k 0 = 65535 := by
  rcases h.2 k hk with ⟨_, r⟩ | ⟨e, _⟩
  · rcases h'.2 k hk with ⟨e, _⟩ | ⟨_, r'⟩
    · exact e
    · exact absurd (r.mono hd fun b _ hb => hs b hb) r'
  · exact absurd e hn
/-- A flood, whatever it answers. -/
theorem flood_g (W H x y t : Int) (dg : Bool) (A : Option Addr) (n c : Nat) (ps : List Px) (w : World) (h : Pixs w w.heap.size (.slice A n c) ps) :
    Calls Try.prog 9 #[.agg #[.int .i64 W, .int .i64 H, .slice A n c], .agg #[.int .i64 x, .int .i64 y], .int .i64 t, .bool dg] w
      (fun e w' => ∃ l W' H', ((ferr (ichk W H ps) W H x y (uok t) = 0 → FloodIs ps.length W dg (simP ps t (y * W + x).toNat) (y * W + x).toNat l ∧ W' = W ∧ H' = H) ∧ (ferr (ichk W H ps) W H x y (uok t) ≠ 0 → l = [])) ∧ MkPost (ferr (ichk W H ps) W H x y (uok t)) W' H' l w e w') := by
  refine (flood_any W H x y t dg A n c ps w h).mono fun e w' ⟨l, h1, h2⟩ => ?_
  by_cases hE : ferr (ichk W H ps) W H x y (uok t) = 0
  · rw [hE, mkOut_ok] at h2
    exact ⟨l, W, H, ⟨fun h => ⟨h1 h, rfl, rfl⟩, fun h => absurd hE h⟩, by rw [hE]; exact h2⟩
  · rw [mkOut_err hE] at h2
    exact ⟨[], 0, 0, ⟨fun h => absurd h hE, fun _ => rfl⟩, h2⟩
theorem ferr_more (chk W H x y t m : Int) (h : 0 ≤ t ∧ t ≤ 65535 - m) (hm : 0 ≤ m) : ferr chk W H x y (uok (t + m)) = ferr chk W H x y (uok t) := by
  rw [(uok_iff (t + m)).2 (by omega), (uok_iff t).2 (by omega)]
theorem boxIPP (w : World) (W H x y x' y' : Int) (v : Value) (w0 : World)
    (hw : w0 = ((w.alloc (.cells #[.int .i64 W, .int .i64 H, v] 24)).alloc (.cells #[.int .i64 x, .int .i64 y] 26)).alloc (.cells #[.int .i64 x', .int .i64 y'] 26)) :
    ImgAt w0 w.heap.size W H v ∧ PtAt w0 (w.heap.size + 1) x y ∧ PtAt w0 (w.heap.size + 2) x' y' ∧ Below w.heap.size w w0 := by
  subst hw
  have a := ImgAt.new w W H v 24
  have b := PtAt.new (w.alloc (.cells #[.int .i64 W, .int .i64 H, v] 24)) x y 26
  have d := PtAt.new ((w.alloc (.cells #[.int .i64 W, .int .i64 H, v] 24)).alloc (.cells #[.int .i64 x, .int .i64 y] 26)) x' y' 26
  simp only [World.size_alloc] at b d
  exact ⟨(a.below (bel1 _ _)).below (bel1 _ _), b.below (bel1 _ _), d, bel_alloc (bel_alloc (bel1 _ _) _) _⟩
def CutT (t' : Int) (wc : World) (v : Value) (wx : World) : Prop := v = .int .i64 t' ∧ wx = wc


set_option maxRecDepth 100000 in
set_option maxHeartbeats 8000000 in
theorem walk_regions_1 (A : Option Addr) (c : Nat) (W H x y x' y' : Int) (ps : List Px) (t m : Int) (w : World) (hp : Pixs w w.heap.size (.slice A ps.length c) ps) (hm0 : 0 ≤ m) (hm1 : m ≤ 65535) (ta : 0 ≤ t) (tb : t ≤ 65535 - m) :
    Calls Try.prog 6 #[.agg #[.int .i64 W, .int .i64 H, .slice A ps.length c], .agg #[.int .i64 x, .int .i64 y], .agg #[.int .i64 x', .int .i64 y'], .int .i64 t, .int .i64 m] w fun e w' => e = .returned (.bool true) ∧ Below w.heap.size w w' := by
  have HP := Lib.hid hp; clear hp
  have HEE := Lib.hid (show ferr (ichk W H ps) W H x y (uok (t + m)) = ferr (ichk W H ps) W H x y (uok t) from ferr_more _ _ _ _ _ _ _ ⟨ta, tb⟩ hm0)
  go_enter Try.func6, Try.ntmps6
  go_wp2_with fail
  obtain ⟨hI, hX, hY, hB⟩ := boxIPP w W H x y x' y' (.slice A ps.length c) _ rfl
  generalize World.alloc (World.alloc (w.alloc _) _) _ = wa at *
  have HI := Lib.hid hI; have HX := Lib.hid hX; have HY := Lib.hid hY; have HB := Lib.hid hB; clear hI hX hY hB
  refine (flood_g W H x y 0 false A ps.length c ps _ (HP.out.on HB.out)).mono ?_
  rintro e w0 ⟨La, Wa, Ha, hf, v, rfl, hrow, hb⟩
  have HFa := Lib.hid hf; clear hf
  obtain ⟨Ma, ma, rfl⟩ := irow_shape hrow
  have hbb := hb
  have HI := Lib.hid (HI.out.below hbb); have HX := Lib.hid (HX.out.below hbb); have HY := Lib.hid (HY.out.below hbb); have HB := Lib.hid (bel_trans HB.out hbb)
  have HN := Lib.hid (Mk.new Wa Ha 29 hrow)
  clear hrow hb hbb
  obtain ⟨i0, i1, i2, i3⟩ := HI.out
  obtain ⟨z0, z1, z2⟩ := HX.out
  obtain ⟨y0, y1, y2⟩ := HY.out
  go_wp2_with fail
  refine (flood_g W H x' y' 0 false A ps.length c ps _ (HP.out.on (bel_alloc HB.out (.cells #[.int .i64 Wa, .int .i64 Ha, .slice Ma La.length ma] 29)))).mono ?_
  rintro e w1 ⟨Lb, Wb, Hb, hf, v, rfl, hrow, hb⟩
  have HFb := Lib.hid hf; clear hf
  clear i0 i1 i2 i3 z0 z1 z2 y0 y1 y2
  obtain ⟨Mb, mb, rfl⟩ := irow_shape hrow
  have hbb := bel_trans (bel1 _ (.cells #[.int .i64 Wa, .int .i64 Ha, .slice Ma La.length ma] 29)) hb
  have HI := Lib.hid (HI.out.below hbb); have HX := Lib.hid (HX.out.below hbb); have HY := Lib.hid (HY.out.below hbb); have HB := Lib.hid (bel_trans HB.out hbb)
  have HMa := Lib.hid (HN.out.below hb); clear HN
  have HN := Lib.hid (Mk.new Wb Hb 29 hrow)
  clear hrow hb hbb
  obtain ⟨i0, i1, i2, i3⟩ := HI.out
  obtain ⟨z0, z1, z2⟩ := HX.out
  obtain ⟨y0, y1, y2⟩ := HY.out
  go_wp2_with fail
  refine (flood_g W H x y t false A ps.length c ps _ (HP.out.on (bel_alloc HB.out (.cells #[.int .i64 Wb, .int .i64 Hb, .slice Mb Lb.length mb] 29)))).mono ?_
  rintro e w2 ⟨Lc, Wc, Hc, hf, v, rfl, hrow, hb⟩
  have HFc := Lib.hid hf; clear hf
  clear i0 i1 i2 i3 z0 z1 z2 y0 y1 y2
  obtain ⟨Mc, mc, rfl⟩ := irow_shape hrow
  have hbb := bel_trans (bel1 _ (.cells #[.int .i64 Wb, .int .i64 Hb, .slice Mb Lb.length mb] 29)) hb
  have HI := Lib.hid (HI.out.below hbb); have HX := Lib.hid (HX.out.below hbb); have HY := Lib.hid (HY.out.below hbb); have HB := Lib.hid (bel_trans HB.out hbb)
  have HMa := Lib.hid (HMa.out.below hbb)
  have HMb := Lib.hid (HN.out.below hb); clear HN
  have HN := Lib.hid (Mk.new Wc Hc 29 hrow)
  clear hrow hb hbb
  obtain ⟨i0, i1, i2, i3⟩ := HI.out
  obtain ⟨z0, z1, z2⟩ := HX.out
  obtain ⟨y0, y1, y2⟩ := HY.out
  go_wp2_with fail
  refine (flood_g W H x y t true A ps.length c ps _ (HP.out.on (bel_alloc HB.out (.cells #[.int .i64 Wc, .int .i64 Hc, .slice Mc Lc.length mc] 29)))).mono ?_
  rintro e w3 ⟨Ld, Wd, Hd, hf, v, rfl, hrow, hb⟩
  have HFd := Lib.hid hf; clear hf
  clear i0 i1 i2 i3 z0 z1 z2 y0 y1 y2
  obtain ⟨Md, md, rfl⟩ := irow_shape hrow
  have hbb := bel_trans (bel1 _ (.cells #[.int .i64 Wc, .int .i64 Hc, .slice Mc Lc.length mc] 29)) hb
  have HI := Lib.hid (HI.out.below hbb); have HX := Lib.hid (HX.out.below hbb); have HY := Lib.hid (HY.out.below hbb); have HB := Lib.hid (bel_trans HB.out hbb)
  have HMa := Lib.hid (HMa.out.below hbb)
  have HMb := Lib.hid (HMb.out.below hbb)
  have HMc := Lib.hid (HN.out.below hb); clear HN
  have HN := Lib.hid (Mk.new Wd Hd 29 hrow)
  clear hrow hb hbb
  obtain ⟨i0, i1, i2, i3⟩ := HI.out
  obtain ⟨z0, z1, z2⟩ := HX.out
  obtain ⟨y0, y1, y2⟩ := HY.out
  go_wp2_with fail
  refine (flood_g W H x y (t + m) false A ps.length c ps _ (HP.out.on (bel_alloc HB.out (.cells #[.int .i64 Wd, .int .i64 Hd, .slice Md Ld.length md] 29)))).mono ?_
  rintro e w4 ⟨Le, We, He, hf, v, rfl, hrow, hb⟩
  have HFe := Lib.hid hf; clear hf
  clear i0 i1 i2 i3 z0 z1 z2 y0 y1 y2
  obtain ⟨Me, me, rfl⟩ := irow_shape hrow
  have hbb := bel_trans (bel1 _ (.cells #[.int .i64 Wd, .int .i64 Hd, .slice Md Ld.length md] 29)) hb
  have HI := Lib.hid (HI.out.below hbb); have HX := Lib.hid (HX.out.below hbb); have HY := Lib.hid (HY.out.below hbb); have HB := Lib.hid (bel_trans HB.out hbb)
  have HMa := Lib.hid (HMa.out.below hbb)
  have HMb := Lib.hid (HMb.out.below hbb)
  have HMc := Lib.hid (HMc.out.below hbb)
  have HMd := Lib.hid (HN.out.below hb); clear HN
  have HN := Lib.hid (Mk.new We He 29 hrow)
  clear hrow hb hbb
  have hfe := HFe.out
  try rw [HEE.out] at hfe
  try rw [HEE.out]
  have HFe := Lib.hid hfe; clear hfe
  have HMe := HN; clear HN
  have HMa := Lib.hid (HMa.out.below (bel1 _ (.cells #[.int .i64 We, .int .i64 He, .slice Me Le.length me] 29)))
  have HMb := Lib.hid (HMb.out.below (bel1 _ (.cells #[.int .i64 We, .int .i64 He, .slice Me Le.length me] 29)))
  have HMc := Lib.hid (HMc.out.below (bel1 _ (.cells #[.int .i64 We, .int .i64 He, .slice Me Le.length me] 29)))
  have HMd := Lib.hid (HMd.out.below (bel1 _ (.cells #[.int .i64 We, .int .i64 He, .slice Me Le.length me] 29)))
  have HI := Lib.hid (HI.out.below (bel1 _ (.cells #[.int .i64 We, .int .i64 He, .slice Me Le.length me] 29))); have HX := Lib.hid (HX.out.below (bel1 _ (.cells #[.int .i64 We, .int .i64 He, .slice Me Le.length me] 29))); have HY := Lib.hid (HY.out.below (bel1 _ (.cells #[.int .i64 We, .int .i64 He, .slice Me Le.length me] 29))); have HB := Lib.hid (bel_alloc HB.out (.cells #[.int .i64 We, .int .i64 He, .slice Me Le.length me] 29))
  have HZ := Lib.hid (fun (h : ferr (ichk W H ps) W H x y (uok 0) = 0) => ferr_zero h)
  have HZ2 := Lib.hid (fun (h : ferr (ichk W H ps) W H x' y' (uok 0) = 0) => ferr_zero h)
  have HZ3 := Lib.hid (fun (h : ferr (ichk W H ps) W H x y (uok t) = 0) => ferr_zero h)
  have HK := Lib.hid (fun (h : ichk W H ps = 0) => (ichk_iff W H ps).1 h)
  have HKL := Lib.hid (ichk_len W H ps)
  generalize ferr (ichk W H ps) W H x y (uok 0) = Ea at *
  generalize ferr (ichk W H ps) W H x' y' (uok 0) = Eb at *
  generalize ferr (ichk W H ps) W H x y (uok t) = Ec at *
  go_upto_region 11 with fail
  generalize World.alloc w4 _ = w6 at *
  by_cases hab : Ea = 0 ∧ Eb = 0
  rotate_left
  · rcases (show (Ea == 0) = false ∨ ((Ea == 0) = true ∧ (Eb == 0) = false) by
      by_cases e1 : Ea = 0
      · right; refine ⟨by simp [e1], ?_⟩; rw [beq_eq_false_iff_ne]; intro e; exact hab ⟨e1, e⟩
      · left; rw [beq_eq_false_iff_ne]; exact e1) with t1 | ⟨t1, t2⟩
    all_goals
      clear hab
      go_upto_region 16 with fail
      by_cases hEc : Ec = 0
      · subst hEc
        have hl2 := HKL.out (HZ3.out (by trivial)).1
        obtain ⟨fc, _, _⟩ := HFc.out.1 (by trivial)
        obtain ⟨fd, _, _⟩ := HFd.out.1 (by trivial)
        obtain ⟨fe, _, _⟩ := HFe.out.1 (by trivial)
        have HMR1 := Lib.hid (fun k hk hn => flood_more fc fd (fun h => by cases h) (fun _ h => h) (k := k) hk hn)
        have HMR2 := Lib.hid (fun k hk hn => flood_more fc fe (fun h => h) (fun _ (h : dist _ _ ≤ t) => Int.le_trans h (by omega)) (k := k) hk hn)
        have HVC := Lib.hid (fun k (hk : k < ps.length) => (fc.2 k hk).imp And.left And.left)
        have lc := fc.1; have ld := fd.1; have le := fe.1
        clear fc fd fe
        obtain ⟨uc, gc, qc⟩ := HMc.out
        obtain ⟨Ac, kc, eqc, _, rc⟩ := qc
        rw [lc] at eqc
        subst eqc
        have HGc := Lib.hid gc; have HRc := Lib.hid rc; have HLc := Lib.hid lc
        obtain ⟨gc0, gc1, gc2, gc3⟩ := gc
        clear rc lc
        obtain ⟨ud, gd, qd⟩ := HMd.out
        obtain ⟨Ad, kd, eqd, _, rd⟩ := qd
        rw [ld] at eqd
        subst eqd
        have HGd := Lib.hid gd; have HRd := Lib.hid rd; have HLd := Lib.hid ld
        obtain ⟨gd0, gd1, gd2, gd3⟩ := gd
        clear rd ld
        obtain ⟨ue, ge, qe⟩ := HMe.out
        obtain ⟨Ae, ke, eqe, _, re⟩ := qe
        rw [le] at eqe
        subst eqe
        have HGe := Lib.hid ge; have HRe := Lib.hid re; have HLe := Lib.hid le
        obtain ⟨ge0, ge1, ge2, ge3⟩ := ge
        clear re le
        have hln : ((ps.length : Int) != ps.length) = false := by simp
        go_wp2_with fail
        go_loopg [172] ps.length (SoRel ps.length w6)
        case atStart => exact ⟨0, Nat.zero_le _, rfl, rfl, Below.refl _ _⟩
        case round =>
          obtain ⟨k, hk, rfl, rfl, hbr⟩ := hrel
          have HBR := Lib.hid hbr
          clear gc0 gc1 gc2 gc3 gd0 gd1 gd2 gd3 ge0 ge1 ge2 ge3
          by_cases hlt : k < ps.length
          · have hv := HVC.out k hlt
            have m1 := HMR1.out k hlt; have m2 := HMR2.out k hlt
            obtain ⟨bc, oc, rfl, hbc, yc⟩ := HRc.out k (by rw [HLc.out]; exact hlt)
            replace yc := (hbr.cell (p := ⟨bc, oc + k, none⟩) hbc).trans yc
            replace hbc := Nat.lt_of_lt_of_le hbc hbr.size
            obtain ⟨gc0, gc1, gc2, gc3⟩ := HGc.out.below hbr
            obtain ⟨bd, od, rfl, hbd, yd⟩ := HRd.out k (by rw [HLd.out]; exact hlt)
            replace yd := (hbr.cell (p := ⟨bd, od + k, none⟩) hbd).trans yd
            replace hbd := Nat.lt_of_lt_of_le hbd hbr.size
            obtain ⟨gd0, gd1, gd2, gd3⟩ := HGd.out.below hbr
            obtain ⟨be, oe, rfl, hbe, ye⟩ := HRe.out k (by rw [HLe.out]; exact hlt)
            replace ye := (hbr.cell (p := ⟨be, oe + k, none⟩) hbe).trans ye
            replace hbe := Nat.lt_of_lt_of_le hbe hbr.size
            obtain ⟨ge0, ge1, ge2, ge3⟩ := HGe.out.below hbr
            clear hbr
            have hk0 : (0 : Int) ≤ (k : Int) := by omega
            have hk1 : (k : Int) < (ps.length : Int) := by omega
            rcases hv with hv | hv
            · have m1' := m1 (by omega); have m2' := m2 (by omega)
              rw [hv] at yc; rw [m1'] at yd; rw [m2'] at ye
              clear hv m1 m2 m1' m2'
              go_wp2_with fail
              go_roundg (ps.length - (k + 1))
              case measure => omega
              case rel => exact ⟨k + 1, by omega, rfl, by go_num, HBR.out⟩
            · rw [hv] at yc
              clear hv m1 m2
              go_wp2_with fail
              go_roundg (ps.length - (k + 1))
              case measure => omega
              case rel => exact ⟨k + 1, by omega, rfl, by go_num, HBR.out⟩
          · go_wp2_with fail
            refine (awake_any _).mono ?_
            rintro e wf ⟨rfl, hb5⟩
            go_wp2_with fail
            go_ret
            exact ⟨rfl, bel_trans (bel_trans HB.out HBR.out) hb5⟩
      · have ec := HFc.out.2 hEc
        have ed := HFd.out.2 hEc
        have ee := HFe.out.2 hEc
        subst ec ed ee
        obtain ⟨uc, gc, qc⟩ := HMc.out
        obtain ⟨Ac, kc, rfl, _, rc⟩ := qc
        obtain ⟨gc0, gc1, gc2, gc3⟩ := gc
        rw [List.length_nil] at gc3
        clear rc
        obtain ⟨ud, gd, qd⟩ := HMd.out
        obtain ⟨Ad, kd, rfl, _, rd⟩ := qd
        obtain ⟨gd0, gd1, gd2, gd3⟩ := gd
        rw [List.length_nil] at gd3
        clear rd
        obtain ⟨ue, ge, qe⟩ := HMe.out
        obtain ⟨Ae, ke, rfl, _, re⟩ := qe
        obtain ⟨ge0, ge1, ge2, ge3⟩ := ge
        rw [List.length_nil] at ge3
        clear re
        have hEn : (Ec != Ec) = false := by simp
        go_wp2_with fail
        go_loopg [172] 0 (SoRel 0 w6)
        case atStart => exact ⟨0, Nat.zero_le _, rfl, rfl, Below.refl _ _⟩
        case round =>
          obtain ⟨k, hk, rfl, rfl, hbr⟩ := hrel
          obtain rfl : k = 0 := by omega
          have HBR := Lib.hid hbr; clear hbr
          go_wp2_with fail
          refine (awake_any _).mono ?_
          rintro e wf ⟨rfl, hb5⟩
          go_wp2_with fail
          go_ret
          exact ⟨rfl, bel_trans (bel_trans HB.out HBR.out) hb5⟩
  · obtain ⟨rfl, rfl⟩ := hab
    obtain ⟨ck, gx0, gx1, gy0, gy1, _⟩ := HZ.out (by trivial)
    obtain ⟨_, gu0, gu1, gv0, gv1, _⟩ := HZ2.out (by trivial)
    obtain ⟨fa, ea1, ea2⟩ := HFa.out.1 (by trivial)
    obtain ⟨fb, eb1, eb2⟩ := HFb.out.1 (by trivial)
    replace ea1 := ea1.symm; replace ea2 := ea2.symm; replace eb1 := eb1.symm; replace eb2 := eb2.symm
    subst ea1 ea2 eb1 eb2
    have hok := HK.out ck
    have hl := HKL.out ck
    have la := fa.1; have lb := fb.1
    have hyW : 0 ≤ y' * W ∧ y' * W ≤ 65536 := by
      have e1 : 0 ≤ y' * W := Int.mul_nonneg gv0 (by omega)
      have e2 : y' * W ≤ 256 * 256 := Int.mul_le_mul (by have := hok.h1; omega) hok.w1 (by omega) (by omega)
      omega
    have hpl := place_bd gu0 gu1 gv0 gv1
    have hpl2 := place_bd gx0 gx1 gy0 gy1
    obtain ⟨s2, hs2⟩ : ∃ s2 : Nat, y' * W + x' = s2 := ⟨(y' * W + x').toNat, by omega⟩
    obtain ⟨s1, hs1⟩ : ∃ s1 : Nat, y * W + x = s1 := ⟨(y * W + x).toNat, by omega⟩
    have hn2 : s2 < ps.length := by have := hok.n; omega
    have hn1 : s1 < ps.length := by have := hok.n; omega
    have HSM := Lib.hid (show La.getD s2 0 ≠ 0 → La = Lb by
      have e1 : (y * W + x).toNat = s1 := by rw [hs1]; rfl
      have e2 : (y' * W + x').toNat = s2 := by rw [hs2]; rfl
      rw [e1] at fa; rw [e2] at fb
      exact region_same fa fb hn1 hn2)
    have HS2 := Lib.hid hs2; have HCK := Lib.hid ck; have HLA := Lib.hid la; have HLB := Lib.hid lb
    clear fa fb hok hpl hpl2 hs1 hs2 ck la lb hn1
    obtain ⟨i0, i1, i2, i3⟩ := HI.out
    obtain ⟨ua, ga, qa⟩ := HMa.out
    obtain ⟨Aa, ka, eqa, xa, ra⟩ := qa
    rw [HLA.out] at eqa
    subst eqa
    obtain ⟨ub, gb, qb⟩ := HMb.out
    obtain ⟨Ab, kb, eqb, xb, rb⟩ := qb
    rw [HLB.out] at eqb
    subst eqb
    have HGA := Lib.hid ga; have HGB := Lib.hid gb
    have HQA := Lib.hid (show Ints w6 w6.heap.size _ La from ⟨Aa, ka, by rw [HLA.out], xa, ra⟩)
    have HQB := Lib.hid (show Ints w6 w6.heap.size _ Lb from ⟨Ab, kb, by rw [HLB.out], xb, rb⟩)
    obtain ⟨ba, oa, rfl, hba, ya⟩ := ra s2 (by rw [HLA.out]; exact hn2)
    obtain ⟨ga0, ga1, ga2, ga3⟩ := ga
    obtain ⟨gb0, gb1, gb2, gb3⟩ := gb
    have HYA := Lib.hid (And.intro hba ya)
    have hln : ((ps.length : Int) != ps.length) = false := by simp
    clear ra rb hba ya
    go_wp2_with fail
    refine (richeck_any W H A ps.length c ps _ (HP.out.on HB.out)).mono ?_
    rintro e w7 ⟨rfl, hb7⟩
    rw [HCK.out]
    clear i0 i1 i2 i3 ga0 ga1 ga2 ga3 gb0 gb1 gb2 gb3
    have HI := Lib.hid (HI.out.below hb7)
    have HY := Lib.hid (HY.out.below hb7)
    have HGA := Lib.hid (HGA.out.below hb7)
    have HGB := Lib.hid (HGB.out.below hb7)
    have HMc := Lib.hid (HMc.out.below hb7)
    have HMd := Lib.hid (HMd.out.below hb7)
    have HMe := Lib.hid (HMe.out.below hb7)
    have HQA := Lib.hid ((HQA.out.below hb7).more hb7.size); have HQB := Lib.hid ((HQB.out.below hb7).more hb7.size)
    have HB := Lib.hid (bel_trans HB.out hb7)
    have ya := (hb7.cell (p := ⟨ba, oa + s2, none⟩) HYA.out.1).trans HYA.out.2
    have hba := Nat.lt_of_lt_of_le HYA.out.1 hb7.size
    obtain ⟨i0, i1, i2, i3⟩ := HI.out
    obtain ⟨z0, z1, z2⟩ := HY.out
    obtain ⟨ga0, ga1, ga2, ga3⟩ := HGA.out
    obtain ⟨gb0, gb1, gb2, gb3⟩ := HGB.out
    have hs2 := HS2.out
    clear hb7
    by_cases hz : La.getD s2 0 = 0
    · rw [hz] at ya
      go_upto_region 16 with fail
      clear hs2 i0 i1 i2 i3 z0 z1 z2 ga0 ga1 ga2 ga3 gb0 gb1 gb2 gb3 ya hln
      by_cases hEc : Ec = 0
      · subst hEc
        have hl2 := HKL.out (HZ3.out (by trivial)).1
        obtain ⟨fc, _, _⟩ := HFc.out.1 (by trivial)
        obtain ⟨fd, _, _⟩ := HFd.out.1 (by trivial)
        obtain ⟨fe, _, _⟩ := HFe.out.1 (by trivial)
        have HMR1 := Lib.hid (fun k hk hn => flood_more fc fd (fun h => by cases h) (fun _ h => h) (k := k) hk hn)
        have HMR2 := Lib.hid (fun k hk hn => flood_more fc fe (fun h => h) (fun _ (h : dist _ _ ≤ t) => Int.le_trans h (by omega)) (k := k) hk hn)
        have HVC := Lib.hid (fun k (hk : k < ps.length) => (fc.2 k hk).imp And.left And.left)
        have lc := fc.1; have ld := fd.1; have le := fe.1
        clear fc fd fe
        obtain ⟨uc, gc, qc⟩ := HMc.out
        obtain ⟨Ac, kc, eqc, _, rc⟩ := qc
        rw [lc] at eqc
        subst eqc
        have HGc := Lib.hid gc; have HRc := Lib.hid rc; have HLc := Lib.hid lc
        obtain ⟨gc0, gc1, gc2, gc3⟩ := gc
        clear rc lc
        obtain ⟨ud, gd, qd⟩ := HMd.out
        obtain ⟨Ad, kd, eqd, _, rd⟩ := qd
        rw [ld] at eqd
        subst eqd
        have HGd := Lib.hid gd; have HRd := Lib.hid rd; have HLd := Lib.hid ld
        obtain ⟨gd0, gd1, gd2, gd3⟩ := gd
        clear rd ld
        obtain ⟨ue, ge, qe⟩ := HMe.out
        obtain ⟨Ae, ke, eqe, _, re⟩ := qe
        rw [le] at eqe
        subst eqe
        have HGe := Lib.hid ge; have HRe := Lib.hid re; have HLe := Lib.hid le
        obtain ⟨ge0, ge1, ge2, ge3⟩ := ge
        clear re le
        have hln : ((ps.length : Int) != ps.length) = false := by simp
        go_wp2_with fail
        go_loopg [172] ps.length (SoRel ps.length w7)
        case atStart => exact ⟨0, Nat.zero_le _, rfl, rfl, Below.refl _ _⟩
        case round =>
          obtain ⟨k, hk, rfl, rfl, hbr⟩ := hrel
          have HBR := Lib.hid hbr
          clear gc0 gc1 gc2 gc3 gd0 gd1 gd2 gd3 ge0 ge1 ge2 ge3
          by_cases hlt : k < ps.length
          · have hv := HVC.out k hlt
            have m1 := HMR1.out k hlt; have m2 := HMR2.out k hlt
            obtain ⟨bc, oc, rfl, hbc, yc⟩ := HRc.out k (by rw [HLc.out]; exact hlt)
            replace yc := (hbr.cell (p := ⟨bc, oc + k, none⟩) hbc).trans yc
            replace hbc := Nat.lt_of_lt_of_le hbc hbr.size
            obtain ⟨gc0, gc1, gc2, gc3⟩ := HGc.out.below hbr
            obtain ⟨bd, od, rfl, hbd, yd⟩ := HRd.out k (by rw [HLd.out]; exact hlt)
            replace yd := (hbr.cell (p := ⟨bd, od + k, none⟩) hbd).trans yd
            replace hbd := Nat.lt_of_lt_of_le hbd hbr.size
            obtain ⟨gd0, gd1, gd2, gd3⟩ := HGd.out.below hbr
            obtain ⟨be, oe, rfl, hbe, ye⟩ := HRe.out k (by rw [HLe.out]; exact hlt)
            replace ye := (hbr.cell (p := ⟨be, oe + k, none⟩) hbe).trans ye
            replace hbe := Nat.lt_of_lt_of_le hbe hbr.size
            obtain ⟨ge0, ge1, ge2, ge3⟩ := HGe.out.below hbr
            clear hbr
            have hk0 : (0 : Int) ≤ (k : Int) := by omega
            have hk1 : (k : Int) < (ps.length : Int) := by omega
            rcases hv with hv | hv
            · have m1' := m1 (by omega); have m2' := m2 (by omega)
              rw [hv] at yc; rw [m1'] at yd; rw [m2'] at ye
              clear hv m1 m2 m1' m2'
              go_wp2_with fail
              go_roundg (ps.length - (k + 1))
              case measure => omega
              case rel => exact ⟨k + 1, by omega, rfl, by go_num, HBR.out⟩
            · rw [hv] at yc
              clear hv m1 m2
              go_wp2_with fail
              go_roundg (ps.length - (k + 1))
              case measure => omega
              case rel => exact ⟨k + 1, by omega, rfl, by go_num, HBR.out⟩
          · go_wp2_with fail
            refine (awake_any _).mono ?_
            rintro e wf ⟨rfl, hb5⟩
            go_wp2_with fail
            go_ret
            exact ⟨rfl, bel_trans (bel_trans HB.out HBR.out) hb5⟩
      · have ec := HFc.out.2 hEc
        have ed := HFd.out.2 hEc
        have ee := HFe.out.2 hEc
        subst ec ed ee
        obtain ⟨uc, gc, qc⟩ := HMc.out
        obtain ⟨Ac, kc, rfl, _, rc⟩ := qc
        obtain ⟨gc0, gc1, gc2, gc3⟩ := gc
        rw [List.length_nil] at gc3
        clear rc
        obtain ⟨ud, gd, qd⟩ := HMd.out
        obtain ⟨Ad, kd, rfl, _, rd⟩ := qd
        obtain ⟨gd0, gd1, gd2, gd3⟩ := gd
        rw [List.length_nil] at gd3
        clear rd
        obtain ⟨ue, ge, qe⟩ := HMe.out
        obtain ⟨Ae, ke, rfl, _, re⟩ := qe
        obtain ⟨ge0, ge1, ge2, ge3⟩ := ge
        rw [List.length_nil] at ge3
        clear re
        have hEn : (Ec != Ec) = false := by simp
        go_wp2_with fail
        go_loopg [172] 0 (SoRel 0 w7)
        case atStart => exact ⟨0, Nat.zero_le _, rfl, rfl, Below.refl _ _⟩
        case round =>
          obtain ⟨k, hk, rfl, rfl, hbr⟩ := hrel
          obtain rfl : k = 0 := by omega
          have HBR := Lib.hid hbr; clear hbr
          go_wp2_with fail
          refine (awake_any _).mono ?_
          rintro e wf ⟨rfl, hb5⟩
          go_wp2_with fail
          go_ret
          exact ⟨rfl, bel_trans (bel_trans HB.out HBR.out) hb5⟩
    · have eab := HSM.out hz
      generalize La.getD s2 0 = za at *
      have hzb : (za != 0) = true := by simp [hz]
      subst eab
      clear hz
      go_wp2_with fail
      refine (msame_true W H W H _ _ La _ rfl rfl HQA.out HQB.out).mono ?_
      rintro e w8 ⟨rfl, hb8⟩
      clear hs2 i0 i1 i2 i3 z0 z1 z2 ga0 ga1 ga2 ga3 gb0 gb1 gb2 gb3 ya hln hzb
      have HMc := Lib.hid (HMc.out.below hb8)
      have HMd := Lib.hid (HMd.out.below hb8)
      have HMe := Lib.hid (HMe.out.below hb8)
      have HB := Lib.hid (bel_trans HB.out hb8)
      clear hb8
      go_upto_region 16 with fail
      by_cases hEc : Ec = 0
      · subst hEc
        have hl2 := HKL.out (HZ3.out (by trivial)).1
        obtain ⟨fc, _, _⟩ := HFc.out.1 (by trivial)
        obtain ⟨fd, _, _⟩ := HFd.out.1 (by trivial)
        obtain ⟨fe, _, _⟩ := HFe.out.1 (by trivial)
        have HMR1 := Lib.hid (fun k hk hn => flood_more fc fd (fun h => by cases h) (fun _ h => h) (k := k) hk hn)
        have HMR2 := Lib.hid (fun k hk hn => flood_more fc fe (fun h => h) (fun _ (h : dist _ _ ≤ t) => Int.le_trans h (by omega)) (k := k) hk hn)
        have HVC := Lib.hid (fun k (hk : k < ps.length) => (fc.2 k hk).imp And.left And.left)
        have lc := fc.1; have ld := fd.1; have le := fe.1
        clear fc fd fe
        obtain ⟨uc, gc, qc⟩ := HMc.out
        obtain ⟨Ac, kc, eqc, _, rc⟩ := qc
        rw [lc] at eqc
        subst eqc
        have HGc := Lib.hid gc; have HRc := Lib.hid rc; have HLc := Lib.hid lc
        obtain ⟨gc0, gc1, gc2, gc3⟩ := gc
        clear rc lc
        obtain ⟨ud, gd, qd⟩ := HMd.out
        obtain ⟨Ad, kd, eqd, _, rd⟩ := qd
        rw [ld] at eqd
        subst eqd
        have HGd := Lib.hid gd; have HRd := Lib.hid rd; have HLd := Lib.hid ld
        obtain ⟨gd0, gd1, gd2, gd3⟩ := gd
        clear rd ld
        obtain ⟨ue, ge, qe⟩ := HMe.out
        obtain ⟨Ae, ke, eqe, _, re⟩ := qe
        rw [le] at eqe
        subst eqe
        have HGe := Lib.hid ge; have HRe := Lib.hid re; have HLe := Lib.hid le
        obtain ⟨ge0, ge1, ge2, ge3⟩ := ge
        clear re le
        have hln : ((ps.length : Int) != ps.length) = false := by simp
        go_wp2_with fail
        go_loopg [172] ps.length (SoRel ps.length w8)
        case atStart => exact ⟨0, Nat.zero_le _, rfl, rfl, Below.refl _ _⟩
        case round =>
          obtain ⟨k, hk, rfl, rfl, hbr⟩ := hrel
          have HBR := Lib.hid hbr
          clear gc0 gc1 gc2 gc3 gd0 gd1 gd2 gd3 ge0 ge1 ge2 ge3
          by_cases hlt : k < ps.length
          · have hv := HVC.out k hlt
            have m1 := HMR1.out k hlt; have m2 := HMR2.out k hlt
            obtain ⟨bc, oc, rfl, hbc, yc⟩ := HRc.out k (by rw [HLc.out]; exact hlt)
            replace yc := (hbr.cell (p := ⟨bc, oc + k, none⟩) hbc).trans yc
            replace hbc := Nat.lt_of_lt_of_le hbc hbr.size
            obtain ⟨gc0, gc1, gc2, gc3⟩ := HGc.out.below hbr
            obtain ⟨bd, od, rfl, hbd, yd⟩ := HRd.out k (by rw [HLd.out]; exact hlt)
            replace yd := (hbr.cell (p := ⟨bd, od + k, none⟩) hbd).trans yd
            replace hbd := Nat.lt_of_lt_of_le hbd hbr.size
            obtain ⟨gd0, gd1, gd2, gd3⟩ := HGd.out.below hbr
            obtain ⟨be, oe, rfl, hbe, ye⟩ := HRe.out k (by rw [HLe.out]; exact hlt)
            replace ye := (hbr.cell (p := ⟨be, oe + k, none⟩) hbe).trans ye
            replace hbe := Nat.lt_of_lt_of_le hbe hbr.size
            obtain ⟨ge0, ge1, ge2, ge3⟩ := HGe.out.below hbr
            clear hbr
            have hk0 : (0 : Int) ≤ (k : Int) := by omega
            have hk1 : (k : Int) < (ps.length : Int) := by omega
            rcases hv with hv | hv
            · have m1' := m1 (by omega); have m2' := m2 (by omega)
              rw [hv] at yc; rw [m1'] at yd; rw [m2'] at ye
              clear hv m1 m2 m1' m2'
              go_wp2_with fail
              go_roundg (ps.length - (k + 1))
              case measure => omega
              case rel => exact ⟨k + 1, by omega, rfl, by go_num, HBR.out⟩
            · rw [hv] at yc
              clear hv m1 m2
              go_wp2_with fail
              go_roundg (ps.length - (k + 1))
              case measure => omega
              case rel => exact ⟨k + 1, by omega, rfl, by go_num, HBR.out⟩
          · go_wp2_with fail
            refine (awake_any _).mono ?_
            rintro e wf ⟨rfl, hb5⟩
            go_wp2_with fail
            go_ret
            exact ⟨rfl, bel_trans (bel_trans HB.out HBR.out) hb5⟩
      · have ec := HFc.out.2 hEc
        have ed := HFd.out.2 hEc
        have ee := HFe.out.2 hEc
        subst ec ed ee
        obtain ⟨uc, gc, qc⟩ := HMc.out
        obtain ⟨Ac, kc, rfl, _, rc⟩ := qc
        obtain ⟨gc0, gc1, gc2, gc3⟩ := gc
        rw [List.length_nil] at gc3
        clear rc
        obtain ⟨ud, gd, qd⟩ := HMd.out
        obtain ⟨Ad, kd, rfl, _, rd⟩ := qd
        obtain ⟨gd0, gd1, gd2, gd3⟩ := gd
        rw [List.length_nil] at gd3
        clear rd
        obtain ⟨ue, ge, qe⟩ := HMe.out
        obtain ⟨Ae, ke, rfl, _, re⟩ := qe
        obtain ⟨ge0, ge1, ge2, ge3⟩ := ge
        rw [List.length_nil] at ge3
        clear re
        have hEn : (Ec != Ec) = false := by simp
        go_wp2_with fail
        go_loopg [172] 0 (SoRel 0 w8)
        case atStart => exact ⟨0, Nat.zero_le _, rfl, rfl, Below.refl _ _⟩
        case round =>
          obtain ⟨k, hk, rfl, rfl, hbr⟩ := hrel
          obtain rfl : k = 0 := by omega
          have HBR := Lib.hid hbr; clear hbr
          go_wp2_with fail
          refine (awake_any _).mono ?_
          rintro e wf ⟨rfl, hb5⟩
          go_wp2_with fail
          go_ret
          exact ⟨rfl, bel_trans (bel_trans HB.out HBR.out) hb5⟩
set_option maxRecDepth 100000 in
set_option maxHeartbeats 8000000 in
theorem walk_regions_2 (A : Option Addr) (c : Nat) (W H x y x' y' : Int) (ps : List Px) (t m : Int) (w : World) (hp : Pixs w w.heap.size (.slice A ps.length c) ps) (hm0 : 0 ≤ m) (hm1 : m ≤ 65535) (ta : t < 0) :
    Calls Try.prog 6 #[.agg #[.int .i64 W, .int .i64 H, .slice A ps.length c], .agg #[.int .i64 x, .int .i64 y], .agg #[.int .i64 x', .int .i64 y'], .int .i64 t, .int .i64 m] w fun e w' => e = .returned (.bool true) ∧ Below w.heap.size w w' := by
  have HP := Lib.hid hp; clear hp
  have HEE := Lib.hid (show ferr (ichk W H ps) W H x y (uok t) = ferr (ichk W H ps) W H x y (uok t) from rfl)
  go_enter Try.func6, Try.ntmps6
  go_wp2_with fail
  obtain ⟨hI, hX, hY, hB⟩ := boxIPP w W H x y x' y' (.slice A ps.length c) _ rfl
  generalize World.alloc (World.alloc (w.alloc _) _) _ = wa at *
  have HI := Lib.hid hI; have HX := Lib.hid hX; have HY := Lib.hid hY; have HB := Lib.hid hB; clear hI hX hY hB
  refine (flood_g W H x y 0 false A ps.length c ps _ (HP.out.on HB.out)).mono ?_
  rintro e w0 ⟨La, Wa, Ha, hf, v, rfl, hrow, hb⟩
  have HFa := Lib.hid hf; clear hf
  obtain ⟨Ma, ma, rfl⟩ := irow_shape hrow
  have hbb := hb
  have HI := Lib.hid (HI.out.below hbb); have HX := Lib.hid (HX.out.below hbb); have HY := Lib.hid (HY.out.below hbb); have HB := Lib.hid (bel_trans HB.out hbb)
  have HN := Lib.hid (Mk.new Wa Ha 29 hrow)
  clear hrow hb hbb
  obtain ⟨i0, i1, i2, i3⟩ := HI.out
  obtain ⟨z0, z1, z2⟩ := HX.out
  obtain ⟨y0, y1, y2⟩ := HY.out
  go_wp2_with fail
  refine (flood_g W H x' y' 0 false A ps.length c ps _ (HP.out.on (bel_alloc HB.out (.cells #[.int .i64 Wa, .int .i64 Ha, .slice Ma La.length ma] 29)))).mono ?_
  rintro e w1 ⟨Lb, Wb, Hb, hf, v, rfl, hrow, hb⟩
  have HFb := Lib.hid hf; clear hf
  clear i0 i1 i2 i3 z0 z1 z2 y0 y1 y2
  obtain ⟨Mb, mb, rfl⟩ := irow_shape hrow
  have hbb := bel_trans (bel1 _ (.cells #[.int .i64 Wa, .int .i64 Ha, .slice Ma La.length ma] 29)) hb
  have HI := Lib.hid (HI.out.below hbb); have HX := Lib.hid (HX.out.below hbb); have HY := Lib.hid (HY.out.below hbb); have HB := Lib.hid (bel_trans HB.out hbb)
  have HMa := Lib.hid (HN.out.below hb); clear HN
  have HN := Lib.hid (Mk.new Wb Hb 29 hrow)
  clear hrow hb hbb
  obtain ⟨i0, i1, i2, i3⟩ := HI.out
  obtain ⟨z0, z1, z2⟩ := HX.out
  obtain ⟨y0, y1, y2⟩ := HY.out
  go_wp2_with fail
  refine (flood_g W H x y t false A ps.length c ps _ (HP.out.on (bel_alloc HB.out (.cells #[.int .i64 Wb, .int .i64 Hb, .slice Mb Lb.length mb] 29)))).mono ?_
  rintro e w2 ⟨Lc, Wc, Hc, hf, v, rfl, hrow, hb⟩
  have HFc := Lib.hid hf; clear hf
  clear i0 i1 i2 i3 z0 z1 z2 y0 y1 y2
  obtain ⟨Mc, mc, rfl⟩ := irow_shape hrow
  have hbb := bel_trans (bel1 _ (.cells #[.int .i64 Wb, .int .i64 Hb, .slice Mb Lb.length mb] 29)) hb
  have HI := Lib.hid (HI.out.below hbb); have HX := Lib.hid (HX.out.below hbb); have HY := Lib.hid (HY.out.below hbb); have HB := Lib.hid (bel_trans HB.out hbb)
  have HMa := Lib.hid (HMa.out.below hbb)
  have HMb := Lib.hid (HN.out.below hb); clear HN
  have HN := Lib.hid (Mk.new Wc Hc 29 hrow)
  clear hrow hb hbb
  obtain ⟨i0, i1, i2, i3⟩ := HI.out
  obtain ⟨z0, z1, z2⟩ := HX.out
  obtain ⟨y0, y1, y2⟩ := HY.out
  go_wp2_with fail
  refine (flood_g W H x y t true A ps.length c ps _ (HP.out.on (bel_alloc HB.out (.cells #[.int .i64 Wc, .int .i64 Hc, .slice Mc Lc.length mc] 29)))).mono ?_
  rintro e w3 ⟨Ld, Wd, Hd, hf, v, rfl, hrow, hb⟩
  have HFd := Lib.hid hf; clear hf
  clear i0 i1 i2 i3 z0 z1 z2 y0 y1 y2
  obtain ⟨Md, md, rfl⟩ := irow_shape hrow
  have hbb := bel_trans (bel1 _ (.cells #[.int .i64 Wc, .int .i64 Hc, .slice Mc Lc.length mc] 29)) hb
  have HI := Lib.hid (HI.out.below hbb); have HX := Lib.hid (HX.out.below hbb); have HY := Lib.hid (HY.out.below hbb); have HB := Lib.hid (bel_trans HB.out hbb)
  have HMa := Lib.hid (HMa.out.below hbb)
  have HMb := Lib.hid (HMb.out.below hbb)
  have HMc := Lib.hid (HN.out.below hb); clear HN
  have HN := Lib.hid (Mk.new Wd Hd 29 hrow)
  clear hrow hb hbb
  obtain ⟨i0, i1, i2, i3⟩ := HI.out
  obtain ⟨z0, z1, z2⟩ := HX.out
  obtain ⟨y0, y1, y2⟩ := HY.out
  go_wp2_with fail
  refine (flood_g W H x y t false A ps.length c ps _ (HP.out.on (bel_alloc HB.out (.cells #[.int .i64 Wd, .int .i64 Hd, .slice Md Ld.length md] 29)))).mono ?_
  rintro e w4 ⟨Le, We, He, hf, v, rfl, hrow, hb⟩
  have HFe := Lib.hid hf; clear hf
  clear i0 i1 i2 i3 z0 z1 z2 y0 y1 y2
  obtain ⟨Me, me, rfl⟩ := irow_shape hrow
  have hbb := bel_trans (bel1 _ (.cells #[.int .i64 Wd, .int .i64 Hd, .slice Md Ld.length md] 29)) hb
  have HI := Lib.hid (HI.out.below hbb); have HX := Lib.hid (HX.out.below hbb); have HY := Lib.hid (HY.out.below hbb); have HB := Lib.hid (bel_trans HB.out hbb)
  have HMa := Lib.hid (HMa.out.below hbb)
  have HMb := Lib.hid (HMb.out.below hbb)
  have HMc := Lib.hid (HMc.out.below hbb)
  have HMd := Lib.hid (HN.out.below hb); clear HN
  have HN := Lib.hid (Mk.new We He 29 hrow)
  clear hrow hb hbb
  have hfe := HFe.out
  try rw [HEE.out] at hfe
  try rw [HEE.out]
  have HFe := Lib.hid hfe; clear hfe
  have HMe := HN; clear HN
  have HMa := Lib.hid (HMa.out.below (bel1 _ (.cells #[.int .i64 We, .int .i64 He, .slice Me Le.length me] 29)))
  have HMb := Lib.hid (HMb.out.below (bel1 _ (.cells #[.int .i64 We, .int .i64 He, .slice Me Le.length me] 29)))
  have HMc := Lib.hid (HMc.out.below (bel1 _ (.cells #[.int .i64 We, .int .i64 He, .slice Me Le.length me] 29)))
  have HMd := Lib.hid (HMd.out.below (bel1 _ (.cells #[.int .i64 We, .int .i64 He, .slice Me Le.length me] 29)))
  have HI := Lib.hid (HI.out.below (bel1 _ (.cells #[.int .i64 We, .int .i64 He, .slice Me Le.length me] 29))); have HX := Lib.hid (HX.out.below (bel1 _ (.cells #[.int .i64 We, .int .i64 He, .slice Me Le.length me] 29))); have HY := Lib.hid (HY.out.below (bel1 _ (.cells #[.int .i64 We, .int .i64 He, .slice Me Le.length me] 29))); have HB := Lib.hid (bel_alloc HB.out (.cells #[.int .i64 We, .int .i64 He, .slice Me Le.length me] 29))
  have HZ := Lib.hid (fun (h : ferr (ichk W H ps) W H x y (uok 0) = 0) => ferr_zero h)
  have HZ2 := Lib.hid (fun (h : ferr (ichk W H ps) W H x' y' (uok 0) = 0) => ferr_zero h)
  have HZ3 := Lib.hid (fun (h : ferr (ichk W H ps) W H x y (uok t) = 0) => ferr_zero h)
  have HK := Lib.hid (fun (h : ichk W H ps = 0) => (ichk_iff W H ps).1 h)
  have HKL := Lib.hid (ichk_len W H ps)
  generalize ferr (ichk W H ps) W H x y (uok 0) = Ea at *
  generalize ferr (ichk W H ps) W H x' y' (uok 0) = Eb at *
  generalize ferr (ichk W H ps) W H x y (uok t) = Ec at *
  go_upto_region 11 with fail
  generalize World.alloc w4 _ = w6 at *
  by_cases hab : Ea = 0 ∧ Eb = 0
  rotate_left
  · rcases (show (Ea == 0) = false ∨ ((Ea == 0) = true ∧ (Eb == 0) = false) by
      by_cases e1 : Ea = 0
      · right; refine ⟨by simp [e1], ?_⟩; rw [beq_eq_false_iff_ne]; intro e; exact hab ⟨e1, e⟩
      · left; rw [beq_eq_false_iff_ne]; exact e1) with t1 | ⟨t1, t2⟩
    all_goals
      clear hab
      go_upto_region 16 with fail
      by_cases hEc : Ec = 0
      · subst hEc
        have hl2 := HKL.out (HZ3.out (by trivial)).1
        obtain ⟨fc, _, _⟩ := HFc.out.1 (by trivial)
        obtain ⟨fd, _, _⟩ := HFd.out.1 (by trivial)
        obtain ⟨fe, _, _⟩ := HFe.out.1 (by trivial)
        have HMR1 := Lib.hid (fun k hk hn => flood_more fc fd (fun h => by cases h) (fun _ h => h) (k := k) hk hn)
        have HMR2 := Lib.hid (fun k hk hn => flood_more fc fe (fun h => h) (fun _ (h : dist _ _ ≤ t) => Int.le_trans h (by omega)) (k := k) hk hn)
        have HVC := Lib.hid (fun k (hk : k < ps.length) => (fc.2 k hk).imp And.left And.left)
        have lc := fc.1; have ld := fd.1; have le := fe.1
        clear fc fd fe
        obtain ⟨uc, gc, qc⟩ := HMc.out
        obtain ⟨Ac, kc, eqc, _, rc⟩ := qc
        rw [lc] at eqc
        subst eqc
        have HGc := Lib.hid gc; have HRc := Lib.hid rc; have HLc := Lib.hid lc
        obtain ⟨gc0, gc1, gc2, gc3⟩ := gc
        clear rc lc
        obtain ⟨ud, gd, qd⟩ := HMd.out
        obtain ⟨Ad, kd, eqd, _, rd⟩ := qd
        rw [ld] at eqd
        subst eqd
        have HGd := Lib.hid gd; have HRd := Lib.hid rd; have HLd := Lib.hid ld
        obtain ⟨gd0, gd1, gd2, gd3⟩ := gd
        clear rd ld
        obtain ⟨ue, ge, qe⟩ := HMe.out
        obtain ⟨Ae, ke, eqe, _, re⟩ := qe
        rw [le] at eqe
        subst eqe
        have HGe := Lib.hid ge; have HRe := Lib.hid re; have HLe := Lib.hid le
        obtain ⟨ge0, ge1, ge2, ge3⟩ := ge
        clear re le
        have hln : ((ps.length : Int) != ps.length) = false := by simp
        go_wp2_with fail
        go_loopg [172] ps.length (SoRel ps.length w6)
        case atStart => exact ⟨0, Nat.zero_le _, rfl, rfl, Below.refl _ _⟩
        case round =>
          obtain ⟨k, hk, rfl, rfl, hbr⟩ := hrel
          have HBR := Lib.hid hbr
          clear gc0 gc1 gc2 gc3 gd0 gd1 gd2 gd3 ge0 ge1 ge2 ge3
          by_cases hlt : k < ps.length
          · have hv := HVC.out k hlt
            have m1 := HMR1.out k hlt; have m2 := HMR2.out k hlt
            obtain ⟨bc, oc, rfl, hbc, yc⟩ := HRc.out k (by rw [HLc.out]; exact hlt)
            replace yc := (hbr.cell (p := ⟨bc, oc + k, none⟩) hbc).trans yc
            replace hbc := Nat.lt_of_lt_of_le hbc hbr.size
            obtain ⟨gc0, gc1, gc2, gc3⟩ := HGc.out.below hbr
            obtain ⟨bd, od, rfl, hbd, yd⟩ := HRd.out k (by rw [HLd.out]; exact hlt)
            replace yd := (hbr.cell (p := ⟨bd, od + k, none⟩) hbd).trans yd
            replace hbd := Nat.lt_of_lt_of_le hbd hbr.size
            obtain ⟨gd0, gd1, gd2, gd3⟩ := HGd.out.below hbr
            obtain ⟨be, oe, rfl, hbe, ye⟩ := HRe.out k (by rw [HLe.out]; exact hlt)
            replace ye := (hbr.cell (p := ⟨be, oe + k, none⟩) hbe).trans ye
            replace hbe := Nat.lt_of_lt_of_le hbe hbr.size
            obtain ⟨ge0, ge1, ge2, ge3⟩ := HGe.out.below hbr
            clear hbr
            have hk0 : (0 : Int) ≤ (k : Int) := by omega
            have hk1 : (k : Int) < (ps.length : Int) := by omega
            rcases hv with hv | hv
            · have m1' := m1 (by omega); have m2' := m2 (by omega)
              rw [hv] at yc; rw [m1'] at yd; rw [m2'] at ye
              clear hv m1 m2 m1' m2'
              go_wp2_with fail
              go_roundg (ps.length - (k + 1))
              case measure => omega
              case rel => exact ⟨k + 1, by omega, rfl, by go_num, HBR.out⟩
            · rw [hv] at yc
              clear hv m1 m2
              go_wp2_with fail
              go_roundg (ps.length - (k + 1))
              case measure => omega
              case rel => exact ⟨k + 1, by omega, rfl, by go_num, HBR.out⟩
          · go_wp2_with fail
            refine (awake_any _).mono ?_
            rintro e wf ⟨rfl, hb5⟩
            go_wp2_with fail
            go_ret
            exact ⟨rfl, bel_trans (bel_trans HB.out HBR.out) hb5⟩
      · have ec := HFc.out.2 hEc
        have ed := HFd.out.2 hEc
        have ee := HFe.out.2 hEc
        subst ec ed ee
        obtain ⟨uc, gc, qc⟩ := HMc.out
        obtain ⟨Ac, kc, rfl, _, rc⟩ := qc
        obtain ⟨gc0, gc1, gc2, gc3⟩ := gc
        rw [List.length_nil] at gc3
        clear rc
        obtain ⟨ud, gd, qd⟩ := HMd.out
        obtain ⟨Ad, kd, rfl, _, rd⟩ := qd
        obtain ⟨gd0, gd1, gd2, gd3⟩ := gd
        rw [List.length_nil] at gd3
        clear rd
        obtain ⟨ue, ge, qe⟩ := HMe.out
        obtain ⟨Ae, ke, rfl, _, re⟩ := qe
        obtain ⟨ge0, ge1, ge2, ge3⟩ := ge
        rw [List.length_nil] at ge3
        clear re
        have hEn : (Ec != Ec) = false := by simp
        go_wp2_with fail
        go_loopg [172] 0 (SoRel 0 w6)
        case atStart => exact ⟨0, Nat.zero_le _, rfl, rfl, Below.refl _ _⟩
        case round =>
          obtain ⟨k, hk, rfl, rfl, hbr⟩ := hrel
          obtain rfl : k = 0 := by omega
          have HBR := Lib.hid hbr; clear hbr
          go_wp2_with fail
          refine (awake_any _).mono ?_
          rintro e wf ⟨rfl, hb5⟩
          go_wp2_with fail
          go_ret
          exact ⟨rfl, bel_trans (bel_trans HB.out HBR.out) hb5⟩
  · obtain ⟨rfl, rfl⟩ := hab
    obtain ⟨ck, gx0, gx1, gy0, gy1, _⟩ := HZ.out (by trivial)
    obtain ⟨_, gu0, gu1, gv0, gv1, _⟩ := HZ2.out (by trivial)
    obtain ⟨fa, ea1, ea2⟩ := HFa.out.1 (by trivial)
    obtain ⟨fb, eb1, eb2⟩ := HFb.out.1 (by trivial)
    replace ea1 := ea1.symm; replace ea2 := ea2.symm; replace eb1 := eb1.symm; replace eb2 := eb2.symm
    subst ea1 ea2 eb1 eb2
    have hok := HK.out ck
    have hl := HKL.out ck
    have la := fa.1; have lb := fb.1
    have hyW : 0 ≤ y' * W ∧ y' * W ≤ 65536 := by
      have e1 : 0 ≤ y' * W := Int.mul_nonneg gv0 (by omega)
      have e2 : y' * W ≤ 256 * 256 := Int.mul_le_mul (by have := hok.h1; omega) hok.w1 (by omega) (by omega)
      omega
    have hpl := place_bd gu0 gu1 gv0 gv1
    have hpl2 := place_bd gx0 gx1 gy0 gy1
    obtain ⟨s2, hs2⟩ : ∃ s2 : Nat, y' * W + x' = s2 := ⟨(y' * W + x').toNat, by omega⟩
    obtain ⟨s1, hs1⟩ : ∃ s1 : Nat, y * W + x = s1 := ⟨(y * W + x).toNat, by omega⟩
    have hn2 : s2 < ps.length := by have := hok.n; omega
    have hn1 : s1 < ps.length := by have := hok.n; omega
    have HSM := Lib.hid (show La.getD s2 0 ≠ 0 → La = Lb by
      have e1 : (y * W + x).toNat = s1 := by rw [hs1]; rfl
      have e2 : (y' * W + x').toNat = s2 := by rw [hs2]; rfl
      rw [e1] at fa; rw [e2] at fb
      exact region_same fa fb hn1 hn2)
    have HS2 := Lib.hid hs2; have HCK := Lib.hid ck; have HLA := Lib.hid la; have HLB := Lib.hid lb
    clear fa fb hok hpl hpl2 hs1 hs2 ck la lb hn1
    obtain ⟨i0, i1, i2, i3⟩ := HI.out
    obtain ⟨ua, ga, qa⟩ := HMa.out
    obtain ⟨Aa, ka, eqa, xa, ra⟩ := qa
    rw [HLA.out] at eqa
    subst eqa
    obtain ⟨ub, gb, qb⟩ := HMb.out
    obtain ⟨Ab, kb, eqb, xb, rb⟩ := qb
    rw [HLB.out] at eqb
    subst eqb
    have HGA := Lib.hid ga; have HGB := Lib.hid gb
    have HQA := Lib.hid (show Ints w6 w6.heap.size _ La from ⟨Aa, ka, by rw [HLA.out], xa, ra⟩)
    have HQB := Lib.hid (show Ints w6 w6.heap.size _ Lb from ⟨Ab, kb, by rw [HLB.out], xb, rb⟩)
    obtain ⟨ba, oa, rfl, hba, ya⟩ := ra s2 (by rw [HLA.out]; exact hn2)
    obtain ⟨ga0, ga1, ga2, ga3⟩ := ga
    obtain ⟨gb0, gb1, gb2, gb3⟩ := gb
    have HYA := Lib.hid (And.intro hba ya)
    have hln : ((ps.length : Int) != ps.length) = false := by simp
    clear ra rb hba ya
    go_wp2_with fail
    refine (richeck_any W H A ps.length c ps _ (HP.out.on HB.out)).mono ?_
    rintro e w7 ⟨rfl, hb7⟩
    rw [HCK.out]
    clear i0 i1 i2 i3 ga0 ga1 ga2 ga3 gb0 gb1 gb2 gb3
    have HI := Lib.hid (HI.out.below hb7)
    have HY := Lib.hid (HY.out.below hb7)
    have HGA := Lib.hid (HGA.out.below hb7)
    have HGB := Lib.hid (HGB.out.below hb7)
    have HMc := Lib.hid (HMc.out.below hb7)
    have HMd := Lib.hid (HMd.out.below hb7)
    have HMe := Lib.hid (HMe.out.below hb7)
    have HQA := Lib.hid ((HQA.out.below hb7).more hb7.size); have HQB := Lib.hid ((HQB.out.below hb7).more hb7.size)
    have HB := Lib.hid (bel_trans HB.out hb7)
    have ya := (hb7.cell (p := ⟨ba, oa + s2, none⟩) HYA.out.1).trans HYA.out.2
    have hba := Nat.lt_of_lt_of_le HYA.out.1 hb7.size
    obtain ⟨i0, i1, i2, i3⟩ := HI.out
    obtain ⟨z0, z1, z2⟩ := HY.out
    obtain ⟨ga0, ga1, ga2, ga3⟩ := HGA.out
    obtain ⟨gb0, gb1, gb2, gb3⟩ := HGB.out
    have hs2 := HS2.out
    clear hb7
    by_cases hz : La.getD s2 0 = 0
    · rw [hz] at ya
      go_upto_region 16 with fail
      clear hs2 i0 i1 i2 i3 z0 z1 z2 ga0 ga1 ga2 ga3 gb0 gb1 gb2 gb3 ya hln
      by_cases hEc : Ec = 0
      · subst hEc
        have hl2 := HKL.out (HZ3.out (by trivial)).1
        obtain ⟨fc, _, _⟩ := HFc.out.1 (by trivial)
        obtain ⟨fd, _, _⟩ := HFd.out.1 (by trivial)
        obtain ⟨fe, _, _⟩ := HFe.out.1 (by trivial)
        have HMR1 := Lib.hid (fun k hk hn => flood_more fc fd (fun h => by cases h) (fun _ h => h) (k := k) hk hn)
        have HMR2 := Lib.hid (fun k hk hn => flood_more fc fe (fun h => h) (fun _ (h : dist _ _ ≤ t) => Int.le_trans h (by omega)) (k := k) hk hn)
        have HVC := Lib.hid (fun k (hk : k < ps.length) => (fc.2 k hk).imp And.left And.left)
        have lc := fc.1; have ld := fd.1; have le := fe.1
        clear fc fd fe
        obtain ⟨uc, gc, qc⟩ := HMc.out
        obtain ⟨Ac, kc, eqc, _, rc⟩ := qc
        rw [lc] at eqc
        subst eqc
        have HGc := Lib.hid gc; have HRc := Lib.hid rc; have HLc := Lib.hid lc
        obtain ⟨gc0, gc1, gc2, gc3⟩ := gc
        clear rc lc
        obtain ⟨ud, gd, qd⟩ := HMd.out
        obtain ⟨Ad, kd, eqd, _, rd⟩ := qd
        rw [ld] at eqd
        subst eqd
        have HGd := Lib.hid gd; have HRd := Lib.hid rd; have HLd := Lib.hid ld
        obtain ⟨gd0, gd1, gd2, gd3⟩ := gd
        clear rd ld
        obtain ⟨ue, ge, qe⟩ := HMe.out
        obtain ⟨Ae, ke, eqe, _, re⟩ := qe
        rw [le] at eqe
        subst eqe
        have HGe := Lib.hid ge; have HRe := Lib.hid re; have HLe := Lib.hid le
        obtain ⟨ge0, ge1, ge2, ge3⟩ := ge
        clear re le
        have hln : ((ps.length : Int) != ps.length) = false := by simp
        go_wp2_with fail
        go_loopg [172] ps.length (SoRel ps.length w7)
        case atStart => exact ⟨0, Nat.zero_le _, rfl, rfl, Below.refl _ _⟩
        case round =>
          obtain ⟨k, hk, rfl, rfl, hbr⟩ := hrel
          have HBR := Lib.hid hbr
          clear gc0 gc1 gc2 gc3 gd0 gd1 gd2 gd3 ge0 ge1 ge2 ge3
          by_cases hlt : k < ps.length
          · have hv := HVC.out k hlt
            have m1 := HMR1.out k hlt; have m2 := HMR2.out k hlt
            obtain ⟨bc, oc, rfl, hbc, yc⟩ := HRc.out k (by rw [HLc.out]; exact hlt)
            replace yc := (hbr.cell (p := ⟨bc, oc + k, none⟩) hbc).trans yc
            replace hbc := Nat.lt_of_lt_of_le hbc hbr.size
            obtain ⟨gc0, gc1, gc2, gc3⟩ := HGc.out.below hbr
            obtain ⟨bd, od, rfl, hbd, yd⟩ := HRd.out k (by rw [HLd.out]; exact hlt)
            replace yd := (hbr.cell (p := ⟨bd, od + k, none⟩) hbd).trans yd
            replace hbd := Nat.lt_of_lt_of_le hbd hbr.size
            obtain ⟨gd0, gd1, gd2, gd3⟩ := HGd.out.below hbr
            obtain ⟨be, oe, rfl, hbe, ye⟩ := HRe.out k (by rw [HLe.out]; exact hlt)
            replace ye := (hbr.cell (p := ⟨be, oe + k, none⟩) hbe).trans ye
            replace hbe := Nat.lt_of_lt_of_le hbe hbr.size
            obtain ⟨ge0, ge1, ge2, ge3⟩ := HGe.out.below hbr
            clear hbr
            have hk0 : (0 : Int) ≤ (k : Int) := by omega
            have hk1 : (k : Int) < (ps.length : Int) := by omega
            rcases hv with hv | hv
            · have m1' := m1 (by omega); have m2' := m2 (by omega)
              rw [hv] at yc; rw [m1'] at yd; rw [m2'] at ye
              clear hv m1 m2 m1' m2'
              go_wp2_with fail
              go_roundg (ps.length - (k + 1))
              case measure => omega
              case rel => exact ⟨k + 1, by omega, rfl, by go_num, HBR.out⟩
            · rw [hv] at yc
              clear hv m1 m2
              go_wp2_with fail
              go_roundg (ps.length - (k + 1))
              case measure => omega
              case rel => exact ⟨k + 1, by omega, rfl, by go_num, HBR.out⟩
          · go_wp2_with fail
            refine (awake_any _).mono ?_
            rintro e wf ⟨rfl, hb5⟩
            go_wp2_with fail
            go_ret
            exact ⟨rfl, bel_trans (bel_trans HB.out HBR.out) hb5⟩
      · have ec := HFc.out.2 hEc
        have ed := HFd.out.2 hEc
        have ee := HFe.out.2 hEc
        subst ec ed ee
        obtain ⟨uc, gc, qc⟩ := HMc.out
        obtain ⟨Ac, kc, rfl, _, rc⟩ := qc
        obtain ⟨gc0, gc1, gc2, gc3⟩ := gc
        rw [List.length_nil] at gc3
        clear rc
        obtain ⟨ud, gd, qd⟩ := HMd.out
        obtain ⟨Ad, kd, rfl, _, rd⟩ := qd
        obtain ⟨gd0, gd1, gd2, gd3⟩ := gd
        rw [List.length_nil] at gd3
        clear rd
        obtain ⟨ue, ge, qe⟩ := HMe.out
        obtain ⟨Ae, ke, rfl, _, re⟩ := qe
        obtain ⟨ge0, ge1, ge2, ge3⟩ := ge
        rw [List.length_nil] at ge3
        clear re
        have hEn : (Ec != Ec) = false := by simp
        go_wp2_with fail
        go_loopg [172] 0 (SoRel 0 w7)
        case atStart => exact ⟨0, Nat.zero_le _, rfl, rfl, Below.refl _ _⟩
        case round =>
          obtain ⟨k, hk, rfl, rfl, hbr⟩ := hrel
          obtain rfl : k = 0 := by omega
          have HBR := Lib.hid hbr; clear hbr
          go_wp2_with fail
          refine (awake_any _).mono ?_
          rintro e wf ⟨rfl, hb5⟩
          go_wp2_with fail
          go_ret
          exact ⟨rfl, bel_trans (bel_trans HB.out HBR.out) hb5⟩
    · have eab := HSM.out hz
      generalize La.getD s2 0 = za at *
      have hzb : (za != 0) = true := by simp [hz]
      subst eab
      clear hz
      go_wp2_with fail
      refine (msame_true W H W H _ _ La _ rfl rfl HQA.out HQB.out).mono ?_
      rintro e w8 ⟨rfl, hb8⟩
      clear hs2 i0 i1 i2 i3 z0 z1 z2 ga0 ga1 ga2 ga3 gb0 gb1 gb2 gb3 ya hln hzb
      have HMc := Lib.hid (HMc.out.below hb8)
      have HMd := Lib.hid (HMd.out.below hb8)
      have HMe := Lib.hid (HMe.out.below hb8)
      have HB := Lib.hid (bel_trans HB.out hb8)
      clear hb8
      go_upto_region 16 with fail
      by_cases hEc : Ec = 0
      · subst hEc
        have hl2 := HKL.out (HZ3.out (by trivial)).1
        obtain ⟨fc, _, _⟩ := HFc.out.1 (by trivial)
        obtain ⟨fd, _, _⟩ := HFd.out.1 (by trivial)
        obtain ⟨fe, _, _⟩ := HFe.out.1 (by trivial)
        have HMR1 := Lib.hid (fun k hk hn => flood_more fc fd (fun h => by cases h) (fun _ h => h) (k := k) hk hn)
        have HMR2 := Lib.hid (fun k hk hn => flood_more fc fe (fun h => h) (fun _ (h : dist _ _ ≤ t) => Int.le_trans h (by omega)) (k := k) hk hn)
        have HVC := Lib.hid (fun k (hk : k < ps.length) => (fc.2 k hk).imp And.left And.left)
        have lc := fc.1; have ld := fd.1; have le := fe.1
        clear fc fd fe
        obtain ⟨uc, gc, qc⟩ := HMc.out
        obtain ⟨Ac, kc, eqc, _, rc⟩ := qc
        rw [lc] at eqc
        subst eqc
        have HGc := Lib.hid gc; have HRc := Lib.hid rc; have HLc := Lib.hid lc
        obtain ⟨gc0, gc1, gc2, gc3⟩ := gc
        clear rc lc
        obtain ⟨ud, gd, qd⟩ := HMd.out
        obtain ⟨Ad, kd, eqd, _, rd⟩ := qd
        rw [ld] at eqd
        subst eqd
        have HGd := Lib.hid gd; have HRd := Lib.hid rd; have HLd := Lib.hid ld
        obtain ⟨gd0, gd1, gd2, gd3⟩ := gd
        clear rd ld
        obtain ⟨ue, ge, qe⟩ := HMe.out
        obtain ⟨Ae, ke, eqe, _, re⟩ := qe
        rw [le] at eqe
        subst eqe
        have HGe := Lib.hid ge; have HRe := Lib.hid re; have HLe := Lib.hid le
        obtain ⟨ge0, ge1, ge2, ge3⟩ := ge
        clear re le
        have hln : ((ps.length : Int) != ps.length) = false := by simp
        go_wp2_with fail
        go_loopg [172] ps.length (SoRel ps.length w8)
        case atStart => exact ⟨0, Nat.zero_le _, rfl, rfl, Below.refl _ _⟩
        case round =>
          obtain ⟨k, hk, rfl, rfl, hbr⟩ := hrel
          have HBR := Lib.hid hbr
          clear gc0 gc1 gc2 gc3 gd0 gd1 gd2 gd3 ge0 ge1 ge2 ge3
          by_cases hlt : k < ps.length
          · have hv := HVC.out k hlt
            have m1 := HMR1.out k hlt; have m2 := HMR2.out k hlt
            obtain ⟨bc, oc, rfl, hbc, yc⟩ := HRc.out k (by rw [HLc.out]; exact hlt)
            replace yc := (hbr.cell (p := ⟨bc, oc + k, none⟩) hbc).trans yc
            replace hbc := Nat.lt_of_lt_of_le hbc hbr.size
            obtain ⟨gc0, gc1, gc2, gc3⟩ := HGc.out.below hbr
            obtain ⟨bd, od, rfl, hbd, yd⟩ := HRd.out k (by rw [HLd.out]; exact hlt)
            replace yd := (hbr.cell (p := ⟨bd, od + k, none⟩) hbd).trans yd
            replace hbd := Nat.lt_of_lt_of_le hbd hbr.size
            obtain ⟨gd0, gd1, gd2, gd3⟩ := HGd.out.below hbr
            obtain ⟨be, oe, rfl, hbe, ye⟩ := HRe.out k (by rw [HLe.out]; exact hlt)
            replace ye := (hbr.cell (p := ⟨be, oe + k, none⟩) hbe).trans ye
            replace hbe := Nat.lt_of_lt_of_le hbe hbr.size
            obtain ⟨ge0, ge1, ge2, ge3⟩ := HGe.out.below hbr
            clear hbr
            have hk0 : (0 : Int) ≤ (k : Int) := by omega
            have hk1 : (k : Int) < (ps.length : Int) := by omega
            rcases hv with hv | hv
            · have m1' := m1 (by omega); have m2' := m2 (by omega)
              rw [hv] at yc; rw [m1'] at yd; rw [m2'] at ye
              clear hv m1 m2 m1' m2'
              go_wp2_with fail
              go_roundg (ps.length - (k + 1))
              case measure => omega
              case rel => exact ⟨k + 1, by omega, rfl, by go_num, HBR.out⟩
            · rw [hv] at yc
              clear hv m1 m2
              go_wp2_with fail
              go_roundg (ps.length - (k + 1))
              case measure => omega
              case rel => exact ⟨k + 1, by omega, rfl, by go_num, HBR.out⟩
          · go_wp2_with fail
            refine (awake_any _).mono ?_
            rintro e wf ⟨rfl, hb5⟩
            go_wp2_with fail
            go_ret
            exact ⟨rfl, bel_trans (bel_trans HB.out HBR.out) hb5⟩
      · have ec := HFc.out.2 hEc
        have ed := HFd.out.2 hEc
        have ee := HFe.out.2 hEc
        subst ec ed ee
        obtain ⟨uc, gc, qc⟩ := HMc.out
        obtain ⟨Ac, kc, rfl, _, rc⟩ := qc
        obtain ⟨gc0, gc1, gc2, gc3⟩ := gc
        rw [List.length_nil] at gc3
        clear rc
        obtain ⟨ud, gd, qd⟩ := HMd.out
        obtain ⟨Ad, kd, rfl, _, rd⟩ := qd
        obtain ⟨gd0, gd1, gd2, gd3⟩ := gd
        rw [List.length_nil] at gd3
        clear rd
        obtain ⟨ue, ge, qe⟩ := HMe.out
        obtain ⟨Ae, ke, rfl, _, re⟩ := qe
        obtain ⟨ge0, ge1, ge2, ge3⟩ := ge
        rw [List.length_nil] at ge3
        clear re
        have hEn : (Ec != Ec) = false := by simp
        go_wp2_with fail
        go_loopg [172] 0 (SoRel 0 w8)
        case atStart => exact ⟨0, Nat.zero_le _, rfl, rfl, Below.refl _ _⟩
        case round =>
          obtain ⟨k, hk, rfl, rfl, hbr⟩ := hrel
          obtain rfl : k = 0 := by omega
          have HBR := Lib.hid hbr; clear hbr
          go_wp2_with fail
          refine (awake_any _).mono ?_
          rintro e wf ⟨rfl, hb5⟩
          go_wp2_with fail
          go_ret
          exact ⟨rfl, bel_trans (bel_trans HB.out HBR.out) hb5⟩
set_option maxRecDepth 100000 in
set_option maxHeartbeats 8000000 in
theorem walk_regions_3 (A : Option Addr) (c : Nat) (W H x y x' y' : Int) (ps : List Px) (t m : Int) (w : World) (hp : Pixs w w.heap.size (.slice A ps.length c) ps) (hm0 : 0 ≤ m) (hm1 : m ≤ 65535) (ta : 0 ≤ t) (tb : 65535 - m < t) :
    Calls Try.prog 6 #[.agg #[.int .i64 W, .int .i64 H, .slice A ps.length c], .agg #[.int .i64 x, .int .i64 y], .agg #[.int .i64 x', .int .i64 y'], .int .i64 t, .int .i64 m] w fun e w' => e = .returned (.bool true) ∧ Below w.heap.size w w' := by
  have HP := Lib.hid hp; clear hp
  have HEE := Lib.hid (show ferr (ichk W H ps) W H x y (uok t) = ferr (ichk W H ps) W H x y (uok t) from rfl)
  go_enter Try.func6, Try.ntmps6
  go_wp2_with fail
  obtain ⟨hI, hX, hY, hB⟩ := boxIPP w W H x y x' y' (.slice A ps.length c) _ rfl
  generalize World.alloc (World.alloc (w.alloc _) _) _ = wa at *
  have HI := Lib.hid hI; have HX := Lib.hid hX; have HY := Lib.hid hY; have HB := Lib.hid hB; clear hI hX hY hB
  refine (flood_g W H x y 0 false A ps.length c ps _ (HP.out.on HB.out)).mono ?_
  rintro e w0 ⟨La, Wa, Ha, hf, v, rfl, hrow, hb⟩
  have HFa := Lib.hid hf; clear hf
  obtain ⟨Ma, ma, rfl⟩ := irow_shape hrow
  have hbb := hb
  have HI := Lib.hid (HI.out.below hbb); have HX := Lib.hid (HX.out.below hbb); have HY := Lib.hid (HY.out.below hbb); have HB := Lib.hid (bel_trans HB.out hbb)
  have HN := Lib.hid (Mk.new Wa Ha 29 hrow)
  clear hrow hb hbb
  obtain ⟨i0, i1, i2, i3⟩ := HI.out
  obtain ⟨z0, z1, z2⟩ := HX.out
  obtain ⟨y0, y1, y2⟩ := HY.out
  go_wp2_with fail
  refine (flood_g W H x' y' 0 false A ps.length c ps _ (HP.out.on (bel_alloc HB.out (.cells #[.int .i64 Wa, .int .i64 Ha, .slice Ma La.length ma] 29)))).mono ?_
  rintro e w1 ⟨Lb, Wb, Hb, hf, v, rfl, hrow, hb⟩
  have HFb := Lib.hid hf; clear hf
  clear i0 i1 i2 i3 z0 z1 z2 y0 y1 y2
  obtain ⟨Mb, mb, rfl⟩ := irow_shape hrow
  have hbb := bel_trans (bel1 _ (.cells #[.int .i64 Wa, .int .i64 Ha, .slice Ma La.length ma] 29)) hb
  have HI := Lib.hid (HI.out.below hbb); have HX := Lib.hid (HX.out.below hbb); have HY := Lib.hid (HY.out.below hbb); have HB := Lib.hid (bel_trans HB.out hbb)
  have HMa := Lib.hid (HN.out.below hb); clear HN
  have HN := Lib.hid (Mk.new Wb Hb 29 hrow)
  clear hrow hb hbb
  obtain ⟨i0, i1, i2, i3⟩ := HI.out
  obtain ⟨z0, z1, z2⟩ := HX.out
  obtain ⟨y0, y1, y2⟩ := HY.out
  go_wp2_with fail
  refine (flood_g W H x y t false A ps.length c ps _ (HP.out.on (bel_alloc HB.out (.cells #[.int .i64 Wb, .int .i64 Hb, .slice Mb Lb.length mb] 29)))).mono ?_
  rintro e w2 ⟨Lc, Wc, Hc, hf, v, rfl, hrow, hb⟩
  have HFc := Lib.hid hf; clear hf
  clear i0 i1 i2 i3 z0 z1 z2 y0 y1 y2
  obtain ⟨Mc, mc, rfl⟩ := irow_shape hrow
  have hbb := bel_trans (bel1 _ (.cells #[.int .i64 Wb, .int .i64 Hb, .slice Mb Lb.length mb] 29)) hb
  have HI := Lib.hid (HI.out.below hbb); have HX := Lib.hid (HX.out.below hbb); have HY := Lib.hid (HY.out.below hbb); have HB := Lib.hid (bel_trans HB.out hbb)
  have HMa := Lib.hid (HMa.out.below hbb)
  have HMb := Lib.hid (HN.out.below hb); clear HN
  have HN := Lib.hid (Mk.new Wc Hc 29 hrow)
  clear hrow hb hbb
  obtain ⟨i0, i1, i2, i3⟩ := HI.out
  obtain ⟨z0, z1, z2⟩ := HX.out
  obtain ⟨y0, y1, y2⟩ := HY.out
  go_wp2_with fail
  refine (flood_g W H x y t true A ps.length c ps _ (HP.out.on (bel_alloc HB.out (.cells #[.int .i64 Wc, .int .i64 Hc, .slice Mc Lc.length mc] 29)))).mono ?_
  rintro e w3 ⟨Ld, Wd, Hd, hf, v, rfl, hrow, hb⟩
  have HFd := Lib.hid hf; clear hf
  clear i0 i1 i2 i3 z0 z1 z2 y0 y1 y2
  obtain ⟨Md, md, rfl⟩ := irow_shape hrow
  have hbb := bel_trans (bel1 _ (.cells #[.int .i64 Wc, .int .i64 Hc, .slice Mc Lc.length mc] 29)) hb
  have HI := Lib.hid (HI.out.below hbb); have HX := Lib.hid (HX.out.below hbb); have HY := Lib.hid (HY.out.below hbb); have HB := Lib.hid (bel_trans HB.out hbb)
  have HMa := Lib.hid (HMa.out.below hbb)
  have HMb := Lib.hid (HMb.out.below hbb)
  have HMc := Lib.hid (HN.out.below hb); clear HN
  have HN := Lib.hid (Mk.new Wd Hd 29 hrow)
  clear hrow hb hbb
  obtain ⟨i0, i1, i2, i3⟩ := HI.out
  obtain ⟨z0, z1, z2⟩ := HX.out
  obtain ⟨y0, y1, y2⟩ := HY.out
  go_wp2_with fail
  refine (flood_g W H x y t false A ps.length c ps _ (HP.out.on (bel_alloc HB.out (.cells #[.int .i64 Wd, .int .i64 Hd, .slice Md Ld.length md] 29)))).mono ?_
  rintro e w4 ⟨Le, We, He, hf, v, rfl, hrow, hb⟩
  have HFe := Lib.hid hf; clear hf
  clear i0 i1 i2 i3 z0 z1 z2 y0 y1 y2
  obtain ⟨Me, me, rfl⟩ := irow_shape hrow
  have hbb := bel_trans (bel1 _ (.cells #[.int .i64 Wd, .int .i64 Hd, .slice Md Ld.length md] 29)) hb
  have HI := Lib.hid (HI.out.below hbb); have HX := Lib.hid (HX.out.below hbb); have HY := Lib.hid (HY.out.below hbb); have HB := Lib.hid (bel_trans HB.out hbb)
  have HMa := Lib.hid (HMa.out.below hbb)
  have HMb := Lib.hid (HMb.out.below hbb)
  have HMc := Lib.hid (HMc.out.below hbb)
  have HMd := Lib.hid (HN.out.below hb); clear HN
  have HN := Lib.hid (Mk.new We He 29 hrow)
  clear hrow hb hbb
  have hfe := HFe.out
  try rw [HEE.out] at hfe
  try rw [HEE.out]
  have HFe := Lib.hid hfe; clear hfe
  have HMe := HN; clear HN
  have HMa := Lib.hid (HMa.out.below (bel1 _ (.cells #[.int .i64 We, .int .i64 He, .slice Me Le.length me] 29)))
  have HMb := Lib.hid (HMb.out.below (bel1 _ (.cells #[.int .i64 We, .int .i64 He, .slice Me Le.length me] 29)))
  have HMc := Lib.hid (HMc.out.below (bel1 _ (.cells #[.int .i64 We, .int .i64 He, .slice Me Le.length me] 29)))
  have HMd := Lib.hid (HMd.out.below (bel1 _ (.cells #[.int .i64 We, .int .i64 He, .slice Me Le.length me] 29)))
  have HI := Lib.hid (HI.out.below (bel1 _ (.cells #[.int .i64 We, .int .i64 He, .slice Me Le.length me] 29))); have HX := Lib.hid (HX.out.below (bel1 _ (.cells #[.int .i64 We, .int .i64 He, .slice Me Le.length me] 29))); have HY := Lib.hid (HY.out.below (bel1 _ (.cells #[.int .i64 We, .int .i64 He, .slice Me Le.length me] 29))); have HB := Lib.hid (bel_alloc HB.out (.cells #[.int .i64 We, .int .i64 He, .slice Me Le.length me] 29))
  have HZ := Lib.hid (fun (h : ferr (ichk W H ps) W H x y (uok 0) = 0) => ferr_zero h)
  have HZ2 := Lib.hid (fun (h : ferr (ichk W H ps) W H x' y' (uok 0) = 0) => ferr_zero h)
  have HZ3 := Lib.hid (fun (h : ferr (ichk W H ps) W H x y (uok t) = 0) => ferr_zero h)
  have HK := Lib.hid (fun (h : ichk W H ps = 0) => (ichk_iff W H ps).1 h)
  have HKL := Lib.hid (ichk_len W H ps)
  generalize ferr (ichk W H ps) W H x y (uok 0) = Ea at *
  generalize ferr (ichk W H ps) W H x' y' (uok 0) = Eb at *
  generalize ferr (ichk W H ps) W H x y (uok t) = Ec at *
  go_upto_region 11 with fail
  generalize World.alloc w4 _ = w6 at *
  by_cases hab : Ea = 0 ∧ Eb = 0
  rotate_left
  · rcases (show (Ea == 0) = false ∨ ((Ea == 0) = true ∧ (Eb == 0) = false) by
      by_cases e1 : Ea = 0
      · right; refine ⟨by simp [e1], ?_⟩; rw [beq_eq_false_iff_ne]; intro e; exact hab ⟨e1, e⟩
      · left; rw [beq_eq_false_iff_ne]; exact e1) with t1 | ⟨t1, t2⟩
    all_goals
      clear hab
      go_upto_region 16 with fail
      by_cases hEc : Ec = 0
      · subst hEc
        have hl2 := HKL.out (HZ3.out (by trivial)).1
        obtain ⟨fc, _, _⟩ := HFc.out.1 (by trivial)
        obtain ⟨fd, _, _⟩ := HFd.out.1 (by trivial)
        obtain ⟨fe, _, _⟩ := HFe.out.1 (by trivial)
        have HMR1 := Lib.hid (fun k hk hn => flood_more fc fd (fun h => by cases h) (fun _ h => h) (k := k) hk hn)
        have HMR2 := Lib.hid (fun k hk hn => flood_more fc fe (fun h => h) (fun _ (h : dist _ _ ≤ t) => Int.le_trans h (by omega)) (k := k) hk hn)
        have HVC := Lib.hid (fun k (hk : k < ps.length) => (fc.2 k hk).imp And.left And.left)
        have lc := fc.1; have ld := fd.1; have le := fe.1
        clear fc fd fe
        obtain ⟨uc, gc, qc⟩ := HMc.out
        obtain ⟨Ac, kc, eqc, _, rc⟩ := qc
        rw [lc] at eqc
        subst eqc
        have HGc := Lib.hid gc; have HRc := Lib.hid rc; have HLc := Lib.hid lc
        obtain ⟨gc0, gc1, gc2, gc3⟩ := gc
        clear rc lc
        obtain ⟨ud, gd, qd⟩ := HMd.out
        obtain ⟨Ad, kd, eqd, _, rd⟩ := qd
        rw [ld] at eqd
        subst eqd
        have HGd := Lib.hid gd; have HRd := Lib.hid rd; have HLd := Lib.hid ld
        obtain ⟨gd0, gd1, gd2, gd3⟩ := gd
        clear rd ld
        obtain ⟨ue, ge, qe⟩ := HMe.out
        obtain ⟨Ae, ke, eqe, _, re⟩ := qe
        rw [le] at eqe
        subst eqe
        have HGe := Lib.hid ge; have HRe := Lib.hid re; have HLe := Lib.hid le
        obtain ⟨ge0, ge1, ge2, ge3⟩ := ge
        clear re le
        have hln : ((ps.length : Int) != ps.length) = false := by simp
        go_wp2_with fail
        go_loopg [172] ps.length (SoRel ps.length w6)
        case atStart => exact ⟨0, Nat.zero_le _, rfl, rfl, Below.refl _ _⟩
        case round =>
          obtain ⟨k, hk, rfl, rfl, hbr⟩ := hrel
          have HBR := Lib.hid hbr
          clear gc0 gc1 gc2 gc3 gd0 gd1 gd2 gd3 ge0 ge1 ge2 ge3
          by_cases hlt : k < ps.length
          · have hv := HVC.out k hlt
            have m1 := HMR1.out k hlt; have m2 := HMR2.out k hlt
            obtain ⟨bc, oc, rfl, hbc, yc⟩ := HRc.out k (by rw [HLc.out]; exact hlt)
            replace yc := (hbr.cell (p := ⟨bc, oc + k, none⟩) hbc).trans yc
            replace hbc := Nat.lt_of_lt_of_le hbc hbr.size
            obtain ⟨gc0, gc1, gc2, gc3⟩ := HGc.out.below hbr
            obtain ⟨bd, od, rfl, hbd, yd⟩ := HRd.out k (by rw [HLd.out]; exact hlt)
            replace yd := (hbr.cell (p := ⟨bd, od + k, none⟩) hbd).trans yd
            replace hbd := Nat.lt_of_lt_of_le hbd hbr.size
            obtain ⟨gd0, gd1, gd2, gd3⟩ := HGd.out.below hbr
            obtain ⟨be, oe, rfl, hbe, ye⟩ := HRe.out k (by rw [HLe.out]; exact hlt)
            replace ye := (hbr.cell (p := ⟨be, oe + k, none⟩) hbe).trans ye
            replace hbe := Nat.lt_of_lt_of_le hbe hbr.size
            obtain ⟨ge0, ge1, ge2, ge3⟩ := HGe.out.below hbr
            clear hbr
            have hk0 : (0 : Int) ≤ (k : Int) := by omega
            have hk1 : (k : Int) < (ps.length : Int) := by omega
            rcases hv with hv | hv
            · have m1' := m1 (by omega); have m2' := m2 (by omega)
              rw [hv] at yc; rw [m1'] at yd; rw [m2'] at ye
              clear hv m1 m2 m1' m2'
              go_wp2_with fail
              go_roundg (ps.length - (k + 1))
              case measure => omega
              case rel => exact ⟨k + 1, by omega, rfl, by go_num, HBR.out⟩
            · rw [hv] at yc
              clear hv m1 m2
              go_wp2_with fail
              go_roundg (ps.length - (k + 1))
              case measure => omega
              case rel => exact ⟨k + 1, by omega, rfl, by go_num, HBR.out⟩
          · go_wp2_with fail
            refine (awake_any _).mono ?_
            rintro e wf ⟨rfl, hb5⟩
            go_wp2_with fail
            go_ret
            exact ⟨rfl, bel_trans (bel_trans HB.out HBR.out) hb5⟩
      · have ec := HFc.out.2 hEc
        have ed := HFd.out.2 hEc
        have ee := HFe.out.2 hEc
        subst ec ed ee
        obtain ⟨uc, gc, qc⟩ := HMc.out
        obtain ⟨Ac, kc, rfl, _, rc⟩ := qc
        obtain ⟨gc0, gc1, gc2, gc3⟩ := gc
        rw [List.length_nil] at gc3
        clear rc
        obtain ⟨ud, gd, qd⟩ := HMd.out
        obtain ⟨Ad, kd, rfl, _, rd⟩ := qd
        obtain ⟨gd0, gd1, gd2, gd3⟩ := gd
        rw [List.length_nil] at gd3
        clear rd
        obtain ⟨ue, ge, qe⟩ := HMe.out
        obtain ⟨Ae, ke, rfl, _, re⟩ := qe
        obtain ⟨ge0, ge1, ge2, ge3⟩ := ge
        rw [List.length_nil] at ge3
        clear re
        have hEn : (Ec != Ec) = false := by simp
        go_wp2_with fail
        go_loopg [172] 0 (SoRel 0 w6)
        case atStart => exact ⟨0, Nat.zero_le _, rfl, rfl, Below.refl _ _⟩
        case round =>
          obtain ⟨k, hk, rfl, rfl, hbr⟩ := hrel
          obtain rfl : k = 0 := by omega
          have HBR := Lib.hid hbr; clear hbr
          go_wp2_with fail
          refine (awake_any _).mono ?_
          rintro e wf ⟨rfl, hb5⟩
          go_wp2_with fail
          go_ret
          exact ⟨rfl, bel_trans (bel_trans HB.out HBR.out) hb5⟩
  · obtain ⟨rfl, rfl⟩ := hab
    obtain ⟨ck, gx0, gx1, gy0, gy1, _⟩ := HZ.out (by trivial)
    obtain ⟨_, gu0, gu1, gv0, gv1, _⟩ := HZ2.out (by trivial)
    obtain ⟨fa, ea1, ea2⟩ := HFa.out.1 (by trivial)
    obtain ⟨fb, eb1, eb2⟩ := HFb.out.1 (by trivial)
    replace ea1 := ea1.symm; replace ea2 := ea2.symm; replace eb1 := eb1.symm; replace eb2 := eb2.symm
    subst ea1 ea2 eb1 eb2
    have hok := HK.out ck
    have hl := HKL.out ck
    have la := fa.1; have lb := fb.1
    have hyW : 0 ≤ y' * W ∧ y' * W ≤ 65536 := by
      have e1 : 0 ≤ y' * W := Int.mul_nonneg gv0 (by omega)
      have e2 : y' * W ≤ 256 * 256 := Int.mul_le_mul (by have := hok.h1; omega) hok.w1 (by omega) (by omega)
      omega
    have hpl := place_bd gu0 gu1 gv0 gv1
    have hpl2 := place_bd gx0 gx1 gy0 gy1
    obtain ⟨s2, hs2⟩ : ∃ s2 : Nat, y' * W + x' = s2 := ⟨(y' * W + x').toNat, by omega⟩
    obtain ⟨s1, hs1⟩ : ∃ s1 : Nat, y * W + x = s1 := ⟨(y * W + x).toNat, by omega⟩
    have hn2 : s2 < ps.length := by have := hok.n; omega
    have hn1 : s1 < ps.length := by have := hok.n; omega
    have HSM := Lib.hid (show La.getD s2 0 ≠ 0 → La = Lb by
      have e1 : (y * W + x).toNat = s1 := by rw [hs1]; rfl
      have e2 : (y' * W + x').toNat = s2 := by rw [hs2]; rfl
      rw [e1] at fa; rw [e2] at fb
      exact region_same fa fb hn1 hn2)
    have HS2 := Lib.hid hs2; have HCK := Lib.hid ck; have HLA := Lib.hid la; have HLB := Lib.hid lb
    clear fa fb hok hpl hpl2 hs1 hs2 ck la lb hn1
    obtain ⟨i0, i1, i2, i3⟩ := HI.out
    obtain ⟨ua, ga, qa⟩ := HMa.out
    obtain ⟨Aa, ka, eqa, xa, ra⟩ := qa
    rw [HLA.out] at eqa
    subst eqa
    obtain ⟨ub, gb, qb⟩ := HMb.out
    obtain ⟨Ab, kb, eqb, xb, rb⟩ := qb
    rw [HLB.out] at eqb
    subst eqb
    have HGA := Lib.hid ga; have HGB := Lib.hid gb
    have HQA := Lib.hid (show Ints w6 w6.heap.size _ La from ⟨Aa, ka, by rw [HLA.out], xa, ra⟩)
    have HQB := Lib.hid (show Ints w6 w6.heap.size _ Lb from ⟨Ab, kb, by rw [HLB.out], xb, rb⟩)
    obtain ⟨ba, oa, rfl, hba, ya⟩ := ra s2 (by rw [HLA.out]; exact hn2)
    obtain ⟨ga0, ga1, ga2, ga3⟩ := ga
    obtain ⟨gb0, gb1, gb2, gb3⟩ := gb
    have HYA := Lib.hid (And.intro hba ya)
    have hln : ((ps.length : Int) != ps.length) = false := by simp
    clear ra rb hba ya
    go_wp2_with fail
    refine (richeck_any W H A ps.length c ps _ (HP.out.on HB.out)).mono ?_
    rintro e w7 ⟨rfl, hb7⟩
    rw [HCK.out]
    clear i0 i1 i2 i3 ga0 ga1 ga2 ga3 gb0 gb1 gb2 gb3
    have HI := Lib.hid (HI.out.below hb7)
    have HY := Lib.hid (HY.out.below hb7)
    have HGA := Lib.hid (HGA.out.below hb7)
    have HGB := Lib.hid (HGB.out.below hb7)
    have HMc := Lib.hid (HMc.out.below hb7)
    have HMd := Lib.hid (HMd.out.below hb7)
    have HMe := Lib.hid (HMe.out.below hb7)
    have HQA := Lib.hid ((HQA.out.below hb7).more hb7.size); have HQB := Lib.hid ((HQB.out.below hb7).more hb7.size)
    have HB := Lib.hid (bel_trans HB.out hb7)
    have ya := (hb7.cell (p := ⟨ba, oa + s2, none⟩) HYA.out.1).trans HYA.out.2
    have hba := Nat.lt_of_lt_of_le HYA.out.1 hb7.size
    obtain ⟨i0, i1, i2, i3⟩ := HI.out
    obtain ⟨z0, z1, z2⟩ := HY.out
    obtain ⟨ga0, ga1, ga2, ga3⟩ := HGA.out
    obtain ⟨gb0, gb1, gb2, gb3⟩ := HGB.out
    have hs2 := HS2.out
    clear hb7
    by_cases hz : La.getD s2 0 = 0
    · rw [hz] at ya
      go_upto_region 16 with fail
      clear hs2 i0 i1 i2 i3 z0 z1 z2 ga0 ga1 ga2 ga3 gb0 gb1 gb2 gb3 ya hln
      by_cases hEc : Ec = 0
      · subst hEc
        have hl2 := HKL.out (HZ3.out (by trivial)).1
        obtain ⟨fc, _, _⟩ := HFc.out.1 (by trivial)
        obtain ⟨fd, _, _⟩ := HFd.out.1 (by trivial)
        obtain ⟨fe, _, _⟩ := HFe.out.1 (by trivial)
        have HMR1 := Lib.hid (fun k hk hn => flood_more fc fd (fun h => by cases h) (fun _ h => h) (k := k) hk hn)
        have HMR2 := Lib.hid (fun k hk hn => flood_more fc fe (fun h => h) (fun _ (h : dist _ _ ≤ t) => Int.le_trans h (by omega)) (k := k) hk hn)
        have HVC := Lib.hid (fun k (hk : k < ps.length) => (fc.2 k hk).imp And.left And.left)
        have lc := fc.1; have ld := fd.1; have le := fe.1
        clear fc fd fe
        obtain ⟨uc, gc, qc⟩ := HMc.out
        obtain ⟨Ac, kc, eqc, _, rc⟩ := qc
        rw [lc] at eqc
        subst eqc
        have HGc := Lib.hid gc; have HRc := Lib.hid rc; have HLc := Lib.hid lc
        obtain ⟨gc0, gc1, gc2, gc3⟩ := gc
        clear rc lc
        obtain ⟨ud, gd, qd⟩ := HMd.out
        obtain ⟨Ad, kd, eqd, _, rd⟩ := qd
        rw [ld] at eqd
        subst eqd
        have HGd := Lib.hid gd; have HRd := Lib.hid rd; have HLd := Lib.hid ld
        obtain ⟨gd0, gd1, gd2, gd3⟩ := gd
        clear rd ld
        obtain ⟨ue, ge, qe⟩ := HMe.out
        obtain ⟨Ae, ke, eqe, _, re⟩ := qe
        rw [le] at eqe
        subst eqe
        have HGe := Lib.hid ge; have HRe := Lib.hid re; have HLe := Lib.hid le
        obtain ⟨ge0, ge1, ge2, ge3⟩ := ge
        clear re le
        have hln : ((ps.length : Int) != ps.length) = false := by simp
        go_wp2_with fail
        go_loopg [172] ps.length (SoRel ps.length w7)
        case atStart => exact ⟨0, Nat.zero_le _, rfl, rfl, Below.refl _ _⟩
        case round =>
          obtain ⟨k, hk, rfl, rfl, hbr⟩ := hrel
          have HBR := Lib.hid hbr
          clear gc0 gc1 gc2 gc3 gd0 gd1 gd2 gd3 ge0 ge1 ge2 ge3
          by_cases hlt : k < ps.length
          · have hv := HVC.out k hlt
            have m1 := HMR1.out k hlt; have m2 := HMR2.out k hlt
            obtain ⟨bc, oc, rfl, hbc, yc⟩ := HRc.out k (by rw [HLc.out]; exact hlt)
            replace yc := (hbr.cell (p := ⟨bc, oc + k, none⟩) hbc).trans yc
            replace hbc := Nat.lt_of_lt_of_le hbc hbr.size
            obtain ⟨gc0, gc1, gc2, gc3⟩ := HGc.out.below hbr
            obtain ⟨bd, od, rfl, hbd, yd⟩ := HRd.out k (by rw [HLd.out]; exact hlt)
            replace yd := (hbr.cell (p := ⟨bd, od + k, none⟩) hbd).trans yd
            replace hbd := Nat.lt_of_lt_of_le hbd hbr.size
            obtain ⟨gd0, gd1, gd2, gd3⟩ := HGd.out.below hbr
            obtain ⟨be, oe, rfl, hbe, ye⟩ := HRe.out k (by rw [HLe.out]; exact hlt)
            replace ye := (hbr.cell (p := ⟨be, oe + k, none⟩) hbe).trans ye
            replace hbe := Nat.lt_of_lt_of_le hbe hbr.size
            obtain ⟨ge0, ge1, ge2, ge3⟩ := HGe.out.below hbr
            clear hbr
            have hk0 : (0 : Int) ≤ (k : Int) := by omega
            have hk1 : (k : Int) < (ps.length : Int) := by omega
            rcases hv with hv | hv
            · have m1' := m1 (by omega); have m2' := m2 (by omega)
              rw [hv] at yc; rw [m1'] at yd; rw [m2'] at ye
              clear hv m1 m2 m1' m2'
              go_wp2_with fail
              go_roundg (ps.length - (k + 1))
              case measure => omega
              case rel => exact ⟨k + 1, by omega, rfl, by go_num, HBR.out⟩
            · rw [hv] at yc
              clear hv m1 m2
              go_wp2_with fail
              go_roundg (ps.length - (k + 1))
              case measure => omega
              case rel => exact ⟨k + 1, by omega, rfl, by go_num, HBR.out⟩
          · go_wp2_with fail
            refine (awake_any _).mono ?_
            rintro e wf ⟨rfl, hb5⟩
            go_wp2_with fail
            go_ret
            exact ⟨rfl, bel_trans (bel_trans HB.out HBR.out) hb5⟩
      · have ec := HFc.out.2 hEc
        have ed := HFd.out.2 hEc
        have ee := HFe.out.2 hEc
        subst ec ed ee
        obtain ⟨uc, gc, qc⟩ := HMc.out
        obtain ⟨Ac, kc, rfl, _, rc⟩ := qc
        obtain ⟨gc0, gc1, gc2, gc3⟩ := gc
        rw [List.length_nil] at gc3
        clear rc
        obtain ⟨ud, gd, qd⟩ := HMd.out
        obtain ⟨Ad, kd, rfl, _, rd⟩ := qd
        obtain ⟨gd0, gd1, gd2, gd3⟩ := gd
        rw [List.length_nil] at gd3
        clear rd
        obtain ⟨ue, ge, qe⟩ := HMe.out
        obtain ⟨Ae, ke, rfl, _, re⟩ := qe
        obtain ⟨ge0, ge1, ge2, ge3⟩ := ge
        rw [List.length_nil] at ge3
        clear re
        have hEn : (Ec != Ec) = false := by simp
        go_wp2_with fail
        go_loopg [172] 0 (SoRel 0 w7)
        case atStart => exact ⟨0, Nat.zero_le _, rfl, rfl, Below.refl _ _⟩
        case round =>
          obtain ⟨k, hk, rfl, rfl, hbr⟩ := hrel
          obtain rfl : k = 0 := by omega
          have HBR := Lib.hid hbr; clear hbr
          go_wp2_with fail
          refine (awake_any _).mono ?_
          rintro e wf ⟨rfl, hb5⟩
          go_wp2_with fail
          go_ret
          exact ⟨rfl, bel_trans (bel_trans HB.out HBR.out) hb5⟩
    · have eab := HSM.out hz
      generalize La.getD s2 0 = za at *
      have hzb : (za != 0) = true := by simp [hz]
      subst eab
      clear hz
      go_wp2_with fail
      refine (msame_true W H W H _ _ La _ rfl rfl HQA.out HQB.out).mono ?_
      rintro e w8 ⟨rfl, hb8⟩
      clear hs2 i0 i1 i2 i3 z0 z1 z2 ga0 ga1 ga2 ga3 gb0 gb1 gb2 gb3 ya hln hzb
      have HMc := Lib.hid (HMc.out.below hb8)
      have HMd := Lib.hid (HMd.out.below hb8)
      have HMe := Lib.hid (HMe.out.below hb8)
      have HB := Lib.hid (bel_trans HB.out hb8)
      clear hb8
      go_upto_region 16 with fail
      by_cases hEc : Ec = 0
      · subst hEc
        have hl2 := HKL.out (HZ3.out (by trivial)).1
        obtain ⟨fc, _, _⟩ := HFc.out.1 (by trivial)
        obtain ⟨fd, _, _⟩ := HFd.out.1 (by trivial)
        obtain ⟨fe, _, _⟩ := HFe.out.1 (by trivial)
        have HMR1 := Lib.hid (fun k hk hn => flood_more fc fd (fun h => by cases h) (fun _ h => h) (k := k) hk hn)
        have HMR2 := Lib.hid (fun k hk hn => flood_more fc fe (fun h => h) (fun _ (h : dist _ _ ≤ t) => Int.le_trans h (by omega)) (k := k) hk hn)
        have HVC := Lib.hid (fun k (hk : k < ps.length) => (fc.2 k hk).imp And.left And.left)
        have lc := fc.1; have ld := fd.1; have le := fe.1
        clear fc fd fe
        obtain ⟨uc, gc, qc⟩ := HMc.out
        obtain ⟨Ac, kc, eqc, _, rc⟩ := qc
        rw [lc] at eqc
        subst eqc
        have HGc := Lib.hid gc; have HRc := Lib.hid rc; have HLc := Lib.hid lc
        obtain ⟨gc0, gc1, gc2, gc3⟩ := gc
        clear rc lc
        obtain ⟨ud, gd, qd⟩ := HMd.out
        obtain ⟨Ad, kd, eqd, _, rd⟩ := qd
        rw [ld] at eqd
        subst eqd
        have HGd := Lib.hid gd; have HRd := Lib.hid rd; have HLd := Lib.hid ld
        obtain ⟨gd0, gd1, gd2, gd3⟩ := gd
        clear rd ld
        obtain ⟨ue, ge, qe⟩ := HMe.out
        obtain ⟨Ae, ke, eqe, _, re⟩ := qe
        rw [le] at eqe
        subst eqe
        have HGe := Lib.hid ge; have HRe := Lib.hid re; have HLe := Lib.hid le
        obtain ⟨ge0, ge1, ge2, ge3⟩ := ge
        clear re le
        have hln : ((ps.length : Int) != ps.length) = false := by simp
        go_wp2_with fail
        go_loopg [172] ps.length (SoRel ps.length w8)
        case atStart => exact ⟨0, Nat.zero_le _, rfl, rfl, Below.refl _ _⟩
        case round =>
          obtain ⟨k, hk, rfl, rfl, hbr⟩ := hrel
          have HBR := Lib.hid hbr
          clear gc0 gc1 gc2 gc3 gd0 gd1 gd2 gd3 ge0 ge1 ge2 ge3
          by_cases hlt : k < ps.length
          · have hv := HVC.out k hlt
            have m1 := HMR1.out k hlt; have m2 := HMR2.out k hlt
            obtain ⟨bc, oc, rfl, hbc, yc⟩ := HRc.out k (by rw [HLc.out]; exact hlt)
            replace yc := (hbr.cell (p := ⟨bc, oc + k, none⟩) hbc).trans yc
            replace hbc := Nat.lt_of_lt_of_le hbc hbr.size
            obtain ⟨gc0, gc1, gc2, gc3⟩ := HGc.out.below hbr
            obtain ⟨bd, od, rfl, hbd, yd⟩ := HRd.out k (by rw [HLd.out]; exact hlt)
            replace yd := (hbr.cell (p := ⟨bd, od + k, none⟩) hbd).trans yd
            replace hbd := Nat.lt_of_lt_of_le hbd hbr.size
            obtain ⟨gd0, gd1, gd2, gd3⟩ := HGd.out.below hbr
            obtain ⟨be, oe, rfl, hbe, ye⟩ := HRe.out k (by rw [HLe.out]; exact hlt)
            replace ye := (hbr.cell (p := ⟨be, oe + k, none⟩) hbe).trans ye
            replace hbe := Nat.lt_of_lt_of_le hbe hbr.size
            obtain ⟨ge0, ge1, ge2, ge3⟩ := HGe.out.below hbr
            clear hbr
            have hk0 : (0 : Int) ≤ (k : Int) := by omega
            have hk1 : (k : Int) < (ps.length : Int) := by omega
            rcases hv with hv | hv
            · have m1' := m1 (by omega); have m2' := m2 (by omega)
              rw [hv] at yc; rw [m1'] at yd; rw [m2'] at ye
              clear hv m1 m2 m1' m2'
              go_wp2_with fail
              go_roundg (ps.length - (k + 1))
              case measure => omega
              case rel => exact ⟨k + 1, by omega, rfl, by go_num, HBR.out⟩
            · rw [hv] at yc
              clear hv m1 m2
              go_wp2_with fail
              go_roundg (ps.length - (k + 1))
              case measure => omega
              case rel => exact ⟨k + 1, by omega, rfl, by go_num, HBR.out⟩
          · go_wp2_with fail
            refine (awake_any _).mono ?_
            rintro e wf ⟨rfl, hb5⟩
            go_wp2_with fail
            go_ret
            exact ⟨rfl, bel_trans (bel_trans HB.out HBR.out) hb5⟩
      · have ec := HFc.out.2 hEc
        have ed := HFd.out.2 hEc
        have ee := HFe.out.2 hEc
        subst ec ed ee
        obtain ⟨uc, gc, qc⟩ := HMc.out
        obtain ⟨Ac, kc, rfl, _, rc⟩ := qc
        obtain ⟨gc0, gc1, gc2, gc3⟩ := gc
        rw [List.length_nil] at gc3
        clear rc
        obtain ⟨ud, gd, qd⟩ := HMd.out
        obtain ⟨Ad, kd, rfl, _, rd⟩ := qd
        obtain ⟨gd0, gd1, gd2, gd3⟩ := gd
        rw [List.length_nil] at gd3
        clear rd
        obtain ⟨ue, ge, qe⟩ := HMe.out
        obtain ⟨Ae, ke, rfl, _, re⟩ := qe
        obtain ⟨ge0, ge1, ge2, ge3⟩ := ge
        rw [List.length_nil] at ge3
        clear re
        have hEn : (Ec != Ec) = false := by simp
        go_wp2_with fail
        go_loopg [172] 0 (SoRel 0 w8)
        case atStart => exact ⟨0, Nat.zero_le _, rfl, rfl, Below.refl _ _⟩
        case round =>
          obtain ⟨k, hk, rfl, rfl, hbr⟩ := hrel
          obtain rfl : k = 0 := by omega
          have HBR := Lib.hid hbr; clear hbr
          go_wp2_with fail
          refine (awake_any _).mono ?_
          rintro e wf ⟨rfl, hb5⟩
          go_wp2_with fail
          go_ret
          exact ⟨rfl, bel_trans (bel_trans HB.out HBR.out) hb5⟩
set_option maxRecDepth 100000 in
theorem walk_regions_0 (A : Option Addr) (c : Nat) (W H x y x' y' : Int) (ps : List Px) (t m : Int) (w : World) (hm : ¬ (0 ≤ m ∧ m ≤ 65535)) :
    Calls Try.prog 6 #[.agg #[.int .i64 W, .int .i64 H, .slice A ps.length c], .agg #[.int .i64 x, .int .i64 y], .agg #[.int .i64 x', .int .i64 y'], .int .i64 t, .int .i64 m] w fun e w' => e = .returned (.bool true) ∧ Below w.heap.size w w' := by
  rcases (show m < 0 ∨ (0 ≤ m ∧ 65535 < m) by omega) with hm | ⟨hm, hm'⟩
  all_goals
    go_enter Try.func6, Try.ntmps6
    go_wp2_with fail
    refine (awake_any _).mono ?_
    rintro e w5 ⟨rfl, hb5⟩
    go_wp2_with fail
    go_ret
    exact ⟨rfl, bel_trans (bel_alloc (bel_alloc (bel1 _ _) _) _) hb5⟩
theorem walk_regions (v0 : Value) (x0 : Int × Int × List Px) (v1 : Value) (x1 : Int × Int) (v2 : Value) (x2 : Int × Int) (t m : Int) (w : World) (h0 : ImgV w v0 x0) (h1 : PtV v1 x1) (h2 : PtV v2 x2) :
    Calls Try.prog 6 #[v0, v1, v2, .int .i64 t, .int .i64 m] w fun e w' => e = .returned (.bool true) ∧ Below w.heap.size w w' := by
  obtain ⟨⟨A, n, c, rfl, hp⟩, _, _⟩ := h0
  obtain ⟨rfl, _, _⟩ := h1
  obtain ⟨rfl, _, _⟩ := h2
  obtain ⟨W, H, ps⟩ := x0
  obtain ⟨x, y⟩ := x1
  obtain ⟨x', y'⟩ := x2
  obtain rfl : ps.length = n := hp.len
  by_cases hm : 0 ≤ m ∧ m ≤ 65535
  · obtain ⟨hm0, hm1⟩ := hm
    by_cases t0 : t < 0
    · exact walk_regions_2 A c W H x y x' y' ps t m w hp hm0 hm1 t0
    · by_cases t1 : t ≤ 65535 - m
      · exact walk_regions_1 A c W H x y x' y' ps t m w hp hm0 hm1 (by omega) t1
      · exact walk_regions_3 A c W H x y x' y' ps t m w hp hm0 hm1 (by omega) (by omega)
  · exact walk_regions_0 A c W H x y x' y' ps t m w hm
end Go.Proofs.Ytgdefgpbaccneaa
