/- The reference's weighted mean of pixels. -/
import Derived.Test.YtbakgdcajpagkaaMB
import Derived.Test.YtbakgdcajpagkaaMC
import Derived.Test.YtbakgdcajpagkaaML
import Derived.Test.YtbakgdcajpagkaaMA
import Derived.Deep.CutBlock
import Derived.Deep.LoopGhost
import Derived.StillTailTactics
namespace Go.Proofs.Ytbakgdcajpagkaa
open Go.RowKit
set_option maxHeartbeats 1000000 in
theorem rquot_core (n m d q r : Int) (w : World)
    (F : ∀ w, Calls Try.prog 32 #[.int .i64 n, .int .i64 d] w fun e w' => e = .returned (.int .i64 q) ∧ ∃ k, w' = w.drewN k)
    (D : ∀ w, Calls Try.prog 31 #[.int .i64 (256 * (n - q * d) + m), .int .i64 d] w fun e w' => e = .returned (.int .i64 r) ∧ ∃ k, w' = w.drewN k)
    (e1 : IntKind.i64.wrap (256 * q) = 256 * q) (e2 : IntKind.i64.wrap (q * d) = q * d) (e3 : IntKind.i64.wrap (n - q * d) = n - q * d) (e4 : IntKind.i64.wrap (256 * (n - q * d)) = 256 * (n - q * d))
    (e5 : IntKind.i64.wrap (256 * (n - q * d) + m) = 256 * (n - q * d) + m) (e6 : IntKind.i64.wrap (256 * q + r) = 256 * q + r) :
    Calls Try.prog 77 #[.int .i64 n, .int .i64 m, .int .i64 d] w fun e w' => e = .returned (.int .i64 (256 * q + r)) ∧ ∃ k, w' = w.drewN k := by
  have HF := Lib.hid F; have HD := Lib.hid D; clear F D
  go_enter Try.func77, Try.ntmps77
  go_wp2_with fail
  refine (HF.out _).mono ?_
  rintro e w1 ⟨rfl, k, rfl⟩
  go_wp2_with fail
  refine (HD.out _).mono ?_
  rintro e w1 ⟨rfl, k', rfl⟩
  go_wp2_with fail
  go_ret
  exact ⟨rfl, _, rfl⟩
theorem rquot_any (n m d : Int) (w : World) (hn : -1200000000000000000 ≤ n ∧ n ≤ 1200000000000000000) (hm : -1200000000000000000 ≤ m ∧ m ≤ 1200000000000000000) (hd : 1 ≤ d ∧ d ≤ 8000000000000000) (hq : -(8000000000000000 * d) ≤ n ∧ n ≤ 8000000000000000 * d) :
    Calls Try.prog 77 #[.int .i64 n, .int .i64 m, .int .i64 d] w fun e w' => e = .returned (.int .i64 (rdiv (256 * n + m) d)) ∧ ∃ k, w' = w.drewN k := by
  have hdm := div_mul n d (by omega)
  have hq1 : -8000000000000001 ≤ n / d ∧ n / d ≤ 8000000000000000 := by
    constructor
    · rw [Int.le_ediv_iff_mul_le (by omega)]; omega
    · have : n / d < 8000000000000001 := by rw [Int.ediv_lt_iff_lt_mul (by omega)]; omega
      omega
  have hx : 256 * (n - n / d * d) + m = 256 * (n - d * (n / d)) + m := by rw [Int.mul_comm (n / d) d]
  have hs := rdiv_spec (256 * (n - n / d * d) + m) d (by omega)
  have e := quotient_eq n m d (by omega)
  rw [← e]
  have hcm := Int.mul_comm (n / d) d
  rw [← hcm] at hdm
  have hr : -4000000000000000000 ≤ rdiv (256 * (n - n / d * d) + m) d ∧ rdiv (256 * (n - n / d * d) + m) d ≤ 4000000000000000000 := by
    refine ⟨rdiv_lo _ _ _ (by omega) ?_, rdiv_hi _ _ _ (by omega) ?_⟩
    · have : d * (-4000000000000000000) ≤ 1 * (-4000000000000000000) := Int.mul_le_mul_of_nonpos_right hd.1 (by omega)
      omega
    · have : 1 * 4000000000000000000 ≤ d * 4000000000000000000 := Int.mul_le_mul_of_nonneg_right hd.1 (by omega)
      omega
  refine rquot_core n m d (n / d) (rdiv (256 * (n - n / d * d) + m) d) w (fun w' => rfloor_any n d w' (by omega) (by omega) (by omega) (by omega)) (fun w' => rdiv_any _ d w' (by omega) (by omega) (by omega) (by omega)) (wrap_in _ (by omega)) (wrap_in _ (by omega)) (wrap_in _ (by omega)) (wrap_in _ (by omega)) (wrap_in _ (by omega)) (wrap_in _ (by omega))
/-- One weighted pixel of a list. -/
def lat (L : List (Int × Px)) (k : Nat) : Int × Px := L.getD k (0, Px.zero)
theorem take_lat {L : List (Int × Px)} {k : Nat} (h : k < L.length) : L.take (k + 1) = L.take k ++ [lat L k] := by
  rw [List.take_succ_eq_append_getElem h]; simp [lat, h]
theorem lat_mem {L : List (Int × Px)} {k : Nat} (h : k < L.length) : lat L k ∈ L := by unfold lat; simp [h]
theorem lat_w {L : List (Int × Px)} {k : Nat} (h : k < L.length) : (L.map (·.1)).getD k 0 = (lat L k).1 := by unfold lat; simp [h]
theorem lat_p {L : List (Int × Px)} {k : Nat} (h : k < L.length) : pat (L.map (·.2)) k = (lat L k).2 := by unfold lat pat; simp [h]
/-- A channel: 0 red, 1 green, 2 blue. -/
def chn (k : Nat) (p : Px) : Int := if k = 1 then p.g else if k = 2 then p.b else p.r
def bsU (k : Nat) (l : List (Int × Px)) : Int := (l.map fun t => t.1 * (chn k t.2 / 256) * t.2.a).sum
def bsV (k : Nat) (l : List (Int × Px)) : Int := (l.map fun t => t.1 * (chn k t.2 % 256) * t.2.a).sum
def bsC (k : Nat) (l : List (Int × Px)) : Int := (l.map fun t => t.1 * t.2.a * chn k t.2).sum
theorem bsU_snoc (k : Nat) (l : List (Int × Px)) (t : Int × Px) : bsU k (l ++ [t]) = bsU k l + t.1 * (chn k t.2 / 256) * t.2.a := by simp [bsU]
theorem bsV_snoc (k : Nat) (l : List (Int × Px)) (t : Int × Px) : bsV k (l ++ [t]) = bsV k l + t.1 * (chn k t.2 % 256) * t.2.a := by simp [bsV]
theorem bs_uv (k : Nat) : ∀ l : List (Int × Px), 256 * bsU k l + bsV k l = bsC k l
  | [] => by simp [bsU, bsV, bsC]
  | t :: l => by
    have ih := bs_uv k l
    have eU : bsU k (t :: l) = t.1 * (chn k t.2 / 256) * t.2.a + bsU k l := by simp [bsU]
    have eV : bsV k (t :: l) = t.1 * (chn k t.2 % 256) * t.2.a + bsV k l := by simp [bsV]
    have eC : bsC k (t :: l) = t.1 * t.2.a * chn k t.2 + bsC k l := by simp [bsC]
    rw [eU, eV, eC]
    generalize chn k t.2 = c at *
    have hc : 256 * (c / 256) + c % 256 = c := by omega
    have e1 : t.1 * t.2.a * c = 256 * (t.1 * (c / 256) * t.2.a) + t.1 * (c % 256) * t.2.a := by
      generalize c / 256 = q at *
      generalize c % 256 = r at *
      subst hc
      grind
    rw [e1]
    generalize t.1 * (c / 256) * t.2.a = x1 at *
    generalize t.1 * (c % 256) * t.2.a = x2 at *
    omega
theorem bsC_0 (l : List (Int × Px)) : bsC 0 l = bsR l := by simp [bsC, bsR, chn]
theorem bsC_1 (l : List (Int × Px)) : bsC 1 l = bsG l := by simp [bsC, bsG, chn]
theorem bsC_2 (l : List (Int × Px)) : bsC 2 l = bsB l := by simp [bsC, bsB, chn]
/-- Weights and pixels are small. -/
def Small (L : List (Int × Px)) : Prop := L.length ≤ 16 ∧ ∀ t ∈ L, (-4303360000 ≤ t.1 ∧ t.1 ≤ 4303360000) ∧ t.2.ok
theorem chn_ok {p : Px} (h : p.ok) (k : Nat) : 0 ≤ chn k p ∧ chn k p ≤ 65535 := by
  obtain ⟨h1, h2, h3, h4⟩ := h
  unfold chn
  split
  · exact h2
  · split
    · exact h3
    · exact h1
theorem mul_small {w B v M : Int} (hw : -B ≤ w ∧ w ≤ B) (hv : 0 ≤ v ∧ v ≤ M) (hB : 0 ≤ B) : -(B * M) ≤ w * v ∧ w * v ≤ B * M := by
  have h1 : w * v ≤ B * v := Int.mul_le_mul_of_nonneg_right hw.2 hv.1
  have h2 : -B * v ≤ w * v := Int.mul_le_mul_of_nonneg_right hw.1 hv.1
  have h3 : B * v ≤ B * M := Int.mul_le_mul_of_nonneg_left hv.2 hB
  rw [Int.neg_mul] at h2
  omega
/-- The terms of one pixel. -/
theorem small_terms {L : List (Int × Px)} (h : Small L) {j : Nat} (hj : j < L.length) (k : Nat) :
    ((-282020697600000 ≤ (lat L j).1 * (lat L j).2.a ∧ (lat L j).1 * (lat L j).2.a ≤ 282020697600000) ∧ (0 ≤ chn k (lat L j).2 ∧ chn k (lat L j).2 ≤ 65535)) ∧
    ((-1097356800000 ≤ (lat L j).1 * (chn k (lat L j).2 / 256) ∧ (lat L j).1 * (chn k (lat L j).2 / 256) ≤ 1097356800000) ∧ (-71915277888000000 ≤ (lat L j).1 * (chn k (lat L j).2 / 256) * (lat L j).2.a ∧ (lat L j).1 * (chn k (lat L j).2 / 256) * (lat L j).2.a ≤ 71915277888000000)) ∧
    (-1097356800000 ≤ (lat L j).1 * (chn k (lat L j).2 % 256) ∧ (lat L j).1 * (chn k (lat L j).2 % 256) ≤ 1097356800000) ∧ (-71915277888000000 ≤ (lat L j).1 * (chn k (lat L j).2 % 256) * (lat L j).2.a ∧ (lat L j).1 * (chn k (lat L j).2 % 256) * (lat L j).2.a ≤ 71915277888000000) := by
  obtain ⟨hw, ho⟩ := h.2 _ (lat_mem hj)
  have hc := chn_ok ho k
  generalize chn k (lat L j).2 = c at *
  have ha := ho.2.2.2
  have a1 := mul_small hw ha (by omega)
  have b1 := mul_small hw (v := c / 256) (M := 255) (by omega) (by omega)
  have c1 := mul_small hw (v := c % 256) (M := 255) (by omega) (by omega)
  have b2 := mul_small b1 ha (by omega)
  have c2 := mul_small c1 ha (by omega)
  exact ⟨⟨⟨by omega, by omega⟩, hc⟩, ⟨⟨by omega, by omega⟩, by omega, by omega⟩, ⟨by omega, by omega⟩, by omega, by omega⟩
theorem small_sums {L : List (Int × Px)} (h : Small L) (k : Nat) : ∀ j, j ≤ L.length → (-(282020697600000 * (j : Int)) ≤ bsA (L.take j) ∧ bsA (L.take j) ≤ 282020697600000 * (j : Int)) ∧ (-(71915277888000000 * (j : Int)) ≤ bsU k (L.take j) ∧ bsU k (L.take j) ≤ 71915277888000000 * (j : Int)) ∧ (-(71915277888000000 * (j : Int)) ≤ bsV k (L.take j) ∧ bsV k (L.take j) ≤ 71915277888000000 * (j : Int))
  | 0, _ => by simp [bsA, bsU, bsV]
  | j + 1, hj => by
    have ih := small_sums h k j (by omega)
    have t := small_terms h (j := j) (by omega) k
    rw [take_lat (by omega), bsA_snoc, bsU_snoc, bsV_snoc]
    omega
def BaRel (L : List (Int × Px)) (w : World) (gh : Nat) (s i : Value) (wr : World) : Prop := ∃ k : Nat, k ≤ L.length ∧ gh = L.length - k ∧ s = .int .i64 (bsA (L.take k)) ∧ i = .int .i64 k ∧ ∃ m, wr = w.drewN m
def BcRel (L : List (Int × Px)) (k : Nat) (w : World) (gh : Nat) (s t i : Value) (wr : World) : Prop := ∃ j : Nat, j ≤ L.length ∧ gh = L.length - j ∧ s = .int .i64 (bsU k (L.take j)) ∧ t = .int .i64 (bsV k (L.take j)) ∧ i = .int .i64 j ∧ ∃ m, wr = w.drewN m
/-- The three channels, as far as they are done. -/
def BkRel (xs : List Int) (gc : Nat) (w : World) (gh : Nat) (i : Value) (wr : World) : Prop := ∃ k : Nat, k ≤ 3 ∧ gh = 3 - k ∧ i = .int .i64 k ∧ IRow wr w.heap.size (.slice (some ⟨gc, 0, none⟩) 3 3) (partD 0 xs k) ∧ Below w.heap.size w wr
theorem get_getD {l : List Int} {j : Nat} (h : j < l.length) : l[j]? = some (l.getD j 0) := by rw [List.getD_eq_getElem?_getD, List.getElem?_eq_getElem h]; rfl
theorem bel_drewN {w w' : World} (h : Below w.heap.size w w') (n : Nat) : Below w.heap.size w (w'.drewN n) := Below.drewN' h n
set_option maxRecDepth 100000 in
set_option maxHeartbeats 8000000 in
theorem rblend_core (L : List (Int × Px)) (b o c b' o' c' : Nat) (w : World) (hb : b < w.heap.size) (hb' : b' < w.heap.size) (hS : Small L)
    (RW : ∀ j, j < L.length → w.cell? ⟨b, o + j, none⟩ = some (.int .i64 (lat L j).1)) (RP : ∀ j, j < L.length → w.cell? ⟨b', o' + j * 4, none⟩ = some (.int .i64 (lat L j).2.r) ∧ w.cell? ⟨b', o' + j * 4 + 1, none⟩ = some (.int .i64 (lat L j).2.g) ∧ w.cell? ⟨b', o' + j * 4 + 2, none⟩ = some (.int .i64 (lat L j).2.b) ∧ w.cell? ⟨b', o' + j * 4 + 3, none⟩ = some (.int .i64 (lat L j).2.a)) :
    Calls Try.prog 56 #[.slice (some ⟨b, o, none⟩) L.length c, .slice (some ⟨b', o', none⟩) L.length c'] w (PxPost (blend (bsA L) (bsR L) (bsG L) (bsB L)) w) := by
  replace RW := Lib.hid RW; replace RP := Lib.hid RP; replace hS := Lib.hid hS
  have HL := Lib.hid hS.out.1
  go_enter Try.func56, Try.ntmps56
  go_upto_region 1 with fail
  obtain ⟨hb4, hB, -⟩ := one_box w #[.int .i64 0, .int .i64 0, .int .i64 0, .int .i64 0] 48 _ rfl
  have H4 := Lib.hid hb4; have HB := Lib.hid hB
  have hsz := hB.size
  clear hb4 hB
  generalize World.alloc w _ = w0 at *
  go_wp2_with fail
  go_loopg [5, 16] L.length (BaRel L w0)
  case atStart => exact ⟨0, Nat.zero_le _, rfl, rfl, rfl, 0, rfl⟩
  case round =>
    obtain ⟨k, hk, rfl, rfl, rfl, m, rfl⟩ := hrel
    by_cases hlt : k < L.length
    · have hk0 : (0 : Int) ≤ (k : Int) := by omega
      have hk1 : (k : Int) < (L.length : Int) := by omega
      have p1 := (HB.out.cell (p := ⟨b, _, none⟩) hb).trans (RW.out k hlt); have p4 := (HB.out.cell (p := ⟨b', _, none⟩) hb').trans (RP.out k hlt).2.2.2
      have s1 := (small_sums hS.out 0 k hk).1; have s2 := (small_terms hS.out hlt 0).1.1
      have hl16 := HL.out
      have E := Lib.hid (show bsA (L.take (k + 1)) = bsA (L.take k) + (lat L k).1 * (lat L k).2.a by rw [take_lat hlt, bsA_snoc])
      generalize bsA (L.take k) = S at *
      generalize (lat L k).1 = x at *
      generalize (lat L k).2.a = y at *
      have e1 := wrap_in (x * y) (by omega)
      have e2 := wrap_in (S + x * y) (by omega)
      clear s1 s2
      go_wp2_with fail
      go_quiet (fail)
      go_wp2_with fail
      go_roundg (L.length - (k + 1))
      case measure => omega
      case rel => exact ⟨k + 1, by omega, rfl, by rw [E.out], by go_num, _, rfl⟩
    · obtain rfl : k = L.length := by omega
      rw [List.take_length]
      have sA := (small_sums hS.out 0 L.length (Nat.le_refl _)).1
      rw [List.take_length] at sA
      have hl16 := HL.out
      have DV := Lib.hid (fun w' => rdiv_any (bsA L) 4294967296 w' (by omega) (by omega) (by omega) (by omega))
      obtain ⟨T, hT⟩ : ∃ T, bsA L = T := ⟨_, rfl⟩
      obtain ⟨al, hal⟩ : ∃ al, lim16 (rdiv T 4294967296) = al := ⟨_, rfl⟩
      have hz : al ≠ 0 → 2147483648 ≤ T := fun h => by
        have hs := rdiv_spec T 4294967296 (by omega)
        rcases Int.lt_or_le T 2147483648 with c | c
        · exfalso; apply h
          rw [← hal]
          have : rdiv T 4294967296 ≤ 0 := by omega
          unfold lim16; omega
        · exact c
      have hUU := Lib.hid (show ∀ w', Calls Try.prog 76 #[.int .i64 (rdiv T 4294967296)] w' fun e w'' => e = .returned (.int .i64 al) ∧ w' = w'' from fun w' => by rw [← hal]; exact rpunit_any _ _)
      have HBL := Lib.hid (show blend (bsA L) (bsR L) (bsG L) (bsB L) = if al = 0 then Px.zero else ⟨lim16 (rdiv (bsR L) T), lim16 (rdiv (bsG L) T), lim16 (rdiv (bsB L) T), al⟩ by unfold blend; rw [hT, hal])
      rw [hT] at DV ⊢
      have HT := Lib.hid hT
      rw [hT] at sA
      generalize rdiv T 4294967296 = R0 at *
      clear hal hT
      go_wp2_with fail
      refine (DV.out _).mono ?_
      rintro e w' ⟨rfl, m2, rfl⟩
      go_wp2_with fail
      refine (hUU.out _).mono ?_
      rintro e w' ⟨rfl, rfl⟩
      replace HB := Lib.hid (bel_drewN HB.out (m + m2)); replace H4 := Lib.hid (H4.out.drewN (m + m2))
      have hsz2 : w0.heap.size = (w0.drewN (m + m2)).heap.size := rfl
      rw [hsz2] at hsz
      clear hsz2 DV hUU
      generalize w0.drewN (m + m2) = w1 at *
      by_cases ha : al = 0
      · obtain ⟨⟨r1, r2, r3, r4⟩, f1, f2, f3, f4⟩ := H4.out.four
        have hz2 : (al == 0) = true := by simp [ha]
        have HAA := Lib.hid ha
        clear ha hz
        by_cases hle : T ≤ 0
        all_goals
          go_wp2_with fail
          refine bodyPost_ret (v := .agg #[.int .i64 0, .int .i64 0, .int .i64 0, .int .i64 0]) (by simp [results, Try.results56, go_sem, r1, r2, r3, r4]) rfl ⟨?_, ?_⟩
          · rw [HBL.out, if_pos HAA.out]; rfl
          · exact set4_below HB.out (Nat.le_refl _) _ _ _ _ _ _ _ _
      · have hT1 := hz ha
        have hz2 : (al == 0) = false := by simp [ha]
        have hgt : decide (T ≤ 0) = false := by simp; omega
        replace HBL := Lib.hid (HBL.out.trans (if_neg ha))
        clear hz ha
        obtain ⟨xs, hxs⟩ : ∃ xs : List Int, [lim16 (rdiv (bsR L) T), lim16 (rdiv (bsG L) T), lim16 (rdiv (bsB L) T)] = xs := ⟨_, rfl⟩
        have HX3 := Lib.hid (show xs.length = 3 by rw [← hxs]; rfl)
        have HXK := Lib.hid (show ∀ k, k < 3 → lim16 (rdiv (256 * bsU k L + bsV k L) T) = xs.getD k 0 from fun k hk => by
          rw [bs_uv, ← hxs]
          match k, hk with
          | 0, _ => rw [bsC_0]; rfl
          | 1, _ => rw [bsC_1]; rfl
          | 2, _ => rw [bsC_2]; rfl)
        have HQ := Lib.hid (show ∀ k, ∀ w', Calls Try.prog 77 #[.int .i64 (bsU k L), .int .i64 (bsV k L), .int .i64 T] w' fun e w'' => e = .returned (.int .i64 (rdiv (256 * bsU k L + bsV k L) T)) ∧ ∃ m, w'' = w'.drewN m from fun k w' => by
          have q := (small_sums hS.out k L.length (Nat.le_refl _)).2
          rw [List.take_length] at q
          exact rquot_any _ _ T w' (by omega) (by omega) (by omega) (by omega))
        replace HBL := Lib.hid (show blend (bsA L) (bsR L) (bsG L) (bsB L) = ⟨xs.getD 0 0, xs.getD 1 0, xs.getD 2 0, al⟩ by rw [HBL.out, ← hxs]; rfl)
        clear hxs sA hl16
        go_upto_region 10 with fail
        obtain ⟨wm, hwm⟩ : ∃ wm : World, wm = w1 := ⟨_, rfl⟩
        go_wp2_with (refine imake _ rfl _ _ rfl w1.heap.size 3 3 3 rfl rfl rfl rfl (by omega) (Nat.le_refl _) ?_; intro w2 hrow hb2)
        subst hwm
        have HRow := Lib.hid hrow; have HB2 := Lib.hid hb2
        clear hrow hb2
        go_wp2_with fail
        have HRow0 : IRow w2 wm.heap.size (.slice (some ⟨wm.heap.size, 0, none⟩) 3 3) (partD 0 xs 0) := by
          rw [partD_zero, HX3.out]; exact HRow.out
        have HR0 := Lib.hid HRow0
        clear HRow0 HRow
        go_loopg [45] 3 (BkRel xs wm.heap.size wm)
        case atStart => exact ⟨0, by omega, rfl, rfl, HR0.out, HB2.out⟩
        case round =>
          obtain ⟨k, hk, rfl, rfl, hrow, hbr⟩ := hrel
          clear HR0 HB2
          have HRW := Lib.hid hrow; have HBR := Lib.hid hbr; have HBW := Lib.hid (bel_trans HB.out hbr)
          clear hrow hbr
          by_cases hk3 : k < 3
          · have hk0 : (0 : Int) ≤ (k : Int) := by omega
            have hk1 : (k : Int) < 3 := by omega
            go_wp2_with fail
            go_loopg [10, 11, 50] L.length (BcRel L k wr)
            case atStart => exact ⟨0, Nat.zero_le _, rfl, rfl, rfl, rfl, 0, rfl⟩
            case round =>
              obtain ⟨j, hj, rfl, rfl, rfl, rfl, m, rfl⟩ := hrel
              by_cases hlt : j < L.length
              · have hj0 : (0 : Int) ≤ (j : Int) := by omega
                have hj1 : (j : Int) < (L.length : Int) := by omega
                have hl16 := HL.out
                have p0 := (HBW.out.cell (p := ⟨b, _, none⟩) hb).trans (RW.out j hlt)
                have p1 := (HBW.out.cell (p := ⟨b', _, none⟩) hb').trans (RP.out j hlt).1; have p2 := (HBW.out.cell (p := ⟨b', _, none⟩) hb').trans (RP.out j hlt).2.1
                have p3 := (HBW.out.cell (p := ⟨b', _, none⟩) hb').trans (RP.out j hlt).2.2.1; have p4 := (HBW.out.cell (p := ⟨b', _, none⟩) hb').trans (RP.out j hlt).2.2.2
                obtain ⟨-, sU, sV⟩ := small_sums hS.out k j hj
                obtain ⟨⟨-, tc⟩, ⟨t1, t2⟩, t3, t4⟩ := small_terms hS.out hlt k
                have EU := Lib.hid (show bsU k (L.take (j + 1)) = bsU k (L.take j) + (lat L j).1 * (chn k (lat L j).2 / 256) * (lat L j).2.a by rw [take_lat hlt, bsU_snoc])
                have EV := Lib.hid (show bsV k (L.take (j + 1)) = bsV k (L.take j) + (lat L j).1 * (chn k (lat L j).2 % 256) * (lat L j).2.a by rw [take_lat hlt, bsV_snoc])
                generalize bsU k (L.take j) = SU at *
                generalize bsV k (L.take j) = SV at *
                have hcases : (((k : Int) == 1) = false ∧ ((k : Int) == 2) = false ∧ chn k (lat L j).2 = (lat L j).2.r) ∨ (((k : Int) == 1) = true ∧ ((k : Int) == 2) = false ∧ chn k (lat L j).2 = (lat L j).2.g) ∨ (((k : Int) == 1) = false ∧ ((k : Int) == 2) = true ∧ chn k (lat L j).2 = (lat L j).2.b) := by
                  rcases (show k = 0 ∨ k = 1 ∨ k = 2 by omega) with e | e | e <;> subst e <;> simp [chn]
                have hv := tc
                have hq1 : (chn k (lat L j).2).tdiv 256 = chn k (lat L j).2 / 256 := Int.tdiv_eq_ediv_of_nonneg tc.1
                have hr1 : (chn k (lat L j).2).tmod 256 = chn k (lat L j).2 % 256 := Int.tmod_eq_emod_of_nonneg tc.1
                have hqb : 0 ≤ chn k (lat L j).2 / 256 ∧ chn k (lat L j).2 / 256 ≤ 255 := by omega
                have hrb : 0 ≤ chn k (lat L j).2 % 256 ∧ chn k (lat L j).2 % 256 ≤ 255 := by omega
                generalize chn k (lat L j).2 / 256 = Q at *
                generalize chn k (lat L j).2 % 256 = R at *
                generalize (lat L j).1 = x at *
                generalize (lat L j).2.a = y at *
                have e1 := wrap_in Q (by omega); have e2 := wrap_in R (by omega)
                have e3 := wrap_in (x * Q) (by omega); have e4 := wrap_in (x * R) (by omega)
                have e5 := wrap_in (x * Q * y) (by omega); have e6 := wrap_in (x * R * y) (by omega)
                have e7 := wrap_in (SU + x * Q * y) (by omega); have e8 := wrap_in (SV + x * R * y) (by omega)
                rcases hcases with ⟨b1, b2, hch⟩ | ⟨b1, b2, hch⟩ | ⟨b1, b2, hch⟩
                all_goals
                  rw [hch] at hq1 hr1
                  clear hch tc hv t1 t2 t3 t4 sU sV hqb hrb
                  go_wp2_with fail
                  go_quiet (fail)
                  go_wp2_with fail
                  go_roundg (L.length - (j + 1))
                  case measure => omega
                  case rel => exact ⟨j + 1, by omega, rfl, by rw [EU.out], by rw [EV.out], by go_num, _, rfl⟩
              · obtain rfl : j = L.length := by omega
                rw [List.take_length]
                obtain ⟨U, hU⟩ : ∃ U, bsU k L = U := ⟨_, rfl⟩
                obtain ⟨V, hV⟩ : ∃ V, bsV k L = V := ⟨_, rfl⟩
                obtain ⟨u, hu⟩ : ∃ u, xs.getD k 0 = u := ⟨_, rfl⟩
                have Q1 := HQ.out k
                have QK := HXK.out k hk3
                rw [hU, hV] at Q1 QK
                rw [hU, hV]
                rw [hu] at QK
                generalize rdiv (256 * U + V) T = z at *
                have HQ1 := Lib.hid Q1
                have HU1 := Lib.hid (show ∀ w', Calls Try.prog 76 #[.int .i64 z] w' fun e w'' => e = .returned (.int .i64 u) ∧ w' = w'' from fun w' => by rw [← QK]; exact rpunit_any _ _)
                have HUU := Lib.hid hu
                clear Q1 QK hU hV hu
                go_wp2_with fail
                refine (HQ1.out _).mono ?_
                rintro e w' ⟨rfl, m2, rfl⟩
                go_wp2_with fail
                refine (HU1.out _).mono ?_
                rintro e w' ⟨rfl, rfl⟩
                have hxl := HX3.out
                have hcell := (HRW.out.drewN (m + m2)).cell (i := k) (partD_at 0 xs k (by omega))
                have hfro := (HRW.out.drewN (m + m2)).frozen k
                have HST := Lib.hid ((HRW.out.drewN (m + m2)).stored k u).1
                have HGR := Lib.hid (Below.setCell (p := ⟨wm.heap.size, k, none⟩) (Below.drewN' HBR.out (m + m2)) (Nat.le_refl _) (.int .i64 u))
                clear hxl
                go_wp2_with fail
                go_roundg (3 - (k + 1))
                case measure => omega
                case rel => exact ⟨k + 1, by omega, rfl, by go_num, by rw [← partD_set 0 xs k (by rw [HX3.out]; exact hk3), HUU.out]; exact HST.out, HGR.out⟩
          · obtain rfl : k = 3 := by omega
            have hrow := HRW.out
            rw [show partD 0 xs 3 = xs by have := partD_all 0 xs; rw [HX3.out] at this; exact this] at hrow
            have c0 := hrow.cell (i := 0) (x := xs.getD 0 0) (get_getD (by rw [HX3.out]; omega)); have c1 := hrow.cell (i := 1) (x := xs.getD 1 0) (get_getD (by rw [HX3.out]; omega)); have c2 := hrow.cell (i := 2) (x := xs.getD 2 0) (get_getD (by rw [HX3.out]; omega))
            obtain ⟨⟨r1, r2, r3, r4⟩, f1, f2, f3, f4⟩ := (H4.out.low (Nat.lt_of_lt_of_le H4.out.lt (Nat.le_refl _)) HBR.out).four
            have HPO := Lib.hid (set4_below HBW.out.drew (Nat.le_refl _) 0 1 2 3 (.int .i64 (xs.getD 0 0)) (.int .i64 (xs.getD 1 0)) (.int .i64 (xs.getD 2 0)) (.int .i64 al))
            generalize xs.getD 0 0 = z0 at *
            generalize xs.getD 1 0 = z1 at *
            generalize xs.getD 2 0 = z2 at *
            clear hrow HXK HQ
            go_wp2_with fail
            go_still_tail 11, (by kernel_rfl)
            change wpList _ _ _ _ _ wr.drew
            replace r1 : wr.drew.cell? ⟨w.heap.size, 0, none⟩ = _ := r1; replace r2 : wr.drew.cell? ⟨w.heap.size, 1, none⟩ = _ := r2; replace r3 : wr.drew.cell? ⟨w.heap.size, 2, none⟩ = _ := r3; replace r4 : wr.drew.cell? ⟨w.heap.size, 3, none⟩ = _ := r4
            replace f1 : wr.drew.frozen? ⟨w.heap.size, 0, none⟩ = false := f1; replace f2 : wr.drew.frozen? ⟨w.heap.size, 1, none⟩ = false := f2; replace f3 : wr.drew.frozen? ⟨w.heap.size, 2, none⟩ = false := f3; replace f4 : wr.drew.frozen? ⟨w.heap.size, 3, none⟩ = false := f4
            generalize wr.drew = wx at *
            go_wp2_with fail
            refine bodyPost_ret (v := .agg #[.int .i64 z0, .int .i64 z1, .int .i64 z2, .int .i64 al]) (by simp [results, Try.results56, go_sem, r1, r2, r3, r4]) rfl ⟨?_, ?_⟩
            · rw [HBL.out]
            · exact HPO.out
theorem rblend_any (L : List (Int × Px)) (A A' : Option Addr) (n n' c c' : Nat) (w : World) (hS : Small L) (h0 : 0 < L.length) (h1 : Ints w w.heap.size (.slice A n c) (L.map (·.1))) (h2 : Pixs w w.heap.size (.slice A' n' c') (L.map (·.2))) :
    Calls Try.prog 56 #[.slice A n c, .slice A' n' c'] w (PxPost (wmean L) w) := by
  obtain ⟨B1, d1, e1, -, q1⟩ := h1
  obtain ⟨B2, d2, e2, -, q2⟩ := h2
  rw [List.length_map] at e1 e2 q1 q2
  injection e1 with e1 e3 e4
  injection e2 with e2 e5 e6
  subst e1 e3 e4 e2 e5 e6
  obtain ⟨b, o, rfl, hb, -⟩ := q1 0 h0
  obtain ⟨b', o', rfl, hb', -⟩ := q2 0 h0
  refine rblend_core L b o _ b' o' _ w hb hb' hS (fun j hj => ?_) (fun j hj => ?_)
  · obtain ⟨b2, o2, e, -, hx⟩ := q1 j hj
    injection e with e
    injection e with e1 e2
    subst e1 e2
    rw [← lat_w hj]; exact hx
  · obtain ⟨b2, o2, e, -, hx⟩ := q2 j hj
    injection e with e
    injection e with e1 e2
    subst e1 e2
    rw [← lat_p hj]; exact hx
end Go.Proofs.Ytbakgdcajpagkaa
