/- adjust.channel: a function value that computes one channel. -/
import Derived.Test.YtmbglkholoblaaaDoorAdjF
import Derived.Test.YtmbglkholoblaaaDoorKnotRow
import Derived.StillTailTactics
namespace Go.Proofs.YtmbglkholoblaaaDoor
open Go.RowKit

/-- A function value that computes f of a unit value, from a world on. -/
def FnI (F : Nat) (caps : Array Value) (f : Int → Int) (w0 : World) : Prop :=
  ∀ w, Below w0.heap.size w0 w → ∀ c, 0 ≤ c ∧ c ≤ 65535 → Calls Tryd.prog F (#[.int .i64 c] ++ caps) w fun e w' => e = .returned (.int .i64 (f c)) ∧ Below w.heap.size w w'
def Ent (F : Nat) : Prop := ∀ (args : Array Value) (w : World), (callFunc F args).run Tryd.prog w = .ok (.enter F args) w
theorem FnI.on {F : Nat} {caps : Array Value} {f : Int → Int} {w0 w : World} (h : FnI F caps f w0) (hb : Below w0.heap.size w0 w) : FnI F caps f w := fun w' hb' c hc => h w' (hb.trans (hb'.mono hb.size)) c hc
def ChPost (f : Int → Int) (w : World) (e : Ending) (w' : World) : Prop := ∃ F caps, e = .returned (.func (.func F) #[] caps) ∧ Ent F ∧ FnI F caps f w' ∧ Below w.heap.size w w'
theorem ent_c1 : Ent 75 := fun _ _ => by simp [go_sem]
theorem ent_c2 : Ent 77 := fun _ _ => by simp [go_sem]
theorem ent_c3 : Ent 79 := fun _ _ => by simp [go_sem]
theorem ent_c4 : Ent 80 := fun _ _ => by simp [go_sem]
theorem ent_c5 : Ent 81 := fun _ _ => by simp [go_sem]
theorem ent_c6 : Ent 83 := fun _ _ => by simp [go_sem]

section
variable {b o c g : Nat} {w : World}
theorem c1_any (p0 p1 p2 p3 p4 x : Int) (hx : 0 ≤ x ∧ x ≤ 65535) (h0 : 0 ≤ p0 ∧ p0 < p1 ∧ p1 ≤ 65535) (h2 : 1 ≤ p2 ∧ p2 ≤ 256) (h3 : 0 ≤ p3 ∧ p3 ≤ 65535) (h4 : 0 ≤ p4 ∧ p4 ≤ 65535) (hb : w.cell? ⟨g, 0, none⟩ = some (.slice (some ⟨b, o, none⟩) 5 c))
    (c0 : w.cell? ⟨b, o, none⟩ = some (.int .i64 p0)) (c1 : w.cell? ⟨b, o + 1, none⟩ = some (.int .i64 p1)) (c2 : w.cell? ⟨b, o + 2, none⟩ = some (.int .i64 p2)) (c3 : w.cell? ⟨b, o + 3, none⟩ = some (.int .i64 p3)) (c4 : w.cell? ⟨b, o + 4, none⟩ = some (.int .i64 p4)) :
    Calls Tryd.prog 75 #[.int .i64 x, .pointer (some ⟨g, 0, none⟩)] w fun e w' => e = .returned (.int .i64 (lerp p3 p4 (levU (lim16 (rdiv ((x - p0) * 65535) (p1 - p0))) p2))) ∧ Below w.heap.size w w' := by
  have L := Lib.hid (leveled_any b o c p0 p1 p2 p3 p4 x w hx h0 h2 h3 h4 c0 c1 c2 c3 c4)
  clear c0 c1 c2 c3 c4
  generalize lerp p3 p4 (levU (lim16 (rdiv ((x - p0) * 65535) (p1 - p0))) p2) = y at *
  go_enter Tryd.func75, Tryd.ntmps75
  go_wp2_with fail
  refine L.out.mono ?_
  rintro e w1 ⟨rfl, n, rfl⟩
  go_wp2_with fail
  go_ret
  exact ⟨rfl, Below.drewN' (Below.refl _ _) _⟩
theorem c5_any (p0 p1 x : Int) (hT : Tab w) (hx : 0 ≤ x ∧ x ≤ 65535) (h0 : -128 ≤ p0 ∧ p0 ≤ 128) (h1 : -65535 ≤ p1 ∧ p1 ≤ 65535) (hb : w.cell? ⟨g, 0, none⟩ = some (.slice (some ⟨b, o, none⟩) 2 c))
    (c0 : w.cell? ⟨b, o, none⟩ = some (.int .i64 p0)) (c1 : w.cell? ⟨b, o + 1, none⟩ = some (.int .i64 p1)) :
    Calls Tryd.prog 81 #[.int .i64 x, .pointer (some ⟨g, 0, none⟩)] w fun e w' => e = .returned (.int .i64 (lim16 (expD p0 x + p1))) ∧ Below w.heap.size w w' := by
  have L := Lib.hid (exposed_any b o c p0 p1 x w hT hx h0 h1 c0 c1)
  clear c0 c1 hT
  generalize lim16 (expD p0 x + p1) = y at *
  go_enter Tryd.func81, Tryd.ntmps81
  go_wp2_with fail
  refine L.out.mono ?_
  rintro e w1 ⟨rfl, n, rfl⟩
  go_wp2_with fail
  go_ret
  exact ⟨rfl, Below.drewN' (Below.refl _ _) _⟩
theorem c2_any (v : Value) (ks : List (Int × Int)) (x : Int) (hb : w.cell? ⟨g, 0, none⟩ = some v) (hk : Knots w w.heap.size v ks) :
    Calls Tryd.prog 77 #[.int .i64 x, .pointer (some ⟨g, 0, none⟩)] w fun e w' => e = .returned (.int .i64 (cat ks x)) ∧ Below w.heap.size w w' := by
  have L := Lib.hid (at_any v ks x w hk)
  generalize cat ks x = y at *
  clear hk
  go_enter Tryd.func77, Tryd.ntmps77
  go_wp2_with fail
  refine L.out.mono ?_
  rintro e w1 ⟨rfl, hbb⟩
  go_wp2_with fail
  go_ret
  exact ⟨rfl, hbb⟩
end
theorem bel_of_drew {w w' : World} (h : ∃ n, w' = w.drewN n) : Below w.heap.size w w' := by
  obtain ⟨n, rfl⟩ := h
  exact Below.drewN' (Below.refl _ _) _
/-- The box that a channel function holds. -/
theorem box_at {w0 w : World} {g : Nat} {t : TypeId} {v : Value} (h : Bx w0 g t #[v]) (hb : Below w0.heap.size w0 w) : w.cell? ⟨g, 0, none⟩ = some v := (h.below hb).cell rfl

set_option maxHeartbeats 1000000 in
theorem channel_1 (l : List Int) (A : Option Addr) (n c : Nat) (w : World) : Calls Tryd.prog 58 #[.int .i64 1, .slice A n c] w (ChPost (sing 1 l) w) := by
  go_enter Tryd.func58, Tryd.ntmps58
  go_wp2_with fail
  go_ret
  refine ⟨_, _, rfl, ent_c6, fun w' _ c hc => ?_, bel1 _ _⟩
  refine (inv_any c w' hc).mono ?_
  rintro e w2 ⟨rfl, rfl⟩
  exact ⟨by simp [sing], Below.refl _ _⟩
set_option maxHeartbeats 1000000 in
theorem channel_2 (l : List Int) (ss : List (Int × Px)) (a : AdjOk 2 l ss) (v : Value) (w : World) (h : Ints w w.heap.size v l) : Calls Tryd.prog 58 #[.int .i64 2, v] w (ChPost (sing 2 l) w) := by
  have hl := a.len.1 rfl
  obtain ⟨b, o, c, rfl, hb, hc⟩ := ints_at h (by omega)
  have HC := Lib.hid hc; clear hc h
  have HA := Lib.hid a; clear a
  rw [hl]
  go_enter Tryd.func58, Tryd.ntmps58
  go_upto_region 1 with fail
  obtain ⟨hb1, hB, -⟩ := one_box w #[.slice (some ⟨b, o, none⟩) 5 c] 22 _ rfl
  generalize World.alloc w _ = w0 at *
  go_wp2_with fail
  go_ret
  refine ⟨_, _, rfl, ent_c1, fun w' hb' x hx => ?_, hB⟩
  obtain ⟨h0, h2, h3, h4⟩ := HA.out.p2
  have hc : ∀ i, i < 5 → w'.cell? ⟨b, o + i, none⟩ = some (.int .i64 (prm l i)) := fun i hi => ((hb'.cell (p := ⟨b, o + i, none⟩) (Nat.lt_of_lt_of_le hb hB.size)).trans (hB.cell (p := ⟨b, o + i, none⟩) hb)).trans (HC.out i (by omega))
  exact c1_any _ _ _ _ _ x hx h0 h2 h3 h4 (box_at hb1 hb') (hc 0 (by omega)) (hc 1 (by omega)) (hc 2 (by omega)) (hc 3 (by omega)) (hc 4 (by omega))
set_option maxHeartbeats 1000000 in
theorem channel_4 (l : List Int) (ss : List (Int × Px)) (a : AdjOk 4 l ss) (v : Value) (w : World) (h : Ints w w.heap.size v l) : Calls Tryd.prog 58 #[.int .i64 4, v] w (ChPost (sing 4 l) w) := by
  have hl := a.len.2.1 rfl
  obtain ⟨b, o, c, rfl, hb, hc⟩ := ints_at h (by omega)
  have HC := Lib.hid hc; clear hc h
  have HA := Lib.hid a; clear a
  rw [hl]
  go_enter Tryd.func58, Tryd.ntmps58
  go_upto_region 1 with fail
  obtain ⟨hb1, hB, -⟩ := one_box w #[.slice (some ⟨b, o, none⟩) 2 c] 22 _ rfl
  generalize World.alloc w _ = w0 at *
  go_wp2_with fail
  go_ret
  refine ⟨_, _, rfl, ent_c3, fun w' hb' x hx => ?_, hB⟩
  obtain ⟨h0, h1⟩ := HA.out.p4
  have hc : ∀ i, i < 2 → w'.cell? ⟨b, o + i, none⟩ = some (.int .i64 (prm l i)) := fun i hi => ((hb'.cell (p := ⟨b, o + i, none⟩) (Nat.lt_of_lt_of_le hb hB.size)).trans (hB.cell (p := ⟨b, o + i, none⟩) hb)).trans (HC.out i (by omega))
  exact (bri_any b o c _ _ _ x w' hx h0 h1 (box_at hb1 hb') (hc 0 (by omega)) (hc 1 (by omega))).mono fun e w2 ⟨h1, h2⟩ => ⟨h1, bel_of_drew h2⟩
set_option maxHeartbeats 1000000 in
theorem channel_11 (l : List Int) (ss : List (Int × Px)) (a : AdjOk 11 l ss) (v : Value) (w : World) (hT : Tab w) (h : Ints w w.heap.size v l) : Calls Tryd.prog 58 #[.int .i64 11, v] w (ChPost (sing 11 l) w) := by
  have hl := a.len.2.2.1 rfl
  obtain ⟨b, o, c, rfl, hb, hc⟩ := ints_at h (by omega)
  have HC := Lib.hid hc; clear hc h
  have HA := Lib.hid a; clear a
  have HT := Lib.hid hT; clear hT
  rw [hl]
  go_enter Tryd.func58, Tryd.ntmps58
  go_upto_region 1 with fail
  obtain ⟨hb1, hB, -⟩ := one_box w #[.slice (some ⟨b, o, none⟩) 2 c] 22 _ rfl
  generalize World.alloc w _ = w0 at *
  go_wp2_with fail
  go_ret
  refine ⟨_, _, rfl, ent_c5, fun w' hb' x hx => ?_, hB⟩
  obtain ⟨h0, h1⟩ := HA.out.p11
  have hc : ∀ i, i < 2 → w'.cell? ⟨b, o + i, none⟩ = some (.int .i64 (prm l i)) := fun i hi => ((hb'.cell (p := ⟨b, o + i, none⟩) (Nat.lt_of_lt_of_le hb hB.size)).trans (hB.cell (p := ⟨b, o + i, none⟩) hb)).trans (HC.out i (by omega))
  exact c5_any _ _ x ((HT.out.below hB).below hb') hx h0 h1 (box_at hb1 hb') (hc 0 (by omega)) (hc 1 (by omega))
set_option maxHeartbeats 1000000 in
theorem channel_7 (l : List Int) (ss : List (Int × Px)) (a : AdjOk 7 l ss) (v : Value) (w : World) (h : Ints w w.heap.size v l) : Calls Tryd.prog 58 #[.int .i64 7, v] w (ChPost (sing 7 l) w) := by
  have hl := a.len.2.2.2.2.2.2.1 rfl
  obtain ⟨b, o, c, rfl, hb, hc⟩ := ints_at h (by omega)
  have c0 := hc 0 (by omega)
  rw [Nat.add_zero] at c0
  have hp := a.p7
  clear hc h a
  rw [hl]
  have E := Lib.hid (show ∀ x, sing 7 l x = posF (prm l 0 - 1) x from fun x => rfl)
  generalize prm l 0 = p at *
  go_enter Tryd.func58, Tryd.ntmps58
  go_upto_region 1 with fail
  obtain ⟨hb1, hB, -⟩ := one_box w #[.slice (some ⟨b, o, none⟩) 1 c] 22 _ rfl
  replace c0 := (hB.cell (p := ⟨b, o, none⟩) hb).trans c0
  have j1 := hb1.cell (j := 0) rfl
  generalize World.alloc w _ = w0 at *
  go_wp2_with fail
  obtain ⟨hb2, hB2, -⟩ := one_box w0 #[.int .i64 (p - 1)] 3 _ rfl
  generalize World.alloc w0 _ = w1 at *
  go_ret
  refine ⟨_, _, rfl, ent_c4, fun w' hb' x hx => ?_, bel_trans hB hB2⟩
  rw [E.out]
  exact (pos_any _ (p - 1) x w' hx (by omega) (box_at hb2 hb')).mono fun e w2 ⟨h1, h2⟩ => ⟨h1, bel_of_drew h2⟩
/-- The head of the loop that fills the knots. -/
def KfRel (ks : List (Int × Int)) (g B n : Nat) (w0 : World) (gh : Nat) (i : Value) (wr : World) : Prop :=
  ∃ k : Nat, k ≤ n ∧ gh = n - k ∧ i = .int .i64 k ∧ FRow 77 2 wr B (.slice (some ⟨g, 0, none⟩) n n) n (flat2 (partD (0, 0) ks k)) ∧ KB w0.heap.size g w0 wr
theorem flat2_step {ks : List (Int × Int)} {k : Nat} {x y : Int} (hk : k < ks.length) (h : ks.getD k (0, 0) = (x, y)) : ((flat2 (partD (0, 0) ks k)).set (k * 2) x).set (k * 2 + 1) y = flat2 (partD (0, 0) ks (k + 1)) := by
  rw [← partD_set (0, 0) ks k hk, h, flat2_set]
set_option maxHeartbeats 4000000 in
theorem channel_3 (l : List Int) (ss : List (Int × Px)) (a : AdjOk 3 l ss) (v : Value) (w : World) (h : Ints w w.heap.size v l) : Calls Tryd.prog 58 #[.int .i64 3, v] w (ChPost (sing 3 l) w) := by
  have hl : 4 ≤ l.length ∧ l.length ≤ 16 ∧ l.length % 2 = 0 := by simpa [cntOk] using a.cnt
  obtain ⟨b, o, c, rfl, hb, hc⟩ := ints_at h (by omega)
  have HC := Lib.hid hc; clear hc h
  have HA := Lib.hid a; clear a
  obtain ⟨n, hn⟩ : ∃ n : Nat, l.length = 2 * n := ⟨l.length / 2, by omega⟩
  have hkl : (knots l).length = n := by simp [knots]; omega
  have HK := Lib.hid (fun k (hk : k < n) => show (knots l).getD k (0, 0) = (prm l (2 * k), prm l (2 * k + 1)) by simp [knots, hn, hk])
  have E := Lib.hid (show ∀ x, sing 3 l x = cat (knots l) x from fun x => rfl)
  have HKL := Lib.hid hkl; clear hkl
  generalize knots l = ks at *
  obtain ⟨i0, hi0, hz0, hz1, hz2⟩ := info_parts Tryd.infoKnot
  have HI := Lib.hid hi0; have HZ0 := Lib.hid hz0; have HZ1 := Lib.hid hz1; have HZ2 := Lib.hid hz2; clear hi0 hz0 hz1 hz2
  have hdv : (l.length : Int).tdiv 2 = (n : Int) := by rw [Int.tdiv_eq_ediv_of_nonneg (by omega)]; omega
  have HN := Lib.hid hn; clear hn
  have hn2 : 2 ≤ n ∧ n ≤ 8 := by have := HN.out; omega
  go_enter Tryd.func58, Tryd.ntmps58
  go_upto_region 1 with fail
  obtain ⟨hb1, hB, -⟩ := one_box w #[.slice (some ⟨b, o, none⟩) l.length c] 22 _ rfl
  have j1 := hb1.cell (j := 0) rfl
  have hz0 := hb1.lt
  generalize World.alloc w _ = w0 at *
  go_wp2_with (at_make; refine fmake 77 2 75 16 i0 _ Tryd.underlying75 HI.out HZ0.out HZ1.out HZ2.out rfl (by omega) (by omega) _ rfl _ _ rfl w0.heap.size _ _ n rfl rfl rfl rfl (by omega) (Nat.le_refl _) ?_; intro w3 hown hb3)
  replace hb1 := hb1.below hb3; replace hB := bel_trans hB hb3
  have hs3 := hb3.size
  have hg3 := hown.lo.2
  clear hb3 j1
  go_upto_region 7 with fail
  obtain ⟨hb5, hbb, -⟩ := one_box w3 #[.slice (some ⟨w0.heap.size, 0, none⟩) n n] 75 _ rfl
  have hz5 := hb5.lt
  generalize World.alloc w3 _ = w4 at *
  replace hb1 := hb1.below hbb; replace hB := bel_trans hB hbb; replace hown := hown.below hbb
  have j5 := hb5.cell (j := 0) rfl
  clear hbb
  have HB := Lib.hid hB; clear hB
  go_loopg [20] n (KfRel ks w0.heap.size w0.heap.size n w4)
  case atStart => exact ⟨0, Nat.zero_le _, rfl, rfl, by rw [partD_zero, flat2_zero, HKL.out]; exact hown, KB.refl _ _ _⟩
  case round =>
    obtain ⟨k, hk, rfl, rfl, hrow, hkb⟩ := hrel
    have hd1 := hkb.bx hb1 (by omega) (by omega)
    have hd5 := hkb.bx hb5 (by omega) (by omega)
    have i1 := hd1.cell (j := 0) rfl
    have i5 := hd5.cell (j := 0) rfl
    by_cases hlt : k < n
    · have hnl := HN.out
      have c0 := (hkb.cell (k := b) (o := o + 2 * k) (by omega) (by omega)).trans ((HB.out.cell (p := ⟨b, o + 2 * k, none⟩) hb).trans (HC.out (2 * k) (by omega)))
      have c1 := (hkb.cell (k := b) (o := o + (2 * k + 1)) (by omega) (by omega)).trans ((HB.out.cell (p := ⟨b, o + (2 * k + 1), none⟩) hb).trans (HC.out (2 * k + 1) (by omega)))
      have hpl : (partD (0, 0) ks k).length = n := by rw [partD_length _ _ _ (by rw [HKL.out]; omega), HKL.out]
      have d1 := hrow.cell (flat2_x _ k (by rw [hpl]; exact hlt))
      have d2 := hrow.cell (flat2_y _ k (by rw [hpl]; exact hlt))
      have f1 := hrow.frozen (k * 2)
      have f2 := hrow.frozen (k * 2 + 1)
      have HS := Lib.hid (flat2_step (ks := ks) (k := k) (by rw [HKL.out]; exact hlt) (HK.out k hlt))
      generalize prm l (2 * k) = X at *
      generalize prm l (2 * k + 1) = Y at *
      generalize kx (partD (0, 0) ks k) k = z1 at *
      generalize ky (partD (0, 0) ks k) k = z2 at *
      have HRW := Lib.hid hrow; have HKB := Lib.hid hkb; clear hrow hkb hpl hd1 hd5
      have hk0 : (0 : Int) ≤ (k : Int) := by omega
      have hk1 : (k : Int) < (n : Int) := by omega
      obtain ⟨m, hm⟩ : ∃ m : Nat, m = 2 * k := ⟨_, rfl⟩
      obtain ⟨m1, hm1⟩ : ∃ m1 : Nat, m1 = 2 * k + 1 := ⟨_, rfl⟩
      rw [← hm] at c0
      rw [← hm1] at c1
      have e0 : 2 * (k : Int) = (m : Int) := by omega
      have e1 : (m : Int) + 1 = (m1 : Int) := by omega
      have hk2 : (m : Int) < (l.length : Int) := by omega
      have hk3 : (m1 : Int) < (l.length : Int) := by omega
      have hk4 : (0 : Int) ≤ (m : Int) := by omega
      have hk5 : (0 : Int) ≤ (m1 : Int) := by omega
      have hk6 : m ≤ 16 ∧ m1 ≤ 16 := by omega
      have hw0 : IntKind.i64.wrap (m : Int) = m := wrap_in _ (by omega)
      have hw1 : IntKind.i64.wrap (m1 : Int) = m1 := wrap_in _ (by omega)
      clear hm hm1 hnl
      go_wp2_with fail
      go_still_tail 15, (by kernel_rfl)
      change wpList _ _ _ _ _ wr.drew
      replace HRW := Lib.hid HRW.out.drew; replace HKB := Lib.hid HKB.out.drew
      clear c0 c1 i1 i5
      replace d1 : wr.drew.cell? ⟨w0.heap.size, k * 2, none⟩ = some (.int .i64 z1) := d1
      replace d2 : wr.drew.cell? ⟨w0.heap.size, k * 2 + 1, none⟩ = some (.int .i64 z2) := d2
      replace f1 : wr.drew.frozen? ⟨w0.heap.size, k * 2, none⟩ = false := f1
      replace f2 : wr.drew.frozen? ⟨w0.heap.size, k * 2 + 1, none⟩ = false := f2
      generalize wr.drew = wx at *
      go_wp2_with fail
      go_roundg (n - (k + 1))
      case measure => omega
      case rel => exact ⟨k + 1, by omega, rfl, by go_num, by rw [← HS.out]; exact (HRW.out.stored (k * 2) X).stored (k * 2 + 1) Y, (HKB.out.set _ _).set _ _⟩
    · obtain rfl : k = n := by omega
      rw [show partD (0, 0) ks k = ks by have := partD_all (0, 0) ks; rw [HKL.out] at this; exact this] at hrow
      have HRW := Lib.hid (show KRow wr w0.heap.size (.slice (some ⟨w0.heap.size, 0, none⟩) k k) ks by unfold KRow; rw [HKL.out]; exact hrow)
      have HKB := Lib.hid (hkb.toBelow HB.out (by omega) (by omega))
      clear hrow hkb hd1
      go_wp2_with fail
      go_ret
      refine ⟨_, _, rfl, ent_c2, fun w' hb' x hx => ?_, HKB.out⟩
      rw [E.out]
      exact c2_any _ ks x (box_at hd5 hb') ((HRW.out.knots (by rw [HKL.out]; omega)).on hb')
end Go.Proofs.YtmbglkholoblaaaDoor
