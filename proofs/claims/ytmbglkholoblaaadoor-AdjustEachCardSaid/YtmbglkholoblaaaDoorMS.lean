/- The reference's apply. -/
import Derived.Test.YtmbglkholoblaaaDoorMR
namespace Go.Proofs.YtmbglkholoblaaaDoor
open Go.RowKit

theorem r17pick (p : Px) (h : p.a ≠ 0) : (p.a == 0) = false := by simp [h]
set_option maxRecDepth 100000 in
set_option maxHeartbeats 4000000 in
theorem rapply_zero (k : Int) (A : Option Addr) (n c : Nat) (A' : Option Addr) (n' c' : Nat) (p : Px) (w : World) (ha : p.a = 0) : Calls Tryd.prog 30 #[.int .i64 k, .slice A n c, .slice A' n' c', .agg #[.int .i64 p.r, .int .i64 p.g, .int .i64 p.b, .int .i64 p.a]] w (PxPost Px.zero w) := by
  have d0 : (p.a == 0) = true := by simp [ha]
  clear ha
  go_enter Tryd.func30, Tryd.ntmps30
  go_upto_region 1 with fail
  obtain ⟨hb7, hb8, hB⟩ := two_boxes w #[.int .i64 p.r, .int .i64 p.g, .int .i64 p.b, .int .i64 p.a] #[.int .i64 0, .int .i64 0, .int .i64 0, .int .i64 0] 25 25 _ rfl
  have hzl : ∀ b, b < w.heap.size → b < (World.alloc (World.alloc w (.cells #[.int .i64 p.r, .int .i64 p.g, .int .i64 p.b, .int .i64 p.a] 25)) (.cells #[.int .i64 0, .int .i64 0, .int .i64 0, .int .i64 0] 25)).heap.size := fun b hb => Nat.lt_of_lt_of_le hb hB.size
  have HZZ := Lib.hid (show (World.alloc (World.alloc w (.cells #[.int .i64 p.r, .int .i64 p.g, .int .i64 p.b, .int .i64 p.a] 25)) (.cells #[.int .i64 0, .int .i64 0, .int .i64 0, .int .i64 0] 25)).heap.size = w.heap.size + 1 + 1 by simp)
  generalize World.alloc (World.alloc w _) _ = w0 at *
  obtain ⟨⟨i1, i2, i3, i4⟩, -⟩ := hb7.four
  obtain ⟨⟨r1, r2, r3, r4⟩, f1, f2, f3, f4⟩ := hb8.four
  clear hb7 hb8 hzl
  go_wp2_with fail
  refine bodyPost_ret (v := .agg #[.int .i64 0, .int .i64 0, .int .i64 0, .int .i64 0]) (by simp [results, Tryd.results30, go_sem, r1, r2, r3, r4]) rfl ⟨rfl, ?_⟩
  exact set4_below hB (by omega) _ _ _ _ _ _ _ _

set_option maxRecDepth 100000 in
set_option maxHeartbeats 8000000 in
theorem rapply_sing (k : Int) (hk : k = 1 ∨ k = 2 ∨ k = 3 ∨ k = 4 ∨ k = 7 ∨ k = 11) (A : Option Addr) (n c : Nat) (A' : Option Addr) (n' c' : Nat) (p : Px) (x y z : Int) (w : World) (ha : p.a ≠ 0)
    (T1 : ∀ w', Below w.heap.size w w' → Calls Tryd.prog 63 #[.int .i64 k, .slice A n c, .int .i64 p.r] w' (InPost x w'))
    (T2 : ∀ w', Below w.heap.size w w' → Calls Tryd.prog 63 #[.int .i64 k, .slice A n c, .int .i64 p.g] w' (InPost y w'))
    (T3 : ∀ w', Below w.heap.size w w' → Calls Tryd.prog 63 #[.int .i64 k, .slice A n c, .int .i64 p.b] w' (InPost z w')) :
    Calls Tryd.prog 30 #[.int .i64 k, .slice A n c, .slice A' n' c', .agg #[.int .i64 p.r, .int .i64 p.g, .int .i64 p.b, .int .i64 p.a]] w (PxPost ⟨x, y, z, p.a⟩ w) := by
  have d0 := r17pick p ha
  have e1 : (k == 5) = false := by simp; omega
  have e2 : (k == 6) = false := by simp; omega
  have e3 : (k == 8) = false := by simp; omega
  have e4 : (k == 9) = false := by simp; omega
  have e5 : (k == 10) = false := by simp; omega
  have HT1 := Lib.hid T1; have HT2 := Lib.hid T2; have HT3 := Lib.hid T3
  clear T1 T2 T3 ha hk
  go_enter Tryd.func30, Tryd.ntmps30
  go_upto_region 1 with fail
  obtain ⟨hb7, hb8, hB⟩ := two_boxes w #[.int .i64 p.r, .int .i64 p.g, .int .i64 p.b, .int .i64 p.a] #[.int .i64 0, .int .i64 0, .int .i64 0, .int .i64 0] 25 25 _ rfl
  have hzl : ∀ b, b < w.heap.size → b < (World.alloc (World.alloc w (.cells #[.int .i64 p.r, .int .i64 p.g, .int .i64 p.b, .int .i64 p.a] 25)) (.cells #[.int .i64 0, .int .i64 0, .int .i64 0, .int .i64 0] 25)).heap.size := fun b hb => Nat.lt_of_lt_of_le hb hB.size
  have HZZ := Lib.hid (show (World.alloc (World.alloc w (.cells #[.int .i64 p.r, .int .i64 p.g, .int .i64 p.b, .int .i64 p.a] 25)) (.cells #[.int .i64 0, .int .i64 0, .int .i64 0, .int .i64 0] 25)).heap.size = w.heap.size + 1 + 1 by simp)
  generalize World.alloc (World.alloc w _) _ = w0 at *
  obtain ⟨⟨i1, i2, i3, i4⟩, -⟩ := hb7.four
  go_upto_region 26 with fail
  have HSA := Lib.hid (show ∀ wq, RS (w.heap.size + 1) w0 wq → RS (w.heap.size + 1) w0 wq ∧ wq.cell? ⟨w.heap.size, 0, none⟩ = some (.int .i64 p.r) ∧ wq.cell? ⟨w.heap.size, 1, none⟩ = some (.int .i64 p.g) ∧ wq.cell? ⟨w.heap.size, 2, none⟩ = some (.int .i64 p.b) ∧ wq.cell? ⟨w.heap.size, 3, none⟩ = some (.int .i64 p.a) ∧ wq.cell? ⟨w.heap.size + 1, 0, none⟩ = some (cv wq (w.heap.size + 1) 0) ∧ wq.cell? ⟨w.heap.size + 1, 1, none⟩ = some (cv wq (w.heap.size + 1) 1) ∧ wq.cell? ⟨w.heap.size + 1, 2, none⟩ = some (cv wq (w.heap.size + 1) 2) ∧ wq.cell? ⟨w.heap.size + 1, 3, none⟩ = some (cv wq (w.heap.size + 1) 3) ∧ wq.frozen? ⟨w.heap.size + 1, 0, none⟩ = false ∧ wq.frozen? ⟨w.heap.size + 1, 1, none⟩ = false ∧ wq.frozen? ⟨w.heap.size + 1, 2, none⟩ = false ∧ wq.frozen? ⟨w.heap.size + 1, 3, none⟩ = false from
    fun wq h => ⟨h, (h.bx hb7 (by omega)).four.1.1, (h.bx hb7 (by omega)).four.1.2.1, (h.bx hb7 (by omega)).four.1.2.2.1, (h.bx hb7 (by omega)).four.1.2.2.2, h.cvs.1.1, h.cvs.1.2.1, h.cvs.1.2.2.1, h.cvs.1.2.2.2, h.cvs.2⟩)
  have HSP := Lib.hid (fun wq (h : RS (w.heap.size + 1) w0 wq) a b c d => HSA.out _ (h.put a b c d))
  have HC1 := Lib.hid (show ∀ wq, RS (w.heap.size + 1) w0 wq → _ from fun wq h => HT1.out wq (h.bel hB (by omega)))
  have HC2 := Lib.hid (show ∀ wq, RS (w.heap.size + 1) w0 wq → _ from fun wq h => HT2.out wq (h.bel hB (by omega)))
  have HC3 := Lib.hid (show ∀ wq, RS (w.heap.size + 1) w0 wq → _ from fun wq h => HT3.out wq (h.bel hB (by omega)))
  have hBv : RS (w.heap.size + 1) w0 w0.drew := RS.start hb8
  have hS0 := HSA.out _ hBv
  have HB := Lib.hid hB
  clear hB hb7 hb8 hzl i1 i2 i3 i4 HT1 HT2 HT3
  go_region_held3 (fun wq => RS (w.heap.size + 1) w0 wq ∧ wq.cell? ⟨w.heap.size, 0, none⟩ = some (.int .i64 p.r) ∧ wq.cell? ⟨w.heap.size, 1, none⟩ = some (.int .i64 p.g) ∧ wq.cell? ⟨w.heap.size, 2, none⟩ = some (.int .i64 p.b) ∧ wq.cell? ⟨w.heap.size, 3, none⟩ = some (.int .i64 p.a) ∧ wq.cell? ⟨w.heap.size + 1, 0, none⟩ = some (cv wq (w.heap.size + 1) 0) ∧ wq.cell? ⟨w.heap.size + 1, 1, none⟩ = some (cv wq (w.heap.size + 1) 1) ∧ wq.cell? ⟨w.heap.size + 1, 2, none⟩ = some (cv wq (w.heap.size + 1) 2) ∧ wq.cell? ⟨w.heap.size + 1, 3, none⟩ = some (cv wq (w.heap.size + 1) 3) ∧ wq.frozen? ⟨w.heap.size + 1, 0, none⟩ = false ∧ wq.frozen? ⟨w.heap.size + 1, 1, none⟩ = false ∧ wq.frozen? ⟨w.heap.size + 1, 2, none⟩ = false ∧ wq.frozen? ⟨w.heap.size + 1, 3, none⟩ = false)
    (first | assumption | exact hS0 | exact HSA.out _ hBv | exact HSP.out _ hBv _ _ _ _ | go_keep)
    (first | ((with_reducible refine (HC1.out _ hBv).mono ?_); rintro e wv ⟨rfl, hbv⟩; have hBv := RS.call hBv hbv) | ((with_reducible refine (HC2.out _ hBv).mono ?_); rintro e wv ⟨rfl, hbv⟩; have hBv := RS.call hBv hbv) | ((with_reducible refine (HC3.out _ hBv).mono ?_); rintro e wv ⟨rfl, hbv⟩; have hBv := RS.call hBv hbv))
  obtain ⟨⟨r1, r2, r3, r4⟩, f1, f2, f3, f4⟩ := hBv.cvs
  go_wp2_with fail
  refine bodyPost_ret (v := .agg #[.int .i64 x, .int .i64 y, .int .i64 z, .int .i64 p.a]) (by simp [results, Tryd.results30, go_sem, r1, r2, r3, r4]) rfl ⟨rfl, ?_⟩
  exact set4_below (hBv.bel HB.out (by omega)) (by omega) _ _ _ _ _ _ _ _

set_option maxRecDepth 100000 in
set_option maxHeartbeats 8000000 in
theorem rapply_10 (A : Option Addr) (n c : Nat) (A' : Option Addr) (n' c' : Nat) (p m : Px) (t : Int) (w : World) (ha : p.a ≠ 0)
    (T1 : ∀ w', Calls Tryd.prog 61 #[.agg #[.int .i64 p.r, .int .i64 p.g, .int .i64 p.b, .int .i64 p.a]] w' fun e w'' => e = .returned (.int .i64 t) ∧ Below w'.heap.size w' w'')
    (T2 : ∀ w', Below w.heap.size w w' → Calls Tryd.prog 62 #[.slice A' n' c', .int .i64 t] w' (PxPost m w')) :
    Calls Tryd.prog 30 #[.int .i64 10, .slice A n c, .slice A' n' c', .agg #[.int .i64 p.r, .int .i64 p.g, .int .i64 p.b, .int .i64 p.a]] w (PxPost ⟨m.r, m.g, m.b, p.a⟩ w) := by
  have d0 := r17pick p ha
  have HT1 := Lib.hid T1; have HT2 := Lib.hid T2
  clear T1 T2 ha
  go_enter Tryd.func30, Tryd.ntmps30
  go_upto_region 1 with fail
  obtain ⟨hb7, hb8, hB⟩ := two_boxes w #[.int .i64 p.r, .int .i64 p.g, .int .i64 p.b, .int .i64 p.a] #[.int .i64 0, .int .i64 0, .int .i64 0, .int .i64 0] 25 25 _ rfl
  have hzl : ∀ b, b < w.heap.size → b < (World.alloc (World.alloc w (.cells #[.int .i64 p.r, .int .i64 p.g, .int .i64 p.b, .int .i64 p.a] 25)) (.cells #[.int .i64 0, .int .i64 0, .int .i64 0, .int .i64 0] 25)).heap.size := fun b hb => Nat.lt_of_lt_of_le hb hB.size
  have HZZ := Lib.hid (show (World.alloc (World.alloc w (.cells #[.int .i64 p.r, .int .i64 p.g, .int .i64 p.b, .int .i64 p.a] 25)) (.cells #[.int .i64 0, .int .i64 0, .int .i64 0, .int .i64 0] 25)).heap.size = w.heap.size + 1 + 1 by simp)
  generalize World.alloc (World.alloc w _) _ = w0 at *
  obtain ⟨⟨i1, i2, i3, i4⟩, -⟩ := hb7.four
  clear hzl
  go_wp2_with fail
  refine (HT1.out _).mono ?_
  rintro e w1 ⟨rfl, hbb⟩
  replace hb7 := hb7.below hbb; replace hb8 := hb8.below hbb; replace hB := bel_trans hB hbb
  clear i1 i2 i3 i4 hbb
  go_wp2_with fail
  refine (HT2.out _ hB).mono ?_
  rintro e w2 ⟨rfl, hbb⟩
  replace hb7 := hb7.below hbb; replace hb8 := hb8.below hbb; replace hB := bel_trans hB hbb
  clear hbb
  go_upto_region 25 with fail
  obtain ⟨hb9, hbb, -⟩ := one_box w2 #[.int .i64 m.r, .int .i64 m.g, .int .i64 m.b, .int .i64 m.a] 25 _ rfl
  generalize World.alloc w2 _ = w3 at *
  replace hb7 := hb7.below hbb; replace hb8 := hb8.below hbb; replace hB := bel_trans hB hbb
  obtain ⟨⟨i1, i2, i3, i4⟩, -⟩ := hb7.four
  obtain ⟨⟨j1, j2, j3, j4⟩, -⟩ := hb9.four
  obtain ⟨⟨r1, r2, r3, r4⟩, f1, f2, f3, f4⟩ := hb8.four
  clear hb7 hb8 hb9 hbb
  go_wp2_with fail
  refine bodyPost_ret (v := .agg #[.int .i64 m.r, .int .i64 m.g, .int .i64 m.b, .int .i64 p.a]) (by simp [results, Tryd.results30, go_sem, r1, r2, r3, r4]) rfl ⟨rfl, ?_⟩
  exact set4_below hB (by omega) _ _ _ _ _ _ _ _

set_option maxRecDepth 100000 in
set_option maxHeartbeats 8000000 in
theorem rapply_9 (b o c : Nat) (A' : Option Addr) (n' c' : Nat) (p0 p1 p2 : Int) (p : Px) (x : Int) (w : World) (ha : p.a ≠ 0) (hp : p.ok) (hb : b < w.heap.size) (h0 : 0 ≤ p0 ∧ p0 ≤ 65535) (h1 : 0 ≤ p1 ∧ p1 ≤ 65535) (h2 : 0 ≤ p2 ∧ p2 ≤ 65535) (hs : 0 < p0 + p1 + p2)
    (hx : rdiv (p0 * p.r + p1 * p.g + p2 * p.b) (p0 + p1 + p2) = x)
    (c0 : w.cell? ⟨b, o, none⟩ = some (.int .i64 p0)) (c1 : w.cell? ⟨b, o + 1, none⟩ = some (.int .i64 p1)) (c2 : w.cell? ⟨b, o + 2, none⟩ = some (.int .i64 p2)) :
    Calls Tryd.prog 30 #[.int .i64 9, .slice (some ⟨b, o, none⟩) 3 c, .slice A' n' c', .agg #[.int .i64 p.r, .int .i64 p.g, .int .i64 p.b, .int .i64 p.a]] w (PxPost ⟨x, x, x, p.a⟩ w) := by
  have d0 := r17pick p ha
  have m0 := mul_bd h0 hp.1; have m1 := mul_bd h1 hp.2.1; have m2 := mul_bd h2 hp.2.2.1
  have D := Lib.hid (show ∀ w', Calls Tryd.prog 37 #[.int .i64 (p0 * p.r + p1 * p.g + p2 * p.b), .int .i64 (p0 + p1 + p2)] w' fun e w'' => e = .returned (.int .i64 x) ∧ ∃ n, w'' = w'.drewN n from fun w' => by
    have := rdiv_any (p0 * p.r + p1 * p.g + p2 * p.b) (p0 + p1 + p2) w' (by omega) (by omega) (by omega) (by omega)
    rw [hx] at this
    exact this)
  have q0 := wrap_in (p0 * p.r) (by omega)
  have q1 := wrap_in (p1 * p.g) (by omega)
  have q2 := wrap_in (p2 * p.b) (by omega)
  have q3 := wrap_in (p0 * p.r + p1 * p.g) (by omega)
  have q4 := wrap_in (p0 * p.r + p1 * p.g + p2 * p.b) (by omega)
  clear hx ha hp m0 m1 m2 hs
  go_enter Tryd.func30, Tryd.ntmps30
  go_upto_region 1 with fail
  obtain ⟨hb7, hb8, hB⟩ := two_boxes w #[.int .i64 p.r, .int .i64 p.g, .int .i64 p.b, .int .i64 p.a] #[.int .i64 0, .int .i64 0, .int .i64 0, .int .i64 0] 25 25 _ rfl
  have hzl : ∀ b, b < w.heap.size → b < (World.alloc (World.alloc w (.cells #[.int .i64 p.r, .int .i64 p.g, .int .i64 p.b, .int .i64 p.a] 25)) (.cells #[.int .i64 0, .int .i64 0, .int .i64 0, .int .i64 0] 25)).heap.size := fun b hb => Nat.lt_of_lt_of_le hb hB.size
  have HZZ := Lib.hid (show (World.alloc (World.alloc w (.cells #[.int .i64 p.r, .int .i64 p.g, .int .i64 p.b, .int .i64 p.a] 25)) (.cells #[.int .i64 0, .int .i64 0, .int .i64 0, .int .i64 0] 25)).heap.size = w.heap.size + 1 + 1 by simp)
  generalize World.alloc (World.alloc w _) _ = w0 at *
  obtain ⟨⟨i1, i2, i3, i4⟩, -⟩ := hb7.four
  have hbl := hzl b hb
  replace c0 := (hB.cell (p := ⟨b, _, none⟩) hb).trans c0; replace c1 := (hB.cell (p := ⟨b, _, none⟩) hb).trans c1; replace c2 := (hB.cell (p := ⟨b, _, none⟩) hb).trans c2
  clear hzl
  go_wp2_with fail
  go_quiet ((go_at_call 37; (with_reducible refine quiet_tolN (D.out _) ?_); exact fun _ => ⟨_, World.drewN_drewN _ _ _⟩))
  replace hb7 := hb7.drewN nq; replace hb8 := hb8.drewN nq; replace hB := Below.drewN' hB nq
  clear i1 i2 i3 i4 c0 c1 c2 q0 q1 q2 q3 q4 hbl
  generalize World.drewN w0 nq = w1 at *
  obtain ⟨⟨i1, i2, i3, i4⟩, -⟩ := hb7.four
  obtain ⟨⟨r1, r2, r3, r4⟩, f1, f2, f3, f4⟩ := hb8.four
  clear hb7 hb8
  go_wp2_with fail
  refine bodyPost_ret (v := .agg #[.int .i64 x, .int .i64 x, .int .i64 x, .int .i64 p.a]) (by simp [results, Tryd.results30, go_sem, r1, r2, r3, r4]) rfl ⟨rfl, ?_⟩
  exact set4_below hB (by omega) _ _ _ _ _ _ _ _

set_option maxRecDepth 100000 in
set_option maxHeartbeats 8000000 in
theorem rapply_6 (b o c : Nat) (A' : Option Addr) (n' c' : Nat) (p0 : Int) (p : Px) (t x : Int) (w : World) (ha : p.a ≠ 0) (hb : b < w.heap.size) (hx : (p0 ≤ t ∧ x = 65535) ∨ (t < p0 ∧ x = 0))
    (c0 : w.cell? ⟨b, o, none⟩ = some (.int .i64 p0))
    (T1 : ∀ w', Calls Tryd.prog 61 #[.agg #[.int .i64 p.r, .int .i64 p.g, .int .i64 p.b, .int .i64 p.a]] w' fun e w'' => e = .returned (.int .i64 t) ∧ Below w'.heap.size w' w'') :
    Calls Tryd.prog 30 #[.int .i64 6, .slice (some ⟨b, o, none⟩) 1 c, .slice A' n' c', .agg #[.int .i64 p.r, .int .i64 p.g, .int .i64 p.b, .int .i64 p.a]] w (PxPost ⟨x, x, x, p.a⟩ w) := by
  have d0 := r17pick p ha
  have HT1 := Lib.hid T1; have HX := Lib.hid hx
  clear T1 ha hx
  go_enter Tryd.func30, Tryd.ntmps30
  go_upto_region 1 with fail
  obtain ⟨hb7, hb8, hB⟩ := two_boxes w #[.int .i64 p.r, .int .i64 p.g, .int .i64 p.b, .int .i64 p.a] #[.int .i64 0, .int .i64 0, .int .i64 0, .int .i64 0] 25 25 _ rfl
  have hzl : ∀ b, b < w.heap.size → b < (World.alloc (World.alloc w (.cells #[.int .i64 p.r, .int .i64 p.g, .int .i64 p.b, .int .i64 p.a] 25)) (.cells #[.int .i64 0, .int .i64 0, .int .i64 0, .int .i64 0] 25)).heap.size := fun b hb => Nat.lt_of_lt_of_le hb hB.size
  have HZZ := Lib.hid (show (World.alloc (World.alloc w (.cells #[.int .i64 p.r, .int .i64 p.g, .int .i64 p.b, .int .i64 p.a] 25)) (.cells #[.int .i64 0, .int .i64 0, .int .i64 0, .int .i64 0] 25)).heap.size = w.heap.size + 1 + 1 by simp)
  generalize World.alloc (World.alloc w _) _ = w0 at *
  obtain ⟨⟨i1, i2, i3, i4⟩, -⟩ := hb7.four
  have hbl := hzl b hb
  replace c0 := (hB.cell (p := ⟨b, _, none⟩) hb).trans c0
  clear hzl
  have HSA := Lib.hid (show ∀ wq, Bl w0 wq → Bl w0 wq ∧ wq.cell? ⟨w.heap.size, 0, none⟩ = some (.int .i64 p.r) ∧ wq.cell? ⟨w.heap.size, 1, none⟩ = some (.int .i64 p.g) ∧ wq.cell? ⟨w.heap.size, 2, none⟩ = some (.int .i64 p.b) ∧ wq.cell? ⟨w.heap.size, 3, none⟩ = some (.int .i64 p.a) ∧ wq.cell? ⟨b, o, none⟩ = some (.int .i64 p0) from
    fun wq h => ⟨h, (hb7.below h).four.1.1, (hb7.below h).four.1.2.1, (hb7.below h).four.1.2.2.1, (hb7.below h).four.1.2.2.2, (h.cell (p := ⟨b, _, none⟩) hbl).trans c0⟩)
  have hBv : Bl w0 w0.drew := (Below.refl w0.heap.size w0).drew
  have hS0 := HSA.out _ hBv
  have HB := Lib.hid hB
  have HB7 := Lib.hid hb7; have HB8 := Lib.hid hb8
  clear hB hb7 hb8
  go_upto_region 10 with fail
  clear i1 i2 i3 i4 c0
  go_region_held3 (fun wq => Bl w0 wq ∧ wq.cell? ⟨w.heap.size, 0, none⟩ = some (.int .i64 p.r) ∧ wq.cell? ⟨w.heap.size, 1, none⟩ = some (.int .i64 p.g) ∧ wq.cell? ⟨w.heap.size, 2, none⟩ = some (.int .i64 p.b) ∧ wq.cell? ⟨w.heap.size, 3, none⟩ = some (.int .i64 p.a) ∧ wq.cell? ⟨b, o, none⟩ = some (.int .i64 p0))
    (first | assumption | exact hS0 | exact HSA.out _ hBv | go_keep)
    (first | ((with_reducible refine (HT1.out _).mono ?_); rintro e wv ⟨rfl, hbv⟩; have hBv := Bl.call hBv hbv))
  have hb7 := HB7.out; have hb8 := HB8.out
  rcases HX.out with ⟨a, rfl⟩ | ⟨a, rfl⟩
  · have hd : decide (p0 ≤ t) = true := by simp; exact a
    clear HX
    replace hb7 := hb7.below hBv; replace hb8 := hb8.below hBv; replace hB := bel_trans HB.out hBv
    obtain ⟨⟨i1, i2, i3, i4⟩, -⟩ := hb7.four
    obtain ⟨⟨r1, r2, r3, r4⟩, f1, f2, f3, f4⟩ := hb8.four
    clear hb7 hb8
    go_wp2_with fail
    refine bodyPost_ret (v := .agg #[.int .i64 65535, .int .i64 65535, .int .i64 65535, .int .i64 p.a]) (by simp [results, Tryd.results30, go_sem, r1, r2, r3, r4]) rfl ⟨rfl, ?_⟩
    exact set4_below hB (by omega) _ _ _ _ _ _ _ _
  · have hd : decide (p0 ≤ t) = false := by simp; omega
    clear HX
    replace hb7 := hb7.below hBv; replace hb8 := hb8.below hBv; replace hB := bel_trans HB.out hBv
    obtain ⟨⟨i1, i2, i3, i4⟩, -⟩ := hb7.four
    obtain ⟨⟨r1, r2, r3, r4⟩, f1, f2, f3, f4⟩ := hb8.four
    clear hb7 hb8
    go_wp2_with fail
    refine bodyPost_ret (v := .agg #[.int .i64 0, .int .i64 0, .int .i64 0, .int .i64 p.a]) (by simp [results, Tryd.results30, go_sem, r1, r2, r3, r4]) rfl ⟨rfl, ?_⟩
    exact set4_below hB (by omega) _ _ _ _ _ _ _ _

/-- One row of the mixer. -/
def mixV (l : List Int) (p : Px) (j : Nat) : Int := lim16 (rdiv (dot3 (prm l (3 * j)) (prm l (3 * j + 1)) (prm l (3 * j + 2)) p) 65535)
def M8Rel (l : List Int) (p : Px) (B : Nat) (w : World) (gh : Nat) (v i : Value) (wr : World) : Prop := ∃ j : Nat, j ≤ 3 ∧ gh = 3 - j ∧ i = .int .i64 ((3 * j : Nat) : Int) ∧ IRow wr B v ((List.range j).map (mixV l p)) ∧ Below w.heap.size w wr
theorem mul_in8 {a x : Int} (ha : -262140 ≤ a ∧ a ≤ 262140) (hx : 0 ≤ x ∧ x ≤ 65535) : -17179344900 ≤ a * x ∧ a * x ≤ 17179344900 := by
  have e1 : a * x ≤ 262140 * x := Int.mul_le_mul_of_nonneg_right ha.2 hx.1
  have e2 : (-262140) * x ≤ a * x := Int.mul_le_mul_of_nonneg_right ha.1 hx.1
  omega
theorem ripush_step (w : World) {ops : Array Oper} {o : Oper} {a : Act} {K : Act → World → Prop} {Q : Exit → Act → World → Prop} {F : Prop} (hgd : o.guard = none) (so x : Operand)
    (ho : o.op = .call { callee := .builtin .append, args := #[so, x], argTypes := #[22, 22] }) (B : Nat) (v : Value) (xs : List Int) (hv : a.eval so = v) (hown : IRow w B v xs)
    (g : Nat) (y : Int) (hx : a.eval x = .slice (some ⟨g, 0, none⟩) 1 1) (hc : w.cell? ⟨g, 0, none⟩ = some (.int .i64 y)) (hl : xs.length ≤ 1000000000000) (hB : B ≤ w.heap.size)
    (h : ∀ v' w', IRow w' B v' (xs ++ [y]) → Below B w w' → K (a.put o.dst v') w') : if Region.wanted o (yielded ops a.tmps) = true then Oper.wp Tryd.prog o a w K Q else F := by
  obtain ⟨i0, hi0, hz0, hz1, hz2⟩ := info_parts Tryd.infoInt
  refine fpush_step 3 1 22 8 i0 _ Tryd.underlying22 hi0 hz0 hz1 hz2 rfl (by omega) (by omega) w hgd so x ho B v xs.length xs hv hown g [y] hx rfl ?_ hl hB fun v' w' h1 h2 => h v' w' ?_ h2
  · intro j u hj
    match j, hj with
    | 0, hj => simp at hj; subst hj; exact hc
  · unfold IRow
    rw [List.length_append]
    exact h1
set_option maxRecDepth 100000 in
set_option maxHeartbeats 8000000 in
theorem rapply_8 (b o c : Nat) (l : List Int) (A' : Option Addr) (n' c' : Nat) (p : Px) (w : World) (ha : p.a ≠ 0) (hp : p.ok) (hb : b < w.heap.size) (hl : ∀ i : Nat, i < 9 → -262140 ≤ prm l i ∧ prm l i ≤ 262140)
    (hc : ∀ i : Nat, i < 9 → w.cell? ⟨b, o + i, none⟩ = some (.int .i64 (prm l i))) :
    Calls Tryd.prog 30 #[.int .i64 8, .slice (some ⟨b, o, none⟩) 9 c, .slice A' n' c', .agg #[.int .i64 p.r, .int .i64 p.g, .int .i64 p.b, .int .i64 p.a]] w (PxPost ⟨mixV l p 0, mixV l p 1, mixV l p 2, p.a⟩ w) := by
  have d0 := r17pick p ha
  have HC := Lib.hid hc; have HL := Lib.hid hl; have HP := Lib.hid hp
  clear hc hl hp ha
  go_enter Tryd.func30, Tryd.ntmps30
  go_upto_region 1 with fail
  obtain ⟨hb7, hb8, hB⟩ := two_boxes w #[.int .i64 p.r, .int .i64 p.g, .int .i64 p.b, .int .i64 p.a] #[.int .i64 0, .int .i64 0, .int .i64 0, .int .i64 0] 25 25 _ rfl
  have hzl : ∀ b, b < w.heap.size → b < (World.alloc (World.alloc w (.cells #[.int .i64 p.r, .int .i64 p.g, .int .i64 p.b, .int .i64 p.a] 25)) (.cells #[.int .i64 0, .int .i64 0, .int .i64 0, .int .i64 0] 25)).heap.size := fun b hb => Nat.lt_of_lt_of_le hb hB.size
  have HZZ := Lib.hid (show (World.alloc (World.alloc w (.cells #[.int .i64 p.r, .int .i64 p.g, .int .i64 p.b, .int .i64 p.a] 25)) (.cells #[.int .i64 0, .int .i64 0, .int .i64 0, .int .i64 0] 25)).heap.size = w.heap.size + 1 + 1 by simp)
  generalize World.alloc (World.alloc w _) _ = w0 at *
  obtain ⟨⟨i1, i2, i3, i4⟩, -⟩ := hb7.four
  have hbl := hzl b hb
  have HB7 := Lib.hid hb7; have HB8 := Lib.hid hb8; have HB := Lib.hid hB
  clear hzl hb7 hb8 hB
  go_wp2_with fail
  clear i1 i2 i3 i4 d0
  go_loopg [11, 12] 3 (M8Rel l p w0.heap.size w0)
  case atStart => exact ⟨0, by omega, rfl, rfl, IRow.nil _ _, Below.refl _ _⟩
  case round =>
    obtain ⟨j, hj, rfl, rfl, hrow, hbr⟩ := hrel
    have hBr := bel_trans HB.out hbr
    have hbr7 := HB7.out.below hbr
    by_cases hlt : j < 3
    · obtain ⟨m, hm0⟩ : ∃ m : Nat, 3 * j = m := ⟨_, rfl⟩
      obtain ⟨m1, hm1⟩ : ∃ m1 : Nat, m1 = m + 1 := ⟨_, rfl⟩
      obtain ⟨m2, hm2⟩ : ∃ m2 : Nat, m2 = m + 2 := ⟨_, rfl⟩
      have c0 := (hBr.cell (p := ⟨b, o + m, none⟩) hb).trans (HC.out m (by omega))
      have c1 := (hBr.cell (p := ⟨b, o + m1, none⟩) hb).trans (HC.out m1 (by omega))
      have c2 := (hBr.cell (p := ⟨b, o + m2, none⟩) hb).trans (HC.out m2 (by omega))
      have c0' := (HB.out.cell (p := ⟨b, o + m, none⟩) hb).trans (HC.out m (by omega))
      have c1' := (HB.out.cell (p := ⟨b, o + m1, none⟩) hb).trans (HC.out m1 (by omega))
      have c2' := (HB.out.cell (p := ⟨b, o + m2, none⟩) hb).trans (HC.out m2 (by omega))
      have l0 := HL.out m (by omega); have l1 := HL.out m1 (by omega); have l2 := HL.out m2 (by omega)
      have hV : mixV l p j = lim16 (rdiv (prm l m * p.r + prm l m1 * p.g + prm l m2 * p.b) 65535) := by rw [hm1, hm2, ← hm0]; rfl
      have hT : (List.range (j + 1)).map (mixV l p) = (List.range j).map (mixV l p) ++ [mixV l p j] := by rw [List.range_succ, List.map_append]; rfl
      rw [hV] at hT
      have HT := Lib.hid hT; clear hT hV
      have hlen : ((List.range j).map (mixV l p)).length = j := by simp
      have HM := Lib.hid (show ((3 * (j + 1) : Nat) : Int) = (m : Int) + 3 by omega)
      rw [hm0]
      have hbw : b < wr.heap.size := Nat.lt_of_lt_of_le hb hBr.size
      have k0 : (0 : Int) ≤ (m : Int) := by omega
      have k1 : (m : Int) < 9 := by omega
      have k2 : (0 : Int) ≤ (m1 : Int) := by omega
      have k3 : (m1 : Int) < 9 := by omega
      have k4 : (0 : Int) ≤ (m2 : Int) := by omega
      have k5 : (m2 : Int) < 9 := by omega
      have k6 : (m : Int) + 1 = (m1 : Int) := by omega
      have k7 : (m : Int) + 2 = (m2 : Int) := by omega
      have k8 : IntKind.i64.wrap (m1 : Int) = m1 := wrap_in _ (by omega)
      have k9 : IntKind.i64.wrap (m2 : Int) = m2 := wrap_in _ (by omega)
      clear hm1 hm2
      generalize prm l m = a0 at *; generalize prm l m1 = a1 at *; generalize prm l m2 = a2 at *
      have hp := HP.out
      have u0 := mul_in8 l0 hp.1; have u1 := mul_in8 l1 hp.2.1; have u2 := mul_in8 l2 hp.2.2.1
      have q0 := wrap_in (a0 * p.r) (by omega)
      have q1 := wrap_in (a1 * p.g) (by omega)
      have q2 := wrap_in (a2 * p.b) (by omega)
      have q3 := wrap_in (a0 * p.r + a1 * p.g) (by omega)
      have q4 := wrap_in (a0 * p.r + a1 * p.g + a2 * p.b) (by omega)
      have D1 := Lib.hid (fun w' => bel_div (rdiv_any (a0 * p.r + a1 * p.g + a2 * p.b) 65535 w' (by omega) (by omega) (by omega) (by omega)))
      generalize rdiv (a0 * p.r + a1 * p.g + a2 * p.b) 65535 = x at *
      have U1 := Lib.hid (fun w' => r17unit_any x w')
      generalize lim16 x = y at *
      clear u0 u1 u2 l0 l1 l2 hp
      have HSA := Lib.hid (show ∀ wq, Bl w0 wq → wq.cell? ⟨w.heap.size, 0, none⟩ = some (.int .i64 p.r) ∧ wq.cell? ⟨w.heap.size, 1, none⟩ = some (.int .i64 p.g) ∧ wq.cell? ⟨w.heap.size, 2, none⟩ = some (.int .i64 p.b) ∧ wq.cell? ⟨b, o + m, none⟩ = some (.int .i64 a0) ∧ wq.cell? ⟨b, o + m1, none⟩ = some (.int .i64 a1) ∧ wq.cell? ⟨b, o + m2, none⟩ = some (.int .i64 a2) from
        fun wq h => ⟨(HB7.out.below h).four.1.1, (HB7.out.below h).four.1.2.1, (HB7.out.below h).four.1.2.2.1, (h.cell (p := ⟨b, _, none⟩) hbl).trans c0', (h.cell (p := ⟨b, _, none⟩) hbl).trans c1', (h.cell (p := ⟨b, _, none⟩) hbl).trans c2'⟩)
      have hBv : Bl wr wr.drew := (Below.refl wr.heap.size wr).drew
      have hB0 : Bl w0 wr.drew := hbr.drew
      have hS0 := HSA.out _ hB0
      have hwb := hbr.size
      have HR := Lib.hid (fun wq (h : Bl wr wq) => hrow.below h)
      have HW := Lib.hid (show ∀ wq, Bl wr wq → w0.heap.size ≤ wq.heap.size from fun wq h => Nat.le_trans hwb h.size)
      have HLEN := Lib.hid hlen
      clear hrow hbr hbr7 hBr c0 c1 c2 c0' c1' c2' hlen hwb
      go_wp2_with fail
      go_region_held3 (fun wq => wq.cell? ⟨w.heap.size, 0, none⟩ = some (.int .i64 p.r) ∧ wq.cell? ⟨w.heap.size, 1, none⟩ = some (.int .i64 p.g) ∧ wq.cell? ⟨w.heap.size, 2, none⟩ = some (.int .i64 p.b) ∧ wq.cell? ⟨b, o + m, none⟩ = some (.int .i64 a0) ∧ wq.cell? ⟨b, o + m1, none⟩ = some (.int .i64 a1) ∧ wq.cell? ⟨b, o + m2, none⟩ = some (.int .i64 a2))
        (first | assumption | exact hS0 | exact HSA.out _ hB0 | go_keep)
        (first | ((with_reducible refine (D1.out _).mono ?_); rintro e wv ⟨rfl, hbv⟩; have hBv := Bl.call hBv hbv; have hB0 := Bl.call hB0 hbv) | ((with_reducible refine (U1.out _).mono ?_); rintro e wv' ⟨rfl, rfl⟩) | (refine ripush_step _ (by rfl) _ _ (by rfl) w0.heap.size _ _ (by rfl) ((HR.out _ hBv).alloc _) _ y (by rfl) (cell_new1 _ _ _) (by rw [HLEN.out]; omega) (Nat.le_trans (HW.out _ hBv) (by simp)) ?_; intro v' w4 hrow4 hbw4; have hB0 : Bl w0 w4 := Below.trans (Bl.call hB0 (bel1 _ _)) hbw4))
      go_wp2_with fail
      go_roundg (3 - (j + 1))
      case measure => omega
      case rel => exact ⟨j + 1, by omega, rfl, by rw [HM.out], by rw [HT.out]; exact hrow4, hB0⟩
    · obtain rfl : j = 3 := by omega
      have hrow' : IRow wr w0.heap.size _ [mixV l p 0, mixV l p 1, mixV l p 2] := hrow
      obtain ⟨g, cap, rfl, hg0, hg1⟩ := hrow'.form' (n := 3) rfl (by omega)
      have y0 := hrow'.cell (i := 0) rfl; have y1 := hrow'.cell (i := 1) rfl; have y2 := hrow'.cell (i := 2) rfl
      have hb8 := HB8.out.below hbr
      have HX := HZZ
      clear hrow hrow'
      generalize mixV l p 0 = x0 at *; generalize mixV l p 1 = x1 at *; generalize mixV l p 2 = x2 at *
      have HSA := Lib.hid (show ∀ wq, RS (w.heap.size + 1) wr wq → RS (w.heap.size + 1) wr wq ∧ wq.cell? ⟨w.heap.size, 3, none⟩ = some (.int .i64 p.a) ∧ wq.cell? ⟨g, 0, none⟩ = some (.int .i64 x0) ∧ wq.cell? ⟨g, 1, none⟩ = some (.int .i64 x1) ∧ wq.cell? ⟨g, 2, none⟩ = some (.int .i64 x2) ∧ wq.cell? ⟨w.heap.size + 1, 0, none⟩ = some (cv wq (w.heap.size + 1) 0) ∧ wq.cell? ⟨w.heap.size + 1, 1, none⟩ = some (cv wq (w.heap.size + 1) 1) ∧ wq.cell? ⟨w.heap.size + 1, 2, none⟩ = some (cv wq (w.heap.size + 1) 2) ∧ wq.cell? ⟨w.heap.size + 1, 3, none⟩ = some (cv wq (w.heap.size + 1) 3) ∧ wq.frozen? ⟨w.heap.size + 1, 0, none⟩ = false ∧ wq.frozen? ⟨w.heap.size + 1, 1, none⟩ = false ∧ wq.frozen? ⟨w.heap.size + 1, 2, none⟩ = false ∧ wq.frozen? ⟨w.heap.size + 1, 3, none⟩ = false from
        fun wq h => ⟨h, (h.bx hbr7 (by omega)).four.1.2.2.2, (h.1.cell hg1 (by have := HX.out; omega)).trans y0, (h.1.cell hg1 (by have := HX.out; omega)).trans y1, (h.1.cell hg1 (by have := HX.out; omega)).trans y2, h.cvs.1.1, h.cvs.1.2.1, h.cvs.1.2.2.1, h.cvs.1.2.2.2, h.cvs.2⟩)
      have HSP := Lib.hid (fun wq (h : RS (w.heap.size + 1) wr wq) a b c d => HSA.out _ (h.put a b c d))
      have hBv : RS (w.heap.size + 1) wr wr.drew := RS.start hb8
      have hS0 := HSA.out _ hBv
      have HBR := Lib.hid hBr
      have y3 := hbr7.four.1.2.2.2
      obtain ⟨⟨r1, r2, r3, r4⟩, f1, f2, f3, f4⟩ := hb8.four
      clear hb8 hbr hBr hbr7
      go_wp2_with fail
      go_region_held3 (fun wq => RS (w.heap.size + 1) wr wq ∧ wq.cell? ⟨w.heap.size, 3, none⟩ = some (.int .i64 p.a) ∧ wq.cell? ⟨g, 0, none⟩ = some (.int .i64 x0) ∧ wq.cell? ⟨g, 1, none⟩ = some (.int .i64 x1) ∧ wq.cell? ⟨g, 2, none⟩ = some (.int .i64 x2) ∧ wq.cell? ⟨w.heap.size + 1, 0, none⟩ = some (cv wq (w.heap.size + 1) 0) ∧ wq.cell? ⟨w.heap.size + 1, 1, none⟩ = some (cv wq (w.heap.size + 1) 1) ∧ wq.cell? ⟨w.heap.size + 1, 2, none⟩ = some (cv wq (w.heap.size + 1) 2) ∧ wq.cell? ⟨w.heap.size + 1, 3, none⟩ = some (cv wq (w.heap.size + 1) 3) ∧ wq.frozen? ⟨w.heap.size + 1, 0, none⟩ = false ∧ wq.frozen? ⟨w.heap.size + 1, 1, none⟩ = false ∧ wq.frozen? ⟨w.heap.size + 1, 2, none⟩ = false ∧ wq.frozen? ⟨w.heap.size + 1, 3, none⟩ = false)
        (first | assumption | exact hS0 | exact HSA.out _ hBv | exact HSP.out _ hBv _ _ _ _ | go_keep)
        (fail)
      go_wp2_with fail
      refine bodyPost_ret (v := .agg #[.int .i64 x0, .int .i64 x1, .int .i64 x2, .int .i64 p.a]) (by simp [results, Tryd.results30, go_sem, r1, r2, r3, r4]) rfl ⟨rfl, ?_⟩
      exact Below.drew (set4_below HBR.out (by omega) _ _ _ _ _ _ _ _)

set_option maxRecDepth 100000 in
set_option maxHeartbeats 8000000 in
theorem rapply_5 (b o c : Nat) (A' : Option Addr) (n' c' : Nat) (p0 p1 p2 : Int) (p m : Px) (h s v x1 x2 li fs : Int) (w : World) (ha : p.a ≠ 0) (hb : b < w.heap.size) (h0 : -32768 ≤ p0 ∧ p0 ≤ 32768) (h1 : -65535 ≤ p1 ∧ p1 ≤ 65535) (h2 : -65535 ≤ p2 ∧ p2 ≤ 65535)
    (hh : 0 ≤ h ∧ h ≤ 65535) (hv : 0 ≤ v ∧ v ≤ 65535) (hx1 : 0 ≤ x1 ∧ x1 ≤ 65535) (hx2 : 0 ≤ x2 ∧ x2 ≤ 65535) (hli : (p2 < 0 ∧ li = v - x2) ∨ (0 ≤ p2 ∧ li = v + x1))
    (hm : 0 ≤ s * (65535 + p1) ∧ s * (65535 + p1) ≤ 8589672450)
    (c0 : w.cell? ⟨b, o, none⟩ = some (.int .i64 p0)) (c1 : w.cell? ⟨b, o + 1, none⟩ = some (.int .i64 p1)) (c2 : w.cell? ⟨b, o + 2, none⟩ = some (.int .i64 p2))
    (T1 : ∀ w', Calls Tryd.prog 16 #[.agg #[.int .i64 p.r, .int .i64 p.g, .int .i64 p.b, .int .i64 p.a]] w' (TriPost (h, s, v) w'))
    (T2 : ∀ w', Calls Tryd.prog 60 #[.int .i64 (65535 - v), .int .i64 p2] w' fun e w'' => e = .returned (.int .i64 x1) ∧ ∃ n, w'' = w'.drewN n)
    (T3 : ∀ w', Calls Tryd.prog 60 #[.int .i64 v, .int .i64 (-p2)] w' fun e w'' => e = .returned (.int .i64 x2) ∧ ∃ n, w'' = w'.drewN n)
    (T4 : ∀ w', Calls Tryd.prog 37 #[.int .i64 (s * (65535 + p1)), .int .i64 65535] w' fun e w'' => e = .returned (.int .i64 fs) ∧ Below w'.heap.size w' w'')
    (T5 : ∀ w', Calls Tryd.prog 18 #[.agg #[.int .i64 (h + p0), .int .i64 (lim16 fs), .int .i64 li], .int .i64 p.a] w' (PxPost m w')) :
    Calls Tryd.prog 30 #[.int .i64 5, .slice (some ⟨b, o, none⟩) 3 c, .slice A' n' c', .agg #[.int .i64 p.r, .int .i64 p.g, .int .i64 p.b, .int .i64 p.a]] w (PxPost m w) := by
  have d0 := r17pick p ha
  have HT1 := Lib.hid T1; have HT2 := Lib.hid T2; have HT3 := Lib.hid T3; have HT4 := Lib.hid T4; have HT5 := Lib.hid T5; have HLI := Lib.hid hli; have HM := Lib.hid hm
  clear T1 T2 T3 T4 T5 ha hli hm
  go_enter Tryd.func30, Tryd.ntmps30
  go_upto_region 1 with fail
  obtain ⟨hb7, hb8, hB⟩ := two_boxes w #[.int .i64 p.r, .int .i64 p.g, .int .i64 p.b, .int .i64 p.a] #[.int .i64 0, .int .i64 0, .int .i64 0, .int .i64 0] 25 25 _ rfl
  have hzl : ∀ b, b < w.heap.size → b < (World.alloc (World.alloc w (.cells #[.int .i64 p.r, .int .i64 p.g, .int .i64 p.b, .int .i64 p.a] 25)) (.cells #[.int .i64 0, .int .i64 0, .int .i64 0, .int .i64 0] 25)).heap.size := fun b hb => Nat.lt_of_lt_of_le hb hB.size
  have HZZ := Lib.hid (show (World.alloc (World.alloc w (.cells #[.int .i64 p.r, .int .i64 p.g, .int .i64 p.b, .int .i64 p.a] 25)) (.cells #[.int .i64 0, .int .i64 0, .int .i64 0, .int .i64 0] 25)).heap.size = w.heap.size + 1 + 1 by simp)
  generalize World.alloc (World.alloc w _) _ = w0 at *
  obtain ⟨⟨i1, i2, i3, i4⟩, -⟩ := hb7.four
  have hbl := hzl b hb
  replace c0 := (hB.cell (p := ⟨b, _, none⟩) hb).trans c0; replace c1 := (hB.cell (p := ⟨b, _, none⟩) hb).trans c1; replace c2 := (hB.cell (p := ⟨b, _, none⟩) hb).trans c2
  have C0 := Lib.hid c0; have C1 := Lib.hid c1; have C2 := Lib.hid c2
  clear hzl c0 c1 c2
  go_wp2_with fail
  refine (HT1.out _).mono ?_
  rintro e w1 ⟨rfl, hB1⟩
  clear i1 i2 i3 i4
  go_upto_region 5 with fail
  obtain ⟨hb9, hbb, -⟩ := one_box w1 #[.int .i64 h, .int .i64 s, .int .i64 v] 31 _ rfl
  have hg9 := hB1.size
  generalize World.alloc w1 _ = w2 at *
  have hB2 := bel_trans hB1 hbb
  clear hbb hB1
  obtain ⟨⟨j1, j2, j3⟩, -⟩ := hb9.three
  have c2 := (hB2.cell (p := ⟨b, _, none⟩) hbl).trans C2.out
  rcases HLI.out with ⟨hn, rfl⟩ | ⟨hn, rfl⟩
  · have hd : decide (p2 < 0) = true := by simp; exact hn
    have hbl2 := Nat.lt_of_lt_of_le hbl hB2.size
    go_quiet ((go_at_call 60; (with_reducible refine quiet_tolN (HT2.out _) ?_); exact fun _ => ⟨_, World.drewN_drewN _ _ _⟩))
    have hB3 := Below.drewN' (Below.refl w2.heap.size w2) nq
    generalize World.drewN w2 nq = w3 at *
    have j3' := (hb9.below hB3).three.1.2.2
    have c2' := (hB3.cell (p := ⟨b, _, none⟩) hbl2).trans c2
    clear j1 j2 j3 c2
    go_wp2_with fail
    go_quiet ((go_at_call 60; (with_reducible refine quiet_tolN (HT3.out _) ?_); exact fun _ => ⟨_, World.drewN_drewN _ _ _⟩))
    have hbc := Below.drewN' hB3 nq
    generalize World.drewN w3 nq = wc at *
    clear hB3 j3' c2' hd
    go_upto_region 8 with fail
    have hBc := bel_trans hB2 hbc
    replace hb7 := hb7.below hBc; replace hb8 := hb8.below hBc; replace hb9 := hb9.below hbc
    have k0 := (hBc.cell (p := ⟨b, _, none⟩) hbl).trans C0.out
    have k1 := (hBc.cell (p := ⟨b, _, none⟩) hbl).trans C1.out
    have hblc := Nat.lt_of_lt_of_le hbl hBc.size
    have hne : w1.heap.size ≠ w.heap.size + 1 := by have := HZZ.out; omega
    have HB := Lib.hid (bel_trans hB hBc)
    have q0 := wrap_in (h + p0) (by omega)
    have q1 := wrap_in (65535 + p1) (by omega)
    have q2 := wrap_in (s * (65535 + p1)) (by have := HM.out; omega)
    have U1 := Lib.hid (fun w' => r17unit_any fs w')
    clear hB2 hbc hBc hB hg9 C0 C1 C2
    generalize lim16 fs = l2 at *
    generalize w1.heap.size = g9 at *
    have HSA := Lib.hid (show ∀ wq, RS (w.heap.size + 1) wc wq → RS (w.heap.size + 1) wc wq ∧ wq.cell? ⟨w.heap.size, 3, none⟩ = some (.int .i64 p.a) ∧ wq.cell? ⟨g9, 0, none⟩ = some (.int .i64 h) ∧ wq.cell? ⟨g9, 1, none⟩ = some (.int .i64 s) ∧ wq.cell? ⟨b, o, none⟩ = some (.int .i64 p0) ∧ wq.cell? ⟨b, o + 1, none⟩ = some (.int .i64 p1) ∧ wq.cell? ⟨w.heap.size + 1, 0, none⟩ = some (cv wq (w.heap.size + 1) 0) ∧ wq.cell? ⟨w.heap.size + 1, 1, none⟩ = some (cv wq (w.heap.size + 1) 1) ∧ wq.cell? ⟨w.heap.size + 1, 2, none⟩ = some (cv wq (w.heap.size + 1) 2) ∧ wq.cell? ⟨w.heap.size + 1, 3, none⟩ = some (cv wq (w.heap.size + 1) 3) ∧ wq.frozen? ⟨w.heap.size + 1, 0, none⟩ = false ∧ wq.frozen? ⟨w.heap.size + 1, 1, none⟩ = false ∧ wq.frozen? ⟨w.heap.size + 1, 2, none⟩ = false ∧ wq.frozen? ⟨w.heap.size + 1, 3, none⟩ = false from
      fun wq h => ⟨h, (h.bx hb7 (by omega)).four.1.2.2.2, (h.bx hb9 hne).three.1.1, (h.bx hb9 hne).three.1.2.1, (h.1.cell (k := b) hblc (by omega)).trans k0, (h.1.cell (k := b) hblc (by omega)).trans k1, h.cvs.1.1, h.cvs.1.2.1, h.cvs.1.2.2.1, h.cvs.1.2.2.2, h.cvs.2⟩)
    have HSP := Lib.hid (fun wq (h : RS (w.heap.size + 1) wc wq) a b c d => HSA.out _ (h.put a b c d))
    have hBv : RS (w.heap.size + 1) wc wc.drew := RS.start hb8
    have hS0 := HSA.out _ hBv
    clear hb7 hb8 hb9 k0 k1
    go_wp2_with fail
    go_region_held3 (fun wq => RS (w.heap.size + 1) wc wq ∧ wq.cell? ⟨w.heap.size, 3, none⟩ = some (.int .i64 p.a) ∧ wq.cell? ⟨g9, 0, none⟩ = some (.int .i64 h) ∧ wq.cell? ⟨g9, 1, none⟩ = some (.int .i64 s) ∧ wq.cell? ⟨b, o, none⟩ = some (.int .i64 p0) ∧ wq.cell? ⟨b, o + 1, none⟩ = some (.int .i64 p1) ∧ wq.cell? ⟨w.heap.size + 1, 0, none⟩ = some (cv wq (w.heap.size + 1) 0) ∧ wq.cell? ⟨w.heap.size + 1, 1, none⟩ = some (cv wq (w.heap.size + 1) 1) ∧ wq.cell? ⟨w.heap.size + 1, 2, none⟩ = some (cv wq (w.heap.size + 1) 2) ∧ wq.cell? ⟨w.heap.size + 1, 3, none⟩ = some (cv wq (w.heap.size + 1) 3) ∧ wq.frozen? ⟨w.heap.size + 1, 0, none⟩ = false ∧ wq.frozen? ⟨w.heap.size + 1, 1, none⟩ = false ∧ wq.frozen? ⟨w.heap.size + 1, 2, none⟩ = false ∧ wq.frozen? ⟨w.heap.size + 1, 3, none⟩ = false)
      (first | assumption | exact hS0 | exact HSA.out _ hBv | exact HSP.out _ hBv _ _ _ _ | go_keep)
      (first | ((with_reducible refine (HT4.out _).mono ?_); rintro e wv ⟨rfl, hbv⟩; have hBv := RS.call hBv hbv) | ((with_reducible refine (U1.out _).mono ?_); rintro e wv' ⟨rfl, rfl⟩) | ((with_reducible refine (HT5.out _).mono ?_); rintro e wv ⟨rfl, hbv⟩; have hBv := RS.call hBv hbv))
    obtain ⟨⟨r1, r2, r3, r4⟩, f1, f2, f3, f4⟩ := hBv.cvs
    go_wp2_with fail
    refine bodyPost_ret (v := .agg #[.int .i64 m.r, .int .i64 m.g, .int .i64 m.b, .int .i64 m.a]) (by simp [results, Tryd.results30, go_sem, r1, r2, r3, r4]) rfl ⟨rfl, ?_⟩
    exact set4_below (hBv.bel HB.out (by omega)) (by omega) _ _ _ _ _ _ _ _
  · have hd : decide (p2 < 0) = false := by simp; omega
    have hbl2 := Nat.lt_of_lt_of_le hbl hB2.size
    go_quiet ((go_at_call 60; (with_reducible refine quiet_tolN (HT2.out _) ?_); exact fun _ => ⟨_, World.drewN_drewN _ _ _⟩))
    have hbc := Below.drewN' (Below.refl w2.heap.size w2) nq
    generalize World.drewN w2 nq = wc at *
    have c2' := (hbc.cell (p := ⟨b, _, none⟩) hbl2).trans c2
    clear j1 j2 j3 c2
    go_upto_region 8 with fail
    clear c2' hd
    have hBc := bel_trans hB2 hbc
    replace hb7 := hb7.below hBc; replace hb8 := hb8.below hBc; replace hb9 := hb9.below hbc
    have k0 := (hBc.cell (p := ⟨b, _, none⟩) hbl).trans C0.out
    have k1 := (hBc.cell (p := ⟨b, _, none⟩) hbl).trans C1.out
    have hblc := Nat.lt_of_lt_of_le hbl hBc.size
    have hne : w1.heap.size ≠ w.heap.size + 1 := by have := HZZ.out; omega
    have HB := Lib.hid (bel_trans hB hBc)
    have q0 := wrap_in (h + p0) (by omega)
    have q1 := wrap_in (65535 + p1) (by omega)
    have q2 := wrap_in (s * (65535 + p1)) (by have := HM.out; omega)
    have U1 := Lib.hid (fun w' => r17unit_any fs w')
    clear hB2 hbc hBc hB hg9 C0 C1 C2
    generalize lim16 fs = l2 at *
    generalize w1.heap.size = g9 at *
    have HSA := Lib.hid (show ∀ wq, RS (w.heap.size + 1) wc wq → RS (w.heap.size + 1) wc wq ∧ wq.cell? ⟨w.heap.size, 3, none⟩ = some (.int .i64 p.a) ∧ wq.cell? ⟨g9, 0, none⟩ = some (.int .i64 h) ∧ wq.cell? ⟨g9, 1, none⟩ = some (.int .i64 s) ∧ wq.cell? ⟨b, o, none⟩ = some (.int .i64 p0) ∧ wq.cell? ⟨b, o + 1, none⟩ = some (.int .i64 p1) ∧ wq.cell? ⟨w.heap.size + 1, 0, none⟩ = some (cv wq (w.heap.size + 1) 0) ∧ wq.cell? ⟨w.heap.size + 1, 1, none⟩ = some (cv wq (w.heap.size + 1) 1) ∧ wq.cell? ⟨w.heap.size + 1, 2, none⟩ = some (cv wq (w.heap.size + 1) 2) ∧ wq.cell? ⟨w.heap.size + 1, 3, none⟩ = some (cv wq (w.heap.size + 1) 3) ∧ wq.frozen? ⟨w.heap.size + 1, 0, none⟩ = false ∧ wq.frozen? ⟨w.heap.size + 1, 1, none⟩ = false ∧ wq.frozen? ⟨w.heap.size + 1, 2, none⟩ = false ∧ wq.frozen? ⟨w.heap.size + 1, 3, none⟩ = false from
      fun wq h => ⟨h, (h.bx hb7 (by omega)).four.1.2.2.2, (h.bx hb9 hne).three.1.1, (h.bx hb9 hne).three.1.2.1, (h.1.cell (k := b) hblc (by omega)).trans k0, (h.1.cell (k := b) hblc (by omega)).trans k1, h.cvs.1.1, h.cvs.1.2.1, h.cvs.1.2.2.1, h.cvs.1.2.2.2, h.cvs.2⟩)
    have HSP := Lib.hid (fun wq (h : RS (w.heap.size + 1) wc wq) a b c d => HSA.out _ (h.put a b c d))
    have hBv : RS (w.heap.size + 1) wc wc.drew := RS.start hb8
    have hS0 := HSA.out _ hBv
    clear hb7 hb8 hb9 k0 k1
    go_wp2_with fail
    go_region_held3 (fun wq => RS (w.heap.size + 1) wc wq ∧ wq.cell? ⟨w.heap.size, 3, none⟩ = some (.int .i64 p.a) ∧ wq.cell? ⟨g9, 0, none⟩ = some (.int .i64 h) ∧ wq.cell? ⟨g9, 1, none⟩ = some (.int .i64 s) ∧ wq.cell? ⟨b, o, none⟩ = some (.int .i64 p0) ∧ wq.cell? ⟨b, o + 1, none⟩ = some (.int .i64 p1) ∧ wq.cell? ⟨w.heap.size + 1, 0, none⟩ = some (cv wq (w.heap.size + 1) 0) ∧ wq.cell? ⟨w.heap.size + 1, 1, none⟩ = some (cv wq (w.heap.size + 1) 1) ∧ wq.cell? ⟨w.heap.size + 1, 2, none⟩ = some (cv wq (w.heap.size + 1) 2) ∧ wq.cell? ⟨w.heap.size + 1, 3, none⟩ = some (cv wq (w.heap.size + 1) 3) ∧ wq.frozen? ⟨w.heap.size + 1, 0, none⟩ = false ∧ wq.frozen? ⟨w.heap.size + 1, 1, none⟩ = false ∧ wq.frozen? ⟨w.heap.size + 1, 2, none⟩ = false ∧ wq.frozen? ⟨w.heap.size + 1, 3, none⟩ = false)
      (first | assumption | exact hS0 | exact HSA.out _ hBv | exact HSP.out _ hBv _ _ _ _ | go_keep)
      (first | ((with_reducible refine (HT4.out _).mono ?_); rintro e wv ⟨rfl, hbv⟩; have hBv := RS.call hBv hbv) | ((with_reducible refine (U1.out _).mono ?_); rintro e wv' ⟨rfl, rfl⟩) | ((with_reducible refine (HT5.out _).mono ?_); rintro e wv ⟨rfl, hbv⟩; have hBv := RS.call hBv hbv))
    obtain ⟨⟨r1, r2, r3, r4⟩, f1, f2, f3, f4⟩ := hBv.cvs
    go_wp2_with fail
    refine bodyPost_ret (v := .agg #[.int .i64 m.r, .int .i64 m.g, .int .i64 m.b, .int .i64 m.a]) (by simp [results, Tryd.results30, go_sem, r1, r2, r3, r4]) rfl ⟨rfl, ?_⟩
    exact set4_below (hBv.bel HB.out (by omega)) (by omega) _ _ _ _ _ _ _ _
end Go.Proofs.YtmbglkholoblaaaDoor
