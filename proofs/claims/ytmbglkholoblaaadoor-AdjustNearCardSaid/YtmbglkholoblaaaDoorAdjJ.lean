/- mapped: the color of stops at a place. -/
import Derived.Test.YtmbglkholoblaaaDoorAdjI
import Derived.Deep.LoopGhost
import Derived.Deep.DeepCutAuto
namespace Go.Proofs.YtmbglkholoblaaaDoor
open Go.RowKit

/-- A stop in memory; a slice of stops. -/
def StpAt (w : World) (b o : Nat) (s : Int) (p : Px) : Prop := w.cell? ⟨b, o, none⟩ = some (.int .i64 s) ∧ w.cell? ⟨b, o + 1, none⟩ = some (.int .i64 p.r) ∧ w.cell? ⟨b, o + 2, none⟩ = some (.int .i64 p.g) ∧ w.cell? ⟨b, o + 3, none⟩ = some (.int .i64 p.b) ∧ w.cell? ⟨b, o + 4, none⟩ = some (.int .i64 p.a)
def Stps (w : World) (B : Nat) (v : Value) (ss : List (Int × Px)) : Prop :=
  ∃ A c, v = .slice A ss.length c ∧ ss.length ≤ 9223372036854775807 ∧ ∀ i : Nat, i < ss.length → ∃ b o, A = some ⟨b, o, none⟩ ∧ b < B ∧ StpAt w b (o + i * 5) (sat ss i) (sco ss i)
section
variable {w w' : World} {B : Nat} {v : Value} {ss : List (Int × Px)}
theorem StpAt.keep {b o : Nat} {s : Int} {p : Px} (h : StpAt w b o s p) (hk : ∀ o, w'.cell? ⟨b, o, none⟩ = w.cell? ⟨b, o, none⟩) : StpAt w' b o s p := by
  obtain ⟨h1, h2, h3, h4, h5⟩ := h
  exact ⟨(hk _).trans h1, (hk _).trans h2, (hk _).trans h3, (hk _).trans h4, (hk _).trans h5⟩
theorem Stps.keep (h : Stps w B v ss) (hk : ∀ b o, b < B → w'.cell? ⟨b, o, none⟩ = w.cell? ⟨b, o, none⟩) : Stps w' B v ss := by
  obtain ⟨A, c, hv, hm, hc⟩ := h
  refine ⟨A, c, hv, hm, fun i hi => ?_⟩
  obtain ⟨b, o, e, hb, hs⟩ := hc i hi
  exact ⟨b, o, e, hb, hs.keep fun o => hk b o hb⟩
theorem Stps.below (h : Stps w B v ss) (hb : Below B w w') : Stps w' B v ss := h.keep fun b o hlt => hb.cell (p := ⟨b, o, none⟩) hlt
theorem Stps.more {B' : Nat} (h : Stps w B v ss) (hB : B ≤ B') : Stps w B' v ss := by
  obtain ⟨A, c, hv, hm, hc⟩ := h
  refine ⟨A, c, hv, hm, fun i hi => ?_⟩
  obtain ⟨b, o, e, hb, hs⟩ := hc i hi
  exact ⟨b, o, e, Nat.lt_of_lt_of_le hb hB, hs⟩
theorem Stps.on (h : Stps w w.heap.size v ss) (hb : Below w.heap.size w w') : Stps w' w'.heap.size v ss := (h.below hb).more hb.size
theorem Stps.form (h : Stps w B v ss) (hn : 0 < ss.length) : ∃ b o c, v = .slice (some ⟨b, o, none⟩) ss.length c ∧ b < B ∧ ∀ i : Nat, i < ss.length → StpAt w b (o + i * 5) (sat ss i) (sco ss i) := by
  obtain ⟨A, c, rfl, _, hc⟩ := h
  obtain ⟨b, o, rfl, hb, _⟩ := hc 0 hn
  refine ⟨b, o, c, rfl, hb, fun i hi => ?_⟩
  obtain ⟨b', o', e, _, h2⟩ := hc i hi
  injection e with e
  injection e with e1 e2
  subst e1 e2
  exact h2
end
theorem drop_stop (ss : List (Int × Px)) (k : Nat) (h : k < ss.length) : ss.drop k = (sat ss k, sco ss k) :: ss.drop (k + 1) := by
  have e : (sat ss k, sco ss k) = ss[k] := by simp [sat, sco, h]
  rw [List.drop_eq_getElem_cons h, e]
theorem map_hit {ss : List (Int × Px)} {k : Nat} {t : Int} (h : k + 1 < ss.length) (ht : t < sat ss (k + 1)) : mapGo (sat ss k, sco ss k) (ss.drop (k + 1)) t = mixP (sco ss k) (sco ss (k + 1)) (rdiv (65535 * (t - sat ss k)) (sat ss (k + 1) - sat ss k)) := by
  rw [drop_stop ss (k + 1) h]; unfold mapGo; rw [if_pos ht]
theorem map_next {ss : List (Int × Px)} {k : Nat} {t : Int} (h : k + 1 < ss.length) (ht : ¬ t < sat ss (k + 1)) : mapGo (sat ss k, sco ss k) (ss.drop (k + 1)) t = mapGo (sat ss (k + 1), sco ss (k + 1)) (ss.drop (k + 1 + 1)) t := by
  rw [drop_stop ss (k + 1) h]; conv => lhs; unfold mapGo
  rw [if_neg ht]
theorem map_last {ss : List (Int × Px)} {k : Nat} {t : Int} (h : k + 1 = ss.length) : mapGo (sat ss k, sco ss k) (ss.drop (k + 1)) t = sco ss k := by
  rw [h]; simp [mapGo]
theorem map_end {ss : List (Int × Px)} (ho : ∀ i : Nat, i < ss.length - 1 → sat ss i < sat ss (i + 1)) {t : Int} (hn : 0 < ss.length) (ht : sat ss (ss.length - 1) ≤ t) : ∀ m k, k + m + 1 = ss.length → mapGo (sat ss k, sco ss k) (ss.drop (k + 1)) t = sco ss (ss.length - 1) := by
  intro m
  induction m with
  | zero => intro k hk; rw [map_last (by omega), show ss.length - 1 = k by omega]
  | succ m ih =>
    intro k hk
    have hup : ∀ d j, j + d + 1 = ss.length → sat ss j ≤ sat ss (ss.length - 1) := by
      intro d
      induction d with
      | zero => intro j hj; rw [show ss.length - 1 = j by omega]; exact Int.le_refl _
      | succ d ih2 =>
        intro j hj
        have := ih2 (j + 1) (by omega)
        have := ho j (by omega)
        omega
    have := hup m (k + 1) (by omega)
    rw [map_next (by omega) (by omega)]
    exact ih (k + 1) (by omega)
theorem mapF_first {ss : List (Int × Px)} {t : Int} (h : t ≤ sat ss 0) : mapF ss t = sco ss 0 := by unfold mapF; rw [if_pos h]
theorem mapF_go {ss : List (Int × Px)} {t : Int} (h : ¬ t ≤ sat ss 0) : mapF ss t = mapGo (sat ss 0, sco ss 0) (ss.drop 1) t := by unfold mapF; rw [if_neg h]

/-- The stops of a valid adjustment. -/
structure StOk (ss : List (Int × Px)) : Prop where
  pos : 0 < ss.length
  few : ss.length ≤ 16
  rng : ∀ i : Nat, i < ss.length → (0 ≤ sat ss i ∧ sat ss i ≤ 65535) ∧ (sco ss i).ok
  ord : ∀ i : Nat, i < ss.length - 1 → sat ss i < sat ss (i + 1)
theorem AdjOk.stops {l : List Int} {ss : List (Int × Px)} (a : AdjOk 10 l ss) : StOk ss := ⟨a.map.2 rfl, a.few, a.rng.2.2, a.ord.2.2⟩

set_option maxHeartbeats 2000000 in
theorem mapped_first (ss : List (Int × Px)) (k : StOk ss) (v : Value) (t : Int) (w : World) (h : Stps w w.heap.size v ss) (ht : t ≤ sat ss 0) :
    Calls Tryd.prog 57 #[v, .int .i64 t] w (PxPost (mapF ss t) w) := by
  obtain ⟨b, o, c, rfl, hb, hc⟩ := h.form k.pos
  have hn := k.pos; have hn16 := k.few
  have E := Lib.hid (mapF_first ht)
  obtain ⟨c0, c1, c2, c3, c4⟩ := hc 0 hn
  simp only [Nat.zero_mul, Nat.add_zero] at c0 c1 c2 c3 c4
  clear hc h
  generalize sco ss 0 = p at *
  generalize sat ss 0 = s at *
  have hd : decide (t ≤ s) = true := by simp; exact ht
  clear ht
  go_enter Tryd.func57, Tryd.ntmps57
  go_upto_region 1 with fail
  obtain ⟨hb1, hB, -⟩ := one_box w #[.int .i64 0, .int .i64 0, .int .i64 0, .int .i64 0] 25 _ rfl
  replace c0 := (hB.cell (p := ⟨b, _, none⟩) hb).trans c0; replace c1 := (hB.cell (p := ⟨b, _, none⟩) hb).trans c1; replace c2 := (hB.cell (p := ⟨b, _, none⟩) hb).trans c2; replace c3 := (hB.cell (p := ⟨b, _, none⟩) hb).trans c3; replace c4 := (hB.cell (p := ⟨b, _, none⟩) hb).trans c4
  generalize World.alloc w _ = w0 at *
  obtain ⟨⟨r1, r2, r3, r4⟩, f1, f2, f3, f4⟩ := hb1.four
  clear hb1
  go_wp2_with fail
  refine bodyPost_ret (v := .agg #[.int .i64 p.r, .int .i64 p.g, .int .i64 p.b, .int .i64 p.a]) (by simp [results, Tryd.results57, go_sem, r1, r2, r3, r4]) rfl ⟨by rw [E.out], ?_⟩
  exact set4_below hB (Nat.le_refl _) _ _ _ _ _ _ _ _
set_option maxHeartbeats 2000000 in
theorem mapped_last (ss : List (Int × Px)) (k : StOk ss) (v : Value) (t : Int) (w : World) (h : Stps w w.heap.size v ss) (ht : ¬ t ≤ sat ss 0) (ht2 : sat ss (ss.length - 1) ≤ t) :
    Calls Tryd.prog 57 #[v, .int .i64 t] w (PxPost (mapF ss t) w) := by
  obtain ⟨b, o, c, rfl, hb, hc⟩ := h.form k.pos
  have hn := k.pos; have hn16 := k.few
  have E := Lib.hid (show mapF ss t = sco ss (ss.length - 1) by rw [mapF_go ht]; exact map_end k.ord hn ht2 (ss.length - 1) 0 (by omega))
  have c0 := (hc 0 hn).1
  simp only [Nat.zero_mul, Nat.add_zero] at c0
  obtain ⟨n, hnn⟩ : ∃ n : Nat, ss.length = n + 1 := ⟨ss.length - 1, by omega⟩
  obtain ⟨d0, d1, d2, d3, d4⟩ := hc (ss.length - 1) (by omega)
  have hd : decide (t ≤ sat ss 0) = false := by simp; omega
  have hd2 : decide (sat ss (ss.length - 1) ≤ t) = true := by simp; exact ht2
  clear hc h ht ht2
  rw [hnn] at E d0 d1 d2 d3 d4 hd2 ⊢
  rw [Nat.add_sub_cancel] at E d0 d1 d2 d3 d4 hd2
  have hn8 : n ≤ 15 := by omega
  have hi : ((n : Int) + 1) - 1 = (n : Int) := by omega
  generalize sco ss n = p at *
  generalize sat ss n = s at *
  generalize sat ss 0 = s0 at *
  clear hnn hn hn16
  go_enter Tryd.func57, Tryd.ntmps57
  go_upto_region 1 with fail
  obtain ⟨hb1, hB, -⟩ := one_box w #[.int .i64 0, .int .i64 0, .int .i64 0, .int .i64 0] 25 _ rfl
  replace c0 := (hB.cell (p := ⟨b, _, none⟩) hb).trans c0
  replace d0 := (hB.cell (p := ⟨b, _, none⟩) hb).trans d0; replace d1 := (hB.cell (p := ⟨b, _, none⟩) hb).trans d1; replace d2 := (hB.cell (p := ⟨b, _, none⟩) hb).trans d2; replace d3 := (hB.cell (p := ⟨b, _, none⟩) hb).trans d3; replace d4 := (hB.cell (p := ⟨b, _, none⟩) hb).trans d4
  generalize World.alloc w _ = w0 at *
  obtain ⟨⟨r1, r2, r3, r4⟩, f1, f2, f3, f4⟩ := hb1.four
  clear hb1
  have hk0 : (0 : Int) ≤ (n : Int) := by omega
  have hk1 : (n : Int) < (n : Int) + 1 := by omega
  go_wp2_with fail
  refine bodyPost_ret (v := .agg #[.int .i64 p.r, .int .i64 p.g, .int .i64 p.b, .int .i64 p.a]) (by simp [results, Tryd.results57, go_sem, r1, r2, r3, r4]) rfl ⟨by rw [E.out], ?_⟩
  exact set4_below hB (Nat.le_refl _) _ _ _ _ _ _ _ _
/-- The head of the loop that seeks the cell. -/
def MapRel (ss : List (Int × Px)) (t : Int) (w0 : World) (gh : Nat) (i : Value) (wr : World) : Prop :=
  ∃ k : Nat, k + 1 < ss.length ∧ gh = ss.length - k ∧ i = .int .i64 k ∧ wr = w0 ∧ sat ss k ≤ t ∧ mapF ss t = mapGo (sat ss k, sco ss k) (ss.drop (k + 1)) t
/-- Behind the statement that reads the two stops. -/
def MapMid (s1 : Int) (p1 : Px) (s2 : Int) (p2 : Px) (w0 : World) (v7 v8 : Value) (wx : World) : Prop :=
  ∃ g7 g8, v7 = .pointer (some ⟨g7, 0, none⟩) ∧ v8 = .pointer (some ⟨g8, 0, none⟩) ∧ Bx wx g7 63 #[.int .i64 s1, .int .i64 p1.r, .int .i64 p1.g, .int .i64 p1.b, .int .i64 p1.a] ∧ Bx wx g8 63 #[.int .i64 s2, .int .i64 p2.r, .int .i64 p2.g, .int .i64 p2.b, .int .i64 p2.a] ∧ Below w0.heap.size w0 wx
theorem Bx.five {w : World} {g : Nat} {t : TypeId} {a b c d e : Value} (h : Bx w g t #[a, b, c, d, e]) : w.cell? ⟨g, 0, none⟩ = some a ∧ w.cell? ⟨g, 1, none⟩ = some b ∧ w.cell? ⟨g, 2, none⟩ = some c ∧ w.cell? ⟨g, 3, none⟩ = some d ∧ w.cell? ⟨g, 4, none⟩ = some e := ⟨h.cell rfl, h.cell rfl, h.cell rfl, h.cell rfl, h.cell rfl⟩
theorem mapMid_1 (s1 : Int) (p1 : Px) (s2 : Int) (p2 : Px) (w0 : World) : MapMid s1 p1 s2 p2 w0 (.pointer (some ⟨w0.heap.size, 0, none⟩)) (.pointer (some ⟨w0.heap.size + 1, 0, none⟩)) ((w0.alloc (.cells #[.int .i64 s1, .int .i64 p1.r, .int .i64 p1.g, .int .i64 p1.b, .int .i64 p1.a] 63)).alloc (.cells #[.int .i64 s2, .int .i64 p2.r, .int .i64 p2.g, .int .i64 p2.b, .int .i64 p2.a] 63)).drew := by
  obtain ⟨a, b, c⟩ := two_boxes w0 #[.int .i64 s1, .int .i64 p1.r, .int .i64 p1.g, .int .i64 p1.b, .int .i64 p1.a] #[.int .i64 s2, .int .i64 p2.r, .int .i64 p2.g, .int .i64 p2.b, .int .i64 p2.a] 63 63 _ rfl
  exact ⟨_, _, rfl, rfl, a.drew, b.drew, c.drew⟩
theorem mapMid_2 (s1 : Int) (p1 : Px) (s2 : Int) (p2 : Px) (w0 : World) : MapMid s1 p1 s2 p2 w0 (.pointer (some ⟨w0.heap.size + 1, 0, none⟩)) (.pointer (some ⟨w0.heap.size, 0, none⟩)) ((w0.alloc (.cells #[.int .i64 s2, .int .i64 p2.r, .int .i64 p2.g, .int .i64 p2.b, .int .i64 p2.a] 63)).alloc (.cells #[.int .i64 s1, .int .i64 p1.r, .int .i64 p1.g, .int .i64 p1.b, .int .i64 p1.a] 63)).drew := by
  obtain ⟨a, b, c⟩ := two_boxes w0 #[.int .i64 s2, .int .i64 p2.r, .int .i64 p2.g, .int .i64 p2.b, .int .i64 p2.a] #[.int .i64 s1, .int .i64 p1.r, .int .i64 p1.g, .int .i64 p1.b, .int .i64 p1.a] 63 63 _ rfl
  exact ⟨_, _, rfl, rfl, b.drew, a.drew, c.drew⟩
set_option maxRecDepth 100000 in
set_option maxHeartbeats 4000000 in
theorem mapped_mid (ss : List (Int × Px)) (q : StOk ss) (v : Value) (t : Int) (w : World) (h : Stps w w.heap.size v ss) (ht0 : 0 ≤ t ∧ t ≤ 65535) (ht : ¬ t ≤ sat ss 0) (ht2 : ¬ sat ss (ss.length - 1) ≤ t)
    (TM : ∀ (p q : Px) (τ : Int) (w' : World), Calls Tryd.prog 74 #[.agg #[.int .i64 p.r, .int .i64 p.g, .int .i64 p.b, .int .i64 p.a], .agg #[.int .i64 q.r, .int .i64 q.g, .int .i64 q.b, .int .i64 q.a], .int .i64 τ] w' (PxPost (mixP p q τ) w')) :
    Calls Tryd.prog 57 #[v, .int .i64 t] w (PxPost (mapF ss t) w) := by
  obtain ⟨b, o, c, rfl, hb, hc⟩ := h.form q.pos
  have hn := q.pos; have hn16 := q.few
  have HC := Lib.hid hc
  have HQ := Lib.hid q
  have c0 := (hc 0 hn).1
  simp only [Nat.zero_mul, Nat.add_zero] at c0
  obtain ⟨n, hnn⟩ : ∃ n : Nat, ss.length = n + 1 := ⟨ss.length - 1, by omega⟩
  have d0 := (hc (ss.length - 1) (by omega)).1
  have hd : decide (t ≤ sat ss 0) = false := by simp; omega
  have hd2 : decide (sat ss (ss.length - 1) ≤ t) = false := by simp; omega
  have HT := Lib.hid (mapF_go ht)
  have HT2 := Lib.hid ht2
  clear hc h q ht2
  have HNN := Lib.hid hnn
  rw [show ss.length - 1 = n by omega] at d0 hd2
  have hi : (ss.length : Int) - 1 = (n : Int) := by omega
  have hk0 : (0 : Int) ≤ (n : Int) := by omega
  have hk1 : (n : Int) < (ss.length : Int) := by omega
  have hn0 : 0 < n := by
    rcases Nat.eq_zero_or_pos n with e | e
    · have := HT2.out
      rw [show ss.length - 1 = 0 by omega] at this
      omega
    · exact e
  have hts : sat ss 0 ≤ t := by omega
  clear hnn ht
  go_enter Tryd.func57, Tryd.ntmps57
  go_upto_region 1 with fail
  obtain ⟨hb1, hB, -⟩ := one_box w #[.int .i64 0, .int .i64 0, .int .i64 0, .int .i64 0] 25 _ rfl
  replace c0 := (hB.cell (p := ⟨b, _, none⟩) hb).trans c0
  replace d0 := (hB.cell (p := ⟨b, _, none⟩) hb).trans d0
  generalize World.alloc w _ = w0 at *
  have HB := Lib.hid hB; have HB1 := Lib.hid hb1; clear hB hb1
  go_wp2_with fail
  go_loopg [6] ss.length (MapRel ss t w0)
  case atStart => exact ⟨0, by omega, by omega, rfl, rfl, hts, HT.out⟩
  case round =>
    obtain ⟨k, hk, rfl, rfl, rfl, hsk, hm⟩ := hrel
    have HM := Lib.hid hm; clear hm c0 d0
    have e0 := (HB.out.cell (p := ⟨b, o + (k + 1) * 5, none⟩) hb).trans (HC.out (k + 1) (by omega)).1
    obtain ⟨j, hj⟩ : ∃ j : Nat, j = k + 1 := ⟨_, rfl⟩
    rw [← hj] at e0
    have hj0 : (k : Int) + 1 = (j : Int) := by omega
    have hj1 : (0 : Int) ≤ (j : Int) := by omega
    have hj2 : (j : Int) < (ss.length : Int) := by omega
    have hj3 : j ≤ 16 := by omega
    have hw0 : IntKind.i64.wrap (j : Int) = j := wrap_in _ (by omega)
    by_cases hlt : sat ss j ≤ t
    · have hk2 : j + 1 < ss.length := by
        rcases Nat.lt_or_ge (j + 1) ss.length with d | d
        · exact d
        · have := HT2.out
          rw [show ss.length - 1 = j by omega] at this
          omega
      have hd3 : decide (sat ss j ≤ t) = true := by simp; exact hlt
      have HJ := Lib.hid hj; clear hj
      go_wp2_with fail
      go_roundg (ss.length - j)
      case measure => have := HJ.out; omega
      case rel => exact ⟨j, hk2, rfl, by go_num, rfl, hlt, by rw [HM.out]; have := HJ.out; subst this; exact map_next (by omega) (by omega)⟩
    · have hd3 : decide (sat ss j ≤ t) = false := by simp; omega
      have E := Lib.hid (show mapF ss t = mixP (sco ss k) (sco ss j) (rdiv (65535 * (t - sat ss k)) (sat ss j - sat ss k)) by rw [HM.out]; subst hj; exact map_hit hk (by omega))
      obtain ⟨x0, x1, x2, x3, x4⟩ := HC.out k (by omega)
      obtain ⟨y0, y1, y2, y3, y4⟩ := HC.out j (by omega)
      have ha := (HQ.out.rng k (by omega)).1
      have hb' := (HQ.out.rng j (by omega)).1
      have hkk0 : (0 : Int) ≤ (k : Int) := by omega
      have hkk1 : (k : Int) < (ss.length : Int) := by omega
      have hlj : sat ss k < sat ss j := by omega
      clear e0 hj hlt HM HC HQ
      generalize sat ss k = s1 at *
      generalize sat ss j = s2 at *
      generalize sco ss k = p1 at *
      generalize sco ss j = p2 at *
      replace x0 := (HB.out.cell (p := ⟨b, _, none⟩) hb).trans x0; replace x1 := (HB.out.cell (p := ⟨b, _, none⟩) hb).trans x1; replace x2 := (HB.out.cell (p := ⟨b, _, none⟩) hb).trans x2; replace x3 := (HB.out.cell (p := ⟨b, _, none⟩) hb).trans x3; replace x4 := (HB.out.cell (p := ⟨b, _, none⟩) hb).trans x4
      replace y0 := (HB.out.cell (p := ⟨b, _, none⟩) hb).trans y0; replace y1 := (HB.out.cell (p := ⟨b, _, none⟩) hb).trans y1; replace y2 := (HB.out.cell (p := ⟨b, _, none⟩) hb).trans y2; replace y3 := (HB.out.cell (p := ⟨b, _, none⟩) hb).trans y3; replace y4 := (HB.out.cell (p := ⟨b, _, none⟩) hb).trans y4
      go_upto_region 9 with fail
      have hbl : b < wr.heap.size := Nat.lt_of_lt_of_le hb HB.out.size
      have hbl2 : b < wr.heap.size + 1 := by omega
      go_cut [7, 8] (MapMid s1 p1 s2 p2 wr)
      case first =>
        go_region
        all_goals (try go_wp2_with fail)
        all_goals go_meet
        · exact mapMid_1 _ _ _ _ _
        · exact mapMid_2 _ _ _ _ _
      case rest =>
        obtain ⟨g7, g8, rfl, rfl, hb7, hb8, hbb⟩ := hcut
        have hb1 := HB1.out.below hbb
        have hB := bel_trans HB.out hbb
        obtain ⟨x0, x1, x2, x3, x4⟩ := hb7.five
        obtain ⟨y0, y1, y2, y3, y4⟩ := hb8.five
        clear hb7 hb8 hbb HB HB1
        have HB := Lib.hid hB; have HB1 := Lib.hid hb1; clear hB hb1
        have hws : IntKind.i64.wrap (t - s1) = t - s1 := wrap_in _ (by omega)
        have hws2 : IntKind.i64.wrap (s2 - s1) = s2 - s1 := wrap_in _ (by omega)
        have hws3 : IntKind.i64.wrap (65535 * (t - s1)) = 65535 * (t - s1) := wrap_in _ (by omega)
        have D := Lib.hid (div_any (65535 * (t - s1)) (s2 - s1) wc.drew (by omega) (by omega) (by omega) (by omega))
        generalize rdiv (65535 * (t - s1)) (s2 - s1) = τ at *
        have HTM := Lib.hid (fun w' => TM p1 p2 τ w')
        generalize mixP p1 p2 τ = m at *
        go_wp2_with fail
        go_still_tail 15, (by kernel_rfl)
        still_call (still_of D.out)
        repeat still_step
        refine wpStill_nil ?_
        change wpList _ _ _ _ _ wc.drew
        have hB := HB.out.drew; have hb1 := HB1.out.drew
        clear x0 x1 x2 x3 x4 y0 y1 y2 y3 y4
        generalize wc.drew = w5 at *
        go_wp2_with fail
        refine (HTM.out _).mono ?_
        rintro e w6 ⟨rfl, hbb⟩
        obtain ⟨⟨r1, r2, r3, r4⟩, f1, f2, f3, f4⟩ := (hb1.below hbb).four
        have HBF := Lib.hid (bel_trans hB hbb)
        clear hbb hb1 hB
        go_wp2_with fail
        refine bodyPost_ret (v := .agg #[.int .i64 m.r, .int .i64 m.g, .int .i64 m.b, .int .i64 m.a]) (by simp [results, Tryd.results57, go_sem, r1, r2, r3, r4]) rfl ⟨by rw [E.out], ?_⟩
        exact set4_below HBF.out (Nat.le_refl _) _ _ _ _ _ _ _ _
end Go.Proofs.YtmbglkholoblaaaDoor
