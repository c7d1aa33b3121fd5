/- turned, gray: the color functions of adjust that work on a whole pixel. -/
import Derived.Test.YtmbglkholoblaaaDoorMH
import Derived.Test.YtmbglkholoblaaaDoorMD
import Derived.Deep.LoopGhost
import Derived.Deep.DeepCutAuto
import Derived.Deep.RegionHeld3
import Derived.Test.YtmbglkholoblaaaDoorMI
namespace Go.Proofs.YtmbglkholoblaaaDoor
open Go.RowKit

theorem toHsl_bd {r g b : Int} (hr : 0 ≤ r ∧ r ≤ 65535) (hg : 0 ≤ g ∧ g ≤ 65535) (hb : 0 ≤ b ∧ b ≤ 65535) : (0 ≤ (toHsl r g b).1 ∧ (toHsl r g b).1 ≤ 65535) ∧ (0 ≤ (toHsl r g b).2.1 ∧ (toHsl r g b).2.1 ≤ 65535) ∧ 0 ≤ (toHsl r g b).2.2 ∧ (toHsl r g b).2.2 ≤ 65535 := by
  unfold toHsl
  by_cases hc : max (max r g) b - min (min r g) b = 0
  · rw [if_pos hc]
    have h := rdiv_spec (max (max r g) b + min (min r g) b) 2 (by omega)
    dsimp only
    omega
  · rw [if_neg hc]
    obtain ⟨h1, h2, _⟩ := chroma_back (M := max (max r g) b) (m := min (min r g) b) (by omega) (by omega) (by omega)
    dsimp only
    refine ⟨?_, h1, ?_⟩
    · generalize rdiv (65536 * (hslK r g b * (max (max r g) b - min (min r g) b) + hslE r g b)) (6 * (max (max r g) b - min (min r g) b)) = z
      omega
    · omega
theorem toH_bd (p : Px) : (0 ≤ (toH p).1 ∧ (toH p).1 ≤ 65535) ∧ (0 ≤ (toH p).2.1 ∧ (toH p).2.1 ≤ 65535) ∧ 0 ≤ (toH p).2.2 ∧ (toH p).2.2 ≤ 65535 := toHsl_bd (lim16_bd _) (lim16_bd _) (lim16_bd _)
theorem hueL_up {l2 v : Int} (h : 0 ≤ l2) : hueL l2 v = v + rdiv ((65535 - v) * l2) 65535 := by unfold hueL; rw [if_pos h]
theorem hueL_dn {l2 v : Int} (h : l2 < 0) : hueL l2 v = v - rdiv (v * (-l2)) 65535 := by unfold hueL; rw [if_neg (by omega)]
theorem mul_in {a b : Int} (ha : 0 ≤ a ∧ a ≤ 65535) (hb : 0 ≤ b ∧ b ≤ 65535) : 0 ≤ rdiv (a * b) 65535 ∧ rdiv (a * b) 65535 ≤ 65535 := by
  have h := mul_bd ha hb
  have := rdiv_spec (a * b) 65535 (by omega)
  omega
theorem full_bd {s p1 : Int} (hs : 0 ≤ s ∧ s ≤ 65535) (h1 : -65535 ≤ p1 ∧ p1 ≤ 65535) : 0 ≤ s * (65535 + p1) ∧ s * (65535 + p1) ≤ 8589672450 := by
  have e1 := Int.mul_nonneg hs.1 (show 0 ≤ 65535 + p1 by omega)
  have e2 : s * (65535 + p1) ≤ 65535 * 131070 := Int.mul_le_mul hs.2 (by omega) (by omega) (by omega)
  omega
/-- A pixel whose alpha has no meaning. -/
def ColPost (t : Int × Int × Int) (w : World) (e : Ending) (w' : World) : Prop := ∃ a : Int, e = .returned (.agg #[.int .i64 t.1, .int .i64 t.2.1, .int .i64 t.2.2, .int .i64 a]) ∧ Below w.heap.size w w'
theorem agray_any (c : Int) (w : World) : Calls Tryd.prog 52 #[.int .i64 c] w fun e w' => e = .returned (.agg #[.int .i64 c, .int .i64 c, .int .i64 c, .int .i64 0]) ∧ Below w.heap.size w w' := by
  go_enter Tryd.func52, Tryd.ntmps52
  go_upto_region 1 with fail
  obtain ⟨hb1, hB, -⟩ := one_box w #[.int .i64 0, .int .i64 0, .int .i64 0, .int .i64 0] 25 _ rfl
  generalize World.alloc w _ = w0 at *
  obtain ⟨⟨r1, r2, r3, r4⟩, f1, f2, f3, f4⟩ := hb1.four
  go_wp2_with fail
  refine bodyPost_ret (v := .agg #[.int .i64 c, .int .i64 c, .int .i64 c, .int .i64 0]) (by simp [results, Tryd.results52, go_sem, r1, r2, r3, r4]) rfl ⟨rfl, ?_⟩
  exact set4_below hB (Nat.le_refl _) _ _ _ _ _ _ _ _

set_option maxRecDepth 100000 in
set_option maxHeartbeats 4000000 in
theorem turned_core (b o c : Nat) (p0 p1 p2 : Int) (p m : Px) (h s l lt fl : Int) (w : World) (hh : 0 ≤ h ∧ h ≤ 65535) (hs : 0 ≤ s ∧ s ≤ 65535) (hl : 0 ≤ l ∧ l ≤ 65535) (h0 : -32768 ≤ p0 ∧ p0 ≤ 32768) (h1 : -65535 ≤ p1 ∧ p1 ≤ 65535) (h2 : -65535 ≤ p2 ∧ p2 ≤ 65535) (hb : b < w.heap.size)
    (c0 : w.cell? ⟨b, o, none⟩ = some (.int .i64 p0)) (c1 : w.cell? ⟨b, o + 1, none⟩ = some (.int .i64 p1)) (c2 : w.cell? ⟨b, o + 2, none⟩ = some (.int .i64 p2))
    (TH : ∀ w', Calls Tryd.prog 15 #[.agg #[.int .i64 p.r, .int .i64 p.g, .int .i64 p.b, .int .i64 p.a]] w' (TriPost (h, s, l) w'))
    (hm : (decide (0 ≤ p2) = true ∧ ∃ d, l + d = lt ∧ (0 ≤ d ∧ d ≤ 65535) ∧ ∀ w', Calls Tryd.prog 72 #[.int .i64 (65535 - l), .int .i64 p2] w' fun e w'' => e = .returned (.int .i64 d) ∧ w' = w'') ∨
      (decide (0 ≤ p2) = false ∧ ∃ d, l - d = lt ∧ (0 ≤ d ∧ d ≤ 65535) ∧ ∀ w', Calls Tryd.prog 72 #[.int .i64 l, .int .i64 (-p2)] w' fun e w'' => e = .returned (.int .i64 d) ∧ w' = w''))
    (TD : ∃ d, (∀ w', Calls Tryd.prog 34 #[.int .i64 (s * (65535 + p1)), .int .i64 65535] w' fun e w'' => e = .returned (.int .i64 d) ∧ w' = w'') ∧ ∀ w', Calls Tryd.prog 39 #[.int .i64 d] w' fun e w'' => e = .returned (.int .i64 fl) ∧ w' = w'')
    (TF : ∀ w', Calls Tryd.prog 17 #[.agg #[.int .i64 (h + p0), .int .i64 fl, .int .i64 lt], .int .i64 p.a] w' (PxPost m w')) :
    Calls Tryd.prog 49 #[.slice (some ⟨b, o, none⟩) 3 c, .agg #[.int .i64 p.r, .int .i64 p.g, .int .i64 p.b, .int .i64 p.a]] w (PxPost m w) := by
  have hfb := full_bd hs h1
  have HTH := Lib.hid TH; have HTF := Lib.hid TF
  obtain ⟨df, TD1, TD2⟩ := TD
  have HD1 := Lib.hid TD1; have HD2 := Lib.hid TD2
  clear TH TF TD1 TD2
  go_enter Tryd.func49, Tryd.ntmps49
  go_upto_region 1 with fail
  obtain ⟨hb1, hb2, hB⟩ := two_boxes w #[.int .i64 p.r, .int .i64 p.g, .int .i64 p.b, .int .i64 p.a] #[.int .i64 0, .int .i64 0, .int .i64 0, .int .i64 0] 25 25 _ rfl
  generalize World.alloc (World.alloc w _) _ = w0 at *
  obtain ⟨⟨i1, i2, i3, i4⟩, -⟩ := hb1.four
  go_wp2_with fail
  refine (HTH.out _).mono ?_
  rintro e w1 ⟨rfl, hbb⟩
  replace hb1 := hb1.below hbb; replace hb2 := hb2.below hbb; replace hB := bel_trans hB hbb
  clear hbb i1 i2 i3 i4
  go_upto_region 2 with fail
  obtain ⟨hb5, hbb, -⟩ := one_box w1 #[.int .i64 h, .int .i64 s, .int .i64 l] 31 _ rfl
  generalize World.alloc w1 _ = w2 at *
  replace hb1 := hb1.below hbb; replace hb2 := hb2.below hbb; replace hB := bel_trans hB hbb
  clear hbb
  obtain ⟨⟨i1, i2, i3, i4⟩, -⟩ := hb1.four
  obtain ⟨⟨j1, j2, j3⟩, -⟩ := hb5.three
  replace c0 := (hB.cell (p := ⟨b, o, none⟩) hb).trans c0
  replace c1 := (hB.cell (p := ⟨b, o + 1, none⟩) hb).trans c1
  replace c2 := (hB.cell (p := ⟨b, o + 2, none⟩) hb).trans c2
  have HB := Lib.hid hB; have HB2 := Lib.hid hb2
  clear hB hb1 hb2 hb5
  rcases hm with ⟨hp, d, hd, hd0, TM⟩ | ⟨hp, d, hd, hd0, TM⟩
  all_goals
    have HTM := Lib.hid TM; clear TM
    go_wp2_with fail
    refine (HTM.out _).mono ?_
    rintro e w3 ⟨rfl, rfl⟩
    go_wp2_with fail
    go_quiet (first | (go_at_call 34; exact quiet_tol (HD1.out _) ⟨_, rfl⟩) | (go_at_call 39; exact quiet_tol (HD2.out _) ⟨_, rfl⟩))
    replace c0 : (w2.drewN nq).cell? ⟨b, o, none⟩ = some (.int .i64 p0) := c0
    replace j1 : (w2.drewN nq).cell? ⟨w1.heap.size, 0, none⟩ = some (.int .i64 h) := j1
    replace i4 : (w2.drewN nq).cell? ⟨w.heap.size, 3, none⟩ = some (.int .i64 p.a) := i4
    replace HB := Lib.hid (Below.drewN' HB.out nq); replace HB2 := Lib.hid (HB2.out.drewN nq)
    clear c1 c2 j2 j3 i1 i2 i3
    generalize World.drewN w2 nq = w4 at *
    go_wp2_with fail
    have hwh : IntKind.i64.wrap (h + p0) = h + p0 := wrap_in _ (by omega)
    go_still_tail 11, (by kernel_rfl)
    change wpList _ _ _ _ _ w4.drew
    replace HB := Lib.hid HB.out.drew; replace HB2 := Lib.hid HB2.out.drew
    clear c0 j1 i4
    generalize w4.drew = w5 at *
    go_wp2_with fail
    refine (HTF.out _).mono ?_
    rintro e w6 ⟨rfl, hbb⟩
    obtain ⟨⟨r1, r2, r3, r4⟩, f1, f2, f3, f4⟩ := (HB2.out.below hbb).four
    have HBF := Lib.hid (bel_trans HB.out hbb)
    clear hbb
    go_wp2_with fail
    refine bodyPost_ret (v := .agg #[.int .i64 m.r, .int .i64 m.g, .int .i64 m.b, .int .i64 m.a]) (by simp [results, Tryd.results49, go_sem, r1, r2, r3, r4]) rfl ⟨rfl, ?_⟩
    exact set4_below HBF.out (by omega) _ _ _ _ _ _ _ _
/-- turned. -/
theorem turned_any (b o c : Nat) (l : List Int) (ss : List (Int × Px)) (a : AdjOk 5 l ss) (p : Px) (w : World) (hb : b < w.heap.size) (c0 : w.cell? ⟨b, o, none⟩ = some (.int .i64 (prm l 0))) (c1 : w.cell? ⟨b, o + 1, none⟩ = some (.int .i64 (prm l 1))) (c2 : w.cell? ⟨b, o + 2, none⟩ = some (.int .i64 (prm l 2))) :
    Calls Tryd.prog 49 #[.slice (some ⟨b, o, none⟩) 3 c, .agg #[.int .i64 p.r, .int .i64 p.g, .int .i64 p.b, .int .i64 p.a]] w (PxPost (hueF l p) w) := by
  obtain ⟨h0, h1, h2⟩ := a.p5
  obtain ⟨b1, b2, b3⟩ := toH_bd p
  have hfb := full_bd b2 h1
  refine turned_core b o c _ _ _ p (hueF l p) (toH p).1 (toH p).2.1 (toH p).2.2 (hueL (prm l 2) (toH p).2.2) (lim16 (rdiv ((toH p).2.1 * (65535 + prm l 1)) 65535)) w b1 b2 b3 h0 h1 h2 hb c0 c1 c2 (fun w' => tohsl_any p w') ?_
    ⟨_, fun w' => div_any _ _ w' (by omega) (by omega) (by omega) (by omega), fun w' => aunit_any _ w'⟩ (fun w' => fromhsl_any _ _ _ _ w')
  by_cases hp : 0 ≤ prm l 2
  · refine .inl ⟨by simp [hp], rdiv ((65535 - (toH p).2.2) * prm l 2) 65535, (hueL_up hp).symm, mul_in (by omega) (by omega), fun w' => ?_⟩
    have := nmul_any (65535 - (toH p).2.2) (prm l 2) w'
    rw [lim16_id _ (by omega), lim16_id (prm l 2) (by omega)] at this
    exact this
  · refine .inr ⟨by simp; omega, rdiv ((toH p).2.2 * (-(prm l 2))) 65535, (hueL_dn (by omega)).symm, mul_in (by omega) (by omega), fun w' => ?_⟩
    have := nmul_any (toH p).2.2 (-(prm l 2)) w'
    rw [lim16_id _ (by omega), lim16_id (-(prm l 2)) (by omega)] at this
    exact this
end Go.Proofs.YtmbglkholoblaaaDoor
namespace Go.Proofs.YtmbglkholoblaaaDoor
open Go.RowKit

/-- A stop in memory; a slice of stops. -/
def StpAt (w : World) (b o : Nat) (s : Int) (p : Px) : Prop := w.cell? ⟨b, o, none⟩ = some (.int .i64 s) ∧ w.cell? ⟨b, o + 1, none⟩ = some (.int .i64 p.r) ∧ w.cell? ⟨b, o + 2, none⟩ = some (.int .i64 p.g) ∧ w.cell? ⟨b, o + 3, none⟩ = some (.int .i64 p.b) ∧ w.cell? ⟨b, o + 4, none⟩ = some (.int .i64 p.a)
def Stps (w : World) (B : Nat) (v : Value) (ss : List (Int × Px)) : Prop :=
  ∃ A c, v = .slice A ss.length c ∧ ss.length ≤ 9223372036854775807 ∧ ∀ i : Nat, i < ss.length → ∃ b o, A = some ⟨b, o, none⟩ ∧ b < B ∧ StpAt w b (o + i * 5) (sat ss i) (sco ss i)
section
variable {w w' : World} {B : Nat} {v : Value} {ss : List (Int × Px)}
theorem StpAt.keep {b o : Nat} {s : Int} {p : Px} (h : StpAt w b o s p) (hk : ∀ o, w'.cell? ⟨b, o, none⟩ = w.cell? ⟨b, o, none⟩) : StpAt w' b o s p := by
  obtain ⟨h1, h2, h3, h4, h5⟩ := h
  exact ⟨(hk _).trans h1, (hk _).trans h2, (hk _).trans h3, (hk _).trans h4, (hk _).trans h5⟩
theorem Stps.keep (h : Stps w B v ss) (hk : ∀ b o, b < B → w'.cell? ⟨b, o, none⟩ = w.cell? ⟨b, o, none⟩) : Stps w' B v ss := by
  obtain ⟨A, c, hv, hm, hc⟩ := h
  refine ⟨A, c, hv, hm, fun i hi => ?_⟩
  obtain ⟨b, o, e, hb, hs⟩ := hc i hi
  exact ⟨b, o, e, hb, hs.keep fun o => hk b o hb⟩
theorem Stps.below (h : Stps w B v ss) (hb : Below B w w') : Stps w' B v ss := h.keep fun b o hlt => hb.cell (p := ⟨b, o, none⟩) hlt
theorem Stps.more {B' : Nat} (h : Stps w B v ss) (hB : B ≤ B') : Stps w B' v ss := by
  obtain ⟨A, c, hv, hm, hc⟩ := h
  refine ⟨A, c, hv, hm, fun i hi => ?_⟩
  obtain ⟨b, o, e, hb, hs⟩ := hc i hi
  exact ⟨b, o, e, Nat.lt_of_lt_of_le hb hB, hs⟩
theorem Stps.on (h : Stps w w.heap.size v ss) (hb : Below w.heap.size w w') : Stps w' w'.heap.size v ss := (h.below hb).more hb.size
theorem Stps.form (h : Stps w B v ss) (hn : 0 < ss.length) : ∃ b o c, v = .slice (some ⟨b, o, none⟩) ss.length c ∧ b < B ∧ ∀ i : Nat, i < ss.length → StpAt w b (o + i * 5) (sat ss i) (sco ss i) := by
  obtain ⟨A, c, rfl, _, hc⟩ := h
  obtain ⟨b, o, rfl, hb, _⟩ := hc 0 hn
  refine ⟨b, o, c, rfl, hb, fun i hi => ?_⟩
  obtain ⟨b', o', e, _, h2⟩ := hc i hi
  injection e with e
  injection e with e1 e2
  subst e1 e2
  exact h2
end
theorem drop_stop (ss : List (Int × Px)) (k : Nat) (h : k < ss.length) : ss.drop k = (sat ss k, sco ss k) :: ss.drop (k + 1) := by
  have e : (sat ss k, sco ss k) = ss[k] := by simp [sat, sco, h]
  rw [List.drop_eq_getElem_cons h, e]
theorem map_hit {ss : List (Int × Px)} {k : Nat} {t : Int} (h : k + 1 < ss.length) (ht : t < sat ss (k + 1)) : mapGo (sat ss k, sco ss k) (ss.drop (k + 1)) t = mixP (sco ss k) (sco ss (k + 1)) (rdiv (65535 * (t - sat ss k)) (sat ss (k + 1) - sat ss k)) := by
  rw [drop_stop ss (k + 1) h]; unfold mapGo; rw [if_pos ht]
theorem map_next {ss : List (Int × Px)} {k : Nat} {t : Int} (h : k + 1 < ss.length) (ht : ¬ t < sat ss (k + 1)) : mapGo (sat ss k, sco ss k) (ss.drop (k + 1)) t = mapGo (sat ss (k + 1), sco ss (k + 1)) (ss.drop (k + 1 + 1)) t := by
  rw [drop_stop ss (k + 1) h]; conv => lhs; unfold mapGo
  rw [if_neg ht]
theorem map_last {ss : List (Int × Px)} {k : Nat} {t : Int} (h : k + 1 = ss.length) : mapGo (sat ss k, sco ss k) (ss.drop (k + 1)) t = sco ss k := by
  rw [h]; simp [mapGo]
theorem map_end {ss : List (Int × Px)} (ho : ∀ i : Nat, i < ss.length - 1 → sat ss i < sat ss (i + 1)) {t : Int} (hn : 0 < ss.length) (ht : sat ss (ss.length - 1) ≤ t) : ∀ m k, k + m + 1 = ss.length → mapGo (sat ss k, sco ss k) (ss.drop (k + 1)) t = sco ss (ss.length - 1) := by
  intro m
  induction m with
  | zero => intro k hk; rw [map_last (by omega), show ss.length - 1 = k by omega]
  | succ m ih =>
    intro k hk
    have hup : ∀ d j, j + d + 1 = ss.length → sat ss j ≤ sat ss (ss.length - 1) := by
      intro d
      induction d with
      | zero => intro j hj; rw [show ss.length - 1 = j by omega]; exact Int.le_refl _
      | succ d ih2 =>
        intro j hj
        have := ih2 (j + 1) (by omega)
        have := ho j (by omega)
        omega
    have := hup m (k + 1) (by omega)
    rw [map_next (by omega) (by omega)]
    exact ih (k + 1) (by omega)
theorem mapF_first {ss : List (Int × Px)} {t : Int} (h : t ≤ sat ss 0) : mapF ss t = sco ss 0 := by unfold mapF; rw [if_pos h]
theorem mapF_go {ss : List (Int × Px)} {t : Int} (h : ¬ t ≤ sat ss 0) : mapF ss t = mapGo (sat ss 0, sco ss 0) (ss.drop 1) t := by unfold mapF; rw [if_neg h]

/-- The stops of a valid adjustment. -/
structure StOk (ss : List (Int × Px)) : Prop where
  pos : 0 < ss.length
  few : ss.length ≤ 16
  rng : ∀ i : Nat, i < ss.length → (0 ≤ sat ss i ∧ sat ss i ≤ 65535) ∧ (sco ss i).ok
  ord : ∀ i : Nat, i < ss.length - 1 → sat ss i < sat ss (i + 1)
theorem AdjOk.stops {l : List Int} {ss : List (Int × Px)} (a : AdjOk 10 l ss) : StOk ss := ⟨a.map.2 rfl, a.few, a.rng.2.2, a.ord.2.2⟩

set_option maxHeartbeats 2000000 in
theorem mapped_first (ss : List (Int × Px)) (k : StOk ss) (v : Value) (t : Int) (w : World) (h : Stps w w.heap.size v ss) (ht : t ≤ sat ss 0) :
    Calls Tryd.prog 57 #[v, .int .i64 t] w (PxPost (mapF ss t) w) := by
  obtain ⟨b, o, c, rfl, hb, hc⟩ := h.form k.pos
  have hn := k.pos; have hn16 := k.few
  have E := Lib.hid (mapF_first ht)
  obtain ⟨c0, c1, c2, c3, c4⟩ := hc 0 hn
  simp only [Nat.zero_mul, Nat.add_zero] at c0 c1 c2 c3 c4
  clear hc h
  generalize sco ss 0 = p at *
  generalize sat ss 0 = s at *
  have hd : decide (t ≤ s) = true := by simp; exact ht
  clear ht
  go_enter Tryd.func57, Tryd.ntmps57
  go_upto_region 1 with fail
  obtain ⟨hb1, hB, -⟩ := one_box w #[.int .i64 0, .int .i64 0, .int .i64 0, .int .i64 0] 25 _ rfl
  replace c0 := (hB.cell (p := ⟨b, _, none⟩) hb).trans c0; replace c1 := (hB.cell (p := ⟨b, _, none⟩) hb).trans c1; replace c2 := (hB.cell (p := ⟨b, _, none⟩) hb).trans c2; replace c3 := (hB.cell (p := ⟨b, _, none⟩) hb).trans c3; replace c4 := (hB.cell (p := ⟨b, _, none⟩) hb).trans c4
  generalize World.alloc w _ = w0 at *
  obtain ⟨⟨r1, r2, r3, r4⟩, f1, f2, f3, f4⟩ := hb1.four
  clear hb1
  go_wp2_with fail
  refine bodyPost_ret (v := .agg #[.int .i64 p.r, .int .i64 p.g, .int .i64 p.b, .int .i64 p.a]) (by simp [results, Tryd.results57, go_sem, r1, r2, r3, r4]) rfl ⟨by rw [E.out], ?_⟩
  exact set4_below hB (Nat.le_refl _) _ _ _ _ _ _ _ _
set_option maxHeartbeats 2000000 in
theorem mapped_last (ss : List (Int × Px)) (k : StOk ss) (v : Value) (t : Int) (w : World) (h : Stps w w.heap.size v ss) (ht : ¬ t ≤ sat ss 0) (ht2 : sat ss (ss.length - 1) ≤ t) :
    Calls Tryd.prog 57 #[v, .int .i64 t] w (PxPost (mapF ss t) w) := by
  obtain ⟨b, o, c, rfl, hb, hc⟩ := h.form k.pos
  have hn := k.pos; have hn16 := k.few
  have E := Lib.hid (show mapF ss t = sco ss (ss.length - 1) by rw [mapF_go ht]; exact map_end k.ord hn ht2 (ss.length - 1) 0 (by omega))
  have c0 := (hc 0 hn).1
  simp only [Nat.zero_mul, Nat.add_zero] at c0
  obtain ⟨n, hnn⟩ : ∃ n : Nat, ss.length = n + 1 := ⟨ss.length - 1, by omega⟩
  obtain ⟨d0, d1, d2, d3, d4⟩ := hc (ss.length - 1) (by omega)
  have hd : decide (t ≤ sat ss 0) = false := by simp; omega
  have hd2 : decide (sat ss (ss.length - 1) ≤ t) = true := by simp; exact ht2
  clear hc h ht ht2
  rw [hnn] at E d0 d1 d2 d3 d4 hd2 ⊢
  rw [Nat.add_sub_cancel] at E d0 d1 d2 d3 d4 hd2
  have hn8 : n ≤ 15 := by omega
  have hi : ((n : Int) + 1) - 1 = (n : Int) := by omega
  generalize sco ss n = p at *
  generalize sat ss n = s at *
  generalize sat ss 0 = s0 at *
  clear hnn hn hn16
  go_enter Tryd.func57, Tryd.ntmps57
  go_upto_region 1 with fail
  obtain ⟨hb1, hB, -⟩ := one_box w #[.int .i64 0, .int .i64 0, .int .i64 0, .int .i64 0] 25 _ rfl
  replace c0 := (hB.cell (p := ⟨b, _, none⟩) hb).trans c0
  replace d0 := (hB.cell (p := ⟨b, _, none⟩) hb).trans d0; replace d1 := (hB.cell (p := ⟨b, _, none⟩) hb).trans d1; replace d2 := (hB.cell (p := ⟨b, _, none⟩) hb).trans d2; replace d3 := (hB.cell (p := ⟨b, _, none⟩) hb).trans d3; replace d4 := (hB.cell (p := ⟨b, _, none⟩) hb).trans d4
  generalize World.alloc w _ = w0 at *
  obtain ⟨⟨r1, r2, r3, r4⟩, f1, f2, f3, f4⟩ := hb1.four
  clear hb1
  have hk0 : (0 : Int) ≤ (n : Int) := by omega
  have hk1 : (n : Int) < (n : Int) + 1 := by omega
  go_wp2_with fail
  refine bodyPost_ret (v := .agg #[.int .i64 p.r, .int .i64 p.g, .int .i64 p.b, .int .i64 p.a]) (by simp [results, Tryd.results57, go_sem, r1, r2, r3, r4]) rfl ⟨by rw [E.out], ?_⟩
  exact set4_below hB (Nat.le_refl _) _ _ _ _ _ _ _ _
/-- The head of the loop that seeks the cell. -/
def MapRel (ss : List (Int × Px)) (t : Int) (w0 : World) (gh : Nat) (i : Value) (wr : World) : Prop :=
  ∃ k : Nat, k + 1 < ss.length ∧ gh = ss.length - k ∧ i = .int .i64 k ∧ wr = w0 ∧ sat ss k ≤ t ∧ mapF ss t = mapGo (sat ss k, sco ss k) (ss.drop (k + 1)) t
/-- Behind the statement that reads the two stops. -/
def MapMid (s1 : Int) (p1 : Px) (s2 : Int) (p2 : Px) (w0 : World) (v7 v8 : Value) (wx : World) : Prop :=
  ∃ g7 g8, v7 = .pointer (some ⟨g7, 0, none⟩) ∧ v8 = .pointer (some ⟨g8, 0, none⟩) ∧ Bx wx g7 63 #[.int .i64 s1, .int .i64 p1.r, .int .i64 p1.g, .int .i64 p1.b, .int .i64 p1.a] ∧ Bx wx g8 63 #[.int .i64 s2, .int .i64 p2.r, .int .i64 p2.g, .int .i64 p2.b, .int .i64 p2.a] ∧ Below w0.heap.size w0 wx
theorem Bx.five {w : World} {g : Nat} {t : TypeId} {a b c d e : Value} (h : Bx w g t #[a, b, c, d, e]) : w.cell? ⟨g, 0, none⟩ = some a ∧ w.cell? ⟨g, 1, none⟩ = some b ∧ w.cell? ⟨g, 2, none⟩ = some c ∧ w.cell? ⟨g, 3, none⟩ = some d ∧ w.cell? ⟨g, 4, none⟩ = some e := ⟨h.cell rfl, h.cell rfl, h.cell rfl, h.cell rfl, h.cell rfl⟩
theorem mapMid_1 (s1 : Int) (p1 : Px) (s2 : Int) (p2 : Px) (w0 : World) : MapMid s1 p1 s2 p2 w0 (.pointer (some ⟨w0.heap.size, 0, none⟩)) (.pointer (some ⟨w0.heap.size + 1, 0, none⟩)) ((w0.alloc (.cells #[.int .i64 s1, .int .i64 p1.r, .int .i64 p1.g, .int .i64 p1.b, .int .i64 p1.a] 63)).alloc (.cells #[.int .i64 s2, .int .i64 p2.r, .int .i64 p2.g, .int .i64 p2.b, .int .i64 p2.a] 63)).drew := by
  obtain ⟨a, b, c⟩ := two_boxes w0 #[.int .i64 s1, .int .i64 p1.r, .int .i64 p1.g, .int .i64 p1.b, .int .i64 p1.a] #[.int .i64 s2, .int .i64 p2.r, .int .i64 p2.g, .int .i64 p2.b, .int .i64 p2.a] 63 63 _ rfl
  exact ⟨_, _, rfl, rfl, a.drew, b.drew, c.drew⟩
theorem mapMid_2 (s1 : Int) (p1 : Px) (s2 : Int) (p2 : Px) (w0 : World) : MapMid s1 p1 s2 p2 w0 (.pointer (some ⟨w0.heap.size + 1, 0, none⟩)) (.pointer (some ⟨w0.heap.size, 0, none⟩)) ((w0.alloc (.cells #[.int .i64 s2, .int .i64 p2.r, .int .i64 p2.g, .int .i64 p2.b, .int .i64 p2.a] 63)).alloc (.cells #[.int .i64 s1, .int .i64 p1.r, .int .i64 p1.g, .int .i64 p1.b, .int .i64 p1.a] 63)).drew := by
  obtain ⟨a, b, c⟩ := two_boxes w0 #[.int .i64 s2, .int .i64 p2.r, .int .i64 p2.g, .int .i64 p2.b, .int .i64 p2.a] #[.int .i64 s1, .int .i64 p1.r, .int .i64 p1.g, .int .i64 p1.b, .int .i64 p1.a] 63 63 _ rfl
  exact ⟨_, _, rfl, rfl, b.drew, a.drew, c.drew⟩
set_option maxRecDepth 100000 in
set_option maxHeartbeats 4000000 in
theorem mapped_mid (ss : List (Int × Px)) (q : StOk ss) (v : Value) (t : Int) (w : World) (h : Stps w w.heap.size v ss) (ht0 : 0 ≤ t ∧ t ≤ 65535) (ht : ¬ t ≤ sat ss 0) (ht2 : ¬ sat ss (ss.length - 1) ≤ t)
    (TM : ∀ (p q : Px) (τ : Int) (w' : World), Calls Tryd.prog 74 #[.agg #[.int .i64 p.r, .int .i64 p.g, .int .i64 p.b, .int .i64 p.a], .agg #[.int .i64 q.r, .int .i64 q.g, .int .i64 q.b, .int .i64 q.a], .int .i64 τ] w' (PxPost (mixP p q τ) w')) :
    Calls Tryd.prog 57 #[v, .int .i64 t] w (PxPost (mapF ss t) w) := by
  obtain ⟨b, o, c, rfl, hb, hc⟩ := h.form q.pos
  have hn := q.pos; have hn16 := q.few
  have HC := Lib.hid hc
  have HQ := Lib.hid q
  have c0 := (hc 0 hn).1
  simp only [Nat.zero_mul, Nat.add_zero] at c0
  obtain ⟨n, hnn⟩ : ∃ n : Nat, ss.length = n + 1 := ⟨ss.length - 1, by omega⟩
  have d0 := (hc (ss.length - 1) (by omega)).1
  have hd : decide (t ≤ sat ss 0) = false := by simp; omega
  have hd2 : decide (sat ss (ss.length - 1) ≤ t) = false := by simp; omega
  have HT := Lib.hid (mapF_go ht)
  have HT2 := Lib.hid ht2
  clear hc h q ht2
  have HNN := Lib.hid hnn
  rw [show ss.length - 1 = n by omega] at d0 hd2
  have hi : (ss.length : Int) - 1 = (n : Int) := by omega
  have hk0 : (0 : Int) ≤ (n : Int) := by omega
  have hk1 : (n : Int) < (ss.length : Int) := by omega
  have hn0 : 0 < n := by
    rcases Nat.eq_zero_or_pos n with e | e
    · have := HT2.out
      rw [show ss.length - 1 = 0 by omega] at this
      omega
    · exact e
  have hts : sat ss 0 ≤ t := by omega
  clear hnn ht
  go_enter Tryd.func57, Tryd.ntmps57
  go_upto_region 1 with fail
  obtain ⟨hb1, hB, -⟩ := one_box w #[.int .i64 0, .int .i64 0, .int .i64 0, .int .i64 0] 25 _ rfl
  replace c0 := (hB.cell (p := ⟨b, _, none⟩) hb).trans c0
  replace d0 := (hB.cell (p := ⟨b, _, none⟩) hb).trans d0
  generalize World.alloc w _ = w0 at *
  have HB := Lib.hid hB; have HB1 := Lib.hid hb1; clear hB hb1
  go_wp2_with fail
  go_loopg [6] ss.length (MapRel ss t w0)
  case atStart => exact ⟨0, by omega, by omega, rfl, rfl, hts, HT.out⟩
  case round =>
    obtain ⟨k, hk, rfl, rfl, rfl, hsk, hm⟩ := hrel
    have HM := Lib.hid hm; clear hm c0 d0
    have e0 := (HB.out.cell (p := ⟨b, o + (k + 1) * 5, none⟩) hb).trans (HC.out (k + 1) (by omega)).1
    obtain ⟨j, hj⟩ : ∃ j : Nat, j = k + 1 := ⟨_, rfl⟩
    rw [← hj] at e0
    have hj0 : (k : Int) + 1 = (j : Int) := by omega
    have hj1 : (0 : Int) ≤ (j : Int) := by omega
    have hj2 : (j : Int) < (ss.length : Int) := by omega
    have hj3 : j ≤ 16 := by omega
    have hw0 : IntKind.i64.wrap (j : Int) = j := wrap_in _ (by omega)
    by_cases hlt : sat ss j ≤ t
    · have hk2 : j + 1 < ss.length := by
        rcases Nat.lt_or_ge (j + 1) ss.length with d | d
        · exact d
        · have := HT2.out
          rw [show ss.length - 1 = j by omega] at this
          omega
      have hd3 : decide (sat ss j ≤ t) = true := by simp; exact hlt
      have HJ := Lib.hid hj; clear hj
      go_wp2_with fail
      go_roundg (ss.length - j)
      case measure => have := HJ.out; omega
      case rel => exact ⟨j, hk2, rfl, by go_num, rfl, hlt, by rw [HM.out]; have := HJ.out; subst this; exact map_next (by omega) (by omega)⟩
    · have hd3 : decide (sat ss j ≤ t) = false := by simp; omega
      have E := Lib.hid (show mapF ss t = mixP (sco ss k) (sco ss j) (rdiv (65535 * (t - sat ss k)) (sat ss j - sat ss k)) by rw [HM.out]; subst hj; exact map_hit hk (by omega))
      obtain ⟨x0, x1, x2, x3, x4⟩ := HC.out k (by omega)
      obtain ⟨y0, y1, y2, y3, y4⟩ := HC.out j (by omega)
      have ha := (HQ.out.rng k (by omega)).1
      have hb' := (HQ.out.rng j (by omega)).1
      have hkk0 : (0 : Int) ≤ (k : Int) := by omega
      have hkk1 : (k : Int) < (ss.length : Int) := by omega
      have hlj : sat ss k < sat ss j := by omega
      clear e0 hj hlt HM HC HQ
      generalize sat ss k = s1 at *
      generalize sat ss j = s2 at *
      generalize sco ss k = p1 at *
      generalize sco ss j = p2 at *
      replace x0 := (HB.out.cell (p := ⟨b, _, none⟩) hb).trans x0; replace x1 := (HB.out.cell (p := ⟨b, _, none⟩) hb).trans x1; replace x2 := (HB.out.cell (p := ⟨b, _, none⟩) hb).trans x2; replace x3 := (HB.out.cell (p := ⟨b, _, none⟩) hb).trans x3; replace x4 := (HB.out.cell (p := ⟨b, _, none⟩) hb).trans x4
      replace y0 := (HB.out.cell (p := ⟨b, _, none⟩) hb).trans y0; replace y1 := (HB.out.cell (p := ⟨b, _, none⟩) hb).trans y1; replace y2 := (HB.out.cell (p := ⟨b, _, none⟩) hb).trans y2; replace y3 := (HB.out.cell (p := ⟨b, _, none⟩) hb).trans y3; replace y4 := (HB.out.cell (p := ⟨b, _, none⟩) hb).trans y4
      go_upto_region 9 with fail
      have hbl : b < wr.heap.size := Nat.lt_of_lt_of_le hb HB.out.size
      have hbl2 : b < wr.heap.size + 1 := by omega
      go_cut [7, 8] (MapMid s1 p1 s2 p2 wr)
      case first =>
        go_region
        all_goals (try go_wp2_with fail)
        all_goals go_meet
        · exact mapMid_1 _ _ _ _ _
        · exact mapMid_2 _ _ _ _ _
      case rest =>
        obtain ⟨g7, g8, rfl, rfl, hb7, hb8, hbb⟩ := hcut
        have hb1 := HB1.out.below hbb
        have hB := bel_trans HB.out hbb
        obtain ⟨x0, x1, x2, x3, x4⟩ := hb7.five
        obtain ⟨y0, y1, y2, y3, y4⟩ := hb8.five
        clear hb7 hb8 hbb HB HB1
        have HB := Lib.hid hB; have HB1 := Lib.hid hb1; clear hB hb1
        have hws : IntKind.i64.wrap (t - s1) = t - s1 := wrap_in _ (by omega)
        have hws2 : IntKind.i64.wrap (s2 - s1) = s2 - s1 := wrap_in _ (by omega)
        have hws3 : IntKind.i64.wrap (65535 * (t - s1)) = 65535 * (t - s1) := wrap_in _ (by omega)
        have D := Lib.hid (div_any (65535 * (t - s1)) (s2 - s1) wc.drew (by omega) (by omega) (by omega) (by omega))
        generalize rdiv (65535 * (t - s1)) (s2 - s1) = τ at *
        have HTM := Lib.hid (fun w' => TM p1 p2 τ w')
        generalize mixP p1 p2 τ = m at *
        go_wp2_with fail
        go_still_tail 15, (by kernel_rfl)
        still_call (still_of D.out)
        repeat still_step
        refine wpStill_nil ?_
        change wpList _ _ _ _ _ wc.drew
        have hB := HB.out.drew; have hb1 := HB1.out.drew
        clear x0 x1 x2 x3 x4 y0 y1 y2 y3 y4
        generalize wc.drew = w5 at *
        go_wp2_with fail
        refine (HTM.out _).mono ?_
        rintro e w6 ⟨rfl, hbb⟩
        obtain ⟨⟨r1, r2, r3, r4⟩, f1, f2, f3, f4⟩ := (hb1.below hbb).four
        have HBF := Lib.hid (bel_trans hB hbb)
        clear hbb hb1 hB
        go_wp2_with fail
        refine bodyPost_ret (v := .agg #[.int .i64 m.r, .int .i64 m.g, .int .i64 m.b, .int .i64 m.a]) (by simp [results, Tryd.results57, go_sem, r1, r2, r3, r4]) rfl ⟨by rw [E.out], ?_⟩
        exact set4_below HBF.out (Nat.le_refl _) _ _ _ _ _ _ _ _
end Go.Proofs.YtmbglkholoblaaaDoor
namespace Go.Proofs.YtmbglkholoblaaaDoor
open Go.RowKit

/-- Whatever lies in a cell. -/
def cv (w : World) (g j : Nat) : Value := (w.cell? ⟨g, j, none⟩).getD undef
/-- Since w0 only the box g of a pixel was written. -/
def RS (g : Nat) (w0 w' : World) : Prop := KB w0.heap.size g w0 w' ∧ ∃ a b c d, Bx w' g 25 #[a, b, c, d]
section
variable {g : Nat} {w0 w1 w2 : World}
theorem RS.start {a b c d : Value} (h : Bx w0 g 25 #[a, b, c, d]) : RS g w0 w0.drew := ⟨(KB.refl _ _ _).drew, a, b, c, d, h.drew⟩
theorem RS.call (h : RS g w0 w1) (hb : Below w1.heap.size w1 w2) : RS g w0 w2 := by
  obtain ⟨h1, a, b, c, d, h2⟩ := h
  exact ⟨h1.below hb h1.size, a, b, c, d, h2.below hb⟩
theorem RS.drewN (h : RS g w0 w1) (n : Nat) : RS g w0 (w1.drewN n) := h.call (Below.drewN' (Below.refl _ _) n)
theorem RS.put (h : RS g w0 w1) (a b c d : Value) : RS g w0 ((((w1.setCell ⟨g, 0, none⟩ a).setCell ⟨g, 1, none⟩ b).setCell ⟨g, 2, none⟩ c).setCell ⟨g, 3, none⟩ d) := by
  obtain ⟨h1, _, _, _, _, h2⟩ := h
  exact ⟨h1.set4 _ _ _ _ _ _ _ _, _, _, _, _, h2.put4 _ _ _ _⟩
theorem RS.cvs (h : RS g w0 w1) : (w1.cell? ⟨g, 0, none⟩ = some (cv w1 g 0) ∧ w1.cell? ⟨g, 1, none⟩ = some (cv w1 g 1) ∧ w1.cell? ⟨g, 2, none⟩ = some (cv w1 g 2) ∧ w1.cell? ⟨g, 3, none⟩ = some (cv w1 g 3)) ∧
    w1.frozen? ⟨g, 0, none⟩ = false ∧ w1.frozen? ⟨g, 1, none⟩ = false ∧ w1.frozen? ⟨g, 2, none⟩ = false ∧ w1.frozen? ⟨g, 3, none⟩ = false := by
  obtain ⟨_, a, b, c, d, h2⟩ := h
  obtain ⟨⟨r1, r2, r3, r4⟩, f⟩ := h2.four
  exact ⟨⟨by rw [cv, r1]; rfl, by rw [cv, r2]; rfl, by rw [cv, r3]; rfl, by rw [cv, r4]; rfl⟩, f⟩
theorem RS.bx {g' : Nat} {t : TypeId} {vs : Array Value} (h : RS g w0 w1) (hb : Bx w0 g' t vs) (hn : g' ≠ g) : Bx w1 g' t vs := h.1.bx hb hb.lt hn
theorem RS.bel {w : World} (h : RS g w0 w1) (hb : Below w.heap.size w w0) (hg : w.heap.size ≤ g) : Below w.heap.size w w1 := h.1.toBelow hb hg hb.size
end
/-- A function value that computes a color, from a world on. -/
def FnP (F : Nat) (caps : Array Value) (f : Px → Int × Int × Int) (w0 : World) : Prop :=
  ∀ w, Below w0.heap.size w0 w → ∀ p : Px, p.ok → Calls Tryd.prog F (#[.agg #[.int .i64 p.r, .int .i64 p.g, .int .i64 p.b, .int .i64 p.a]] ++ caps) w (ColPost (f p) w)
theorem FnP.on {F : Nat} {caps : Array Value} {f : Px → Int × Int × Int} {w0 w : World} (h : FnP F caps f w0) (hb : Below w0.heap.size w0 w) : FnP F caps f w := fun w' hb' p hp => h w' (hb.trans (hb'.mono hb.size)) p hp

set_option maxRecDepth 100000 in
set_option maxHeartbeats 4000000 in
theorem k6_any (F : Nat) (caps : Array Value) (f : Int → Int) (p : Px) (hp : p.ok) (g : Nat) (w : World) (hent : Ent F) (hf : FnI F caps f w) (hb : w.cell? ⟨g, 0, none⟩ = some (.func (.func F) #[] caps)) :
    Calls Tryd.prog 59 #[.agg #[.int .i64 p.r, .int .i64 p.g, .int .i64 p.b, .int .i64 p.a], .pointer (some ⟨g, 0, none⟩)] w (ColPost (f p.r, f p.g, f p.b) w) := by
  have hg : g < w.heap.size := World.block_lt_of_cell? w _ hb
  have hent : ∀ (args : Array Value) (w : World), (callFunc F args).run Tryd.prog w = .ok (.enter F args) w := hent
  have HF := Lib.hid hf; clear hf
  have HPR := Lib.hid (show 0 ≤ p.r ∧ p.r ≤ 65535 from hp.1); have HPG := Lib.hid (show 0 ≤ p.g ∧ p.g ≤ 65535 from hp.2.1); have HPB := Lib.hid (show 0 ≤ p.b ∧ p.b ≤ 65535 from hp.2.2.1); clear hp
  go_enter Tryd.func59, Tryd.ntmps59
  go_upto_region 1 with fail
  obtain ⟨hb2, hb3, hB⟩ := two_boxes w #[.int .i64 p.r, .int .i64 p.g, .int .i64 p.b, .int .i64 p.a] #[.int .i64 0, .int .i64 0, .int .i64 0, .int .i64 0] 25 25 _ rfl
  replace hb := (hB.cell (p := ⟨g, 0, none⟩) hg).trans hb
  have hgl := Nat.lt_of_lt_of_le hg hB.size
  generalize World.alloc (World.alloc w _) _ = w0 at *
  have HSA := Lib.hid (show ∀ wq, RS (w.heap.size + 1) w0 wq → RS (w.heap.size + 1) w0 wq ∧ wq.cell? ⟨g, 0, none⟩ = some (.func (.func F) #[] caps) ∧ wq.cell? ⟨w.heap.size, 0, none⟩ = some (.int .i64 p.r) ∧ wq.cell? ⟨w.heap.size, 1, none⟩ = some (.int .i64 p.g) ∧ wq.cell? ⟨w.heap.size, 2, none⟩ = some (.int .i64 p.b) ∧
      wq.cell? ⟨w.heap.size + 1, 0, none⟩ = some (cv wq (w.heap.size + 1) 0) ∧ wq.cell? ⟨w.heap.size + 1, 1, none⟩ = some (cv wq (w.heap.size + 1) 1) ∧ wq.cell? ⟨w.heap.size + 1, 2, none⟩ = some (cv wq (w.heap.size + 1) 2) ∧ wq.cell? ⟨w.heap.size + 1, 3, none⟩ = some (cv wq (w.heap.size + 1) 3) ∧
      wq.frozen? ⟨w.heap.size + 1, 0, none⟩ = false ∧ wq.frozen? ⟨w.heap.size + 1, 1, none⟩ = false ∧ wq.frozen? ⟨w.heap.size + 1, 2, none⟩ = false ∧ wq.frozen? ⟨w.heap.size + 1, 3, none⟩ = false from
    fun wq h => ⟨h, (h.1.cell (k := g) hgl (by omega)).trans hb, (h.bx hb2 (by omega)).four.1.1, (h.bx hb2 (by omega)).four.1.2.1, (h.bx hb2 (by omega)).four.1.2.2.1, h.cvs.1.1, h.cvs.1.2.1, h.cvs.1.2.2.1, h.cvs.1.2.2.2, h.cvs.2⟩)
  have HSP := Lib.hid (fun wq (h : RS (w.heap.size + 1) w0 wq) a b c d => HSA.out _ (h.put a b c d))
  have HFB := Lib.hid (show ∀ wq, RS (w.heap.size + 1) w0 wq → ∀ c, 0 ≤ c ∧ c ≤ 65535 → Calls Tryd.prog F (#[.int .i64 c] ++ caps) wq fun e w' => e = .returned (.int .i64 (f c)) ∧ Below wq.heap.size wq w' from fun wq h c hc => HF.out wq (h.bel hB (by omega)) c hc)
  have hBv : RS (w.heap.size + 1) w0 w0.drew := RS.start hb3
  have hS0 := HSA.out _ hBv
  have HB := Lib.hid hB
  clear hB hb2 hb3 hb HF
  go_region_held3 (fun wq => RS (w.heap.size + 1) w0 wq ∧ wq.cell? ⟨g, 0, none⟩ = some (.func (.func F) #[] caps) ∧ wq.cell? ⟨w.heap.size, 0, none⟩ = some (.int .i64 p.r) ∧ wq.cell? ⟨w.heap.size, 1, none⟩ = some (.int .i64 p.g) ∧ wq.cell? ⟨w.heap.size, 2, none⟩ = some (.int .i64 p.b) ∧
      wq.cell? ⟨w.heap.size + 1, 0, none⟩ = some (cv wq (w.heap.size + 1) 0) ∧ wq.cell? ⟨w.heap.size + 1, 1, none⟩ = some (cv wq (w.heap.size + 1) 1) ∧ wq.cell? ⟨w.heap.size + 1, 2, none⟩ = some (cv wq (w.heap.size + 1) 2) ∧ wq.cell? ⟨w.heap.size + 1, 3, none⟩ = some (cv wq (w.heap.size + 1) 3) ∧
      wq.frozen? ⟨w.heap.size + 1, 0, none⟩ = false ∧ wq.frozen? ⟨w.heap.size + 1, 1, none⟩ = false ∧ wq.frozen? ⟨w.heap.size + 1, 2, none⟩ = false ∧ wq.frozen? ⟨w.heap.size + 1, 3, none⟩ = false)
    (first | assumption | exact hS0 | exact HSA.out _ hBv | exact HSP.out _ hBv _ _ _ _ | go_keep)
    (first | ((with_reducible refine (HFB.out _ hBv p.r HPR.out).mono ?_); rintro e wv ⟨rfl, hbv⟩; have hBv := RS.call hBv hbv) | ((with_reducible refine (HFB.out _ hBv p.g HPG.out).mono ?_); rintro e wv ⟨rfl, hbv⟩; have hBv := RS.call hBv hbv) | ((with_reducible refine (HFB.out _ hBv p.b HPB.out).mono ?_); rintro e wv ⟨rfl, hbv⟩; have hBv := RS.call hBv hbv))
  obtain ⟨⟨r1, r2, r3, r4⟩, f1, f2, f3, f4⟩ := hBv.cvs
  go_wp2_with fail
  refine bodyPost_ret (v := .agg #[.int .i64 (f p.r), .int .i64 (f p.g), .int .i64 (f p.b), .int .i64 0]) (by simp [results, Tryd.results59, go_sem, r1, r2, r3, r4]) rfl ⟨0, rfl, ?_⟩
  exact set4_below (hBv.bel HB.out (by omega)) (by omega) _ _ _ _ _ _ _ _
end Go.Proofs.YtmbglkholoblaaaDoor
namespace Go.Proofs.YtmbglkholoblaaaDoor
open Go.RowKit

theorem mapped_any (ss : List (Int × Px)) (q : StOk ss) (v : Value) (t : Int) (w : World) (h : Stps w w.heap.size v ss) (ht0 : 0 ≤ t ∧ t ≤ 65535) :
    Calls Tryd.prog 57 #[v, .int .i64 t] w (PxPost (mapF ss t) w) := by
  by_cases h1 : t ≤ sat ss 0
  · exact mapped_first ss q v t w h h1
  · by_cases h2 : sat ss (ss.length - 1) ≤ t
    · exact mapped_last ss q v t w h h1 h2
    · exact mapped_mid ss q v t w h ht0 h1 h2 (fun p q τ w' => mix_any p q τ w')

set_option maxHeartbeats 1000000 in
theorem k1_core (b o c g : Nat) (p m : Px) (w : World) (hb : w.cell? ⟨g, 0, none⟩ = some (.slice (some ⟨b, o, none⟩) 3 c))
    (T : ∀ w', Below w.heap.size w w' → Calls Tryd.prog 49 #[.slice (some ⟨b, o, none⟩) 3 c, .agg #[.int .i64 p.r, .int .i64 p.g, .int .i64 p.b, .int .i64 p.a]] w' (PxPost m w')) :
    Calls Tryd.prog 48 #[.agg #[.int .i64 p.r, .int .i64 p.g, .int .i64 p.b, .int .i64 p.a], .pointer (some ⟨g, 0, none⟩)] w (ColPost (m.r, m.g, m.b) w) := by
  have HT := Lib.hid T; clear T
  have hg : g < w.heap.size := World.block_lt_of_cell? w _ hb
  go_enter Tryd.func48, Tryd.ntmps48
  go_upto_region 1 with fail
  obtain ⟨hb2, hb3, hB⟩ := two_boxes w #[.int .i64 p.r, .int .i64 p.g, .int .i64 p.b, .int .i64 p.a] #[.int .i64 0, .int .i64 0, .int .i64 0, .int .i64 0] 25 25 _ rfl
  replace hb := (hB.cell (p := ⟨g, 0, none⟩) hg).trans hb
  generalize World.alloc (World.alloc w _) _ = w0 at *
  obtain ⟨⟨i1, i2, i3, i4⟩, -⟩ := hb2.four
  go_wp2_with fail
  refine (HT.out _ hB).mono ?_
  rintro e w1 ⟨rfl, hbb⟩
  obtain ⟨⟨r1, r2, r3, r4⟩, f1, f2, f3, f4⟩ := (hb3.below hbb).four
  have HBF := Lib.hid (bel_trans hB hbb)
  clear hbb hB hb2 hb3 i1 i2 i3 i4
  go_wp2_with fail
  refine bodyPost_ret (v := .agg #[.int .i64 m.r, .int .i64 m.g, .int .i64 m.b, .int .i64 m.a]) (by simp [results, Tryd.results48, go_sem, r1, r2, r3, r4]) rfl ⟨m.a, rfl, ?_⟩
  exact set4_below HBF.out (by omega) _ _ _ _ _ _ _ _
set_option maxHeartbeats 1000000 in
theorem k3_core (b o c g : Nat) (p m : Px) (w : World) (hb : w.cell? ⟨g, 0, none⟩ = some (.slice (some ⟨b, o, none⟩) 9 c))
    (T : ∀ w', Below w.heap.size w w' → Calls Tryd.prog 54 #[.slice (some ⟨b, o, none⟩) 9 c, .agg #[.int .i64 p.r, .int .i64 p.g, .int .i64 p.b, .int .i64 p.a]] w' (PxPost m w')) :
    Calls Tryd.prog 53 #[.agg #[.int .i64 p.r, .int .i64 p.g, .int .i64 p.b, .int .i64 p.a], .pointer (some ⟨g, 0, none⟩)] w (ColPost (m.r, m.g, m.b) w) := by
  have HT := Lib.hid T; clear T
  have hg : g < w.heap.size := World.block_lt_of_cell? w _ hb
  go_enter Tryd.func53, Tryd.ntmps53
  go_upto_region 1 with fail
  obtain ⟨hb2, hb3, hB⟩ := two_boxes w #[.int .i64 p.r, .int .i64 p.g, .int .i64 p.b, .int .i64 p.a] #[.int .i64 0, .int .i64 0, .int .i64 0, .int .i64 0] 25 25 _ rfl
  replace hb := (hB.cell (p := ⟨g, 0, none⟩) hg).trans hb
  generalize World.alloc (World.alloc w _) _ = w0 at *
  obtain ⟨⟨i1, i2, i3, i4⟩, -⟩ := hb2.four
  go_wp2_with fail
  refine (HT.out _ hB).mono ?_
  rintro e w1 ⟨rfl, hbb⟩
  obtain ⟨⟨r1, r2, r3, r4⟩, f1, f2, f3, f4⟩ := (hb3.below hbb).four
  have HBF := Lib.hid (bel_trans hB hbb)
  clear hbb hB hb2 hb3 i1 i2 i3 i4
  go_wp2_with fail
  refine bodyPost_ret (v := .agg #[.int .i64 m.r, .int .i64 m.g, .int .i64 m.b, .int .i64 m.a]) (by simp [results, Tryd.results53, go_sem, r1, r2, r3, r4]) rfl ⟨m.a, rfl, ?_⟩
  exact set4_below HBF.out (by omega) _ _ _ _ _ _ _ _
theorem m_bd {a x : Int} (ha : -262140 ≤ a ∧ a ≤ 262140) (hx : 0 ≤ x ∧ x ≤ 65535) : -17179344900 ≤ a * x ∧ a * x ≤ 17179344900 := by
  have e1 : a * x ≤ 262140 * x := Int.mul_le_mul_of_nonneg_right ha.2 hx.1
  have e2 : (-262140) * x ≤ a * x := Int.mul_le_mul_of_nonneg_right ha.1 hx.1
  omega
set_option maxHeartbeats 2000000 in
theorem m1_any (b o c g g' : Nat) (i : Nat) (hi : i = 0 ∨ i = 3 ∨ i = 6) (x0 x1 x2 : Int) (p : Px) (w : World) (hp : p.ok) (h0 : -262140 ≤ x0 ∧ x0 ≤ 262140) (h1 : -262140 ≤ x1 ∧ x1 ≤ 262140) (h2 : -262140 ≤ x2 ∧ x2 ≤ 262140)
    (hb : w.cell? ⟨g, 0, none⟩ = some (.slice (some ⟨b, o, none⟩) 9 c)) (i1 : w.cell? ⟨g', 0, none⟩ = some (.int .i64 p.r)) (i2 : w.cell? ⟨g', 1, none⟩ = some (.int .i64 p.g)) (i3 : w.cell? ⟨g', 2, none⟩ = some (.int .i64 p.b))
    (c0 : w.cell? ⟨b, o + i, none⟩ = some (.int .i64 x0)) (c1 : w.cell? ⟨b, o + (i + 1), none⟩ = some (.int .i64 x1)) (c2 : w.cell? ⟨b, o + (i + 2), none⟩ = some (.int .i64 x2)) :
    Calls Tryd.prog 73 #[.int .i64 i, .pointer (some ⟨g, 0, none⟩), .pointer (some ⟨g', 0, none⟩)] w fun e w' => e = .returned (.int .i64 (lim16 (rdiv (dot3 x0 x1 x2 p) 65535))) ∧ ∃ n, w' = w.drewN n := by
  have m0 := m_bd h0 hp.1; have m1 := m_bd h1 hp.2.1; have m2 := m_bd h2 hp.2.2.1
  have D := Lib.hid (fun w' => div_any (x0 * p.r + x1 * p.g + x2 * p.b) 65535 w' (by omega) (by omega) (by omega) (by omega))
  have E := Lib.hid (show rdiv (x0 * p.r + x1 * p.g + x2 * p.b) 65535 = rdiv (dot3 x0 x1 x2 p) 65535 from rfl)
  generalize rdiv (x0 * p.r + x1 * p.g + x2 * p.b) 65535 = q at *
  rw [← E.out]
  clear E hp
  rcases hi with rfl | rfl | rfl
  all_goals
    simp only [Nat.add_zero, Nat.zero_add, Nat.reduceAdd] at c0 c1 c2
    go_enter Tryd.func73, Tryd.ntmps73
    go_wp2_with fail
    go_quiet (first | (go_at_call 34; exact quiet_tol (D.out _) ⟨_, rfl⟩) | (go_at_call 39; exact quiet_tol (aunit_any _ _) ⟨_, rfl⟩))
    go_wp2_with fail
    go_ret
    exact ⟨rfl, _, rfl⟩
end Go.Proofs.YtmbglkholoblaaaDoor
