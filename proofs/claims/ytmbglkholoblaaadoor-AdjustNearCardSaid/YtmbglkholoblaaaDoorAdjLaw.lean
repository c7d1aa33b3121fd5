/- Promises of the adjustments: values stay unit values; done twice; with default parameters. No program in sight. -/
import Derived.Test.YtmbglkholoblaaaDoorAdjDef
import Derived.Test.YtmbglkholoblaaaDoorCurveLaw
namespace Go.Proofs.YtmbglkholoblaaaDoor

theorem rdiv_in {a b q : Int} (hb : 0 < b) (h0 : 0 ≤ a) (h1 : a ≤ b * q) : 0 ≤ rdiv a b ∧ rdiv a b ≤ q := by
  have h := rdiv_spec a b hb
  constructor
  · rcases Int.lt_or_le (rdiv a b) 0 with c | c
    · have : b * rdiv a b ≤ b * (-1) := Int.mul_le_mul_of_nonneg_left (by omega) (by omega)
      omega
    · exact c
  · rcases Int.lt_or_le q (rdiv a b) with c | c
    · have : b * (q + 1) ≤ b * rdiv a b := Int.mul_le_mul_of_nonneg_left (by omega) (by omega)
      rw [Int.mul_add] at this
      omega
    · exact c
theorem rdiv_mul {b q : Int} (hb : 0 < b) : rdiv (b * q) b = q := by
  have h := rdiv_spec (b * q) b hb
  have h1 := rdiv_in (a := b * q - b * q) hb (by omega) (q := 0) (by omega)
  rcases Int.lt_trichotomy (rdiv (b * q) b) q with c | c | c
  · have : b * rdiv (b * q) b ≤ b * (q - 1) := Int.mul_le_mul_of_nonneg_left (by omega) (by omega)
    rw [Int.mul_sub] at this; omega
  · exact c
  · have : b * (q + 1) ≤ b * rdiv (b * q) b := Int.mul_le_mul_of_nonneg_left (by omega) (by omega)
    rw [Int.mul_add] at this; omega
theorem dot3_in {a b c : Int} {p : Px} (ha : 0 ≤ a) (hb : 0 ≤ b) (hc : 0 ≤ c) (hp : p.ok) : 0 ≤ dot3 a b c p ∧ dot3 a b c p ≤ (a + b + c) * 65535 := by
  obtain ⟨⟨r0, r1⟩, ⟨g0, g1⟩, ⟨b0, b1⟩, _⟩ := hp
  unfold dot3
  have e1 := Int.mul_nonneg ha r0; have e2 := Int.mul_nonneg hb g0; have e3 := Int.mul_nonneg hc b0
  have f1 : a * p.r ≤ a * 65535 := Int.mul_le_mul_of_nonneg_left r1 ha
  have f2 : b * p.g ≤ b * 65535 := Int.mul_le_mul_of_nonneg_left g1 hb
  have f3 : c * p.b ≤ c * 65535 := Int.mul_le_mul_of_nonneg_left b1 hc
  rw [Int.add_mul, Int.add_mul]
  omega
theorem lerp_in {a b t : Int} (ha : 0 ≤ a ∧ a ≤ 65535) (hb : 0 ≤ b ∧ b ≤ 65535) (ht : 0 ≤ t ∧ t ≤ 65535) : 0 ≤ lerp a b t ∧ lerp a b t ≤ 65535 := by
  have e1 : 0 ≤ a * (65535 - t) := Int.mul_nonneg ha.1 (by omega)
  have e2 : 0 ≤ b * t := Int.mul_nonneg hb.1 ht.1
  have f1 : a * (65535 - t) ≤ 65535 * (65535 - t) := Int.mul_le_mul_of_nonneg_right ha.2 (by omega)
  have f2 : b * t ≤ 65535 * t := Int.mul_le_mul_of_nonneg_right hb.2 ht.1
  exact rdiv_in (by omega) (by omega) (by omega)
theorem levU_pos {t g : Int} (ht : 0 ≤ t ∧ t ≤ 65535) (hg : 1 ≤ g ∧ g ≤ 256) : 0 < t * g + 16 * (65535 - t) ∧ 0 ≤ t * g ∧ t * g ≤ 16776960 := by
  have e1 : t * 1 ≤ t * g := Int.mul_le_mul_of_nonneg_left hg.1 ht.1
  have e2 : t * g ≤ 65535 * 256 := Int.mul_le_mul ht.2 hg.2 (by omega) (by omega)
  omega
theorem levU_in {t g : Int} (ht : 0 ≤ t ∧ t ≤ 65535) (hg : 1 ≤ g ∧ g ≤ 256) : 0 ≤ levU t g ∧ levU t g ≤ 65535 := by
  obtain ⟨h1, h2, h3⟩ := levU_pos ht hg
  unfold levU
  rw [Int.mul_assoc]
  refine rdiv_in h1 (by omega) ?_
  rw [Int.mul_comm (t * g + 16 * (65535 - t))]
  omega
theorem posF_in {n c : Int} (hn : 1 ≤ n ∧ n ≤ 255) (hc : 0 ≤ c ∧ c ≤ 65535) : (0 ≤ rdiv (c * n) 65535 ∧ rdiv (c * n) 65535 ≤ n) ∧ 0 ≤ posF n c ∧ posF n c ≤ 65535 := by
  have e1 : 0 ≤ c * n := Int.mul_nonneg hc.1 (by omega)
  have e2 : c * n ≤ 65535 * n := Int.mul_le_mul_of_nonneg_right hc.2 (by omega)
  have h := rdiv_in (a := c * n) (b := 65535) (q := n) (by omega) e1 e2
  refine ⟨h, ?_⟩
  unfold posF
  refine rdiv_in (by omega) (by omega) ?_
  generalize rdiv (c * n) 65535 = k at *
  have : k * 65535 ≤ n * 65535 := Int.mul_le_mul_of_nonneg_right h.2 (by omega)
  omega
theorem posF_twice {n c : Int} (hn : 1 ≤ n ∧ n ≤ 255) (hc : 0 ≤ c ∧ c ≤ 65535) : posF n (posF n c) = posF n c := by
  obtain ⟨⟨k0, k1⟩, p0, p1⟩ := posF_in hn hc
  have h : rdiv (posF n c * n) 65535 = rdiv (c * n) 65535 := by
    have s := rdiv_spec (rdiv (c * n) 65535 * 65535) n (by omega)
    have e : posF n c = rdiv (rdiv (c * n) 65535 * 65535) n := rfl
    rw [← e] at s
    have s2 := rdiv_spec (posF n c * n) 65535 (by omega)
    rw [Int.mul_comm n] at s
    generalize posF n c * n = z at *
    generalize rdiv (c * n) 65535 = k at *
    omega
  show rdiv (rdiv (posF n c * n) 65535 * 65535) n = _
  rw [h]; rfl
theorem luma_in {p : Px} (hp : p.ok) : luma p = rdiv (dot3 13933 46871 4731 p) 65535 ∧ 0 ≤ luma p ∧ luma p ≤ 65535 := by
  have e : luma p = rdiv (dot3 13933 46871 4731 p) 65535 := by
    unfold luma dot3
    dsimp only
    rw [lim16_id _ hp.1, lim16_id _ hp.2.1, lim16_id _ hp.2.2.1]
  have := dot3_in (a := 13933) (b := 46871) (c := 4731) (by omega) (by omega) (by omega) hp
  have h := rdiv_in (a := dot3 13933 46871 4731 p) (b := 65535) (q := 65535) (by omega) (by omega) (by omega)
  rw [e]
  exact ⟨rfl, h⟩
theorem mixP_ok {a b : Px} (t : Int) : (mixP a b t).ok := by
  unfold mixP
  dsimp only
  have ha := lim16_bd a.a; have hb := lim16_bd b.a; have ht := lim16_bd t
  have e1 : 0 ≤ lim16 a.a * (65535 - lim16 t) := Int.mul_nonneg ha.1 (by omega)
  have e2 : 0 ≤ lim16 b.a * lim16 t := Int.mul_nonneg hb.1 ht.1
  have f1 : lim16 a.a * (65535 - lim16 t) ≤ 65535 * (65535 - lim16 t) := Int.mul_le_mul_of_nonneg_right ha.2 (by omega)
  have f2 : lim16 b.a * lim16 t ≤ 65535 * lim16 t := Int.mul_le_mul_of_nonneg_right hb.2 ht.1
  generalize lim16 a.a * (65535 - lim16 t) = u at *
  generalize lim16 b.a * lim16 t = v at *
  by_cases hz : rdiv (u + v) 65535 = 0
  · rw [if_pos hz]; decide
  · rw [if_neg hz]
    have hd : 0 < u + v := by
      rcases Int.lt_or_le 0 (u + v) with c | c
      · exact c
      · exact absurd (by rw [show u + v = 0 by omega]; decide) hz
    have key : ∀ x y : Int, (0 ≤ lim16 x * u + lim16 y * v) ∧ lim16 x * u + lim16 y * v ≤ (u + v) * 65535 := by
      intro x y
      have hx := lim16_bd x; have hy := lim16_bd y
      have g1 := Int.mul_nonneg hx.1 e1; have g2 := Int.mul_nonneg hy.1 e2
      have h1 : lim16 x * u ≤ 65535 * u := Int.mul_le_mul_of_nonneg_right hx.2 e1
      have h2 : lim16 y * v ≤ 65535 * v := Int.mul_le_mul_of_nonneg_right hy.2 e2
      rw [Int.add_mul]
      omega
    exact ⟨rdiv_in hd (key _ _).1 (key _ _).2, rdiv_in hd (key _ _).1 (key _ _).2, rdiv_in hd (key _ _).1 (key _ _).2, rdiv_in (by omega) (by omega) (by omega)⟩
theorem mapGo_ok (r : List (Int × Px)) (p : Int × Px) (t : Int) (hp : p.2.ok) (hr : ∀ q ∈ r, q.2.ok) : (mapGo p r t).ok := by
  induction r generalizing p with
  | nil => exact hp
  | cons q r ih =>
    unfold mapGo
    split
    · exact mixP_ok _
    · exact ih q (hr q (by simp)) fun x hx => hr x (by simp [hx])
theorem mapF_ok {ss : List (Int × Px)} (h : ∀ i, i < ss.length → (sco ss i).ok) (t : Int) : (mapF ss t).ok := by
  have h0 : (sco ss 0).ok := by
    cases ss with
    | nil => decide
    | cons q r => exact h 0 (by simp)
  unfold mapF
  split
  · exact h0
  · refine mapGo_ok _ _ _ h0 fun q hq => ?_
    have := List.mem_of_mem_drop hq
    obtain ⟨i, hi, rfl⟩ := List.getElem_of_mem this
    have := h i hi
    simpa [sco, hi] using this
theorem fromH_ok (h s l a : Int) : (fromH h s l a).ok := by
  unfold fromH
  split
  · decide
  · unfold fromHsl
    exact ⟨lim16_bd _, lim16_bd _, lim16_bd _, lim16_bd _⟩

/-- What a check without error says. -/
structure AdjOk (kind : Int) (l : List Int) (ss : List (Int × Px)) : Prop where
  lo : 1 ≤ kind
  hi : kind ≤ 11
  cnt : cntOk kind l.length = true
  map : (0 < ss.length) ↔ kind = 10
  few : ss.length ≤ 16
  rng : RngOk kind l ss
  ord : OrdOk kind l ss
theorem achk_iff (kind : Int) (l : List Int) (ss : List (Int × Px)) : achk kind l ss = 0 ↔ AdjOk kind l ss := by
  unfold achk rngB ordB
  constructor
  · intro h
    split at h
    · omega
    · rename_i h1
      split at h
      · omega
      · rename_i h2
        split at h
        · omega
        · rename_i h3
          split at h
          · omega
          · rename_i h4
            split at h
            · omega
            · rename_i h5
              rw [not_or] at h2
              exact ⟨by omega, by omega, by simpa using h2.1, by simpa using h2.2, by omega, by simpa using h4, by simpa using h5⟩
  · intro a
    rw [if_neg (by have := a.lo; have := a.hi; omega), if_neg, if_neg (by have := a.few; omega), if_neg (by simpa using a.rng), if_neg (by simpa using a.ord)]
    rw [not_or]
    exact ⟨by simp [a.cnt], by simpa using a.map⟩
section
variable {kind : Int} {l : List Int} {ss : List (Int × Px)}
/-- The knots of the parameters are a curve. -/
theorem AdjOk.knots (a : AdjOk kind l ss) (h : kind = 3) : Good (knots l) := by
  subst h
  have hc := a.cnt
  simp [cntOk] at hc
  obtain ⟨h1, h2, h3⟩ := hc
  have hk : ∀ i, i < l.length / 2 → kx (Go.Proofs.YtmbglkholoblaaaDoor.knots l) i = prm l (2 * i) ∧ ky (Go.Proofs.YtmbglkholoblaaaDoor.knots l) i = prm l (2 * i + 1) := by
    intro i hi
    simp [kx, ky, Go.Proofs.YtmbglkholoblaaaDoor.knots, hi]
  have hlen : (Go.Proofs.YtmbglkholoblaaaDoor.knots l).length = l.length / 2 := by simp [Go.Proofs.YtmbglkholoblaaaDoor.knots]
  have hr := a.rng.1
  refine ⟨by omega, by omega, fun i hi => ?_, fun i hi => ?_⟩
  · rw [(hk i (by omega)).1, (hk i (by omega)).2]
    have u := hr (2 * i) (by omega); have v := hr (2 * i + 1) (by omega)
    simp [spLo, spHi] at u v
    omega
  · rw [(hk i (by omega)).1, (hk (i + 1) (by omega)).1]
    exact a.ord.2.1 rfl i (by omega)
theorem AdjOk.prm {i : Nat} (a : AdjOk kind l ss) (h : i < l.length) : spLo kind i ≤ prm l i ∧ prm l i ≤ spHi kind i := a.rng.1 i h
theorem AdjOk.len (a : AdjOk kind l ss) : (kind = 2 → l.length = 5) ∧ (kind = 4 → l.length = 2) ∧ (kind = 11 → l.length = 2) ∧ (kind = 5 → l.length = 3) ∧ (kind = 9 → l.length = 3) ∧ (kind = 6 → l.length = 1) ∧ (kind = 7 → l.length = 1) ∧ (kind = 8 → l.length = 9) := by
  have hc := a.cnt
  refine ⟨?_, ?_, ?_, ?_, ?_, ?_, ?_, ?_⟩ <;> (intro h; subst h; simpa [cntOk] using hc)
theorem AdjOk.p2 (a : AdjOk 2 l ss) : (0 ≤ Go.Proofs.YtmbglkholoblaaaDoor.prm l 0 ∧ Go.Proofs.YtmbglkholoblaaaDoor.prm l 0 < Go.Proofs.YtmbglkholoblaaaDoor.prm l 1 ∧ Go.Proofs.YtmbglkholoblaaaDoor.prm l 1 ≤ 65535) ∧ (1 ≤ Go.Proofs.YtmbglkholoblaaaDoor.prm l 2 ∧ Go.Proofs.YtmbglkholoblaaaDoor.prm l 2 ≤ 256) ∧ (0 ≤ Go.Proofs.YtmbglkholoblaaaDoor.prm l 3 ∧ Go.Proofs.YtmbglkholoblaaaDoor.prm l 3 ≤ 65535) ∧ (0 ≤ Go.Proofs.YtmbglkholoblaaaDoor.prm l 4 ∧ Go.Proofs.YtmbglkholoblaaaDoor.prm l 4 ≤ 65535) := by
  have hn := a.len.1 rfl
  have h0 := a.prm (i := 0) (by omega); have h1 := a.prm (i := 1) (by omega); have h2 := a.prm (i := 2) (by omega); have h3 := a.prm (i := 3) (by omega); have h4 := a.prm (i := 4) (by omega)
  have ho := a.ord.1
  simp [spLo, spHi] at h0 h1 h2 h3 h4 ho
  omega
theorem AdjOk.p4 (a : AdjOk 4 l ss) : (-65535 ≤ Go.Proofs.YtmbglkholoblaaaDoor.prm l 0 ∧ Go.Proofs.YtmbglkholoblaaaDoor.prm l 0 ≤ 65535) ∧ (-65535 ≤ Go.Proofs.YtmbglkholoblaaaDoor.prm l 1 ∧ Go.Proofs.YtmbglkholoblaaaDoor.prm l 1 ≤ 65535) := by
  have hn := a.len.2.1 rfl
  have h0 := a.prm (i := 0) (by omega); have h1 := a.prm (i := 1) (by omega)
  simp [spLo, spHi] at h0 h1
  omega
theorem AdjOk.p5 (a : AdjOk 5 l ss) : (-32768 ≤ Go.Proofs.YtmbglkholoblaaaDoor.prm l 0 ∧ Go.Proofs.YtmbglkholoblaaaDoor.prm l 0 ≤ 32768) ∧ (-65535 ≤ Go.Proofs.YtmbglkholoblaaaDoor.prm l 1 ∧ Go.Proofs.YtmbglkholoblaaaDoor.prm l 1 ≤ 65535) ∧ (-65535 ≤ Go.Proofs.YtmbglkholoblaaaDoor.prm l 2 ∧ Go.Proofs.YtmbglkholoblaaaDoor.prm l 2 ≤ 65535) := by
  have hn := a.len.2.2.2.1 rfl
  have h0 := a.prm (i := 0) (by omega); have h1 := a.prm (i := 1) (by omega); have h2 := a.prm (i := 2) (by omega)
  simp [spLo, spHi] at h0 h1 h2
  omega
theorem AdjOk.p6 (a : AdjOk 6 l ss) : 0 ≤ Go.Proofs.YtmbglkholoblaaaDoor.prm l 0 ∧ Go.Proofs.YtmbglkholoblaaaDoor.prm l 0 ≤ 65535 := by
  have hn := a.len.2.2.2.2.2.1 rfl
  have h0 := a.prm (i := 0) (by omega)
  simp [spLo, spHi] at h0
  omega
theorem AdjOk.p7 (a : AdjOk 7 l ss) : 2 ≤ Go.Proofs.YtmbglkholoblaaaDoor.prm l 0 ∧ Go.Proofs.YtmbglkholoblaaaDoor.prm l 0 ≤ 256 := by
  have hn := a.len.2.2.2.2.2.2.1 rfl
  have h0 := a.prm (i := 0) (by omega)
  simp [spLo, spHi] at h0
  omega
theorem AdjOk.p8 (a : AdjOk 8 l ss) (i : Nat) (hi : i < 9) : -262140 ≤ Go.Proofs.YtmbglkholoblaaaDoor.prm l i ∧ Go.Proofs.YtmbglkholoblaaaDoor.prm l i ≤ 262140 := by
  have hn := a.len.2.2.2.2.2.2.2 rfl
  have h0 := a.prm (i := i) (by omega)
  simp [spLo, spHi] at h0
  omega
theorem AdjOk.p9 (a : AdjOk 9 l ss) : (0 ≤ Go.Proofs.YtmbglkholoblaaaDoor.prm l 0 ∧ Go.Proofs.YtmbglkholoblaaaDoor.prm l 0 ≤ 65535) ∧ (0 ≤ Go.Proofs.YtmbglkholoblaaaDoor.prm l 1 ∧ Go.Proofs.YtmbglkholoblaaaDoor.prm l 1 ≤ 65535) ∧ (0 ≤ Go.Proofs.YtmbglkholoblaaaDoor.prm l 2 ∧ Go.Proofs.YtmbglkholoblaaaDoor.prm l 2 ≤ 65535) ∧ 0 < Go.Proofs.YtmbglkholoblaaaDoor.prm l 0 + Go.Proofs.YtmbglkholoblaaaDoor.prm l 1 + Go.Proofs.YtmbglkholoblaaaDoor.prm l 2 := by
  have hn := a.len.2.2.2.2.1 rfl
  have h0 := a.prm (i := 0) (by omega); have h1 := a.prm (i := 1) (by omega); have h2 := a.prm (i := 2) (by omega)
  have h3 := a.rng.2.1
  simp [spLo, spHi] at h0 h1 h2 h3
  omega
theorem AdjOk.p11 (a : AdjOk 11 l ss) : (-128 ≤ Go.Proofs.YtmbglkholoblaaaDoor.prm l 0 ∧ Go.Proofs.YtmbglkholoblaaaDoor.prm l 0 ≤ 128) ∧ (-65535 ≤ Go.Proofs.YtmbglkholoblaaaDoor.prm l 1 ∧ Go.Proofs.YtmbglkholoblaaaDoor.prm l 1 ≤ 65535) := by
  have hn := a.len.2.2.1 rfl
  have h0 := a.prm (i := 0) (by omega); have h1 := a.prm (i := 1) (by omega)
  simp [spLo, spHi] at h0 h1
  omega
theorem sing_in (a : AdjOk kind l ss) {c : Int} (hc : 0 ≤ c ∧ c ≤ 65535) : 0 ≤ sing kind l c ∧ sing kind l c ≤ 65535 := by
  unfold sing
  split
  · rename_i h; subst h
    obtain ⟨_, h2, h3, h4⟩ := a.p2
    exact lerp_in h3 h4 (levU_in (lim16_bd _) h2)
  · split
    · rename_i h
      unfold cat
      split
      · exact val_unit _ (a.knots h) _
      · omega
    · split
      · exact lim16_bd _
      · split
        · rename_i h; subst h
          have := a.p7
          exact (posF_in (by omega) hc).2
        · split
          · exact lim16_bd _
          · omega
theorem colF_ok (a : AdjOk kind l ss) {p : Px} (hp : p.ok) : (⟨(colF kind l ss p).1, (colF kind l ss p).2.1, (colF kind l ss p).2.2, p.a⟩ : Px).ok := by
  have hpa := hp.2.2.2
  unfold colF
  split
  · have := fromH_ok ((toH p).1 + Go.Proofs.YtmbglkholoblaaaDoor.prm l 0) (lim16 (rdiv ((toH p).2.1 * (65535 + Go.Proofs.YtmbglkholoblaaaDoor.prm l 1)) 65535)) (hueL (Go.Proofs.YtmbglkholoblaaaDoor.prm l 2) (toH p).2.2) p.a
    exact ⟨this.1, this.2.1, this.2.2.1, hpa⟩
  · split
    · have : 0 ≤ thrF l p ∧ thrF l p ≤ 65535 := by unfold thrF; split <;> omega
      exact ⟨this, this, this, hpa⟩
    · split
      · exact ⟨lim16_bd _, lim16_bd _, lim16_bd _, hpa⟩
      · split
        · rename_i h; subst h
          obtain ⟨h0, h1, h2, h3⟩ := a.p9
          have := dot3_in (a := Go.Proofs.YtmbglkholoblaaaDoor.prm l 0) (b := Go.Proofs.YtmbglkholoblaaaDoor.prm l 1) (c := Go.Proofs.YtmbglkholoblaaaDoor.prm l 2) h0.1 h1.1 h2.1 hp
          have := rdiv_in h3 this.1 this.2
          exact ⟨this, this, this, hpa⟩
        · split
          · have := mapF_ok (ss := ss) (fun i hi => (a.rng.2.2 i hi).2) (luma p)
            exact ⟨this.1, this.2.1, this.2.2.1, hpa⟩
          · exact ⟨sing_in a hp.1, sing_in a hp.2.1, sing_in a hp.2.2.1, hpa⟩
theorem appF_ok (a : AdjOk kind l ss) {p : Px} (hp : p.ok) : (appF kind l ss p).ok ∧ (p.a ≠ 0 → (appF kind l ss p).a = p.a) := by
  unfold appF
  split
  · rename_i h; exact ⟨by decide, fun h' => absurd h h'⟩
  · exact ⟨colF_ok a hp, fun _ => rfl⟩
end
/-- Done twice. -/
theorem inv_twice {p : Px} (ha : p.a ≠ 0) : appF 1 [] [] (appF 1 [] [] p) = p := by
  unfold appF
  rw [if_neg ha]
  dsimp only
  rw [if_neg ha]
  simp [colF, sing]
  cases p
  simp
  omega
theorem thr_twice {l : List Int} {p : Px} (hp : p.ok) (ha : p.a ≠ 0) (h0 : 0 ≤ prm l 0 ∧ prm l 0 ≤ 65535) : appF 6 l [] (appF 6 l [] p) = appF 6 l [] p := by
  unfold appF
  rw [if_neg ha]
  dsimp only
  rw [if_neg ha]
  simp only [colF]
  have hl := (luma_in hp).2
  have key : thrF l ⟨thrF l p, thrF l p, thrF l p, p.a⟩ = thrF l p := by
    have hb : 0 ≤ thrF l p ∧ thrF l p ≤ 65535 := by unfold thrF; split <;> omega
    have e := (luma_in (p := ⟨thrF l p, thrF l p, thrF l p, p.a⟩) ⟨hb, hb, hb, hp.2.2.2⟩).1
    have e2 : luma ⟨thrF l p, thrF l p, thrF l p, p.a⟩ = thrF l p := by
      rw [e]; unfold dot3; dsimp only
      rw [show 13933 * thrF l p + 46871 * thrF l p + 4731 * thrF l p = 65535 * thrF l p by omega, rdiv_mul (by omega)]
    have d : thrF l ⟨thrF l p, thrF l p, thrF l p, p.a⟩ = if prm l 0 ≤ thrF l p then 65535 else 0 := by
      show (if prm l 0 ≤ luma ⟨thrF l p, thrF l p, thrF l p, p.a⟩ then (65535 : Int) else 0) = _
      rw [e2]
    rw [d]
    unfold thrF
    split
    · rw [if_pos (by omega)]
    · rw [if_neg (by omega)]
  simp [key]
theorem pos_twice {l : List Int} {p : Px} (hp : p.ok) (ha : p.a ≠ 0) (h0 : 2 ≤ prm l 0 ∧ prm l 0 ≤ 256) : appF 7 l [] (appF 7 l [] p) = appF 7 l [] p := by
  unfold appF
  rw [if_neg ha]
  dsimp only
  rw [if_neg ha]
  simp [colF, sing, posF_twice (n := prm l 0 - 1) (by omega) hp.1, posF_twice (n := prm l 0 - 1) (by omega) hp.2.1, posF_twice (n := prm l 0 - 1) (by omega) hp.2.2.1]
theorem gray_twice {l : List Int} {p : Px} (ha : p.a ≠ 0) (h0 : 0 < prm l 0 + prm l 1 + prm l 2) : appF 9 l [] (appF 9 l [] p) = appF 9 l [] p := by
  unfold appF
  rw [if_neg ha]
  dsimp only
  rw [if_neg ha]
  simp only [colF]
  generalize rdiv (dot3 (prm l 0) (prm l 1) (prm l 2) p) (prm l 0 + prm l 1 + prm l 2) = c
  have : rdiv (dot3 (prm l 0) (prm l 1) (prm l 2) ⟨c, c, c, p.a⟩) (prm l 0 + prm l 1 + prm l 2) = c := by
    unfold dot3
    dsimp only
    rw [← Int.add_mul, ← Int.add_mul, rdiv_mul h0]
  simp [this]
/-- With default parameters nothing changes. -/
theorem same_of {k : Int} {p : Px} (ha : p.a ≠ 0) (h : colF k (dfl k) [] p = (p.r, p.g, p.b)) : appF k (dfl k) [] p = p := by
  unfold appF
  rw [if_neg ha, h]
theorem lev_same {c : Int} (hc : 0 ≤ c ∧ c ≤ 65535) : levF [0, 65535, 16, 0, 65535] c = c := by
  have e1 : levT [0, 65535, 16, 0, 65535] c = c := by
    show lim16 (rdiv ((c - 0) * 65535) (65535 - 0)) = c
    rw [Int.sub_zero, Int.sub_zero, Int.mul_comm, rdiv_mul (by omega), lim16_id _ hc]
  have e2 : levU c 16 = c := by
    unfold levU
    rw [show c * 16 + 16 * (65535 - c) = 1048560 by omega, show 65535 * c * 16 = 1048560 * c by omega, rdiv_mul (by omega)]
  show lerp 0 65535 (levU (levT [0, 65535, 16, 0, 65535] c) 16) = c
  rw [e1, e2]
  unfold lerp
  rw [Int.zero_mul, Int.zero_add, rdiv_mul (by omega)]
theorem cat_same {c : Int} (hc : 0 ≤ c ∧ c ≤ 65535) : cat (knots [0, 0, 65535, 65535]) c = c := by
  have e : knots [0, 0, 65535, 65535] = [(0, 0), (65535, 65535)] := by decide
  rw [e]
  unfold cat
  rw [if_pos (by decide)]
  unfold val
  simp only [kx, ky, List.getD_cons_zero, List.drop_succ_cons, List.drop_zero]
  split
  · omega
  · simp only [valGo, lin]
    split
    · rw [Int.sub_zero, Int.sub_zero, rdiv_mul (by omega)]; omega
    · omega
theorem bri_same {c : Int} (hc : 0 ≤ c ∧ c ≤ 65535) : briF [0, 0] c = c := by
  show lim16 (32768 + rdiv ((c + 0 - 32768) * (65535 + 0)) 65535) = c
  rw [Int.add_zero, Int.add_zero, Int.mul_comm, rdiv_mul (by omega), show 32768 + (c - 32768) = c by omega, lim16_id _ hc]
theorem exp_same {c : Int} (hc : 0 ≤ c ∧ c ≤ 65535) : expF [0, 0] c = c := by
  show lim16 (expD 0 c + 0) = c
  have : expD 0 c = c := by
    show rdiv (c * 65536 * 1) 65536 = c
    rw [Int.mul_one, Int.mul_comm, rdiv_mul (by omega)]
  rw [this, Int.add_zero, lim16_id _ hc]
theorem nothing_same {k : Int} (hk : k = 2 ∨ k = 3 ∨ k = 4 ∨ k = 8 ∨ k = 11) {p : Px} (hp : p.ok) (ha : p.a ≠ 0) : appF k (dfl k) [] p = p := by
  refine same_of ha ?_
  obtain ⟨h1, h2, h3, _⟩ := hp
  rcases hk with rfl | rfl | rfl | rfl | rfl
  · simp [colF, sing, dfl, lev_same h1, lev_same h2, lev_same h3]
  · simp [colF, sing, dfl, cat_same h1, cat_same h2, cat_same h3]
  · simp [colF, sing, dfl, bri_same h1, bri_same h2, bri_same h3]
  · have e : ∀ c : Int, 0 ≤ c ∧ c ≤ 65535 → lim16 (rdiv (65535 * c) 65535) = c := fun c hc => by rw [rdiv_mul (by omega), lim16_id _ hc]
    simp [colF, dfl, prm, dot3, e _ h1, e _ h2, e _ h3]
  · simp [colF, sing, dfl, exp_same h1, exp_same h2, exp_same h3]
theorem nothing_ok {k : Int} (hk : k = 2 ∨ k = 3 ∨ k = 4 ∨ k = 8 ∨ k = 11) : achk k (dfl k) [] = 0 := by
  rcases hk with rfl | rfl | rfl | rfl | rfl <;> decide +kernel
end Go.Proofs.YtmbglkholoblaaaDoor
