/- A region that draws its order: some operations (the head) keep an invariant of the world and have each one value; the first of the others waits for all of them. No program in sight. -/
import Derived.Test.YtineinmghajmnaaMK
namespace Go.Proofs.Ytineinmghajmnaa
open Go
variable {P : Program} {ops : Array Oper} {md : Region.Mode} {I : World → Prop}
/-- The head's operations in any order. -/
def wpAnyJ (P : Program) (md : Region.Mode) (ops : Array Oper) (I : World → Prop) (hd : Nat → Bool) (L : Array Bool → Act → Prop) : Nat → Array Bool → Act → Prop
  | 0, listed, a => L listed a
  | f + 1, listed, a => Region.ready md ops listed ≠ [] ∧ ∀ i ∈ Region.ready md ops listed, hd i = true ∧ ∃ o v, ops[i]? = some o ∧ YI P ops I o v a ∧ wpAnyJ P md ops I hd L f (listed.setIfInBounds i true) (a.put o.dst v)
theorem wpAny_ofJ {hd : Nat → Bool} {g : Nat} {L : Array Bool → Act → Prop} {Q' : Exit → Act → World → Prop} (hL : ∀ listed a, L listed a → ∀ w, I w → wpAny P md ops Q' g listed a w) :
    ∀ (f : Nat) (listed : Array Bool) (a : Act), wpAnyJ P md ops I hd L f listed a → ∀ w, I w → wpAny P md ops Q' (f + g) listed a w
  | 0, listed, a, h, w, hw => by rw [Nat.zero_add]; exact hL _ _ h _ hw
  | f + 1, listed, a, h, w, hw => by
    rw [show f + 1 + g = (f + g) + 1 by omega]
    refine ⟨fun h0 => absurd h0 h.1, fun i hi => ?_⟩
    obtain ⟨_, o, v, ho, ⟨hwt, hy⟩, H⟩ := h.2 i hi
    unfold wpOp
    simp only [ho, hwt, if_true]
    left
    unfold Oper.wp
    rcases hy w hw with hr | ⟨fn, args, hr, hc⟩
    · rw [hr]
      simp only [Oper.upon]
      exact wpAny_ofJ hL f _ _ H w hw
    · rw [hr]
      simp only [Oper.upon]
      exact hc.mono fun e w' ⟨he, hi'⟩ => by subst he; exact wpAny_ofJ hL f _ _ H w' hi'
structure HeadJ (md : Region.Mode) (ops : Array Oper) (hd : Nat → Bool) (l0 listed : Array Bool) : Prop where
  size : listed.size = ops.size
  closed : ∀ j oj, ops[j]? = some oj → listed.getD j false = true → ∀ e ∈ oj.after, Region.binds md e = true → listed.getD e.on false = true
  sub : ∀ i, l0.getD i false = true → listed.getD i false = true
  tl : ∀ t, hd t = false → listed.getD t false = true → l0.getD t false = true
theorem HeadJ.set {i : Nat} {hd : Nat → Bool} {l0 listed : Array Bool} (inv : HeadJ md ops hd l0 listed) (hi : i ∈ Region.ready md ops listed) (hin : hd i = true) : HeadJ md ops hd l0 (listed.setIfInBounds i true) := by
  obtain ⟨_, oi, hoi, hall⟩ := mem_ready.1 hi
  refine ⟨by simp [inv.size], fun j oj hj hl e he hb => ?_, fun k hk => getD_set_true (inv.sub k hk), fun t ht htl => ?_⟩
  · by_cases hij : i = j
    · subst hij
      have : oj = oi := Option.some.inj (hj.symm.trans hoi)
      subst this
      exact getD_set_true (hall e he hb)
    · rw [getD_set_ne false hij] at hl
      exact getD_set_true (inv.closed j oj hj hl e he hb)
  · by_cases hij : i = t
    · subst hij; rw [hin] at ht; cases ht
    · rw [getD_set_ne false hij] at htl
      exact inv.tl t ht htl
/-- The first operation of the tail waits for the head, each other one of the tail for one of the tail. -/
def sinkJ (md : Region.Mode) (ops : Array Oper) (hd : Nat → Bool) (l0 : Array Bool) (t0 : Nat) : Bool :=
  ((List.range ops.size).all fun i => !hd i || l0.getD i false || (List.range ops.size).any fun j => (decide (j = t0) || (decide (i < j) && hd j)) && Region.waitsFor md ops j i) &&
  ((List.range ops.size).all fun t => hd t || l0.getD t false || decide (t = t0) || (List.range ops.size).any fun s => !hd s && !l0.getD s false && Region.waitsFor md ops t s)
theorem ready_head {hd : Nat → Bool} {l0 listed : Array Bool} {t0 : Nat} (hs : sinkJ md ops hd l0 t0 = true) (inv : HeadJ md ops hd l0 listed) :
    ∀ (d i : Nat), ops.size - i = d → i < ops.size → hd i = true → listed.getD i true = false → ∀ t ∈ Region.ready md ops listed, hd t = true := by
  simp only [sinkJ, Bool.and_eq_true] at hs
  obtain ⟨hs1, hs2⟩ := hs
  intro d
  induction d using Nat.strongRecOn with
  | _ d ih =>
    intro i hdi hi hhi hun t hr
    have hr0 := hr
    obtain ⟨htun, ot, hot, hall⟩ := mem_ready.1 hr
    have htlt : t < ops.size := (Array.getElem?_eq_some_iff.1 hot).1
    cases htd : hd t with
    | true => rfl
    | false =>
      exfalso
      have ht0 : l0.getD t false = false := by
        cases h : l0.getD t false with
        | false => rfl
        | true => have := inv.sub t h; rw [getD_both htun] at this; cases this
      have h1 := List.all_eq_true.1 hs1 i (List.mem_range.2 hi)
      have hl0 : l0.getD i false = false := by
        cases h : l0.getD i false with
        | false => rfl
        | true => have := inv.sub i h; rw [getD_both hun] at this; cases this
      rw [hhi, hl0] at h1
      simp only [Bool.not_true, Bool.false_or] at h1
      obtain ⟨j, hj, hj2⟩ := List.any_eq_true.1 h1
      simp only [Bool.and_eq_true, Bool.or_eq_true, decide_eq_true_eq] at hj2
      obtain ⟨oj, hoj, e, he, hb, hon⟩ := Region.waitsFor_spec hj2.2
      have hjlt := List.mem_range.1 hj
      by_cases htt : t = t0
      · by_cases hjt : j = t
        · subst hjt
          have : oj = ot := Option.some.inj (hoj.symm.trans hot)
          subst this
          have h2 := hall e he hb
          rw [hon, getD_both hun] at h2
          cases h2
        · rcases hj2.1 with h3 | ⟨h3, h4⟩
          · omega
          · cases hl : listed.getD j false with
            | true =>
              have h2 := inv.closed j oj hoj hl e he hb
              rw [hon, getD_both hun] at h2
              cases h2
            | false =>
              have hjs : j < listed.size := by rw [inv.size]; exact hjlt
              have := ih (ops.size - j) (by omega) j rfl hjlt h4 (getD_in hjs hl) t hr0
              rw [htd] at this; cases this
      · have h2 := List.all_eq_true.1 hs2 t (List.mem_range.2 htlt)
        rw [htd, ht0, decide_eq_false htt] at h2
        simp only [Bool.false_or] at h2
        obtain ⟨s, hs, hs3⟩ := List.any_eq_true.1 h2
        simp only [Bool.and_eq_true, Bool.not_eq_true'] at hs3
        obtain ⟨o', ho', e', he', hb', hon'⟩ := Region.waitsFor_spec hs3.2
        have : o' = ot := Option.some.inj (ho'.symm.trans hot)
        subst this
        have h3 := hall e' he' hb'
        rw [hon'] at h3
        have h4 := inv.tl s hs3.1.1 h3
        rw [hs3.1.2] at h4; cases h4
theorem wpAnyJ_first {i t0 : Nat} {oi : Oper} {v : Value} {hd : Nat → Bool} {l0 : Array Bool} {L : Array Bool → Act → Prop} (hi : ops[i]? = some oi) (hsel : ∀ (j : Nat) (o : Oper) cs b, ops[j]? = some o → o.op ≠ .select cs b)
    (hs : sinkJ md ops hd l0 t0 = true) (hin : hd i = true)
    (hdone : ∀ listed a, L listed a → ∀ j ∈ Region.ready md ops listed, hd j = false) :
    ∀ (f : Nat) (listed : Array Bool) (a : Act), HeadJ md ops hd l0 listed →
      (∀ j oj, ops[j]? = some oj → j ≠ i → listed.getD j true = false → (∀ e ∈ oj.after, Region.binds md e = true → e.on ≠ i) → oi.apart ops oj = true) →
      i ∈ Region.ready md ops listed → YI P ops I oi v a →
      wpAnyJ P md ops I hd L f (listed.setIfInBounds i true) (a.put oi.dst v) → wpAnyJ P md ops I hd L (f + 1) listed a := by
  have hilt : i < ops.size := (Array.getElem?_eq_some_iff.1 hi).1
  intro f
  induction f with
  | zero =>
    intro listed a inv _ hr hy H
    have hun := (mem_ready.1 hr).1
    refine ⟨fun h => (by rw [h] at hr; cases hr), fun j hj => ?_⟩
    have hjn : hd j = true := ready_head hs inv _ i rfl hilt hin hun j hj
    refine ⟨hjn, ?_⟩
    by_cases hji : j = i
    · subst hji; exact ⟨oi, v, hi, hy, H⟩
    · have := hdone _ _ H j (ready_mono hj hji)
      rw [hjn] at this; cases this
  | succ f ih =>
    intro listed a inv hfree hr hy H
    have hun := (mem_ready.1 hr).1
    refine ⟨fun h => (by rw [h] at hr; cases hr), fun j hj => ?_⟩
    have hjn : hd j = true := ready_head hs inv _ i rfl hilt hin hun j hj
    refine ⟨hjn, ?_⟩
    by_cases hji : j = i
    · subst hji; exact ⟨oi, v, hi, hy, H⟩
    · obtain ⟨_, oj, u, hoj, hyj, Hj⟩ := H.2 j (ready_mono hj hji)
      obtain ⟨hjun, oj', hoj', hall⟩ := mem_ready.1 hj
      obtain rfl : oj = oj' := Option.some.inj (hoj.symm.trans hoj')
      have hnot : ∀ e ∈ oj.after, Region.binds md e = true → e.on ≠ i := fun e he hb heq => by
        have h1 := hall e he hb
        rw [heq, getD_both hun] at h1
        cases h1
      obtain ⟨p1, p2, p3⟩ := Oper.apart_spec (hfree j oj hoj hji hjun hnot)
      have hsi := fun cs b => hsel i oi cs b hi
      have hsj := fun cs b => hsel j oj cs b hoj
      have hyj' : YI P ops I oj u a := hyj.same (execOp_put oj hsj a oi.dst v p1).symm (wanted_put oj a oi.dst v p1).symm
      have hy' : YI P ops I oi v (a.put oj.dst u) := hy.same (execOp_put oi hsi a oj.dst u p3) (wanted_put oi a oj.dst u p3)
      have hfree' : ∀ k ok, ops[k]? = some ok → k ≠ i → (listed.setIfInBounds j true).getD k true = false →
          (∀ e ∈ ok.after, Region.binds md e = true → e.on ≠ i) → oi.apart ops ok = true := fun k ok hk hki hun hno => by
        refine hfree k ok hk hki ?_ hno
        by_cases hjk : j = k
        · subst hjk; exact hjun
        · rw [getD_set_ne true hjk] at hun; exact hun
      refine ⟨oj, u, hoj, hyj', ih (listed.setIfInBounds j true) (a.put oj.dst u) (inv.set hj hjn) hfree' (ready_mono hr (Ne.symm hji)) hy' ?_⟩
      rw [Array.setIfInBounds_comm _ _ hji, ← Act.put_comm a v u p2]
      exact Hj
def headJ (md : Region.Mode) (ops : Array Oper) (hd : Nat → Bool) (lF : Array Bool) : List Nat → Array Bool → Bool
  | [], listed => listed == lF && (Region.ready md ops listed).all fun j => !hd j
  | k :: ks, listed => hd k && (Region.ready md ops listed).contains k && Region.free md ops listed k && headJ md ops hd lF ks (listed.setIfInBounds k true)
theorem wpAnyJ_order {t0 : Nat} {hd : Nat → Bool} {l0 lF : Array Bool} {Lq : Act → Prop} (hsel : Region.noSelect ops = true) (hs : sinkJ md ops hd l0 t0 = true) :
    ∀ (ks : List Nat) (listed : Array Bool) (a : Act), HeadJ md ops hd l0 listed → headJ md ops hd lF ks listed = true → wpIs P ops I Lq ks a →
    wpAnyJ P md ops I hd (fun listed' a' => (listed' = lF ∧ ∀ j ∈ Region.ready md ops listed', hd j = false) ∧ Lq a') ks.length listed a
  | [], _, _, _, hB, h => by
    simp only [headJ, Bool.and_eq_true, beq_iff_eq] at hB
    exact ⟨⟨hB.1, fun j hj => by have := List.all_eq_true.1 hB.2 j hj; simpa using this⟩, h⟩
  | k :: ks, listed, a, inv, hB, h => by
    simp only [headJ, Bool.and_eq_true] at hB
    obtain ⟨⟨⟨hkn, hr⟩, hf⟩, hB'⟩ := hB
    have hr' : k ∈ Region.ready md ops listed := by simpa using hr
    obtain ⟨o, v, h0, hy, hK⟩ := h
    exact wpAnyJ_first h0 (Region.noSelect_spec hsel) hs hkn (fun listed' a' hL => hL.1.2) ks.length listed a inv (Region.free_spec h0 hf) hr' hy
      (wpAnyJ_order hsel hs ks _ _ (inv.set hr' hkn) hB' hK)
def closedJ (md : Region.Mode) (ops : Array Oper) (l0 : Array Bool) : Bool :=
  decide (l0.size = ops.size) && (List.range ops.size).all fun j => !l0.getD j false || (match ops[j]? with | some o => o.after.all fun e => !Region.binds md e || l0.getD e.on false | none => true)
theorem closed_invJ {hd : Nat → Bool} {l0 : Array Bool} (h : closedJ md ops l0 = true) : HeadJ md ops hd l0 l0 := by
  simp only [closedJ, Bool.and_eq_true, decide_eq_true_eq] at h
  obtain ⟨h1, h2⟩ := h
  refine ⟨h1, fun j oj hoj hl e he hb => ?_, fun _ h => h, fun _ _ h => h⟩
  have hj : j < ops.size := (Array.getElem?_eq_some_iff.1 hoj).1
  have h3 := List.all_eq_true.1 h2 j (List.mem_range.2 hj)
  rw [hl] at h3
  simp only [Bool.not_true, Bool.false_or] at h3
  simp only [hoj] at h3
  have h5 := Array.all_eq_true'.1 h3 e he
  simpa [hb] using h5
theorem wpAny_orderJ {Q : Exit → Act → World → Prop} {a : Act} {w : World} {g : Nat} (hd : Nat → Bool) (t0 : Nat) (l0 lF : Array Bool) (ks : List Nat) (hsel : Region.noSelect ops = true) (hs : sinkJ md ops hd l0 t0 = true)
    (h0 : closedJ md ops l0 = true) (hB : headJ md ops hd lF ks l0 = true) (hI : I w)
    (h : wpIs P ops I (fun a' => ∀ w', I w' → wpAny P md ops Q g lF a' w') ks a) : wpAny P md ops Q (ks.length + g) l0 a w :=
  wpAny_ofJ (Q' := Q) (g := g) (fun listed a' hL w' hw' => by obtain ⟨⟨rfl, -⟩, hq⟩ := hL; exact hq w' hw') _ _ _ (wpAnyJ_order hsel hs ks l0 a (closed_invJ h0) hB h) _ hI
end Go.Proofs.Ytineinmghajmnaa
namespace Go.Proofs.Ytineinmghajmnaa
open Go
variable {P : Program} {ops : Array Oper} {md : Region.Mode} {K : Option Value → World → Prop}
/-- Before and behind the one operation that makes memory, the operation has the value v and keeps the invariant. -/
def YK (P : Program) (ops : Array Oper) (K : Option Value → World → Prop) (o : Oper) (v : Value) (a : Act) : Prop := ∀ g, YI P ops (K g) o v a
theorem YK.same {o : Oper} {v : Value} {a a' : Act} (hy : YK P ops K o v a) (he : execOp a'.eval o = execOp a.eval o) (hw : Region.wanted o (yielded ops a'.tmps) = Region.wanted o (yielded ops a.tmps)) : YK P ops K o v a' := fun g => (hy g).same he hw
/-- The one operation. -/
def SK (P : Program) (ops : Array Oper) (K : Option Value → World → Prop) (o : Oper) (a : Act) : Prop :=
  Region.wanted o (yielded ops a.tmps) = true ∧ ∀ w, K none w → ∃ v w', (execOp a.eval o).run P w = .ok (.value v) w' ∧ K (some v) w'
theorem SK.same {o : Oper} {a a' : Act} (hy : SK P ops K o a) (he : execOp a'.eval o = execOp a.eval o) (hw : Region.wanted o (yielded ops a'.tmps) = Region.wanted o (yielded ops a.tmps)) : SK P ops K o a' := by
  unfold SK at *
  rw [he, hw]
  exact hy
def wpAnyK (P : Program) (md : Region.Mode) (ops : Array Oper) (K : Option Value → World → Prop) (hd : Nat → Bool) (s : Nat) (L : Option Value → Array Bool → Act → Prop) : Nat → Option Value → Array Bool → Act → Prop
  | 0, g, listed, a => L g listed a
  | f + 1, g, listed, a => Region.ready md ops listed ≠ [] ∧ ∀ i ∈ Region.ready md ops listed, hd i = true ∧ ∃ o, ops[i]? = some o ∧
    ((i ≠ s ∧ ∃ v, YK P ops K o v a ∧ wpAnyK P md ops K hd s L f g (listed.setIfInBounds i true) (a.put o.dst v)) ∨
     (i = s ∧ g = none ∧ SK P ops K o a ∧ ∀ v, wpAnyK P md ops K hd s L f (some v) (listed.setIfInBounds i true) (a.put o.dst v)))
theorem wpAny_ofK {hd : Nat → Bool} {s g : Nat} {L : Option Value → Array Bool → Act → Prop} {Q' : Exit → Act → World → Prop} (hL : ∀ x listed a, L x listed a → ∀ w, K x w → wpAny P md ops Q' g listed a w) :
    ∀ (f : Nat) (x : Option Value) (listed : Array Bool) (a : Act), wpAnyK P md ops K hd s L f x listed a → ∀ w, K x w → wpAny P md ops Q' (f + g) listed a w
  | 0, x, listed, a, h, w, hw => by rw [Nat.zero_add]; exact hL _ _ _ h _ hw
  | f + 1, x, listed, a, h, w, hw => by
    rw [show f + 1 + g = (f + g) + 1 by omega]
    refine ⟨fun h0 => absurd h0 h.1, fun i hi => ?_⟩
    obtain ⟨_, o, ho, ⟨_, v, hy, H⟩ | ⟨rfl, rfl, ⟨hwt, hy⟩, H⟩⟩ := h.2 i hi
    · obtain ⟨hwt, hy⟩ := hy x
      unfold wpOp
      simp only [ho, hwt, if_true]
      left
      unfold Oper.wp
      rcases hy w hw with hr | ⟨fn, args, hr, hc⟩
      · rw [hr]
        simp only [Oper.upon]
        exact wpAny_ofK hL f _ _ _ H w hw
      · rw [hr]
        simp only [Oper.upon]
        exact hc.mono fun e w' ⟨he, hi'⟩ => by subst he; exact wpAny_ofK hL f _ _ _ H w' hi'
    · unfold wpOp
      simp only [ho, hwt, if_true]
      left
      unfold Oper.wp
      obtain ⟨v, w', hr, hw'⟩ := hy w hw
      rw [hr]
      simp only [Oper.upon]
      exact wpAny_ofK hL f _ _ _ (H v) w' hw'
theorem wpAnyK_first {i s t0 : Nat} {oi : Oper} {v : Value} {hd : Nat → Bool} {l0 : Array Bool} {L : Option Value → Array Bool → Act → Prop} (hi : ops[i]? = some oi) (hsel : ∀ (j : Nat) (o : Oper) cs b, ops[j]? = some o → o.op ≠ .select cs b)
    (hs : sinkJ md ops hd l0 t0 = true) (hin : hd i = true) (his : i ≠ s)
    (hdone : ∀ x listed a, L x listed a → ∀ j ∈ Region.ready md ops listed, hd j = false) :
    ∀ (f : Nat) (x : Option Value) (listed : Array Bool) (a : Act), HeadJ md ops hd l0 listed →
      (∀ j oj, ops[j]? = some oj → j ≠ i → listed.getD j true = false → (∀ e ∈ oj.after, Region.binds md e = true → e.on ≠ i) → oi.apart ops oj = true) →
      i ∈ Region.ready md ops listed → YK P ops K oi v a →
      wpAnyK P md ops K hd s L f x (listed.setIfInBounds i true) (a.put oi.dst v) → wpAnyK P md ops K hd s L (f + 1) x listed a := by
  have hilt : i < ops.size := (Array.getElem?_eq_some_iff.1 hi).1
  intro f
  induction f with
  | zero =>
    intro x listed a inv _ hr hy H
    have hun := (mem_ready.1 hr).1
    refine ⟨fun h => (by rw [h] at hr; cases hr), fun j hj => ?_⟩
    have hjn : hd j = true := ready_head hs inv _ i rfl hilt hin hun j hj
    refine ⟨hjn, ?_⟩
    by_cases hji : j = i
    · subst hji; exact ⟨oi, hi, .inl ⟨his, v, hy, H⟩⟩
    · have := hdone _ _ _ H j (ready_mono hj hji)
      rw [hjn] at this; cases this
  | succ f ih =>
    intro x listed a inv hfree hr hy H
    have hun := (mem_ready.1 hr).1
    refine ⟨fun h => (by rw [h] at hr; cases hr), fun j hj => ?_⟩
    have hjn : hd j = true := ready_head hs inv _ i rfl hilt hin hun j hj
    refine ⟨hjn, ?_⟩
    by_cases hji : j = i
    · subst hji; exact ⟨oi, hi, .inl ⟨his, v, hy, H⟩⟩
    · obtain ⟨_, oj, hoj, HJ⟩ := H.2 j (ready_mono hj hji)
      obtain ⟨hjun, oj', hoj', hall⟩ := mem_ready.1 hj
      obtain rfl : oj = oj' := Option.some.inj (hoj.symm.trans hoj')
      have hnot : ∀ e ∈ oj.after, Region.binds md e = true → e.on ≠ i := fun e he hb heq => by
        have h1 := hall e he hb
        rw [heq, getD_both hun] at h1
        cases h1
      obtain ⟨p1, p2, p3⟩ := Oper.apart_spec (hfree j oj hoj hji hjun hnot)
      have hsi := fun cs b => hsel i oi cs b hi
      have hsj := fun cs b => hsel j oj cs b hoj
      have hfree' : ∀ k ok, ops[k]? = some ok → k ≠ i → (listed.setIfInBounds j true).getD k true = false →
          (∀ e ∈ ok.after, Region.binds md e = true → e.on ≠ i) → oi.apart ops ok = true := fun k ok hk hki hun hno => by
        refine hfree k ok hk hki ?_ hno
        by_cases hjk : j = k
        · subst hjk; exact hjun
        · rw [getD_set_ne true hjk] at hun; exact hun
      refine ⟨oj, hoj, ?_⟩
      rcases HJ with ⟨hjs, u, hyj, Hj⟩ | ⟨hjs, hx, hyj, Hj⟩
      · left
        have hyj' : YK P ops K oj u a := hyj.same (execOp_put oj hsj a oi.dst v p1).symm (wanted_put oj a oi.dst v p1).symm
        have hy' : YK P ops K oi v (a.put oj.dst u) := hy.same (execOp_put oi hsi a oj.dst u p3) (wanted_put oi a oj.dst u p3)
        refine ⟨hjs, u, hyj', ih x (listed.setIfInBounds j true) (a.put oj.dst u) (inv.set hj hjn) hfree' (ready_mono hr (Ne.symm hji)) hy' ?_⟩
        rw [Array.setIfInBounds_comm _ _ hji, ← Act.put_comm a v u p2]
        exact Hj
      · right
        have hyj' : SK P ops K oj a := hyj.same (execOp_put oj hsj a oi.dst v p1).symm (wanted_put oj a oi.dst v p1).symm
        refine ⟨hjs, hx, hyj', fun u => ?_⟩
        have hy' : YK P ops K oi v (a.put oj.dst u) := hy.same (execOp_put oi hsi a oj.dst u p3) (wanted_put oi a oj.dst u p3)
        refine ih (some u) (listed.setIfInBounds j true) (a.put oj.dst u) (inv.set hj hjn) hfree' (ready_mono hr (Ne.symm hji)) hy' ?_
        rw [Array.setIfInBounds_comm _ _ hji, ← Act.put_comm a v u p2]
        exact Hj u
/-- The head's operations in the order that is given, the one that makes memory last. -/
def wpKs (P : Program) (ops : Array Oper) (K : Option Value → World → Prop) (Q : Act → Prop) : List Nat → Act → Prop
  | [], a => Q a
  | i :: is, a => ∃ o v, ops[i]? = some o ∧ YK P ops K o v a ∧ wpKs P ops K Q is (a.put o.dst v)
def headK (md : Region.Mode) (ops : Array Oper) (hd : Nat → Bool) (s : Nat) (lF : Array Bool) : List Nat → Array Bool → Bool
  | [], listed => Region.ready md ops listed == [s] && hd s && (listed.setIfInBounds s true == lF) && (Region.ready md ops lF).all fun j => !hd j
  | k :: ks, listed => hd k && !(k == s) && (Region.ready md ops listed).contains k && Region.free md ops listed k && headK md ops hd s lF ks (listed.setIfInBounds k true)
theorem wpAnyK_order {s t0 : Nat} {hd : Nat → Bool} {l0 lF : Array Bool} {os : Oper} {Lq : Value → Act → Prop} (hsel : Region.noSelect ops = true) (hs : sinkJ md ops hd l0 t0 = true) (hos : ops[s]? = some os) :
    ∀ (ks : List Nat) (listed : Array Bool) (a : Act), HeadJ md ops hd l0 listed → headK md ops hd s lF ks listed = true → wpKs P ops K (fun a' => SK P ops K os a' ∧ ∀ v, Lq v (a'.put os.dst v)) ks a →
    wpAnyK P md ops K hd s (fun x listed' a' => (listed' = lF ∧ ∀ j ∈ Region.ready md ops listed', hd j = false) ∧ ∃ v, x = some v ∧ Lq v a') (ks.length + 1) none listed a
  | [], listed, a, _, hB, h => by
    simp only [headK, Bool.and_eq_true, beq_iff_eq] at hB
    obtain ⟨⟨⟨hr, hds⟩, hl⟩, hF⟩ := hB
    refine ⟨by rw [hr]; simp, fun j hj => ?_⟩
    rw [hr] at hj
    obtain rfl : j = s := by simpa using hj
    refine ⟨hds, os, hos, .inr ⟨rfl, rfl, h.1, fun v => ⟨⟨hl, fun j hj => ?_⟩, v, rfl, h.2 v⟩⟩⟩
    rw [hl] at hj
    have := List.all_eq_true.1 hF j hj
    simpa using this
  | k :: ks, listed, a, inv, hB, h => by
    simp only [headK, Bool.and_eq_true, Bool.not_eq_true', beq_eq_false_iff_ne] at hB
    obtain ⟨⟨⟨⟨hkn, hks⟩, hr⟩, hf⟩, hB'⟩ := hB
    have hr' : k ∈ Region.ready md ops listed := by simpa using hr
    obtain ⟨o, v, h0, hy, hK⟩ := h
    exact wpAnyK_first h0 (Region.noSelect_spec hsel) hs hkn hks (fun x listed' a' hL => hL.1.2) (ks.length + 1) none listed a inv (Region.free_spec h0 hf) hr' hy
      (wpAnyK_order hsel hs hos ks _ _ (inv.set hr' hkn) hB' hK)
theorem wpAny_orderK {Q : Exit → Act → World → Prop} {a : Act} {w : World} {g : Nat} {os : Oper} (hd : Nat → Bool) (s t0 : Nat) (l0 lF : Array Bool) (ks : List Nat) (hsel : Region.noSelect ops = true) (hs : sinkJ md ops hd l0 t0 = true)
    (h0 : closedJ md ops l0 = true) (hB : headK md ops hd s lF ks l0 = true) (hos : ops[s]? = some os) (hI : K none w)
    (h : wpKs P ops K (fun a' => SK P ops K os a' ∧ ∀ v w', K (some v) w' → wpAny P md ops Q g lF (a'.put os.dst v) w') ks a) : wpAny P md ops Q (ks.length + 1 + g) l0 a w := by
  refine wpAny_ofK (Q' := Q) (g := g) (K := K) (fun x listed a' hL w' hw' => ?_) _ _ _ _ (wpAnyK_order (Lq := fun v a' => ∀ w', K (some v) w' → wpAny P md ops Q g lF a' w') hsel hs hos ks l0 a (closed_invJ h0) hB h) _ hI
  obtain ⟨⟨rfl, -⟩, v, rfl, hq⟩ := hL
  exact hq w' hw'
/-- Steps. -/
theorem wpKs_val {Q : Act → Prop} {a : Act} {l : List Oper} {o : Oper} {i : Nat} {is : List Nat} (ho : l[i]? = some o) (v : Value) (hw : Region.wanted o (yielded l.toArray a.tmps) = true) (hr : ∀ g w, K g w → (execOp a.eval o).run P w = .ok (.value v) w) (h : wpKs P l.toArray K Q is (a.put o.dst v)) : wpKs P l.toArray K Q (i :: is) a :=
  ⟨o, v, by simpa using ho, fun g => ⟨hw, fun w hi => .inl (hr g w hi)⟩, h⟩
theorem wpKs_call {Q : Act → Prop} {a : Act} {l : List Oper} {o : Oper} {i : Nat} {is : List Nat} (ho : l[i]? = some o) (v : Value) (f : FuncId) (args : Array Value) (hw : Region.wanted o (yielded l.toArray a.tmps) = true) (hr : ∀ w, (execOp a.eval o).run P w = .ok (.enter f args) w) (hc : ∀ g w, K g w → Calls P f args w fun e w' => e = .returned v ∧ K g w')
    (h : wpKs P l.toArray K Q is (a.put o.dst v)) : wpKs P l.toArray K Q (i :: is) a :=
  ⟨o, v, by simpa using ho, fun g => ⟨hw, fun w hi => .inr ⟨f, args, hr w, hc g w hi⟩⟩, h⟩
theorem wp_orderK {Q : Exit → Act → World → Prop} {a : Act} {w : World} {g : Nat} {l : List Oper} {os : Oper} (hd : Nat → Bool) (s t0 : Nat) (l0 lF : Array Bool) (ks : List Nat) (hsel : Region.noSelect l.toArray = true) (hs : sinkJ md l.toArray hd l0 t0 = true)
    (h0 : closedJ md l.toArray l0 = true) (hB : headK md l.toArray hd s lF ks l0 = true) (hos : l[s]? = some os) (hI : K none w)
    (h : wpKs P l.toArray K (fun a' => SK P l.toArray K os a' ∧ ∀ v w', K (some v) w' → wpAny P md l.toArray Q g lF (a'.put os.dst v) w') ks a) : wpAny P md l.toArray Q (ks.length + 1 + g) l0 a w :=
  wpAny_orderK hd s t0 l0 lF ks hsel hs h0 hB (by simpa using hos) hI h
/-- The rest, one by one. -/
def seqJ (md : Region.Mode) (ops : Array Oper) : List Nat → Array Bool → Bool
  | [], listed => Region.ready md ops listed == []
  | i :: is, listed => Region.ready md ops listed == [i] && seqJ md ops is (listed.setIfInBounds i true)
theorem wpAny_seqJ {Q' : Exit → Act → World → Prop} : ∀ (is : List Nat) (l : List Oper) (listed : Array Bool) (a : Act) (w : World), is.map (fun i => ops[i]?) = l.map some →
    seqJ md ops is listed = true → wpList P ops Q' l a w → wpAny P md ops Q' is.length listed a w
  | [], [], _, _, _, _, hB, h => ⟨by simpa [seqJ] using hB, h⟩
  | [], _ :: _, _, _, _, hl, _, _ => by simp at hl
  | _ :: _, [], _, _, _, hl, _, _ => by simp at hl
  | i :: is, o :: l, listed, a, w, hl, hB, h => by
    simp only [List.map_cons, List.cons.injEq] at hl
    obtain ⟨h0, hl⟩ := hl
    simp only [seqJ, Bool.and_eq_true, beq_iff_eq] at hB
    refine ⟨fun hr => (by rw [hB.1] at hr; cases hr), fun j hj => ?_⟩
    rw [hB.1] at hj
    obtain rfl : j = i := by simpa using hj
    have hw : wpOp P ops Q' j (wpList P ops Q' l) a w := by unfold wpOp; simp only [h0]; exact h
    exact wpOp_mono (fun a' w' h' => wpAny_seqJ is l _ a' w' hl hB.2 h') hw
/-- These places of the list hold these operations. -/
inductive PickJ (l : List Oper) : List Nat → List Oper → Prop
  | nil : PickJ l [] []
  | cons {i : Nat} {o : Oper} {is : List Nat} {r : List Oper} : l[i]? = some o → PickJ l is r → PickJ l (i :: is) (o :: r)
theorem PickJ.map {l : List Oper} {is : List Nat} {r : List Oper} (h : PickJ l is r) : is.map (fun i => l.toArray[i]?) = r.map some := by
  induction h with
  | nil => rfl
  | cons h1 _ ih => rw [List.map_cons, List.map_cons, ih, List.getElem?_toArray, h1]
theorem wp_seqJ {Q' : Exit → Act → World → Prop} {l r : List Oper} {is : List Nat} (listed : Array Bool) (a : Act) (w : World) (h0 : PickJ l is r)
    (hB : seqJ md l.toArray is listed = true) (h : wpList P l.toArray Q' r a w) : wpAny P md l.toArray Q' is.length listed a w :=
  wpAny_seqJ is r listed a w h0.map hB h
end Go.Proofs.Ytineinmghajmnaa
