/- A region that draws its order, whose first operations keep an invariant of the world and have each one value, and whose rest comes in one order. No program in sight. -/
import Derived.StillTail
import Derived.Deep.RegionHeld3
import Derived.Tactics
import Derived.Test.YtineinmghajmnaaMY
import Derived.Test.YtineinmghajmnaaME
namespace Go.Proofs.Ytineinmghajmnaa
open Go
variable {P : Program} {ops : Array Oper} {md : Region.Mode} {I : World → Prop}
/-- In each world of the invariant the operation has the value v, and the world stays one of it. -/
def YI (P : Program) (ops : Array Oper) (I : World → Prop) (o : Oper) (v : Value) (a : Act) : Prop :=
  Region.wanted o (yielded ops a.tmps) = true ∧ ∀ w, I w → ((execOp a.eval o).run P w = .ok (.value v) w ∨ ∃ f args, (execOp a.eval o).run P w = .ok (.enter f args) w ∧ Calls P f args w fun e w' => e = .returned v ∧ I w')
theorem YI.same {o : Oper} {v : Value} {a a' : Act} (hy : YI P ops I o v a) (he : execOp a'.eval o = execOp a.eval o) (hw : Region.wanted o (yielded ops a'.tmps) = Region.wanted o (yielded ops a.tmps)) : YI P ops I o v a' := by
  unfold YI at *
  rw [he, hw]
  exact hy
/-- The first operations in the text's order. -/
def wpI (P : Program) (ops : Array Oper) (I : World → Prop) (Q : Act → Prop) : List Oper → Act → Prop
  | [], a => Q a
  | o :: rest, a => ∃ v, YI P ops I o v a ∧ wpI P ops I Q rest (a.put o.dst v)
/-- The first operations in any order. -/
def wpAnyI (P : Program) (md : Region.Mode) (ops : Array Oper) (I : World → Prop) (n : Nat) (L : Array Bool → Act → Prop) : Nat → Array Bool → Act → Prop
  | 0, listed, a => L listed a
  | f + 1, listed, a => Region.ready md ops listed ≠ [] ∧ ∀ i ∈ Region.ready md ops listed, i < n ∧ ∃ o v, ops[i]? = some o ∧ YI P ops I o v a ∧ wpAnyI P md ops I n L f (listed.setIfInBounds i true) (a.put o.dst v)
theorem wpAny_ofI {n g : Nat} {L : Array Bool → Act → Prop} {Q' : Exit → Act → World → Prop} (hL : ∀ listed a, L listed a → ∀ w, I w → wpAny P md ops Q' g listed a w) :
    ∀ (f : Nat) (listed : Array Bool) (a : Act), wpAnyI P md ops I n L f listed a → ∀ w, I w → wpAny P md ops Q' (f + g) listed a w
  | 0, listed, a, h, w, hw => by rw [Nat.zero_add]; exact hL _ _ h _ hw
  | f + 1, listed, a, h, w, hw => by
    rw [show f + 1 + g = (f + g) + 1 by omega]
    refine ⟨fun h0 => absurd h0 h.1, fun i hi => ?_⟩
    obtain ⟨_, o, v, ho, ⟨hwt, hy⟩, H⟩ := h.2 i hi
    unfold wpOp
    simp only [ho, hwt, if_true]
    left
    unfold Oper.wp
    rcases hy w hw with hr | ⟨fn, args, hr, hc⟩
    · rw [hr]
      simp only [Oper.upon]
      exact wpAny_ofI hL f _ _ H w hw
    · rw [hr]
      simp only [Oper.upon]
      exact hc.mono fun e w' ⟨he, hi'⟩ => by subst he; exact wpAny_ofI hL f _ _ H w' hi'
theorem wpAnyI_first {n i : Nat} {oi : Oper} {v : Value} {L : Array Bool → Act → Prop} (hi : ops[i]? = some oi) (hsel : ∀ (j : Nat) (o : Oper) cs b, ops[j]? = some o → o.op ≠ .select cs b)
    (hs : Region.sinkB md ops n = true) (hc : Region.chainB md ops n = true) (hn : n < ops.size) (hin : i < n)
    (hdone : ∀ listed a, L listed a → ∀ j ∈ Region.ready md ops listed, n ≤ j) :
    ∀ (f : Nat) (listed : Array Bool) (a : Act), HeadInv md ops n listed →
      (∀ j oj, ops[j]? = some oj → j ≠ i → listed.getD j true = false → (∀ e ∈ oj.after, Region.binds md e = true → e.on ≠ i) → oi.apart ops oj = true) →
      i ∈ Region.ready md ops listed → YI P ops I oi v a →
      wpAnyI P md ops I n L f (listed.setIfInBounds i true) (a.put oi.dst v) → wpAnyI P md ops I n L (f + 1) listed a := by
  intro f
  induction f with
  | zero =>
    intro listed a inv _ hr hy H
    have hun := (mem_ready.1 hr).1
    refine ⟨fun h => (by rw [h] at hr; cases hr), fun j hj => ?_⟩
    have hjn : j < n := by
      rcases Nat.lt_or_ge j n with h | h
      · exact h
      · exact absurd hj (tail_waits hs hc hn inv _ i rfl hin hun j h)
    refine ⟨hjn, ?_⟩
    by_cases hji : j = i
    · subst hji; exact ⟨oi, v, hi, hy, H⟩
    · have := hdone _ _ H j (ready_mono hj hji)
      omega
  | succ f ih =>
    intro listed a inv hfree hr hy H
    have hun := (mem_ready.1 hr).1
    refine ⟨fun h => (by rw [h] at hr; cases hr), fun j hj => ?_⟩
    have hjn : j < n := by
      rcases Nat.lt_or_ge j n with h | h
      · exact h
      · exact absurd hj (tail_waits hs hc hn inv _ i rfl hin hun j h)
    refine ⟨hjn, ?_⟩
    by_cases hji : j = i
    · subst hji; exact ⟨oi, v, hi, hy, H⟩
    · obtain ⟨_, oj, u, hoj, hyj, Hj⟩ := H.2 j (ready_mono hj hji)
      obtain ⟨hjun, oj', hoj', hall⟩ := mem_ready.1 hj
      obtain rfl : oj = oj' := Option.some.inj (hoj.symm.trans hoj')
      have hnot : ∀ e ∈ oj.after, Region.binds md e = true → e.on ≠ i := fun e he hb heq => by
        have h1 := hall e he hb
        rw [heq, getD_both hun] at h1
        cases h1
      obtain ⟨p1, p2, p3⟩ := Oper.apart_spec (hfree j oj hoj hji hjun hnot)
      have hsi := fun cs b => hsel i oi cs b hi
      have hsj := fun cs b => hsel j oj cs b hoj
      have hyj' : YI P ops I oj u a := hyj.same (execOp_put oj hsj a oi.dst v p1).symm (wanted_put oj a oi.dst v p1).symm
      have hy' : YI P ops I oi v (a.put oj.dst u) := hy.same (execOp_put oi hsi a oj.dst u p3) (wanted_put oi a oj.dst u p3)
      have hfree' : ∀ k ok, ops[k]? = some ok → k ≠ i → (listed.setIfInBounds j true).getD k true = false →
          (∀ e ∈ ok.after, Region.binds md e = true → e.on ≠ i) → oi.apart ops ok = true := fun k ok hk hki hun hno => by
        refine hfree k ok hk hki ?_ hno
        by_cases hjk : j = k
        · subst hjk; exact hjun
        · rw [getD_set_ne true hjk] at hun; exact hun
      refine ⟨oj, u, hoj, hyj', ih (listed.setIfInBounds j true) (a.put oj.dst u) (inv.set hj hjn) hfree' (ready_mono hr (Ne.symm hji)) hy' ?_⟩
      rw [Array.setIfInBounds_comm _ _ hji, ← Act.put_comm a v u p2]
      exact Hj
theorem wpAnyI_lex {n g : Nat} {Lq : Act → Prop} (hsel : Region.noSelect ops = true) (hs : Region.sinkB md ops n = true) (hc : Region.chainB md ops n = true) (hn : n < ops.size) :
    ∀ (l : List Oper) (k : Nat) (listed : Array Bool) (a : Act), (∀ j, j < l.length → l[j]? = ops[k + j]?) → k + l.length = n → HeadInv md ops n listed →
    Region.lexHead md ops g l.length k listed = true → wpI P ops I Lq l a →
    wpAnyI P md ops I n (fun listed' a' => Region.seqB md ops g n listed' = true ∧ Lq a') l.length listed a
  | [], k, listed, a, _, hk, _, hB, h => by
    have : k = n := by simpa using hk
    subst this
    exact ⟨by simpa [Region.lexHead] using hB, h⟩
  | o :: l, k, listed, a, hl, hk, inv, hB, h => by
    have h0 : ops[k]? = some o := by simpa using (hl 0 (by simp)).symm
    simp only [List.length_cons, Region.lexHead, Bool.and_eq_true] at hB
    obtain ⟨⟨hr, hf⟩, hB'⟩ := hB
    have hkn : k < n := by simp only [List.length_cons] at hk; omega
    have hr' : k ∈ Region.ready md ops listed := by simpa using hr
    obtain ⟨v, hy, hK⟩ := h
    exact wpAnyI_first h0 (Region.noSelect_spec hsel) hs hc hn hkn (fun listed' a' hL => seqB_ready hL.1) l.length listed a inv (Region.free_spec h0 hf) hr' hy
      (wpAnyI_lex hsel hs hc hn l (k + 1) _ _ (fun j hj => by have := hl (j + 1) (by simp; omega); simpa [Nat.add_assoc, Nat.add_comm 1 j] using this) (by simp only [List.length_cons] at hk; omega) (inv.set hr' hkn) hB' hK)
/-- The region. -/
theorem wp_region_held_tail {id : Nat} {Q : Exit → Act → World → Prop} {a : Act} {w : World} {l : List Oper} (n : Nat) (hm : P.follows .mixedOrders = true) (hB : Region.lexTailB .any l.toArray n = true) (hI : I { w with drawn := w.drawn + 1 })
    (h : wpI P l.toArray I (fun a' => ∀ w', I w' → wpList P l.toArray Q (l.drop n) a' w') (l.take n) a) : (Code.region id l.toArray true).wp P Q a w := by
  simp only [Region.lexTailB, Bool.and_eq_true, decide_eq_true_eq] at hB
  obtain ⟨⟨⟨⟨hsel, hn⟩, hs⟩, hc⟩, hlex⟩ := hB
  have hn' : n < l.length := by simpa using hn
  have htl : (l.take n).length = n := by simp; omega
  have hdl : (l.drop n).length = l.toArray.size - n := by simp
  have inv0 : HeadInv .any l.toArray n (Array.replicate l.toArray.size false) :=
    ⟨by simp, fun j oj _ hl => (by rw [getD_replicate_false] at hl; cases hl), fun t _ ht => getD_in (by simpa using ht) (getD_replicate_false _ _)⟩
  have H := wpAnyI_lex (md := .any) (g := l.toArray.size - n) hsel hs hc hn (l.take n) 0 _ a (fun j hj => by
    have hj' : j < n := by rw [htl] at hj; exact hj
    simp [hj']) (by simpa using htl) inv0 (by rw [htl]; exact hlex) h
  refine wp_region_any hm ?_
  have := wpAny_ofI (Q' := Q) (g := l.toArray.size - n) (fun listed a' hL w' hw' => by
    have := wpAny_of_seq (md := .any) (Q' := Q) (l.drop n) n listed a' w' (fun j => by simp [List.getElem?_drop]) (by rw [hdl]; exact hL.1) (hL.2 w' hw')
    rwa [hdl] at this) _ _ _ H _ hI
  rw [htl, show n + (l.toArray.size - n) = l.toArray.size by omega] at this
  exact this
/-- A step: an operation that has a value. -/
theorem wpI_val {Q : Act → Prop} {a : Act} {o : Oper} {rest : List Oper} (v : Value) (hw : Region.wanted o (yielded ops a.tmps) = true) (hr : ∀ w, I w → (execOp a.eval o).run P w = .ok (.value v) w) (h : wpI P ops I Q rest (a.put o.dst v)) : wpI P ops I Q (o :: rest) a :=
  ⟨v, ⟨hw, fun w hi => .inl (hr w hi)⟩, h⟩
/-- A step: a call. -/
theorem wpI_call {Q : Act → Prop} {a : Act} {o : Oper} {rest : List Oper} (v : Value) (f : FuncId) (args : Array Value) (hw : Region.wanted o (yielded ops a.tmps) = true) (hr : ∀ w, (execOp a.eval o).run P w = .ok (.enter f args) w) (hc : ∀ w, I w → Calls P f args w fun e w' => e = .returned v ∧ I w')
    (h : wpI P ops I Q rest (a.put o.dst v)) : wpI P ops I Q (o :: rest) a :=
  ⟨v, ⟨hw, fun w hi => .inr ⟨f, args, hr w, hc w hi⟩⟩, h⟩
/-! The same from a state in which some operations have been done, the rest of the head in an order that is given. -/
/-- What is listed is closed, holds listed0, and nothing of the tail. -/
structure HeadInv2 (md : Region.Mode) (ops : Array Oper) (n : Nat) (l0 listed : Array Bool) : Prop where
  inv : HeadInv md ops n listed
  sub : ∀ i, l0.getD i false = true → listed.getD i false = true
theorem HeadInv2.set {n i : Nat} {l0 listed : Array Bool} (h : HeadInv2 md ops n l0 listed) (hi : i ∈ Region.ready md ops listed) (hin : i < n) : HeadInv2 md ops n l0 (listed.setIfInBounds i true) :=
  ⟨h.inv.set hi hin, fun k hk => getD_set_true (h.sub k hk)⟩
def sink2B (md : Region.Mode) (ops : Array Oper) (l0 : Array Bool) (n : Nat) : Bool :=
  (List.range n).all fun i => l0.getD i false || (List.range (n + 1)).any fun j => decide (i < j) && Region.waitsFor md ops j i
theorem tail_waits2 {n : Nat} {l0 listed : Array Bool} (hs : sink2B md ops l0 n = true) (hc : Region.chainB md ops n = true) (hn : n < ops.size) (h2 : HeadInv2 md ops n l0 listed) :
    ∀ (d i : Nat), n - i = d → i < n → listed.getD i true = false → ∀ t, n ≤ t → t ∉ Region.ready md ops listed := by
  have inv := h2.inv
  intro d
  induction d using Nat.strongRecOn with
  | _ d ih =>
    intro i hd hi hun t ht hr
    obtain ⟨_, ot, hot, hall⟩ := mem_ready.1 hr
    have htlt : t < ops.size := (Array.getElem?_eq_some_iff.1 hot).1
    by_cases htn : t = n
    · subst htn
      have h1 := List.all_eq_true.1 hs i (List.mem_range.2 hi)
      rw [Bool.or_eq_true] at h1
      rcases h1 with h1 | h1
      · have := h2.sub i h1
        rw [getD_both hun] at this
        cases this
      obtain ⟨j, hj, hj2⟩ := List.any_eq_true.1 h1
      simp only [Bool.and_eq_true, decide_eq_true_eq] at hj2
      obtain ⟨oj, hoj, e, he, hb, hon⟩ := Region.waitsFor_spec hj2.2
      have hjle : j ≤ t := by have := List.mem_range.1 hj; omega
      by_cases hjt : j = t
      · subst hjt
        have : oj = ot := Option.some.inj (hoj.symm.trans hot)
        subst this
        have h3 := hall e he hb
        rw [hon, getD_both hun] at h3
        cases h3
      · cases hl : listed.getD j false with
        | true =>
          have h3 := inv.closed j oj hoj hl e he hb
          rw [hon, getD_both hun] at h3
          cases h3
        | false =>
          have hjs : j < listed.size := by rw [inv.size]; omega
          exact ih (t - j) (by omega) j rfl (by omega) (getD_in hjs hl) t (Nat.le_refl _) hr
    · have h1 := List.all_eq_true.1 hc t (List.mem_range.2 htlt)
      simp only [Bool.or_eq_true, decide_eq_true_eq] at h1
      rcases h1 with h1 | h1
      · omega
      · obtain ⟨o', ho', e, he, hb, hon⟩ := Region.waitsFor_spec h1
        have : o' = ot := Option.some.inj (ho'.symm.trans hot)
        subst this
        have h3 := hall e he hb
        rw [hon, getD_both (inv.tail (t - 1) (by omega) (by omega))] at h3
        cases h3
theorem wpAnyI_first2 {n i : Nat} {oi : Oper} {v : Value} {l0 : Array Bool} {L : Array Bool → Act → Prop} (hi : ops[i]? = some oi) (hsel : ∀ (j : Nat) (o : Oper) cs b, ops[j]? = some o → o.op ≠ .select cs b)
    (hs : sink2B md ops l0 n = true) (hc : Region.chainB md ops n = true) (hn : n < ops.size) (hin : i < n)
    (hdone : ∀ listed a, L listed a → ∀ j ∈ Region.ready md ops listed, n ≤ j) :
    ∀ (f : Nat) (listed : Array Bool) (a : Act), HeadInv2 md ops n l0 listed →
      (∀ j oj, ops[j]? = some oj → j ≠ i → listed.getD j true = false → (∀ e ∈ oj.after, Region.binds md e = true → e.on ≠ i) → oi.apart ops oj = true) →
      i ∈ Region.ready md ops listed → YI P ops I oi v a →
      wpAnyI P md ops I n L f (listed.setIfInBounds i true) (a.put oi.dst v) → wpAnyI P md ops I n L (f + 1) listed a := by
  intro f
  induction f with
  | zero =>
    intro listed a inv _ hr hy H
    have hun := (mem_ready.1 hr).1
    refine ⟨fun h => (by rw [h] at hr; cases hr), fun j hj => ?_⟩
    have hjn : j < n := by
      rcases Nat.lt_or_ge j n with h | h
      · exact h
      · exact absurd hj (tail_waits2 hs hc hn inv _ i rfl hin hun j h)
    refine ⟨hjn, ?_⟩
    by_cases hji : j = i
    · subst hji; exact ⟨oi, v, hi, hy, H⟩
    · have := hdone _ _ H j (ready_mono hj hji)
      omega
  | succ f ih =>
    intro listed a inv hfree hr hy H
    have hun := (mem_ready.1 hr).1
    refine ⟨fun h => (by rw [h] at hr; cases hr), fun j hj => ?_⟩
    have hjn : j < n := by
      rcases Nat.lt_or_ge j n with h | h
      · exact h
      · exact absurd hj (tail_waits2 hs hc hn inv _ i rfl hin hun j h)
    refine ⟨hjn, ?_⟩
    by_cases hji : j = i
    · subst hji; exact ⟨oi, v, hi, hy, H⟩
    · obtain ⟨_, oj, u, hoj, hyj, Hj⟩ := H.2 j (ready_mono hj hji)
      obtain ⟨hjun, oj', hoj', hall⟩ := mem_ready.1 hj
      obtain rfl : oj = oj' := Option.some.inj (hoj.symm.trans hoj')
      have hnot : ∀ e ∈ oj.after, Region.binds md e = true → e.on ≠ i := fun e he hb heq => by
        have h1 := hall e he hb
        rw [heq, getD_both hun] at h1
        cases h1
      obtain ⟨p1, p2, p3⟩ := Oper.apart_spec (hfree j oj hoj hji hjun hnot)
      have hsi := fun cs b => hsel i oi cs b hi
      have hsj := fun cs b => hsel j oj cs b hoj
      have hyj' : YI P ops I oj u a := hyj.same (execOp_put oj hsj a oi.dst v p1).symm (wanted_put oj a oi.dst v p1).symm
      have hy' : YI P ops I oi v (a.put oj.dst u) := hy.same (execOp_put oi hsi a oj.dst u p3) (wanted_put oi a oj.dst u p3)
      have hfree' : ∀ k ok, ops[k]? = some ok → k ≠ i → (listed.setIfInBounds j true).getD k true = false →
          (∀ e ∈ ok.after, Region.binds md e = true → e.on ≠ i) → oi.apart ops ok = true := fun k ok hk hki hun hno => by
        refine hfree k ok hk hki ?_ hno
        by_cases hjk : j = k
        · subst hjk; exact hjun
        · rw [getD_set_ne true hjk] at hun; exact hun
      refine ⟨oj, u, hoj, hyj', ih (listed.setIfInBounds j true) (a.put oj.dst u) (inv.set hj hjn) hfree' (ready_mono hr (Ne.symm hji)) hy' ?_⟩
      rw [Array.setIfInBounds_comm _ _ hji, ← Act.put_comm a v u p2]
      exact Hj
/-- The head's operations in the order that is given. -/
def wpIs (P : Program) (ops : Array Oper) (I : World → Prop) (Q : Act → Prop) : List Nat → Act → Prop
  | [], a => Q a
  | i :: is, a => ∃ o v, ops[i]? = some o ∧ YI P ops I o v a ∧ wpIs P ops I Q is (a.put o.dst v)
def headB (md : Region.Mode) (ops : Array Oper) (n g : Nat) : List Nat → Array Bool → Bool
  | [], listed => Region.seqB md ops g n listed
  | k :: ks, listed => decide (k < n) && (Region.ready md ops listed).contains k && Region.free md ops listed k && headB md ops n g ks (listed.setIfInBounds k true)
theorem wpAnyI_order {n g : Nat} {l0 : Array Bool} {Lq : Act → Prop} (hsel : Region.noSelect ops = true) (hs : sink2B md ops l0 n = true) (hc : Region.chainB md ops n = true) (hn : n < ops.size) :
    ∀ (ks : List Nat) (listed : Array Bool) (a : Act), HeadInv2 md ops n l0 listed → headB md ops n g ks listed = true → wpIs P ops I Lq ks a →
    wpAnyI P md ops I n (fun listed' a' => Region.seqB md ops g n listed' = true ∧ Lq a') ks.length listed a
  | [], _, _, _, hB, h => ⟨hB, h⟩
  | k :: ks, listed, a, inv, hB, h => by
    simp only [headB, Bool.and_eq_true, decide_eq_true_eq] at hB
    obtain ⟨⟨⟨hkn, hr⟩, hf⟩, hB'⟩ := hB
    have hr' : k ∈ Region.ready md ops listed := by simpa using hr
    obtain ⟨o, v, h0, hy, hK⟩ := h
    exact wpAnyI_first2 h0 (Region.noSelect_spec hsel) hs hc hn hkn (fun listed' a' hL => seqB_ready hL.1) ks.length listed a inv (Region.free_spec h0 hf) hr' hy
      (wpAnyI_order hsel hs hc hn ks _ _ (inv.set hr' hkn) hB' hK)
def closedB (md : Region.Mode) (ops : Array Oper) (n : Nat) (l0 : Array Bool) : Bool :=
  decide (l0.size = ops.size) && (List.range ops.size).all fun j => !l0.getD j false || (decide (j < n) && (match ops[j]? with | some o => o.after.all fun e => !Region.binds md e || l0.getD e.on false | none => true))
theorem closed_inv {n : Nat} {l0 : Array Bool} (h : closedB md ops n l0 = true) : HeadInv2 md ops n l0 l0 := by
  simp only [closedB, Bool.and_eq_true, decide_eq_true_eq] at h
  obtain ⟨h1, h2⟩ := h
  have key : ∀ j, l0.getD j false = true → j < n ∧ ∀ oj, ops[j]? = some oj → ∀ e ∈ oj.after, Region.binds md e = true → l0.getD e.on false = true := fun j hl => by
    have hj : j < ops.size := by
      rcases Nat.lt_or_ge j ops.size with c | c
      · exact c
      · simp [Array.getElem?_eq_none (show l0.size ≤ j by omega)] at hl
    have h3 := List.all_eq_true.1 h2 j (List.mem_range.2 hj)
    simp only [hl, Bool.not_true, Bool.false_or, Bool.and_eq_true, decide_eq_true_eq] at h3
    refine ⟨h3.1, fun oj hoj e he hb => ?_⟩
    have h4 := h3.2
    simp only [hoj] at h4
    have h5 := Array.all_eq_true'.1 h4 e he
    simpa [hb] using h5
  exact ⟨⟨h1, fun j oj hoj hl e he hb => (key j hl).2 oj hoj e he hb, fun t ht htl => by
    cases hl : l0.getD t false with
    | true => have := (key t hl).1; omega
    | false => exact getD_in (by omega) hl⟩, fun _ h => h⟩
theorem wpAny_order {Q : Exit → Act → World → Prop} {a : Act} {w : World} {l : List Oper} (n : Nat) (l0 : Array Bool) (ks : List Nat) (hsel : Region.noSelect l.toArray = true) (hn : n < l.toArray.size) (hs : sink2B md l.toArray l0 n = true) (hc : Region.chainB md l.toArray n = true)
    (h0 : closedB md l.toArray n l0 = true) (hB : headB md l.toArray n (l.toArray.size - n) ks l0 = true) (hI : I w)
    (h : wpIs P l.toArray I (fun a' => ∀ w', I w' → wpList P l.toArray Q (l.drop n) a' w') ks a) : wpAny P md l.toArray Q (ks.length + (l.toArray.size - n)) l0 a w := by
  have hdl : (l.drop n).length = l.toArray.size - n := by simp
  have H := wpAnyI_order (md := md) (g := l.toArray.size - n) hsel hs hc hn ks l0 a (closed_inv h0) hB h
  exact wpAny_ofI (Q' := Q) (g := l.toArray.size - n) (fun listed a' hL w' hw' => by
    have := wpAny_of_seq (md := md) (Q' := Q) (l.drop n) n listed a' w' (fun j => by simp [List.getElem?_drop]) (by rw [hdl]; exact hL.1) (hL.2 w' hw')
    rwa [hdl] at this) _ _ _ H _ hI
/-- Steps. -/
theorem wpIs_val {Q : Act → Prop} {a : Act} {o : Oper} {i : Nat} {is : List Nat} (ho : ops[i]? = some o) (v : Value) (hw : Region.wanted o (yielded ops a.tmps) = true) (hr : ∀ w, I w → (execOp a.eval o).run P w = .ok (.value v) w) (h : wpIs P ops I Q is (a.put o.dst v)) : wpIs P ops I Q (i :: is) a :=
  ⟨o, v, ho, ⟨hw, fun w hi => .inl (hr w hi)⟩, h⟩
theorem wpIs_call {Q : Act → Prop} {a : Act} {o : Oper} {i : Nat} {is : List Nat} (ho : ops[i]? = some o) (v : Value) (f : FuncId) (args : Array Value) (hw : Region.wanted o (yielded ops a.tmps) = true) (hr : ∀ w, (execOp a.eval o).run P w = .ok (.enter f args) w) (hc : ∀ w, I w → Calls P f args w fun e w' => e = .returned v ∧ I w')
    (h : wpIs P ops I Q is (a.put o.dst v)) : wpIs P ops I Q (i :: is) a :=
  ⟨o, v, ho, ⟨hw, fun w hi => .inr ⟨f, args, hr w, hc w hi⟩⟩, h⟩
end Go.Proofs.Ytineinmghajmnaa
namespace Go.Proofs.Ytineinmghajmnaa
open Go.RowKit
theorem KB.less {B B' g : Nat} {a w : World} (h : KB B g a w) (hB : B' ≤ B) : KB B' g a w := ⟨h.os, h.tape, h.output, h.size, fun k hk hn => h.block k (by omega) hn⟩
/-- The sums as they lie in memory. -/
def Tt (w : World) (g : Nat) (A R G B : Int) : Prop := Bx w g 84 #[.int .u64 (whi R), .int .u64 (wlo R), .int .u64 (whi G), .int .u64 (wlo G), .int .u64 (whi B), .int .u64 (wlo B), .int .i64 A]
set_option maxRecDepth 100000 in
set_option maxHeartbeats 4000000 in
theorem add_core (g : Nat) (rh rl gh gl bh bl A rh' rl' gh' gl' bh' bl' A' wt x pr pg pb pa : Int) (w : World) (hg : Bx w g 84 #[.int .u64 rh, .int .u64 rl, .int .u64 gh, .int .u64 gl, .int .u64 bh, .int .u64 bl, .int .i64 A]) (e0 : IntKind.i64.wrap (wt * pa) = x)
    (P1 : ∀ w, Calls Try.prog 87 #[.agg #[.int .u64 rh, .int .u64 rl], .int .i64 x, .int .i64 pr] w fun e w' => e = .returned (.agg #[.int .u64 rh', .int .u64 rl']) ∧ Below w.heap.size w w')
    (P2 : ∀ w, Calls Try.prog 87 #[.agg #[.int .u64 gh, .int .u64 gl], .int .i64 x, .int .i64 pg] w fun e w' => e = .returned (.agg #[.int .u64 gh', .int .u64 gl']) ∧ Below w.heap.size w w')
    (P3 : ∀ w, Calls Try.prog 87 #[.agg #[.int .u64 bh, .int .u64 bl], .int .i64 x, .int .i64 pb] w fun e w' => e = .returned (.agg #[.int .u64 bh', .int .u64 bl']) ∧ Below w.heap.size w w')
    (e1 : IntKind.i64.wrap (A + x) = A') :
    Calls Try.prog 59 #[.pointer (some ⟨g, 0, none⟩), .agg #[.int .i64 pr, .int .i64 pg, .int .i64 pb, .int .i64 pa], .int .i64 wt] w fun e w' => e = .returned (.tuple #[]) ∧ Bx w' g 84 #[.int .u64 rh', .int .u64 rl', .int .u64 gh', .int .u64 gl', .int .u64 bh', .int .u64 bl', .int .i64 A'] ∧ KB w.heap.size g w w' := by
  replace P1 := Lib.hid P1; replace P2 := Lib.hid P2; replace P3 := Lib.hid P3
  have E1 := Lib.hid e1; clear e1
  go_enter Try.func59, Try.ntmps59
  go_upto_region 1 with fail
  obtain ⟨hb4, hB, -⟩ := one_box w #[.int .i64 pr, .int .i64 pg, .int .i64 pb, .int .i64 pa] 27 _ rfl
  have hgl := hg.lt
  have T0 := hg.below hB
  have KW := Lib.hid (show KB w.heap.size g w (w.alloc (.cells #[.int .i64 pr, .int .i64 pg, .int .i64 pb, .int .i64 pa] 27)) from (KB.refl _ _ _).alloc _ (Nat.le_refl _))
  have hsz := hB.size
  generalize World.alloc w _ = w0 at *
  obtain ⟨⟨c0, c1, c2, c3⟩, -⟩ := hb4.four
  go_upto_region 2 with fail
  clear c0 c1 c2 c3 e0
  have HI := Lib.hid (show Bx w0.drew g 84 #[.int .u64 rh, .int .u64 rl, .int .u64 gh, .int .u64 gl, .int .u64 bh, .int .u64 bl, .int .i64 A] ∧ Bx w0.drew w.heap.size 27 #[.int .i64 pr, .int .i64 pg, .int .i64 pb, .int .i64 pa] ∧ Below w0.heap.size w0 w0.drew from ⟨T0.drew, hb4.drew, (Below.refl _ _).drew⟩)
  clear hb4 hB hg T0
  have hwz : g ≠ w.heap.size := by omega
  refine wp_region_noPanic (wp_region_any (by kernel_rfl) ?_)
  change wpAny _ _ _ _ (35 + 1) _ _ _
  refine wpAny_take (i := 1) (v := .pointer (some ⟨g, 0, none⟩)) rfl (by kernel_rfl) (by kernel_rfl) (by kernel_rfl) (fun _ _ _ h => h) (.inl ⟨rfl, fun _ => rfl⟩) ?_
  change wpAny _ _ _ _ (34 + 1) _ _ _
  refine wpAny_take (i := 2) (v := .pointer (some ⟨g, 0, none⟩)) rfl (by kernel_rfl) (by kernel_rfl) (by kernel_rfl) (fun _ _ _ h => h) (.inl ⟨rfl, fun _ => rfl⟩) ?_
  refine wpAny_order (I := fun wq => Bx wq g 84 #[.int .u64 rh, .int .u64 rl, .int .u64 gh, .int .u64 gl, .int .u64 bh, .int .u64 bl, .int .i64 A] ∧ Bx wq w.heap.size 27 #[.int .i64 pr, .int .i64 pg, .int .i64 pb, .int .i64 pa] ∧ Below w0.heap.size w0 wq) 27 _ [0, 3, 4, 5, 6, 7, 8, 9, 10, 11, 12, 13, 14, 15, 16, 17, 18, 19, 20, 21, 22, 23, 24, 25, 26] (by kernel_rfl) (of_decide_eq_true (by kernel_rfl)) (by kernel_rfl) (by kernel_rfl) (by kernel_rfl) (by kernel_rfl) HI.out ?_
  go_frame
  refine wpIs_val rfl (.pointer (some ⟨g, 0, none⟩)) rfl (fun wq hq => ?_) ?_
  · obtain ⟨h1, h2, h3⟩ := hq; have c0 := h1.cell (j := 0) rfl; have c1 := h1.cell (j := 1) rfl; have c2 := h1.cell (j := 2) rfl; have c3 := h1.cell (j := 3) rfl; have c4 := h1.cell (j := 4) rfl; have c5 := h1.cell (j := 5) rfl; have d0 := h2.cell (j := 0) rfl; have d1 := h2.cell (j := 1) rfl; have d2 := h2.cell (j := 2) rfl; clear h1 h2 h3; go_simp
  go_frame
  refine wpIs_val rfl (.pointer (some ⟨g, 0, none⟩)) rfl (fun wq hq => ?_) ?_
  · obtain ⟨h1, h2, h3⟩ := hq; have c0 := h1.cell (j := 0) rfl; have c1 := h1.cell (j := 1) rfl; have c2 := h1.cell (j := 2) rfl; have c3 := h1.cell (j := 3) rfl; have c4 := h1.cell (j := 4) rfl; have c5 := h1.cell (j := 5) rfl; have d0 := h2.cell (j := 0) rfl; have d1 := h2.cell (j := 1) rfl; have d2 := h2.cell (j := 2) rfl; clear h1 h2 h3; go_simp
  go_frame
  refine wpIs_val rfl (.pointer (some ⟨g, 0, none⟩)) rfl (fun wq hq => ?_) ?_
  · obtain ⟨h1, h2, h3⟩ := hq; have c0 := h1.cell (j := 0) rfl; have c1 := h1.cell (j := 1) rfl; have c2 := h1.cell (j := 2) rfl; have c3 := h1.cell (j := 3) rfl; have c4 := h1.cell (j := 4) rfl; have c5 := h1.cell (j := 5) rfl; have d0 := h2.cell (j := 0) rfl; have d1 := h2.cell (j := 1) rfl; have d2 := h2.cell (j := 2) rfl; clear h1 h2 h3; go_simp
  go_frame
  refine wpIs_val rfl (.pointer (some ⟨g, 0, none⟩)) rfl (fun wq hq => ?_) ?_
  · obtain ⟨h1, h2, h3⟩ := hq; have c0 := h1.cell (j := 0) rfl; have c1 := h1.cell (j := 1) rfl; have c2 := h1.cell (j := 2) rfl; have c3 := h1.cell (j := 3) rfl; have c4 := h1.cell (j := 4) rfl; have c5 := h1.cell (j := 5) rfl; have d0 := h2.cell (j := 0) rfl; have d1 := h2.cell (j := 1) rfl; have d2 := h2.cell (j := 2) rfl; clear h1 h2 h3; go_simp
  go_frame
  refine wpIs_val rfl (.agg #[.int .u64 rh, .int .u64 rl]) rfl (fun wq hq => ?_) ?_
  · obtain ⟨h1, h2, h3⟩ := hq; have c0 := h1.cell (j := 0) rfl; have c1 := h1.cell (j := 1) rfl; have c2 := h1.cell (j := 2) rfl; have c3 := h1.cell (j := 3) rfl; have c4 := h1.cell (j := 4) rfl; have c5 := h1.cell (j := 5) rfl; have d0 := h2.cell (j := 0) rfl; have d1 := h2.cell (j := 1) rfl; have d2 := h2.cell (j := 2) rfl; clear h1 h2 h3; go_simp
  go_frame
  refine wpIs_val rfl (.int .i64 x) rfl (fun wq hq => ?_) ?_
  · obtain ⟨h1, h2, h3⟩ := hq; have c0 := h1.cell (j := 0) rfl; have c1 := h1.cell (j := 1) rfl; have c2 := h1.cell (j := 2) rfl; have c3 := h1.cell (j := 3) rfl; have c4 := h1.cell (j := 4) rfl; have c5 := h1.cell (j := 5) rfl; have d0 := h2.cell (j := 0) rfl; have d1 := h2.cell (j := 1) rfl; have d2 := h2.cell (j := 2) rfl; clear h1 h2 h3; go_simp
  go_frame
  refine wpIs_val rfl (.pointer (some ⟨w.heap.size, 0, none⟩)) rfl (fun wq hq => ?_) ?_
  · obtain ⟨h1, h2, h3⟩ := hq; have c0 := h1.cell (j := 0) rfl; have c1 := h1.cell (j := 1) rfl; have c2 := h1.cell (j := 2) rfl; have c3 := h1.cell (j := 3) rfl; have c4 := h1.cell (j := 4) rfl; have c5 := h1.cell (j := 5) rfl; have d0 := h2.cell (j := 0) rfl; have d1 := h2.cell (j := 1) rfl; have d2 := h2.cell (j := 2) rfl; clear h1 h2 h3; go_simp
  go_frame
  refine wpIs_val rfl (.int .i64 pr) rfl (fun wq hq => ?_) ?_
  · obtain ⟨h1, h2, h3⟩ := hq; have c0 := h1.cell (j := 0) rfl; have c1 := h1.cell (j := 1) rfl; have c2 := h1.cell (j := 2) rfl; have c3 := h1.cell (j := 3) rfl; have c4 := h1.cell (j := 4) rfl; have c5 := h1.cell (j := 5) rfl; have d0 := h2.cell (j := 0) rfl; have d1 := h2.cell (j := 1) rfl; have d2 := h2.cell (j := 2) rfl; clear h1 h2 h3; go_simp
  go_frame
  refine wpIs_call rfl (.agg #[.int .u64 rh', .int .u64 rl']) 87 #[.agg #[.int .u64 rh, .int .u64 rl], .int .i64 x, .int .i64 pr] rfl (fun wq => ?_) (fun wq hq => (P1.out wq).mono fun e w' hh => ⟨hh.1, hq.1.below hh.2, hq.2.1.below hh.2, bel_trans hq.2.2 hh.2⟩) ?_
  · go_simp
  go_frame
  refine wpIs_val rfl (.pointer (some ⟨g, 0, none⟩)) rfl (fun wq hq => ?_) ?_
  · obtain ⟨h1, h2, h3⟩ := hq; have c0 := h1.cell (j := 0) rfl; have c1 := h1.cell (j := 1) rfl; have c2 := h1.cell (j := 2) rfl; have c3 := h1.cell (j := 3) rfl; have c4 := h1.cell (j := 4) rfl; have c5 := h1.cell (j := 5) rfl; have d0 := h2.cell (j := 0) rfl; have d1 := h2.cell (j := 1) rfl; have d2 := h2.cell (j := 2) rfl; clear h1 h2 h3; go_simp
  go_frame
  refine wpIs_val rfl (.pointer (some ⟨g, 0, none⟩)) rfl (fun wq hq => ?_) ?_
  · obtain ⟨h1, h2, h3⟩ := hq; have c0 := h1.cell (j := 0) rfl; have c1 := h1.cell (j := 1) rfl; have c2 := h1.cell (j := 2) rfl; have c3 := h1.cell (j := 3) rfl; have c4 := h1.cell (j := 4) rfl; have c5 := h1.cell (j := 5) rfl; have d0 := h2.cell (j := 0) rfl; have d1 := h2.cell (j := 1) rfl; have d2 := h2.cell (j := 2) rfl; clear h1 h2 h3; go_simp
  go_frame
  refine wpIs_val rfl (.pointer (some ⟨g, 2, none⟩)) rfl (fun wq hq => ?_) ?_
  · obtain ⟨h1, h2, h3⟩ := hq; have c0 := h1.cell (j := 0) rfl; have c1 := h1.cell (j := 1) rfl; have c2 := h1.cell (j := 2) rfl; have c3 := h1.cell (j := 3) rfl; have c4 := h1.cell (j := 4) rfl; have c5 := h1.cell (j := 5) rfl; have d0 := h2.cell (j := 0) rfl; have d1 := h2.cell (j := 1) rfl; have d2 := h2.cell (j := 2) rfl; clear h1 h2 h3; go_simp
  go_frame
  refine wpIs_val rfl (.agg #[.int .u64 gh, .int .u64 gl]) rfl (fun wq hq => ?_) ?_
  · obtain ⟨h1, h2, h3⟩ := hq; have c0 := h1.cell (j := 0) rfl; have c1 := h1.cell (j := 1) rfl; have c2 := h1.cell (j := 2) rfl; have c3 := h1.cell (j := 3) rfl; have c4 := h1.cell (j := 4) rfl; have c5 := h1.cell (j := 5) rfl; have d0 := h2.cell (j := 0) rfl; have d1 := h2.cell (j := 1) rfl; have d2 := h2.cell (j := 2) rfl; clear h1 h2 h3; go_simp
  go_frame
  refine wpIs_val rfl (.int .i64 x) rfl (fun wq hq => ?_) ?_
  · obtain ⟨h1, h2, h3⟩ := hq; have c0 := h1.cell (j := 0) rfl; have c1 := h1.cell (j := 1) rfl; have c2 := h1.cell (j := 2) rfl; have c3 := h1.cell (j := 3) rfl; have c4 := h1.cell (j := 4) rfl; have c5 := h1.cell (j := 5) rfl; have d0 := h2.cell (j := 0) rfl; have d1 := h2.cell (j := 1) rfl; have d2 := h2.cell (j := 2) rfl; clear h1 h2 h3; go_simp
  go_frame
  refine wpIs_val rfl (.pointer (some ⟨w.heap.size, 1, none⟩)) rfl (fun wq hq => ?_) ?_
  · obtain ⟨h1, h2, h3⟩ := hq; have c0 := h1.cell (j := 0) rfl; have c1 := h1.cell (j := 1) rfl; have c2 := h1.cell (j := 2) rfl; have c3 := h1.cell (j := 3) rfl; have c4 := h1.cell (j := 4) rfl; have c5 := h1.cell (j := 5) rfl; have d0 := h2.cell (j := 0) rfl; have d1 := h2.cell (j := 1) rfl; have d2 := h2.cell (j := 2) rfl; clear h1 h2 h3; go_simp
  go_frame
  refine wpIs_val rfl (.int .i64 pg) rfl (fun wq hq => ?_) ?_
  · obtain ⟨h1, h2, h3⟩ := hq; have c0 := h1.cell (j := 0) rfl; have c1 := h1.cell (j := 1) rfl; have c2 := h1.cell (j := 2) rfl; have c3 := h1.cell (j := 3) rfl; have c4 := h1.cell (j := 4) rfl; have c5 := h1.cell (j := 5) rfl; have d0 := h2.cell (j := 0) rfl; have d1 := h2.cell (j := 1) rfl; have d2 := h2.cell (j := 2) rfl; clear h1 h2 h3; go_simp
  go_frame
  refine wpIs_call rfl (.agg #[.int .u64 gh', .int .u64 gl']) 87 #[.agg #[.int .u64 gh, .int .u64 gl], .int .i64 x, .int .i64 pg] rfl (fun wq => ?_) (fun wq hq => (P2.out wq).mono fun e w' hh => ⟨hh.1, hq.1.below hh.2, hq.2.1.below hh.2, bel_trans hq.2.2 hh.2⟩) ?_
  · go_simp
  go_frame
  refine wpIs_val rfl (.pointer (some ⟨g, 0, none⟩)) rfl (fun wq hq => ?_) ?_
  · obtain ⟨h1, h2, h3⟩ := hq; have c0 := h1.cell (j := 0) rfl; have c1 := h1.cell (j := 1) rfl; have c2 := h1.cell (j := 2) rfl; have c3 := h1.cell (j := 3) rfl; have c4 := h1.cell (j := 4) rfl; have c5 := h1.cell (j := 5) rfl; have d0 := h2.cell (j := 0) rfl; have d1 := h2.cell (j := 1) rfl; have d2 := h2.cell (j := 2) rfl; clear h1 h2 h3; go_simp
  go_frame
  refine wpIs_val rfl (.pointer (some ⟨g, 0, none⟩)) rfl (fun wq hq => ?_) ?_
  · obtain ⟨h1, h2, h3⟩ := hq; have c0 := h1.cell (j := 0) rfl; have c1 := h1.cell (j := 1) rfl; have c2 := h1.cell (j := 2) rfl; have c3 := h1.cell (j := 3) rfl; have c4 := h1.cell (j := 4) rfl; have c5 := h1.cell (j := 5) rfl; have d0 := h2.cell (j := 0) rfl; have d1 := h2.cell (j := 1) rfl; have d2 := h2.cell (j := 2) rfl; clear h1 h2 h3; go_simp
  go_frame
  refine wpIs_val rfl (.pointer (some ⟨g, 4, none⟩)) rfl (fun wq hq => ?_) ?_
  · obtain ⟨h1, h2, h3⟩ := hq; have c0 := h1.cell (j := 0) rfl; have c1 := h1.cell (j := 1) rfl; have c2 := h1.cell (j := 2) rfl; have c3 := h1.cell (j := 3) rfl; have c4 := h1.cell (j := 4) rfl; have c5 := h1.cell (j := 5) rfl; have d0 := h2.cell (j := 0) rfl; have d1 := h2.cell (j := 1) rfl; have d2 := h2.cell (j := 2) rfl; clear h1 h2 h3; go_simp
  go_frame
  refine wpIs_val rfl (.agg #[.int .u64 bh, .int .u64 bl]) rfl (fun wq hq => ?_) ?_
  · obtain ⟨h1, h2, h3⟩ := hq; have c0 := h1.cell (j := 0) rfl; have c1 := h1.cell (j := 1) rfl; have c2 := h1.cell (j := 2) rfl; have c3 := h1.cell (j := 3) rfl; have c4 := h1.cell (j := 4) rfl; have c5 := h1.cell (j := 5) rfl; have d0 := h2.cell (j := 0) rfl; have d1 := h2.cell (j := 1) rfl; have d2 := h2.cell (j := 2) rfl; clear h1 h2 h3; go_simp
  go_frame
  refine wpIs_val rfl (.int .i64 x) rfl (fun wq hq => ?_) ?_
  · obtain ⟨h1, h2, h3⟩ := hq; have c0 := h1.cell (j := 0) rfl; have c1 := h1.cell (j := 1) rfl; have c2 := h1.cell (j := 2) rfl; have c3 := h1.cell (j := 3) rfl; have c4 := h1.cell (j := 4) rfl; have c5 := h1.cell (j := 5) rfl; have d0 := h2.cell (j := 0) rfl; have d1 := h2.cell (j := 1) rfl; have d2 := h2.cell (j := 2) rfl; clear h1 h2 h3; go_simp
  go_frame
  refine wpIs_val rfl (.pointer (some ⟨w.heap.size, 2, none⟩)) rfl (fun wq hq => ?_) ?_
  · obtain ⟨h1, h2, h3⟩ := hq; have c0 := h1.cell (j := 0) rfl; have c1 := h1.cell (j := 1) rfl; have c2 := h1.cell (j := 2) rfl; have c3 := h1.cell (j := 3) rfl; have c4 := h1.cell (j := 4) rfl; have c5 := h1.cell (j := 5) rfl; have d0 := h2.cell (j := 0) rfl; have d1 := h2.cell (j := 1) rfl; have d2 := h2.cell (j := 2) rfl; clear h1 h2 h3; go_simp
  go_frame
  refine wpIs_val rfl (.int .i64 pb) rfl (fun wq hq => ?_) ?_
  · obtain ⟨h1, h2, h3⟩ := hq; have c0 := h1.cell (j := 0) rfl; have c1 := h1.cell (j := 1) rfl; have c2 := h1.cell (j := 2) rfl; have c3 := h1.cell (j := 3) rfl; have c4 := h1.cell (j := 4) rfl; have c5 := h1.cell (j := 5) rfl; have d0 := h2.cell (j := 0) rfl; have d1 := h2.cell (j := 1) rfl; have d2 := h2.cell (j := 2) rfl; clear h1 h2 h3; go_simp
  go_frame
  refine wpIs_call rfl (.agg #[.int .u64 bh', .int .u64 bl']) 87 #[.agg #[.int .u64 bh, .int .u64 bl], .int .i64 x, .int .i64 pb] rfl (fun wq => ?_) (fun wq hq => (P3.out wq).mono fun e w' hh => ⟨hh.1, hq.1.below hh.2, hq.2.1.below hh.2, bel_trans hq.2.2 hh.2⟩) ?_
  · go_simp
  go_frame
  intro wz ⟨z1, z2, z3⟩
  simp only [List.drop_succ_cons, List.drop_zero]
  have f0 := z1.frozen 0; have f1 := z1.frozen 1; have f2 := z1.frozen 2; have f3 := z1.frozen 3; have f4 := z1.frozen 4; have f5 := z1.frozen 5
  have c0 := z1.cell (j := 0) rfl; have c1 := z1.cell (j := 1) rfl; have c2 := z1.cell (j := 2) rfl; have c3 := z1.cell (j := 3) rfl; have c4 := z1.cell (j := 4) rfl; have c5 := z1.cell (j := 5) rfl
  go_wp2_with fail
  refine NoPanic.normal ?_
  have T3 := Lib.hid (show Bx ((((((wz.setCell ⟨g, 0, none⟩ (.int .u64 rh')).setCell ⟨g, 1, none⟩ (.int .u64 rl')).setCell ⟨g, 2, none⟩ (.int .u64 gh')).setCell ⟨g, 3, none⟩ (.int .u64 gl')).setCell ⟨g, 4, none⟩ (.int .u64 bh')).setCell ⟨g, 5, none⟩ (.int .u64 bl')) g 84 #[.int .u64 rh', .int .u64 rl', .int .u64 gh', .int .u64 gl', .int .u64 bh', .int .u64 bl', .int .i64 A] from
    (((((z1.set 0 (.int .u64 rh')).set 1 (.int .u64 rl')).set 2 (.int .u64 gh')).set 3 (.int .u64 gl')).set 4 (.int .u64 bh')).set 5 (.int .u64 bl'))
  have K3 := Lib.hid (((((((KW.out.below z3 hsz).set 0 (.int .u64 rh')).set 1 (.int .u64 rl')).set 2 (.int .u64 gh')).set 3 (.int .u64 gl')).set 4 (.int .u64 bh')).set 5 (.int .u64 bl'))
  clear f0 f1 f2 f3 f4 f5 c0 c1 c2 c3 c4 c5 z1 z2 z3
  generalize World.setCell (World.setCell (World.setCell (World.setCell (World.setCell (World.setCell wz _ _) _ _) _ _) _ _) _ _) _ _ = wy at *
  have c6 := T3.out.cell (j := 6) rfl; have f6 := T3.out.frozen 6
  have e1 := E1.out
  go_wp2_with fail
  go_end0
  exact ⟨rfl, T3.out.set 6 (.int .i64 A'), K3.out.set 6 (.int .i64 A')⟩
/-- A weighted pixel is added to the sums. -/
theorem add_any (g : Nat) (A R G B wt : Int) (p : Px) (w : World) (hp : p.ok) (hw : -4398046511104 ≤ wt ∧ wt ≤ 4398046511104) (hA : -4611686018427387904 ≤ A + wt * p.a ∧ A + wt * p.a ≤ 4611686018427387904) (h : Tt w g A R G B) :
    Calls Try.prog 59 #[.pointer (some ⟨g, 0, none⟩), .agg #[.int .i64 p.r, .int .i64 p.g, .int .i64 p.b, .int .i64 p.a], .int .i64 wt] w fun e w' =>
      e = .returned (.tuple #[]) ∧ Tt w' g (A + wt * p.a) (R + wt * p.a * p.r) (G + wt * p.a * p.g) (B + wt * p.a * p.b) ∧ KB w.heap.size g w w' := by
  obtain ⟨h1, h2, h3, h4⟩ := hp
  have hx : -288230376151711744 ≤ wt * p.a ∧ wt * p.a ≤ 288230376151711744 := by
    have a1 : wt * p.a ≤ 4398046511104 * p.a := Int.mul_le_mul_of_nonneg_right hw.2 h4.1
    have a2 : -4398046511104 * p.a ≤ wt * p.a := Int.mul_le_mul_of_nonneg_right hw.1 h4.1
    omega
  exact add_core g _ _ _ _ _ _ A _ _ _ _ _ _ _ wt (wt * p.a) p.r p.g p.b p.a w h (wrap_in _ (by omega)) (fun w => plus_any R (wt * p.a) p.r w (by omega) (by omega)) (fun w => plus_any G (wt * p.a) p.g w (by omega) (by omega)) (fun w => plus_any B (wt * p.a) p.b w (by omega) (by omega)) (wrap_in _ (by omega))
end Go.Proofs.Ytineinmghajmnaa
namespace Go.Proofs.Ytineinmghajmnaa
open Go.RowKit
set_option maxHeartbeats 1000000 in
theorem pixel_zero (g : Nat) (rh rl gh gl bh bl A d : Int) (w : World) (hg : Bx w g 84 #[.int .u64 rh, .int .u64 rl, .int .u64 gh, .int .u64 gl, .int .u64 bh, .int .u64 bl, .int .i64 A])
    (D : ∀ w, Calls Try.prog 50 #[.int .i64 A, .int .i64 4294967296] w fun e w' => e = .returned (.int .i64 d) ∧ w = w')
    (C : ∀ w, Calls Try.prog 29 #[.int .i64 d, .int .i64 0, .int .i64 65535] w fun e w' => e = .returned (.int .i64 0) ∧ w = w') :
    Calls Try.prog 60 #[.pointer (some ⟨g, 0, none⟩)] w (PxPost Px.zero w) := by
  replace D := Lib.hid D; replace C := Lib.hid C
  go_enter Try.func60, Try.ntmps60
  go_upto_region 1 with fail
  obtain ⟨hb2, hB, -⟩ := one_box w #[.int .i64 0, .int .i64 0, .int .i64 0, .int .i64 0] 27 _ rfl
  have hgl := hg.lt
  have T0 := hg.below hB
  generalize World.alloc w _ = w0 at *
  have c6 := T0.cell (j := 6) rfl
  go_wp2_with fail
  refine (D.out _).mono ?_
  rintro e w1 ⟨rfl, rfl⟩
  go_wp2_with fail
  refine (C.out _).mono ?_
  rintro e w1 ⟨rfl, rfl⟩
  obtain ⟨⟨r1, r2, r3, r4⟩, f1, f2, f3, f4⟩ := hb2.four
  go_wp2_with fail
  refine bodyPost_ret (v := .agg #[.int .i64 0, .int .i64 0, .int .i64 0, .int .i64 0]) (by simp [results, Try.results60, go_sem, *]) rfl ⟨rfl, ?_⟩
  exact set4_below hB (Nat.le_refl _) _ _ _ _ _ _ _ _
set_option maxRecDepth 100000 in
set_option maxHeartbeats 4000000 in
theorem pixel_core (g : Nat) (rh rl gh gl bh bl A d r gg b al : Int) (w : World) (hg : Bx w g 84 #[.int .u64 rh, .int .u64 rl, .int .u64 gh, .int .u64 gl, .int .u64 bh, .int .u64 bl, .int .i64 A])
    (D : ∀ w, Calls Try.prog 50 #[.int .i64 A, .int .i64 4294967296] w fun e w' => e = .returned (.int .i64 d) ∧ w = w')
    (C : ∀ w, Calls Try.prog 29 #[.int .i64 d, .int .i64 0, .int .i64 65535] w fun e w' => e = .returned (.int .i64 al) ∧ w = w') (t : (al == 0) = false)
    (O1 : ∀ w, Calls Try.prog 88 #[.agg #[.int .u64 rh, .int .u64 rl], .int .i64 A] w fun e w' => e = .returned (.int .i64 r) ∧ Below w.heap.size w w')
    (O2 : ∀ w, Calls Try.prog 88 #[.agg #[.int .u64 gh, .int .u64 gl], .int .i64 A] w fun e w' => e = .returned (.int .i64 gg) ∧ Below w.heap.size w w')
    (O3 : ∀ w, Calls Try.prog 88 #[.agg #[.int .u64 bh, .int .u64 bl], .int .i64 A] w fun e w' => e = .returned (.int .i64 b) ∧ Below w.heap.size w w') :
    Calls Try.prog 60 #[.pointer (some ⟨g, 0, none⟩)] w (PxPost ⟨r, gg, b, al⟩ w) := by
  replace D := Lib.hid D; replace C := Lib.hid C; replace O1 := Lib.hid O1; replace O2 := Lib.hid O2; replace O3 := Lib.hid O3
  go_enter Try.func60, Try.ntmps60
  go_upto_region 1 with fail
  obtain ⟨hb2, hB, -⟩ := one_box w #[.int .i64 0, .int .i64 0, .int .i64 0, .int .i64 0] 27 _ rfl
  have hgl := hg.lt
  have T0 := hg.below hB
  generalize World.alloc w _ = w0 at *
  have c6 := T0.cell (j := 6) rfl
  go_wp2_with fail
  refine (D.out _).mono ?_
  rintro e w1 ⟨rfl, rfl⟩
  go_wp2_with fail
  refine (C.out _).mono ?_
  rintro e w1 ⟨rfl, rfl⟩
  clear c6
  go_upto_region 4 with fail
  have HB := Lib.hid hB
  have HSA := Lib.hid (show ∀ wq, RSt 27 w.heap.size w0 wq → RSt 27 w.heap.size w0 wq ∧ wq.cell? ⟨g, 0, none⟩ = some (.int .u64 rh) ∧ wq.cell? ⟨g, 1, none⟩ = some (.int .u64 rl) ∧ wq.cell? ⟨g, 2, none⟩ = some (.int .u64 gh) ∧ wq.cell? ⟨g, 3, none⟩ = some (.int .u64 gl) ∧ wq.cell? ⟨g, 4, none⟩ = some (.int .u64 bh) ∧ wq.cell? ⟨g, 5, none⟩ = some (.int .u64 bl) ∧ wq.cell? ⟨g, 6, none⟩ = some (.int .i64 A) ∧ wq.cell? ⟨w.heap.size, 0, none⟩ = some (cv wq w.heap.size 0) ∧ wq.cell? ⟨w.heap.size, 1, none⟩ = some (cv wq w.heap.size 1) ∧ wq.cell? ⟨w.heap.size, 2, none⟩ = some (cv wq w.heap.size 2) ∧ wq.cell? ⟨w.heap.size, 3, none⟩ = some (cv wq w.heap.size 3) ∧ wq.frozen? ⟨w.heap.size, 0, none⟩ = false ∧ wq.frozen? ⟨w.heap.size, 1, none⟩ = false ∧ wq.frozen? ⟨w.heap.size, 2, none⟩ = false ∧ wq.frozen? ⟨w.heap.size, 3, none⟩ = false from
    fun wq h => ⟨h, (h.bx T0 (by omega)).cell rfl, (h.bx T0 (by omega)).cell rfl, (h.bx T0 (by omega)).cell rfl, (h.bx T0 (by omega)).cell rfl, (h.bx T0 (by omega)).cell rfl, (h.bx T0 (by omega)).cell rfl, (h.bx T0 (by omega)).cell rfl, h.cvs.1.1, h.cvs.1.2.1, h.cvs.1.2.2.1, h.cvs.1.2.2.2, h.cvs.2⟩)
  have HSP := Lib.hid (fun wq (h : RSt 27 w.heap.size w0 wq) a b c d => HSA.out _ (h.put a b c d))
  have hBv : RSt 27 w.heap.size w0 w0.drew := RSt.start hb2
  have hS0 := HSA.out _ hBv
  clear hb2 hB hg T0 D C
  go_region_held3 (fun wq => RSt 27 w.heap.size w0 wq ∧ wq.cell? ⟨g, 0, none⟩ = some (.int .u64 rh) ∧ wq.cell? ⟨g, 1, none⟩ = some (.int .u64 rl) ∧ wq.cell? ⟨g, 2, none⟩ = some (.int .u64 gh) ∧ wq.cell? ⟨g, 3, none⟩ = some (.int .u64 gl) ∧ wq.cell? ⟨g, 4, none⟩ = some (.int .u64 bh) ∧ wq.cell? ⟨g, 5, none⟩ = some (.int .u64 bl) ∧ wq.cell? ⟨g, 6, none⟩ = some (.int .i64 A) ∧ wq.cell? ⟨w.heap.size, 0, none⟩ = some (cv wq w.heap.size 0) ∧ wq.cell? ⟨w.heap.size, 1, none⟩ = some (cv wq w.heap.size 1) ∧ wq.cell? ⟨w.heap.size, 2, none⟩ = some (cv wq w.heap.size 2) ∧ wq.cell? ⟨w.heap.size, 3, none⟩ = some (cv wq w.heap.size 3) ∧ wq.frozen? ⟨w.heap.size, 0, none⟩ = false ∧ wq.frozen? ⟨w.heap.size, 1, none⟩ = false ∧ wq.frozen? ⟨w.heap.size, 2, none⟩ = false ∧ wq.frozen? ⟨w.heap.size, 3, none⟩ = false)
    (first | assumption | exact hS0 | exact HSA.out _ hBv | exact HSP.out _ hBv _ _ _ _ | go_keep)
    (first | (go_at_call 88; (with_reducible refine (O1.out _).mono ?_); rintro e wv ⟨rfl, hbv⟩; have hBv := RSt.call hBv hbv) | (go_at_call 88; (with_reducible refine (O2.out _).mono ?_); rintro e wv ⟨rfl, hbv⟩; have hBv := RSt.call hBv hbv) | (go_at_call 88; (with_reducible refine (O3.out _).mono ?_); rintro e wv ⟨rfl, hbv⟩; have hBv := RSt.call hBv hbv))
  obtain ⟨⟨r1, r2, r3, r4⟩, f1, f2, f3, f4⟩ := hBv.cvs
  go_wp2_with fail
  refine bodyPost_ret (v := .agg #[.int .i64 r, .int .i64 gg, .int .i64 b, .int .i64 al]) (by simp [results, Try.results60, go_sem, r1, r2, r3, r4]) rfl ⟨rfl, ?_⟩
  exact set4_below (hBv.bel HB.out (Nat.le_refl _)) (Nat.le_refl _) _ _ _ _ _ _ _ _
/-- The pixel of the sums. -/
theorem pixel_any (g : Nat) (A R G B : Int) (w : World) (h : Tt w g A R G B) (hA : -4611686018427387904 ≤ A ∧ A ≤ 4611686018427387904)
    (hR : -170141183460469231731687303715884105728 ≤ R ∧ R < 170141183460469231731687303715884105728) (hG : -170141183460469231731687303715884105728 ≤ G ∧ G < 170141183460469231731687303715884105728) (hB : -170141183460469231731687303715884105728 ≤ B ∧ B < 170141183460469231731687303715884105728) :
    Calls Try.prog 60 #[.pointer (some ⟨g, 0, none⟩)] w (PxPost (blend A R G B) w) := by
  have D := fun w => div_any A 4294967296 w hA.1 hA.2 (by omega) (by omega)
  have C := fun w => clamp_any (rdiv A 4294967296) 0 65535 w
  have e : min 65535 (max (rdiv A 4294967296) 0) = lim16 (rdiv A 4294967296) := by unfold lim16; omega
  rw [e] at C
  unfold blend
  by_cases hz : lim16 (rdiv A 4294967296) = 0
  · rw [if_pos hz]
    rw [hz] at C
    exact pixel_zero g _ _ _ _ _ _ A _ w h D C
  · rw [if_neg hz]
    have hp := blend_pos hz
    exact pixel_core g _ _ _ _ _ _ A _ _ _ _ _ w h D C (by simp [hz]) (fun w => over_any R A w ⟨hp, hA.2⟩ hR) (fun w => over_any G A w ⟨hp, hA.2⟩ hG) (fun w => over_any B A w ⟨hp, hA.2⟩ hB)
end Go.Proofs.Ytineinmghajmnaa
