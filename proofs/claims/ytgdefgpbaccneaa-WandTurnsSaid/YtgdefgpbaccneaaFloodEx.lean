/- The chapter's examples of Flood, Similar, Soft and Opaque, at their calls. -/
import Derived.Test.YtgdefgpbaccneaaFlood
import Derived.Test.YtgdefgpbaccneaaRFlood
import Derived.Test.YtgdefgpbaccneaaReds
namespace Go.Proofs.Ytgdefgpbaccneaa
open Go.RowKit

instance (W : Int) (dg : Bool) (a b : Int) : Decidable (Adj W dg a b) := by unfold Adj; exact inferInstance
instance (ps : List Px) (t : Int) (s b : Nat) : Decidable (simP ps t s b) := by unfold simP; exact inferInstance
theorem flood_check {N : Nat} {W : Int} {dg : Bool} {sim : Nat → Prop} {s : Nat} {l : List Int} (hl : l.length = N) (hv : ∀ k, k < N → l.getD k 0 = 65535 ∨ l.getD k 0 = 0) (h0 : l.getD s 0 = 65535)
    (hc : ∀ a, a < N → ∀ b, b < N → l.getD a 0 = 65535 → Adj W dg a b → sim b → l.getD b 0 = 65535) (hr : ∀ k, k < N → l.getD k 0 = 65535 → Reach N W dg sim s k) : FloodIs N W dg sim s l := by
  refine ⟨hl, fun k hk => ?_⟩
  rcases hv k hk with h | h
  · exact .inl ⟨h, hr k hk h⟩
  · refine .inr ⟨h, fun r => ?_⟩
    have : l.getD k 0 = 65535 := r (fun k => l.getD k 0 = 65535) h0 fun a b ha hN hb hj hs => hc a hN b hb ha hj hs
    omega
def psR : List Px := [red 0, red 5, red 0]
def psB : List Px := [red 0, red 9, red 9, red 0]
theorem ex_fa : FloodIs 3 3 false (simP psR 4 0) 0 [65535, 0, 0] := by
  refine flood_check rfl (by decide +kernel) rfl (by decide +kernel) ?_
  intro k hk h
  match k, hk with
  | 0, _ => exact Reach.start
  | 1, _ => exact absurd h (by decide)
  | 2, _ => exact absurd h (by decide)
theorem ex_fb : FloodIs 3 3 false (simP psR 5 0) 0 [65535, 65535, 65535] := by
  refine flood_check rfl (by decide +kernel) rfl (by decide +kernel) ?_
  have r1 : Reach 3 3 false (simP psR 5 0) 0 1 := Reach.start.step (by decide) (by decide) (by decide +kernel) (by decide +kernel)
  intro k hk h
  match k, hk with
  | 0, _ => exact Reach.start
  | 1, _ => exact r1
  | 2, _ => exact r1.step (by decide) (by decide) (by decide +kernel) (by decide +kernel)
theorem ex_fc : FloodIs 4 2 true (simP psB 0 0) 0 [65535, 0, 0, 65535] := by
  refine flood_check rfl (by decide +kernel) rfl (by decide +kernel) ?_
  intro k hk h
  match k, hk with
  | 0, _ => exact Reach.start
  | 1, _ => exact absurd h (by decide)
  | 2, _ => exact absurd h (by decide)
  | 3, _ => exact Reach.start.step (by decide) (by decide) (by decide +kernel) (by decide +kernel)
theorem flOut_ex {W H x y t : Int} {dg : Bool} {ps : List Px} {chk : Int} {l : List Int} {w w' : World} {e : Ending} (hf : ferr chk W H x y (uok t) = 0) {N s : Nat} (hN : ps.length = N) (hs : (y * W + x).toNat = s) (hl : FloodIs N W dg (simP ps t s) s l) (h : FlOut W H x y t dg ps chk w e w') : MkPost 0 W H l w e w' := by
  subst hN hs
  obtain ⟨l', h1, h2⟩ := h
  have := floodIs_eq (h1 hf) hl
  subst this
  rw [hf, mkOut_ok] at h2
  exact h2
section
variable (A : Option Addr) (n c : Nat) (w : World)
theorem call_fa (h : Pixs w w.heap.size (.slice A n c) psR) : Calls Try.prog 9 #[.agg #[.int .i64 3, .int .i64 1, .slice A n c], .agg #[.int .i64 0, .int .i64 0], .int .i64 4, .bool false] w (MkPost 0 3 1 [65535, 0, 0] w) :=
  (flood_any 3 1 0 0 4 false A n c psR w h).mono fun _ _ h => flOut_ex (by decide +kernel) (by decide +kernel) (by decide +kernel) ex_fa h
theorem call_fb (h : Pixs w w.heap.size (.slice A n c) psR) : Calls Try.prog 9 #[.agg #[.int .i64 3, .int .i64 1, .slice A n c], .agg #[.int .i64 0, .int .i64 0], .int .i64 5, .bool false] w (MkPost 0 3 1 [65535, 65535, 65535] w) :=
  (flood_any 3 1 0 0 5 false A n c psR w h).mono fun _ _ h => flOut_ex (by decide +kernel) (by decide +kernel) (by decide +kernel) ex_fb h
theorem call_fc (h : Pixs w w.heap.size (.slice A n c) psB) : Calls Try.prog 9 #[.agg #[.int .i64 2, .int .i64 2, .slice A n c], .agg #[.int .i64 0, .int .i64 0], .int .i64 0, .bool true] w (MkPost 0 2 2 [65535, 0, 0, 65535] w) :=
  (flood_any 2 2 0 0 0 true A n c psB w h).mono fun _ _ h => flOut_ex (by decide +kernel) (by decide +kernel) (by decide +kernel) ex_fc h
theorem mkOut_ex {err err' W H : Int} {l l' : List Int} {w w' : World} {e : Ending} (he : err = 0) (hl : l = l') (h0 : err' = 0) (h : MkOut err W H l w e w') : MkPost err' W H l' w e w' := by
  subst he hl h0
  rwa [mkOut_ok] at h
theorem call_si (h : Pixs w w.heap.size (.slice A n c) psR) : Calls Try.prog 13 #[.agg #[.int .i64 3, .int .i64 1, .slice A n c], .agg #[.int .i64 0, .int .i64 0, .int .i64 0, .int .i64 0], .int .i64 4] w (MkPost 0 3 1 [65535, 0, 65535] w) :=
  (similar_any 3 1 A n c psR Px.zero 4 w h).mono fun _ _ h => mkOut_ex (by decide +kernel) (by decide +kernel) rfl h
theorem call_so (h : Pixs w w.heap.size (.slice A n c) psR) : Calls Try.prog 15 #[.agg #[.int .i64 3, .int .i64 1, .slice A n c], .agg #[.int .i64 0, .int .i64 0, .int .i64 0, .int .i64 0], .int .i64 0, .int .i64 10] w (MkPost 0 3 1 [65535, 32768, 65535] w) :=
  (soft_any 3 1 A n c psR Px.zero 0 10 w h).mono fun _ _ h => mkOut_ex (by decide +kernel) (by decide +kernel) rfl h
theorem call_op (h : Pixs w w.heap.size (.slice A n c) psR) : Calls Try.prog 17 #[.agg #[.int .i64 3, .int .i64 1, .slice A n c]] w (MkPost 0 3 1 [0, 0, 0] w) :=
  (opaque_any 3 1 A n c psR w h).mono fun _ _ h => mkOut_ex (by decide +kernel) (by decide +kernel) rfl h
theorem mkOut_no {err err' W H : Int} {l : List Int} {w w' : World} {e : Ending} (he : err = err') (h0 : err' ≠ 0) (h : MkOut err W H l w e w') : MkPost err' 0 0 [] w e w' := by
  subst he
  rwa [mkOut_err h0] at h
theorem call_s5 (h : Pixs w w.heap.size (.slice A n c) psR) : Calls Try.prog 15 #[.agg #[.int .i64 3, .int .i64 1, .slice A n c], .agg #[.int .i64 0, .int .i64 0, .int .i64 0, .int .i64 0], .int .i64 5, .int .i64 5] w (MkPost 24 0 0 [] w) :=
  (soft_any 3 1 A n c psR Px.zero 5 5 w h).mono fun _ _ h => mkOut_no (by decide +kernel) (by omega) h
end
theorem call_f0 (w : World) : Calls Try.prog 9 #[.agg #[.int .i64 0, .int .i64 0, .slice none 0 0], .agg #[.int .i64 0, .int .i64 0], .int .i64 0, .bool false] w (MkPost 2 0 0 [] w) :=
  (flood_any 0 0 0 0 0 false none 0 0 [] w (Pixs.nil _ _)).mono fun _ _ ⟨_, _, h⟩ => mkOut_no (by decide +kernel) (by omega) h
theorem call_s0 (w : World) : Calls Try.prog 13 #[.agg #[.int .i64 0, .int .i64 0, .slice none 0 0], .agg #[.int .i64 0, .int .i64 0, .int .i64 0, .int .i64 0], .int .i64 0] w (MkPost 0 0 0 [] w) :=
  (similar_any 0 0 none 0 0 [] Px.zero 0 w (Pixs.nil _ _)).mono fun _ _ h => mkOut_ex (by decide +kernel) (by decide +kernel) rfl h
theorem call_r3 (v : Value) (w : World) (h : Ints w w.heap.size v [0, 5, 0]) : Calls Try.prog 28 #[.int .i64 3, v] w (ImPost 3 1 psR w) := reds_any 3 v [0, 5, 0] w (by omega) (by decide) h
theorem call_r4 (v : Value) (w : World) (h : Ints w w.heap.size v [0, 9, 9, 0]) : Calls Try.prog 28 #[.int .i64 2, v] w (ImPost 2 2 psB w) := reds_any 2 v [0, 9, 9, 0] w (by omega) (by decide) h
theorem call_v3 (A : Option Addr) (c : Nat) (w : World) : Calls Try.prog 29 #[.int .i64 3, .slice A 3 c] w fun e w' => e = .returned (.agg #[.int .i64 3, .int .i64 1, .slice A 3 c]) ∧ Below w.heap.size w w' := values_any 3 A 3 c w (by omega) (by omega)
theorem call_v4 (A : Option Addr) (c : Nat) (w : World) : Calls Try.prog 29 #[.int .i64 2, .slice A 4 c] w fun e w' => e = .returned (.agg #[.int .i64 2, .int .i64 2, .slice A 4 c]) ∧ Below w.heap.size w w' := values_any 2 A 4 c w (by omega) (by omega)

theorem irow_shape_n {w : World} {B : Nat} {v : Value} {l : List Int} (n : Nat) (hn : l.length = n) (h : IRow w B v l) : ∃ A cap, v = .slice A n cap := by
  subst hn
  exact irow_shape h
theorem values_ints (W : Int) (A : Option Addr) (n c : Nat) (xs : List Int) (w : World) (hW : 0 < W) (hn : n ≤ 1000) (h : Ints w w.heap.size (.slice A n c) xs) :
    Calls Try.prog 29 #[.int .i64 W, .slice A n c] w fun e w' => e = .returned (.agg #[.int .i64 W, .int .i64 ((n : Int) / W), .slice A n c]) ∧ Ints w' w'.heap.size (.slice A n c) xs ∧ Below w.heap.size w w' :=
  (values_any W A n c w hW hn).mono fun _ _ ⟨he, hb⟩ => ⟨he, (h.below hb).more hb.size, hb⟩
theorem msame_true (W H W' H' : Int) (v1 v2 : Value) (xs : List Int) (w : World) (hW : W = W') (hH : H = H') (h1 : Ints w w.heap.size v1 xs) (h2 : Ints w w.heap.size v2 xs) :
    Calls Try.prog 11 #[.agg #[.int .i64 W, .int .i64 H, v1], .agg #[.int .i64 W', .int .i64 H', v2]] w fun e w' => e = .returned (.bool true) ∧ Below w.heap.size w w' := by
  refine (msame_any W H W' H' v1 v2 xs xs w h1 h2).mono ?_
  rintro e w' ⟨rfl, hb⟩
  exact ⟨ret_bool (by simp [hW, hH]), hb⟩
theorem Bel.al {w w1 : World} (h : Bel w w1) {o : Obj} : Bel w (w1.alloc o) := bel_alloc h o
theorem Bel.ints {w w' : World} {v : Value} {l : List Int} (h : Ints w w.heap.size v l) (hb : Bel w w') : Ints w' w'.heap.size v l := by
  have hb' : Below w.heap.size w w' := hb
  exact (h.below hb').more hb'.size
theorem Bel.img {w w' : World} {b : Nat} {W H : Int} {v : Value} (h : ImgAt w b W H v) (hb : Bel w w') : w'.cell? ⟨b, 0, none⟩ = some (.int .i64 W) ∧ w'.cell? ⟨b, 1, none⟩ = some (.int .i64 H) ∧ w'.cell? ⟨b, 2, none⟩ = some v := (h.below (show Below w.heap.size w w' from hb)).2
/-- An image, a mask in a box. -/
def Im (w : World) (b : Nat) (W H : Int) (ps : List Px) : Prop := ∃ A n c, ImgAt w b W H (.slice A n c) ∧ Pixs w w.heap.size (.slice A n c) ps
def Mk (w : World) (b : Nat) (W H : Int) (l : List Int) : Prop := ∃ v, ImgAt w b W H v ∧ Ints w w.heap.size v l
theorem Im.below {w w' : World} {b : Nat} {W H : Int} {ps : List Px} (h : Im w b W H ps) (hb : Below w.heap.size w w') : Im w' b W H ps := by
  obtain ⟨A, n, c, h1, h2⟩ := h
  exact ⟨A, n, c, h1.below hb, h2.on hb⟩
theorem Mk.below {w w' : World} {b : Nat} {W H : Int} {l : List Int} (h : Mk w b W H l) (hb : Below w.heap.size w w') : Mk w' b W H l := by
  obtain ⟨v, h1, h2⟩ := h
  exact ⟨v, h1.below hb, (h2.below hb).more hb.size⟩
theorem Mk.new {w : World} {B : Nat} {v : Value} {l : List Int} (W H : Int) (t : TypeId) (h : IRow w B v l) : Mk (w.alloc (.cells #[.int .i64 W, .int .i64 H, v] t)) w.heap.size W H l :=
  ⟨v, ImgAt.new _ _ _ _ _, (h.ints.below (bel1 _ _)).more (bel1 w (.cells #[.int .i64 W, .int .i64 H, v] t)).size⟩
theorem Im.new {w : World} {A : Option Addr} {n c : Nat} {ps : List Px} (W H : Int) (t : TypeId) (h : Pixs w w.heap.size (.slice A n c) ps) : Im (w.alloc (.cells #[.int .i64 W, .int .i64 H, .slice A n c] t)) w.heap.size W H ps :=
  ⟨A, n, c, ImgAt.new _ _ _ _ _, h.alloc _⟩
theorem ints_lit (w : World) (xs : List Int) (cs : Array Value) (g n : Nat) (hcs : cs = (xs.map (Value.int .i64)).toArray) (hg : g = w.heap.size) (hn : n = xs.length) (hl : xs.length ≤ 1000000) :
    Ints (w.alloc (.cells cs 3)) (w.alloc (.cells cs 3)).heap.size (.slice (some ⟨g, 0, none⟩) n n) xs := by
  subst hcs hg hn
  exact (IRow.made w 0 xs (Nat.zero_le _) hl).ints
theorem ints_litD (w : World) (xs : List Int) (cs : Array Value) (g n : Nat) (hcs : cs = (xs.map (Value.int .i64)).toArray) (hg : g = w.heap.size) (hn : n = xs.length) (hl : xs.length ≤ 1000000) :
    Ints (w.alloc (.cells cs 3)).drew (w.alloc (.cells cs 3)).drew.heap.size (.slice (some ⟨g, 0, none⟩) n n) xs := (ints_lit w xs cs g n hcs hg hn hl).drewN 1
theorem val3 (a b c : Int) (w : World) : Calls Try.prog 29 #[.int .i64 3, .slice (some ⟨w.heap.size, 0, none⟩) 3 3] (w.alloc (.cells #[.int .i64 a, .int .i64 b, .int .i64 c] 3)) fun e w' => e = .returned (.agg #[.int .i64 3, .int .i64 1, .slice (some ⟨w.heap.size, 0, none⟩) 3 3]) ∧ Ints w' w'.heap.size (.slice (some ⟨w.heap.size, 0, none⟩) 3 3) [a, b, c] ∧ Below (w.alloc (.cells #[.int .i64 a, .int .i64 b, .int .i64 c] 3)).heap.size (w.alloc (.cells #[.int .i64 a, .int .i64 b, .int .i64 c] 3)) w' :=
  values_ints 3 _ 3 3 [a, b, c] _ (by omega) (by omega) (ints_lit w [a, b, c] _ _ _ rfl rfl rfl (by simp))
theorem val3D (a b c : Int) (w : World) : Calls Try.prog 29 #[.int .i64 3, .slice (some ⟨w.heap.size, 0, none⟩) 3 3] (w.alloc (.cells #[.int .i64 a, .int .i64 b, .int .i64 c] 3)).drew fun e w' => e = .returned (.agg #[.int .i64 3, .int .i64 1, .slice (some ⟨w.heap.size, 0, none⟩) 3 3]) ∧ Ints w' w'.heap.size (.slice (some ⟨w.heap.size, 0, none⟩) 3 3) [a, b, c] ∧ Below (w.alloc (.cells #[.int .i64 a, .int .i64 b, .int .i64 c] 3)).drew.heap.size (w.alloc (.cells #[.int .i64 a, .int .i64 b, .int .i64 c] 3)).drew w' :=
  values_ints 3 _ 3 3 [a, b, c] _ (by omega) (by omega) (ints_litD w [a, b, c] _ _ _ rfl rfl rfl (by simp))
theorem val4 (a b c d : Int) (w : World) : Calls Try.prog 29 #[.int .i64 2, .slice (some ⟨w.heap.size, 0, none⟩) 4 4] (w.alloc (.cells #[.int .i64 a, .int .i64 b, .int .i64 c, .int .i64 d] 3)) fun e w' => e = .returned (.agg #[.int .i64 2, .int .i64 2, .slice (some ⟨w.heap.size, 0, none⟩) 4 4]) ∧ Ints w' w'.heap.size (.slice (some ⟨w.heap.size, 0, none⟩) 4 4) [a, b, c, d] ∧ Below (w.alloc (.cells #[.int .i64 a, .int .i64 b, .int .i64 c, .int .i64 d] 3)).heap.size (w.alloc (.cells #[.int .i64 a, .int .i64 b, .int .i64 c, .int .i64 d] 3)) w' :=
  values_ints 2 _ 4 4 [a, b, c, d] _ (by omega) (by omega) (ints_lit w [a, b, c, d] _ _ _ rfl rfl rfl (by simp))
theorem msame31 (v1 v2 : Value) (xs : List Int) (w : World) (h1 : Ints w w.heap.size v1 xs) (h2 : Ints w w.heap.size v2 xs) :
    Calls Try.prog 11 #[.agg #[.int .i64 3, .int .i64 1, v1], .agg #[.int .i64 3, .int .i64 1, v2]] w fun e w' => e = .returned (.bool true) ∧ Below w.heap.size w w' := msame_true 3 1 3 1 v1 v2 xs w rfl rfl h1 h2
theorem msame22 (v1 v2 : Value) (xs : List Int) (w : World) (h1 : Ints w w.heap.size v1 xs) (h2 : Ints w w.heap.size v2 xs) :
    Calls Try.prog 11 #[.agg #[.int .i64 2, .int .i64 2, v1], .agg #[.int .i64 2, .int .i64 2, v2]] w fun e w' => e = .returned (.bool true) ∧ Below w.heap.size w w' := msame_true 2 2 2 2 v1 v2 xs w rfl rfl h1 h2
end Go.Proofs.Ytgdefgpbaccneaa
