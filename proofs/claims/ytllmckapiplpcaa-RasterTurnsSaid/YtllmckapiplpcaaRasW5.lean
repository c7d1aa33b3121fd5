/- The walk of RasterTurns. -/
import Derived.Test.YtllmckapiplpcaaRasW1
namespace Go.Proofs.Ytllmckapiplpcaa
open Go.RowKit

/-- The array of the images, when the kinds below k are done. -/
def Turn1 (g : Nat) (wr : World) : Prop :=
  Bx wr g 50 #[.int .i64 0, .int .i64 0, .slice none 0 0, .int .i64 0, .int .i64 0, .slice none 0 0, .int .i64 0, .int .i64 0, .slice none 0 0, .int .i64 0, .int .i64 0, .slice none 0 0, .int .i64 0, .int .i64 0, .slice none 0 0]
def Turn2 (W : Int) (H : Int) (l1 : List Px) (g : Nat) (wr : World) : Prop :=
  ∃ (A1 : Option Addr) (c1 : Nat), Bx wr g 50 #[.int .i64 0, .int .i64 0, .slice none 0 0, .int .i64 W, .int .i64 H, .slice A1 l1.length c1, .int .i64 0, .int .i64 0, .slice none 0 0, .int .i64 0, .int .i64 0, .slice none 0 0, .int .i64 0, .int .i64 0, .slice none 0 0] ∧ PRow wr (g + 1) (.slice A1 l1.length c1) l1
def Turn3 (W : Int) (H : Int) (l1 : List Px) (l2 : List Px) (g : Nat) (wr : World) : Prop :=
  ∃ (A1 : Option Addr) (c1 : Nat) (A2 : Option Addr) (c2 : Nat), Bx wr g 50 #[.int .i64 0, .int .i64 0, .slice none 0 0, .int .i64 W, .int .i64 H, .slice A1 l1.length c1, .int .i64 W, .int .i64 H, .slice A2 l2.length c2, .int .i64 0, .int .i64 0, .slice none 0 0, .int .i64 0, .int .i64 0, .slice none 0 0] ∧ PRow wr (g + 1) (.slice A1 l1.length c1) l1 ∧ PRow wr (g + 1) (.slice A2 l2.length c2) l2
def Turn4 (W : Int) (H : Int) (l1 : List Px) (l2 : List Px) (l3 : List Px) (g : Nat) (wr : World) : Prop :=
  ∃ (A1 : Option Addr) (c1 : Nat) (A2 : Option Addr) (c2 : Nat) (A3 : Option Addr) (c3 : Nat), Bx wr g 50 #[.int .i64 0, .int .i64 0, .slice none 0 0, .int .i64 W, .int .i64 H, .slice A1 l1.length c1, .int .i64 W, .int .i64 H, .slice A2 l2.length c2, .int .i64 H, .int .i64 W, .slice A3 l3.length c3, .int .i64 0, .int .i64 0, .slice none 0 0] ∧ PRow wr (g + 1) (.slice A1 l1.length c1) l1 ∧ PRow wr (g + 1) (.slice A2 l2.length c2) l2 ∧ PRow wr (g + 1) (.slice A3 l3.length c3) l3
def Turn5 (W : Int) (H : Int) (l1 : List Px) (l2 : List Px) (l3 : List Px) (l4 : List Px) (g : Nat) (wr : World) : Prop :=
  ∃ (A1 : Option Addr) (c1 : Nat) (A2 : Option Addr) (c2 : Nat) (A3 : Option Addr) (c3 : Nat) (A4 : Option Addr) (c4 : Nat), Bx wr g 50 #[.int .i64 0, .int .i64 0, .slice none 0 0, .int .i64 W, .int .i64 H, .slice A1 l1.length c1, .int .i64 W, .int .i64 H, .slice A2 l2.length c2, .int .i64 H, .int .i64 W, .slice A3 l3.length c3, .int .i64 W, .int .i64 H, .slice A4 l4.length c4] ∧ PRow wr (g + 1) (.slice A1 l1.length c1) l1 ∧ PRow wr (g + 1) (.slice A2 l2.length c2) l2 ∧ PRow wr (g + 1) (.slice A3 l3.length c3) l3 ∧ PRow wr (g + 1) (.slice A4 l4.length c4) l4
def TurnRel (W H : Int) (l1 l2 l3 l4 : List Px) (g B : Nat) (w0 : World) (gh : Nat) (i : Value) (wr : World) : Prop :=
  ∃ k : Nat, gh = 5 - k ∧ i = .int .i64 k ∧ Below B w0 wr ∧ ((k = 1 ∧ Turn1 g wr) ∨ (k = 2 ∧ Turn2 W H l1 g wr) ∨ (k = 3 ∧ Turn3 W H l1 l2 g wr) ∨ (k = 4 ∧ Turn4 W H l1 l2 l3 g wr) ∨ (k = 5 ∧ Turn5 W H l1 l2 l3 l4 g wr))
set_option maxHeartbeats 2000000 in
theorem turns_no (W H : Int) (A : Option Addr) (c : Nat) (ps : List Px) (ch : Int) (hne : (ch != 0) = true) (w : World) (hp : Pixs w w.heap.size (.slice A ps.length c) ps)
    (K : ∀ w', Pixs w' w'.heap.size (.slice A ps.length c) ps → Calls Try.prog 18 #[.agg #[.int .i64 W, .int .i64 H, .slice A ps.length c]] w' fun e w'' => e = .returned (.int .i64 ch) ∧ Below w'.heap.size w' w'') :
    Calls Try.prog 11 #[.agg #[.int .i64 W, .int .i64 H, .slice A ps.length c]] w fun e w' => e = .returned (.bool true) ∧ Below w.heap.size w w' := by
  have HP := Lib.hid hp; clear hp
  have HK := Lib.hid K; clear K
  go_enter Try.func11, Try.ntmps11
  go_upto_region 1 with fail
  obtain ⟨hb1, hB, -⟩ := one_box w #[.int .i64 W, .int .i64 H, .slice A ps.length c] 24 _ rfl
  generalize World.alloc w _ = w0 at *
  go_wp2_with fail
  refine (awake_any _).mono ?_
  rintro e w1 ⟨rfl, hbb⟩
  replace hb1 := hb1.below hbb; replace hB := bel_trans hB hbb
  clear hbb
  obtain ⟨⟨j1, j2, j3⟩, -⟩ := hb1.three
  go_wp2_with fail
  refine (HK.out _ (HP.out.on hB)).mono ?_
  rintro e w2 ⟨rfl, hbb⟩
  clear j1 j2 j3
  replace hB := bel_trans hB hbb
  go_wp2_with fail
  refine (awake_any _).mono ?_
  rintro e w3 ⟨rfl, hbb⟩
  go_wp2_with fail
  go_ret
  exact ⟨rfl, bel_trans hB hbb⟩
set_option maxHeartbeats 4000000 in
theorem turns_yes (W H : Int) (A : Option Addr) (c : Nat) (ps l1 l2 l3 l4 m : List Px) (w : World) (hp : Pixs w w.heap.size (.slice A ps.length c) ps)
    (T1 : ∀ w', Pixs w' w'.heap.size (.slice A ps.length c) ps → Calls Try.prog 31 #[.agg #[.int .i64 W, .int .i64 H, .slice A ps.length c], .int .i64 1] w' (ImPost 0 W H l1 w'))
    (U1 : ∀ w' A' c', Pixs w' w'.heap.size (.slice A' l1.length c') l1 → Calls Try.prog 31 #[.agg #[.int .i64 W, .int .i64 H, .slice A' l1.length c'], .int .i64 1] w' (ImPost 0 W H ps w'))
    (T2 : ∀ w', Pixs w' w'.heap.size (.slice A ps.length c) ps → Calls Try.prog 31 #[.agg #[.int .i64 W, .int .i64 H, .slice A ps.length c], .int .i64 2] w' (ImPost 0 W H l2 w'))
    (U2 : ∀ w' A' c', Pixs w' w'.heap.size (.slice A' l2.length c') l2 → Calls Try.prog 31 #[.agg #[.int .i64 W, .int .i64 H, .slice A' l2.length c'], .int .i64 2] w' (ImPost 0 W H ps w'))
    (T3 : ∀ w', Pixs w' w'.heap.size (.slice A ps.length c) ps → Calls Try.prog 31 #[.agg #[.int .i64 W, .int .i64 H, .slice A ps.length c], .int .i64 3] w' (ImPost 0 H W l3 w'))
    (U3 : ∀ w' A' c', Pixs w' w'.heap.size (.slice A' l3.length c') l3 → Calls Try.prog 31 #[.agg #[.int .i64 H, .int .i64 W, .slice A' l3.length c'], .int .i64 3] w' (ImPost 0 W H ps w'))
    (T4 : ∀ w', Pixs w' w'.heap.size (.slice A ps.length c) ps → Calls Try.prog 31 #[.agg #[.int .i64 W, .int .i64 H, .slice A ps.length c], .int .i64 4] w' (ImPost 0 W H l4 w'))
    (U4 : ∀ w' A' c', Pixs w' w'.heap.size (.slice A' l4.length c') l4 → Calls Try.prog 31 #[.agg #[.int .i64 W, .int .i64 H, .slice A' l4.length c'], .int .i64 4] w' (ImPost 0 W H ps w'))
    (V1 : ∀ w' A' c', Pixs w' w'.heap.size (.slice A' l1.length c') l1 → Calls Try.prog 31 #[.agg #[.int .i64 W, .int .i64 H, .slice A' l1.length c'], .int .i64 2] w' (ImPost 0 W H l4 w'))
    (V2 : ∀ w' A' c', Pixs w' w'.heap.size (.slice A' l3.length c') l3 → Calls Try.prog 31 #[.agg #[.int .i64 H, .int .i64 W, .slice A' l3.length c'], .int .i64 1] w' (ImPost 0 H W m w'))
    (V3 : ∀ w' A' c', Pixs w' w'.heap.size (.slice A' l2.length c') l2 → Calls Try.prog 31 #[.agg #[.int .i64 W, .int .i64 H, .slice A' l2.length c'], .int .i64 3] w' (ImPost 0 H W m w'))
    (K : ∀ w', Pixs w' w'.heap.size (.slice A ps.length c) ps → Calls Try.prog 18 #[.agg #[.int .i64 W, .int .i64 H, .slice A ps.length c]] w' fun e w'' => e = .returned (.int .i64 0) ∧ Below w'.heap.size w' w'') :
    Calls Try.prog 11 #[.agg #[.int .i64 W, .int .i64 H, .slice A ps.length c]] w fun e w' => e = .returned (.bool true) ∧ Below w.heap.size w w' := by
  have HP := Lib.hid hp; clear hp
  have HK := Lib.hid K; clear K
  have HT1 := Lib.hid T1; have HT2 := Lib.hid T2; have HT3 := Lib.hid T3; have HT4 := Lib.hid T4; have HU1 := Lib.hid U1; have HU2 := Lib.hid U2; have HU3 := Lib.hid U3; have HU4 := Lib.hid U4; have HV1 := Lib.hid V1; have HV2 := Lib.hid V2; have HV3 := Lib.hid V3
  clear T1 T2 T3 T4 U1 U2 U3 U4 V1 V2 V3
  go_enter Try.func11, Try.ntmps11
  go_upto_region 1 with fail
  obtain ⟨hb1, hB, -⟩ := one_box w #[.int .i64 W, .int .i64 H, .slice A ps.length c] 24 _ rfl
  generalize World.alloc w _ = w0 at *
  go_wp2_with fail
  refine (awake_any _).mono ?_
  rintro e w1 ⟨rfl, hbb⟩
  replace hb1 := hb1.below hbb; replace hB := bel_trans hB hbb
  clear hbb
  obtain ⟨⟨j1, j2, j3⟩, -⟩ := hb1.three
  go_wp2_with fail
  refine (HK.out _ (HP.out.on hB)).mono ?_
  rintro e w2 ⟨rfl, hbb⟩
  clear j1 j2 j3
  replace hb1 := hb1.below hbb; replace hB := bel_trans hB hbb
  clear hbb
  go_upto_region 5 with fail
  obtain ⟨hbt, hbb, hz⟩ := one_box w2 #[.int .i64 0, .int .i64 0, .slice none 0 0, .int .i64 0, .int .i64 0, .slice none 0 0, .int .i64 0, .int .i64 0, .slice none 0 0, .int .i64 0, .int .i64 0, .slice none 0 0, .int .i64 0, .int .i64 0, .slice none 0 0] 50 _ rfl
  have hlt1 := hb1.lt
  generalize World.alloc w2 _ = w3 at *
  go_loopg [4] 4 (TurnRel W H l1 l2 l3 l4 w2.heap.size w2.heap.size w2)
  case atStart => exact ⟨1, rfl, rfl, hbb, .inl ⟨rfl, hbt⟩⟩
  case round =>
    clear hbt hbb hz
    obtain ⟨k, rfl, rfl, hbr, ⟨rfl, hT⟩ | ⟨rfl, hT⟩ | ⟨rfl, hT⟩ | ⟨rfl, hT⟩ | ⟨rfl, hT⟩⟩ := hrel
    · have hbt : Bx _ _ _ _ := hT
      have hlt := hbt.lt
      have hd1 := hb1.low hlt1 hbr
      have hB' := bel_trans hB hbr
      have hbr' := hbr
      clear hbr
      obtain ⟨⟨j1, j2, j3⟩, -⟩ := hd1.three
      go_wp2_with fail
      refine (HT1.out _ (HP.out.on hB')).mono ?_
      rintro e w4 ⟨A5, n5, c5, rfl, hr, hbb⟩
      obtain rfl := hr.pixs.len
      clear j1 j2 j3
      have hr1 := hr.mono (Nat.succ_le_of_lt hlt); clear hr
      replace hd1 := hd1.below hbb; replace hbt := hbt.below hbb; replace hB' := bel_trans hB' hbb; replace hbr' := hbr'.trans (hbb.mono (Nat.le_of_lt hlt)); replace hlt := Nat.lt_of_lt_of_le hlt hbb.size; clear hbb
      go_upto_region 8 with fail
      obtain ⟨hb5, hbb, -⟩ := one_box w4 #[.int .i64 W, .int .i64 H, .slice A5 l1.length c5] 24 _ rfl
      generalize World.alloc w4 _ = w5 at *
      replace hd1 := hd1.below hbb; replace hbt := hbt.below hbb; replace hB' := bel_trans hB' hbb; replace hbr' := hbr'.trans (hbb.mono (Nat.le_of_lt hlt)); replace hlt := Nat.lt_of_lt_of_le hlt hbb.size; replace hr1 := hr1.below hbb; clear hbb
      obtain ⟨⟨j1, j2, j3⟩, -⟩ := hb5.three
      go_wp2_with fail
      refine (HU1.out _ _ _ hr1.pixs).mono ?_
      rintro e w6 ⟨A6, n6, c6, rfl, hr, hbb⟩
      clear j1 j2 j3
      replace hd1 := hd1.below hbb; replace hbt := hbt.below hbb; replace hB' := bel_trans hB' hbb; replace hbr' := hbr'.trans (hbb.mono (Nat.le_of_lt hlt)); replace hlt := Nat.lt_of_lt_of_le hlt hbb.size; replace hr1 := hr1.below hbb; replace hb5 := hb5.below hbb; clear hbb
      go_upto_region 9 with fail
      obtain ⟨hb7, hbb, -⟩ := one_box w6 #[.int .i64 W, .int .i64 H, .slice A6 n6 c6] 24 _ rfl
      have hP6 := hr.pixs.on hbb; clear hr
      generalize World.alloc w6 _ = w7 at *
      replace hd1 := hd1.below hbb; replace hbt := hbt.below hbb; replace hB' := bel_trans hB' hbb; replace hbr' := hbr'.trans (hbb.mono (Nat.le_of_lt hlt)); replace hlt := Nat.lt_of_lt_of_le hlt hbb.size; replace hr1 := hr1.below hbb; replace hb5 := hb5.below hbb; clear hbb
      obtain ⟨⟨j1, j2, j3⟩, -⟩ := hd1.three
      obtain ⟨⟨k1, k2, k3⟩, -⟩ := hb7.three
      go_wp2_with fail
      refine (sm_true _ W H _ _ ps hP6 (HP.out.on hB')).mono ?_
      rintro e w8 ⟨rfl, hbb⟩
      clear j1 j2 j3 k1 k2 k3 hb7 hP6
      replace hd1 := hd1.below hbb; replace hbt := hbt.below hbb; replace hB' := bel_trans hB' hbb; replace hbr' := hbr'.trans (hbb.mono (Nat.le_of_lt hlt)); replace hlt := Nat.lt_of_lt_of_le hlt hbb.size; replace hr1 := hr1.below hbb; replace hb5 := hb5.below hbb; clear hbb
      obtain ⟨⟨j1, j2, j3⟩, -⟩ := hb5.three
      have x0 := hbt.cell (j := 3) rfl; have y0 := hbt.frozen 3
      have x1 := hbt.cell (j := 4) rfl; have y1 := hbt.frozen 4
      have x2 := hbt.cell (j := 5) rfl; have y2 := hbt.frozen 5
      go_wp2_with fail
      go_roundg 3
      case measure => omega
      case rel => exact ⟨2, rfl, by go_num, ((hbr'.setCell (p := ⟨w2.heap.size, 3, none⟩) (Nat.le_refl _) _).setCell (p := ⟨w2.heap.size, 4, none⟩) (Nat.le_refl _) _).setCell (p := ⟨w2.heap.size, 5, none⟩) (Nat.le_refl _) _, .inr (.inl ⟨rfl, A5, c5, ((hbt.set 3 (.int .i64 W)).set 4 (.int .i64 H)).set 5 (.slice A5 l1.length c5), ((hr1.set (Nat.lt_succ_self _) (Nat.le_refl _)).set (Nat.lt_succ_self _) (Nat.le_refl _)).set (Nat.lt_succ_self _) (Nat.le_refl _)⟩)⟩
    · obtain ⟨A1, c1, hbt, hr1⟩ := hT
      have hlt := hbt.lt
      have hd1 := hb1.low hlt1 hbr
      have hB' := bel_trans hB hbr
      have hbr' := hbr
      clear hbr
      obtain ⟨⟨j1, j2, j3⟩, -⟩ := hd1.three
      go_wp2_with fail
      refine (HT2.out _ (HP.out.on hB')).mono ?_
      rintro e w4 ⟨A5, n5, c5, rfl, hr, hbb⟩
      obtain rfl := hr.pixs.len
      clear j1 j2 j3
      have hr2 := hr.mono (Nat.succ_le_of_lt hlt); clear hr
      replace hd1 := hd1.below hbb; replace hbt := hbt.below hbb; replace hB' := bel_trans hB' hbb; replace hbr' := hbr'.trans (hbb.mono (Nat.le_of_lt hlt)); replace hlt := Nat.lt_of_lt_of_le hlt hbb.size; replace hr1 := hr1.below hbb; clear hbb
      go_upto_region 8 with fail
      obtain ⟨hb5, hbb, -⟩ := one_box w4 #[.int .i64 W, .int .i64 H, .slice A5 l2.length c5] 24 _ rfl
      generalize World.alloc w4 _ = w5 at *
      replace hd1 := hd1.below hbb; replace hbt := hbt.below hbb; replace hB' := bel_trans hB' hbb; replace hbr' := hbr'.trans (hbb.mono (Nat.le_of_lt hlt)); replace hlt := Nat.lt_of_lt_of_le hlt hbb.size; replace hr1 := hr1.below hbb; replace hr2 := hr2.below hbb; clear hbb
      obtain ⟨⟨j1, j2, j3⟩, -⟩ := hb5.three
      go_wp2_with fail
      refine (HU2.out _ _ _ hr2.pixs).mono ?_
      rintro e w6 ⟨A6, n6, c6, rfl, hr, hbb⟩
      clear j1 j2 j3
      replace hd1 := hd1.below hbb; replace hbt := hbt.below hbb; replace hB' := bel_trans hB' hbb; replace hbr' := hbr'.trans (hbb.mono (Nat.le_of_lt hlt)); replace hlt := Nat.lt_of_lt_of_le hlt hbb.size; replace hr1 := hr1.below hbb; replace hr2 := hr2.below hbb; replace hb5 := hb5.below hbb; clear hbb
      go_upto_region 9 with fail
      obtain ⟨hb7, hbb, -⟩ := one_box w6 #[.int .i64 W, .int .i64 H, .slice A6 n6 c6] 24 _ rfl
      have hP6 := hr.pixs.on hbb; clear hr
      generalize World.alloc w6 _ = w7 at *
      replace hd1 := hd1.below hbb; replace hbt := hbt.below hbb; replace hB' := bel_trans hB' hbb; replace hbr' := hbr'.trans (hbb.mono (Nat.le_of_lt hlt)); replace hlt := Nat.lt_of_lt_of_le hlt hbb.size; replace hr1 := hr1.below hbb; replace hr2 := hr2.below hbb; replace hb5 := hb5.below hbb; clear hbb
      obtain ⟨⟨j1, j2, j3⟩, -⟩ := hd1.three
      obtain ⟨⟨k1, k2, k3⟩, -⟩ := hb7.three
      go_wp2_with fail
      refine (sm_true _ W H _ _ ps hP6 (HP.out.on hB')).mono ?_
      rintro e w8 ⟨rfl, hbb⟩
      clear j1 j2 j3 k1 k2 k3 hb7 hP6
      replace hd1 := hd1.below hbb; replace hbt := hbt.below hbb; replace hB' := bel_trans hB' hbb; replace hbr' := hbr'.trans (hbb.mono (Nat.le_of_lt hlt)); replace hlt := Nat.lt_of_lt_of_le hlt hbb.size; replace hr1 := hr1.below hbb; replace hr2 := hr2.below hbb; replace hb5 := hb5.below hbb; clear hbb
      obtain ⟨⟨j1, j2, j3⟩, -⟩ := hb5.three
      have x0 := hbt.cell (j := 6) rfl; have y0 := hbt.frozen 6
      have x1 := hbt.cell (j := 7) rfl; have y1 := hbt.frozen 7
      have x2 := hbt.cell (j := 8) rfl; have y2 := hbt.frozen 8
      go_wp2_with fail
      go_roundg 2
      case measure => omega
      case rel => exact ⟨3, rfl, by go_num, ((hbr'.setCell (p := ⟨w2.heap.size, 6, none⟩) (Nat.le_refl _) _).setCell (p := ⟨w2.heap.size, 7, none⟩) (Nat.le_refl _) _).setCell (p := ⟨w2.heap.size, 8, none⟩) (Nat.le_refl _) _, .inr (.inr (.inl ⟨rfl, A1, c1, A5, c5, ((hbt.set 6 (.int .i64 W)).set 7 (.int .i64 H)).set 8 (.slice A5 l2.length c5), ((hr1.set (Nat.lt_succ_self _) (Nat.le_refl _)).set (Nat.lt_succ_self _) (Nat.le_refl _)).set (Nat.lt_succ_self _) (Nat.le_refl _), ((hr2.set (Nat.lt_succ_self _) (Nat.le_refl _)).set (Nat.lt_succ_self _) (Nat.le_refl _)).set (Nat.lt_succ_self _) (Nat.le_refl _)⟩))⟩
    · obtain ⟨A1, c1, A2, c2, hbt, hr1, hr2⟩ := hT
      have hlt := hbt.lt
      have hd1 := hb1.low hlt1 hbr
      have hB' := bel_trans hB hbr
      have hbr' := hbr
      clear hbr
      obtain ⟨⟨j1, j2, j3⟩, -⟩ := hd1.three
      go_wp2_with fail
      refine (HT3.out _ (HP.out.on hB')).mono ?_
      rintro e w4 ⟨A5, n5, c5, rfl, hr, hbb⟩
      obtain rfl := hr.pixs.len
      clear j1 j2 j3
      have hr3 := hr.mono (Nat.succ_le_of_lt hlt); clear hr
      replace hd1 := hd1.below hbb; replace hbt := hbt.below hbb; replace hB' := bel_trans hB' hbb; replace hbr' := hbr'.trans (hbb.mono (Nat.le_of_lt hlt)); replace hlt := Nat.lt_of_lt_of_le hlt hbb.size; replace hr1 := hr1.below hbb; replace hr2 := hr2.below hbb; clear hbb
      go_upto_region 8 with fail
      obtain ⟨hb5, hbb, -⟩ := one_box w4 #[.int .i64 H, .int .i64 W, .slice A5 l3.length c5] 24 _ rfl
      generalize World.alloc w4 _ = w5 at *
      replace hd1 := hd1.below hbb; replace hbt := hbt.below hbb; replace hB' := bel_trans hB' hbb; replace hbr' := hbr'.trans (hbb.mono (Nat.le_of_lt hlt)); replace hlt := Nat.lt_of_lt_of_le hlt hbb.size; replace hr1 := hr1.below hbb; replace hr2 := hr2.below hbb; replace hr3 := hr3.below hbb; clear hbb
      obtain ⟨⟨j1, j2, j3⟩, -⟩ := hb5.three
      go_wp2_with fail
      refine (HU3.out _ _ _ hr3.pixs).mono ?_
      rintro e w6 ⟨A6, n6, c6, rfl, hr, hbb⟩
      clear j1 j2 j3
      replace hd1 := hd1.below hbb; replace hbt := hbt.below hbb; replace hB' := bel_trans hB' hbb; replace hbr' := hbr'.trans (hbb.mono (Nat.le_of_lt hlt)); replace hlt := Nat.lt_of_lt_of_le hlt hbb.size; replace hr1 := hr1.below hbb; replace hr2 := hr2.below hbb; replace hr3 := hr3.below hbb; replace hb5 := hb5.below hbb; clear hbb
      go_upto_region 9 with fail
      obtain ⟨hb7, hbb, -⟩ := one_box w6 #[.int .i64 W, .int .i64 H, .slice A6 n6 c6] 24 _ rfl
      have hP6 := hr.pixs.on hbb; clear hr
      generalize World.alloc w6 _ = w7 at *
      replace hd1 := hd1.below hbb; replace hbt := hbt.below hbb; replace hB' := bel_trans hB' hbb; replace hbr' := hbr'.trans (hbb.mono (Nat.le_of_lt hlt)); replace hlt := Nat.lt_of_lt_of_le hlt hbb.size; replace hr1 := hr1.below hbb; replace hr2 := hr2.below hbb; replace hr3 := hr3.below hbb; replace hb5 := hb5.below hbb; clear hbb
      obtain ⟨⟨j1, j2, j3⟩, -⟩ := hd1.three
      obtain ⟨⟨k1, k2, k3⟩, -⟩ := hb7.three
      go_wp2_with fail
      refine (sm_true _ W H _ _ ps hP6 (HP.out.on hB')).mono ?_
      rintro e w8 ⟨rfl, hbb⟩
      clear j1 j2 j3 k1 k2 k3 hb7 hP6
      replace hd1 := hd1.below hbb; replace hbt := hbt.below hbb; replace hB' := bel_trans hB' hbb; replace hbr' := hbr'.trans (hbb.mono (Nat.le_of_lt hlt)); replace hlt := Nat.lt_of_lt_of_le hlt hbb.size; replace hr1 := hr1.below hbb; replace hr2 := hr2.below hbb; replace hr3 := hr3.below hbb; replace hb5 := hb5.below hbb; clear hbb
      obtain ⟨⟨j1, j2, j3⟩, -⟩ := hb5.three
      have x0 := hbt.cell (j := 9) rfl; have y0 := hbt.frozen 9
      have x1 := hbt.cell (j := 10) rfl; have y1 := hbt.frozen 10
      have x2 := hbt.cell (j := 11) rfl; have y2 := hbt.frozen 11
      go_wp2_with fail
      go_roundg 1
      case measure => omega
      case rel => exact ⟨4, rfl, by go_num, ((hbr'.setCell (p := ⟨w2.heap.size, 9, none⟩) (Nat.le_refl _) _).setCell (p := ⟨w2.heap.size, 10, none⟩) (Nat.le_refl _) _).setCell (p := ⟨w2.heap.size, 11, none⟩) (Nat.le_refl _) _, .inr (.inr (.inr (.inl ⟨rfl, A1, c1, A2, c2, A5, c5, ((hbt.set 9 (.int .i64 H)).set 10 (.int .i64 W)).set 11 (.slice A5 l3.length c5), ((hr1.set (Nat.lt_succ_self _) (Nat.le_refl _)).set (Nat.lt_succ_self _) (Nat.le_refl _)).set (Nat.lt_succ_self _) (Nat.le_refl _), ((hr2.set (Nat.lt_succ_self _) (Nat.le_refl _)).set (Nat.lt_succ_self _) (Nat.le_refl _)).set (Nat.lt_succ_self _) (Nat.le_refl _), ((hr3.set (Nat.lt_succ_self _) (Nat.le_refl _)).set (Nat.lt_succ_self _) (Nat.le_refl _)).set (Nat.lt_succ_self _) (Nat.le_refl _)⟩)))⟩
    · obtain ⟨A1, c1, A2, c2, A3, c3, hbt, hr1, hr2, hr3⟩ := hT
      have hlt := hbt.lt
      have hd1 := hb1.low hlt1 hbr
      have hB' := bel_trans hB hbr
      have hbr' := hbr
      clear hbr
      obtain ⟨⟨j1, j2, j3⟩, -⟩ := hd1.three
      go_wp2_with fail
      refine (HT4.out _ (HP.out.on hB')).mono ?_
      rintro e w4 ⟨A5, n5, c5, rfl, hr, hbb⟩
      obtain rfl := hr.pixs.len
      clear j1 j2 j3
      have hr4 := hr.mono (Nat.succ_le_of_lt hlt); clear hr
      replace hd1 := hd1.below hbb; replace hbt := hbt.below hbb; replace hB' := bel_trans hB' hbb; replace hbr' := hbr'.trans (hbb.mono (Nat.le_of_lt hlt)); replace hlt := Nat.lt_of_lt_of_le hlt hbb.size; replace hr1 := hr1.below hbb; replace hr2 := hr2.below hbb; replace hr3 := hr3.below hbb; clear hbb
      go_upto_region 8 with fail
      obtain ⟨hb5, hbb, -⟩ := one_box w4 #[.int .i64 W, .int .i64 H, .slice A5 l4.length c5] 24 _ rfl
      generalize World.alloc w4 _ = w5 at *
      replace hd1 := hd1.below hbb; replace hbt := hbt.below hbb; replace hB' := bel_trans hB' hbb; replace hbr' := hbr'.trans (hbb.mono (Nat.le_of_lt hlt)); replace hlt := Nat.lt_of_lt_of_le hlt hbb.size; replace hr1 := hr1.below hbb; replace hr2 := hr2.below hbb; replace hr3 := hr3.below hbb; replace hr4 := hr4.below hbb; clear hbb
      obtain ⟨⟨j1, j2, j3⟩, -⟩ := hb5.three
      go_wp2_with fail
      refine (HU4.out _ _ _ hr4.pixs).mono ?_
      rintro e w6 ⟨A6, n6, c6, rfl, hr, hbb⟩
      clear j1 j2 j3
      replace hd1 := hd1.below hbb; replace hbt := hbt.below hbb; replace hB' := bel_trans hB' hbb; replace hbr' := hbr'.trans (hbb.mono (Nat.le_of_lt hlt)); replace hlt := Nat.lt_of_lt_of_le hlt hbb.size; replace hr1 := hr1.below hbb; replace hr2 := hr2.below hbb; replace hr3 := hr3.below hbb; replace hr4 := hr4.below hbb; replace hb5 := hb5.below hbb; clear hbb
      go_upto_region 9 with fail
      obtain ⟨hb7, hbb, -⟩ := one_box w6 #[.int .i64 W, .int .i64 H, .slice A6 n6 c6] 24 _ rfl
      have hP6 := hr.pixs.on hbb; clear hr
      generalize World.alloc w6 _ = w7 at *
      replace hd1 := hd1.below hbb; replace hbt := hbt.below hbb; replace hB' := bel_trans hB' hbb; replace hbr' := hbr'.trans (hbb.mono (Nat.le_of_lt hlt)); replace hlt := Nat.lt_of_lt_of_le hlt hbb.size; replace hr1 := hr1.below hbb; replace hr2 := hr2.below hbb; replace hr3 := hr3.below hbb; replace hr4 := hr4.below hbb; replace hb5 := hb5.below hbb; clear hbb
      obtain ⟨⟨j1, j2, j3⟩, -⟩ := hd1.three
      obtain ⟨⟨k1, k2, k3⟩, -⟩ := hb7.three
      go_wp2_with fail
      refine (sm_true _ W H _ _ ps hP6 (HP.out.on hB')).mono ?_
      rintro e w8 ⟨rfl, hbb⟩
      clear j1 j2 j3 k1 k2 k3 hb7 hP6
      replace hd1 := hd1.below hbb; replace hbt := hbt.below hbb; replace hB' := bel_trans hB' hbb; replace hbr' := hbr'.trans (hbb.mono (Nat.le_of_lt hlt)); replace hlt := Nat.lt_of_lt_of_le hlt hbb.size; replace hr1 := hr1.below hbb; replace hr2 := hr2.below hbb; replace hr3 := hr3.below hbb; replace hr4 := hr4.below hbb; replace hb5 := hb5.below hbb; clear hbb
      obtain ⟨⟨j1, j2, j3⟩, -⟩ := hb5.three
      have x0 := hbt.cell (j := 12) rfl; have y0 := hbt.frozen 12
      have x1 := hbt.cell (j := 13) rfl; have y1 := hbt.frozen 13
      have x2 := hbt.cell (j := 14) rfl; have y2 := hbt.frozen 14
      go_wp2_with fail
      go_roundg 0
      case measure => omega
      case rel => exact ⟨5, rfl, by go_num, ((hbr'.setCell (p := ⟨w2.heap.size, 12, none⟩) (Nat.le_refl _) _).setCell (p := ⟨w2.heap.size, 13, none⟩) (Nat.le_refl _) _).setCell (p := ⟨w2.heap.size, 14, none⟩) (Nat.le_refl _) _, .inr (.inr (.inr (.inr ⟨rfl, A1, c1, A2, c2, A3, c3, A5, c5, ((hbt.set 12 (.int .i64 W)).set 13 (.int .i64 H)).set 14 (.slice A5 l4.length c5), ((hr1.set (Nat.lt_succ_self _) (Nat.le_refl _)).set (Nat.lt_succ_self _) (Nat.le_refl _)).set (Nat.lt_succ_self _) (Nat.le_refl _), ((hr2.set (Nat.lt_succ_self _) (Nat.le_refl _)).set (Nat.lt_succ_self _) (Nat.le_refl _)).set (Nat.lt_succ_self _) (Nat.le_refl _), ((hr3.set (Nat.lt_succ_self _) (Nat.le_refl _)).set (Nat.lt_succ_self _) (Nat.le_refl _)).set (Nat.lt_succ_self _) (Nat.le_refl _), ((hr4.set (Nat.lt_succ_self _) (Nat.le_refl _)).set (Nat.lt_succ_self _) (Nat.le_refl _)).set (Nat.lt_succ_self _) (Nat.le_refl _)⟩)))⟩
    · obtain ⟨A1, c1, A2, c2, A3, c3, A4, c4, hbt, hr1, hr2, hr3, hr4⟩ := hT
      have hlt := hbt.lt
      have hB' := bel_trans hB hbr
      clear hbr
      have x0 := hbt.cell (j := 3) rfl
      have x1 := hbt.cell (j := 4) rfl
      have x2 := hbt.cell (j := 5) rfl
      go_wp2_with fail
      refine (HV1.out _ _ _ hr1.pixs).mono ?_
      rintro e w10 ⟨B0, m0, d0, rfl, hq, hbb⟩
      clear x0 x1 x2
      replace hbt := hbt.below hbb; replace hB' := bel_trans hB' hbb; replace hlt := Nat.lt_of_lt_of_le hlt hbb.size; replace hr1 := hr1.below hbb; replace hr2 := hr2.below hbb; replace hr3 := hr3.below hbb; replace hr4 := hr4.below hbb; clear hbb
      go_upto_region 13 with fail
      obtain ⟨hg0, hbb, -⟩ := one_box w10 #[.int .i64 W, .int .i64 H, .slice B0 m0 d0] 24 _ rfl
      have hp0 := hq.pixs.on hbb; clear hq
      generalize World.alloc w10 _ = w11 at *
      replace hbt := hbt.below hbb; replace hB' := bel_trans hB' hbb; replace hlt := Nat.lt_of_lt_of_le hlt hbb.size; replace hr1 := hr1.below hbb; replace hr2 := hr2.below hbb; replace hr3 := hr3.below hbb; replace hr4 := hr4.below hbb; clear hbb
      have x0 := hbt.cell (j := 9) rfl
      have x1 := hbt.cell (j := 10) rfl
      have x2 := hbt.cell (j := 11) rfl
      go_wp2_with fail
      refine (HV2.out _ _ _ hr3.pixs).mono ?_
      rintro e w12 ⟨B1, m1, d1, rfl, hq, hbb⟩
      clear x0 x1 x2
      replace hbt := hbt.below hbb; replace hB' := bel_trans hB' hbb; replace hlt := Nat.lt_of_lt_of_le hlt hbb.size; replace hr1 := hr1.below hbb; replace hr2 := hr2.below hbb; replace hr3 := hr3.below hbb; replace hr4 := hr4.below hbb; replace hg0 := hg0.below hbb; replace hp0 := hp0.on hbb; clear hbb
      go_upto_region 14 with fail
      obtain ⟨hg1, hbb, -⟩ := one_box w12 #[.int .i64 H, .int .i64 W, .slice B1 m1 d1] 24 _ rfl
      have hp1 := hq.pixs.on hbb; clear hq
      generalize World.alloc w12 _ = w13 at *
      replace hbt := hbt.below hbb; replace hB' := bel_trans hB' hbb; replace hlt := Nat.lt_of_lt_of_le hlt hbb.size; replace hr1 := hr1.below hbb; replace hr2 := hr2.below hbb; replace hr3 := hr3.below hbb; replace hr4 := hr4.below hbb; replace hg0 := hg0.below hbb; replace hp0 := hp0.on hbb; clear hbb
      have x0 := hbt.cell (j := 6) rfl
      have x1 := hbt.cell (j := 7) rfl
      have x2 := hbt.cell (j := 8) rfl
      go_wp2_with fail
      refine (HV3.out _ _ _ hr2.pixs).mono ?_
      rintro e w14 ⟨B2, m2, d2, rfl, hq, hbb⟩
      clear x0 x1 x2
      replace hbt := hbt.below hbb; replace hB' := bel_trans hB' hbb; replace hlt := Nat.lt_of_lt_of_le hlt hbb.size; replace hr1 := hr1.below hbb; replace hr2 := hr2.below hbb; replace hr3 := hr3.below hbb; replace hr4 := hr4.below hbb; replace hg0 := hg0.below hbb; replace hp0 := hp0.on hbb; replace hg1 := hg1.below hbb; replace hp1 := hp1.on hbb; clear hbb
      go_upto_region 15 with fail
      obtain ⟨hg2, hbb, -⟩ := one_box w14 #[.int .i64 H, .int .i64 W, .slice B2 m2 d2] 24 _ rfl
      have hp2 := hq.pixs.on hbb; clear hq
      generalize World.alloc w14 _ = w15 at *
      replace hbt := hbt.below hbb; replace hB' := bel_trans hB' hbb; replace hlt := Nat.lt_of_lt_of_le hlt hbb.size; replace hr1 := hr1.below hbb; replace hr2 := hr2.below hbb; replace hr3 := hr3.below hbb; replace hr4 := hr4.below hbb; replace hg0 := hg0.below hbb; replace hp0 := hp0.on hbb; replace hg1 := hg1.below hbb; replace hp1 := hp1.on hbb; clear hbb
      have x0 := hbt.cell (j := 12) rfl
      have x1 := hbt.cell (j := 13) rfl
      have x2 := hbt.cell (j := 14) rfl
      obtain ⟨⟨k1, k2, k3⟩, -⟩ := hg0.three
      go_wp2_with fail
      refine (sm_true _ W H _ _ l4 hp0 hr4.pixs).mono ?_
      rintro e w20 ⟨rfl, hbb⟩
      clear x0 x1 x2 k1 k2 k3
      replace hbt := hbt.below hbb; replace hB' := bel_trans hB' hbb; replace hlt := Nat.lt_of_lt_of_le hlt hbb.size; replace hg1 := hg1.below hbb; replace hp1 := hp1.on hbb; replace hg2 := hg2.below hbb; replace hp2 := hp2.on hbb; clear hbb
      obtain ⟨⟨k1, k2, k3⟩, -⟩ := hg1.three
      obtain ⟨⟨n1, n2, n3⟩, -⟩ := hg2.three
      go_wp2_with fail
      refine (sm_true _ H W _ _ m hp1 hp2).mono ?_
      rintro e w21 ⟨rfl, hbb⟩
      go_wp2_with fail
      go_ret
      exact ⟨rfl, bel_trans hB' hbb⟩
end Go.Proofs.Ytllmckapiplpcaa
