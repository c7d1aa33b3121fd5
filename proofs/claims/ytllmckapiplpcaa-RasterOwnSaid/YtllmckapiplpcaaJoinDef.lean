/- Join: words for slices of images, and what Join computes. -/
import Derived.Test.YtllmckapiplpcaaRefGrid
namespace Go.Proofs.Ytllmckapiplpcaa
open Go.RowKit

structure Til where
  W : Int
  H : Int
  A : Option Addr
  c : Nat
  ps : List Px
def tget (ts : List Til) (i : Nat) : Til := ts.getD i ⟨0, 0, none, 0, []⟩
/-- The slice value v reads in w as the images ts; all lies in blocks below B. -/
def Imgs (w : World) (B : Nat) (v : Value) (ts : List Til) : Prop :=
  ∃ A c, v = .slice A ts.length c ∧ ts.length ≤ 9223372036854775807 ∧ ∀ i, i < ts.length → ∃ b o, A = some ⟨b, o, none⟩ ∧ b < B ∧
    w.cell? ⟨b, o + i * 3, none⟩ = some (.int .i64 (tget ts i).W) ∧ w.cell? ⟨b, o + i * 3 + 1, none⟩ = some (.int .i64 (tget ts i).H) ∧
    w.cell? ⟨b, o + i * 3 + 2, none⟩ = some (.slice (tget ts i).A (tget ts i).ps.length (tget ts i).c) ∧ Pixs w B (.slice (tget ts i).A (tget ts i).ps.length (tget ts i).c) (tget ts i).ps
section
variable {w w' : World} {B B' : Nat} {v : Value} {ts : List Til}
theorem Imgs.keep (h : Imgs w B v ts) (hk : ∀ b o, b < B → w'.cell? ⟨b, o, none⟩ = w.cell? ⟨b, o, none⟩) : Imgs w' B v ts := by
  obtain ⟨A, c, e, hl, hc⟩ := h
  refine ⟨A, c, e, hl, fun i hi => ?_⟩
  obtain ⟨b, o, ea, hb, h1, h2, h3, h4⟩ := hc i hi
  exact ⟨b, o, ea, hb, (hk b _ hb).trans h1, (hk b _ hb).trans h2, (hk b _ hb).trans h3, h4.keep hk⟩
theorem Imgs.below (h : Imgs w B v ts) (hb : Below B w w') : Imgs w' B v ts := h.keep fun b o hlt => hb.cell (p := ⟨b, o, none⟩) hlt
theorem Imgs.more (h : Imgs w B v ts) (hB : B ≤ B') : Imgs w B' v ts := by
  obtain ⟨A, c, e, hl, hc⟩ := h
  refine ⟨A, c, e, hl, fun i hi => ?_⟩
  obtain ⟨b, o, ea, hb, h1, h2, h3, h4⟩ := hc i hi
  exact ⟨b, o, ea, by omega, h1, h2, h3, h4.more hB⟩
theorem Imgs.on (h : Imgs w w.heap.size v ts) (hb : Below w.heap.size w w') : Imgs w' w'.heap.size v ts := (h.below hb).more hb.size
theorem Imgs.len {A : Option Addr} {n c : Nat} (h : Imgs w B (.slice A n c) ts) : ts.length = n := by
  obtain ⟨A', c', e, _, _⟩ := h
  injection e with _ e _
  exact e.symm
theorem Imgs.max (h : Imgs w B v ts) : ts.length ≤ 9223372036854775807 := by obtain ⟨_, _, _, hl, _⟩ := h; exact hl
theorem KB.imgs {g : Nat} {a : World} (h : KB B g a w) (hp : Imgs a B' v ts) (h1 : B' ≤ g) (h2 : B' ≤ B) : Imgs w B' v ts := hp.keep fun b o hb => h.cell (Nat.lt_of_lt_of_le hb h2) (by omega)
end
/-- The error of the tile t at place n. -/
def tilErr (w h co : Int) (t : Til) (n : Nat) : Int := if t.W = min 16 (w - (n : Int) % co * 16) ∧ t.H = min 16 (h - (n : Int) / co * 16) then ichk t.W t.H t.ps else 15
/-- The first error of the first k tiles. -/
def scanErr (w h co : Int) (ts : List Til) : Nat → Int
  | 0 => 0
  | k + 1 => if scanErr w h co ts k = 0 then tilErr w h co (tget ts k) k else scanErr w h co ts k
theorem scan_step {w h co : Int} {ts : List Til} {k : Nat} (e : scanErr w h co ts k = 0) : scanErr w h co ts (k + 1) = tilErr w h co (tget ts k) k := by simp [scanErr, e]
theorem scan_stay {w h co : Int} {ts : List Til} {k : Nat} (e : scanErr w h co ts k ≠ 0) : ∀ m, k ≤ m → scanErr w h co ts m = scanErr w h co ts k
  | 0, hm => by have : k = 0 := by omega
                subst this; rfl
  | m + 1, hm => by
    rcases Nat.lt_or_ge k (m + 1) with c | c
    · have ih := scan_stay e m (by omega)
      simp only [scanErr]
      rw [ih, if_neg e]
    · have : k = m + 1 := by omega
      subst this; rfl
theorem scan_each {w h co : Int} {ts : List Til} : ∀ m, scanErr w h co ts m = 0 → ∀ k, k < m → tilErr w h co (tget ts k) k = 0
  | 0, _, k, hk => absurd hk (by omega)
  | m + 1, e, k, hk => by
    by_cases c : scanErr w h co ts m = 0
    · rw [scan_step c] at e
      rcases Nat.lt_or_ge k m with d | d
      · exact scan_each m c k d
      · have : k = m := by omega
        subst this; exact e
    · simp only [scanErr] at e
      rw [if_neg c] at e
      exact absurd e c
def colsOf (w : Int) : Int := (w + 15) / 16
theorem cols_bd {w : Int} (h : 1 ≤ w ∧ w ≤ 256) : 1 ≤ colsOf w ∧ colsOf w ≤ 16 := by unfold colsOf; omega
/-- The error of Join. -/
def joinErr (w h : Int) (ts : List Til) : Int :=
  if 1 ≤ w ∧ w ≤ 256 ∧ 1 ≤ h ∧ h ≤ 256 ∧ (ts.length : Int) = colsOf w * colsOf h then scanErr w h (colsOf w) ts ts.length else 15
def joinF (w : Int) (ts : List Til) (x y : Int) : Px := pick (tget ts (y / 16 * colsOf w + x / 16).toNat).W (tget ts (y / 16 * colsOf w + x / 16).toNat).H (tget ts (y / 16 * colsOf w + x / 16).toNat).ps (x % 16) (y % 16)
def joinL (w h : Int) (ts : List Til) : List Px := gridL w h (joinF w ts)
/-- The tile of a place. -/
theorem til_idx {w h x y : Int} (hw : 1 ≤ w ∧ w ≤ 256) (hh : 1 ≤ h ∧ h ≤ 256) (hx : 0 ≤ x ∧ x < w) (hy : 0 ≤ y ∧ y < h) : 0 ≤ y / 16 * colsOf w ∧ y / 16 * colsOf w + x / 16 < colsOf w * colsOf h ∧ y / 16 * colsOf w ≤ 256 := by
  have h1 : 0 ≤ x / 16 ∧ x / 16 < colsOf w := by unfold colsOf; omega
  have h2 : 0 ≤ y / 16 ∧ y / 16 < colsOf h := by unfold colsOf; omega
  have hi := idx_lt (W := colsOf w) (H := colsOf h) (x := x / 16) (y := y / 16) ⟨h1.1, h1.2, h2.1, h2.2⟩
  have c1 := cols_bd hw; have c2 := cols_bd hh
  have := Int.mul_le_mul c1.2 c2.2 (by omega) (by omega)
  exact ⟨hi.1, hi.2, by omega⟩
theorem tilErr_zero {w h co : Int} {t : Til} {n : Nat} (e : tilErr w h co t n = 0) : t.W = min 16 (w - (n : Int) % co * 16) ∧ t.H = min 16 (h - (n : Int) / co * 16) ∧ ichk t.W t.H t.ps = 0 := by
  unfold tilErr at e
  split at e
  case isTrue c => exact ⟨c.1, c.2, e⟩
  case isFalse c => omega
def ScanRel (w h co : Int) (ts : List Til) (B : Nat) (w0 : World) (gh : Nat) (i : Value) (wr : World) : Prop :=
  ∃ k : Nat, k ≤ ts.length ∧ gh = ts.length - k ∧ i = .int .i64 k ∧ scanErr w h co ts k = 0 ∧ Below B w0 wr
end Go.Proofs.Ytllmckapiplpcaa
