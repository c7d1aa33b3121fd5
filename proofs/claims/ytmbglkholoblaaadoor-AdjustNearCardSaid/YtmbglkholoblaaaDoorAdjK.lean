/- The function values that adjust.colors hands back. -/
import Derived.Test.YtmbglkholoblaaaDoorAdjG
import Derived.Test.YtmbglkholoblaaaDoorAdjI
import Derived.Deep.RegionHeld3
namespace Go.Proofs.YtmbglkholoblaaaDoor
open Go.RowKit

/-- Whatever lies in a cell. -/
def cv (w : World) (g j : Nat) : Value := (w.cell? ⟨g, j, none⟩).getD undef
/-- Since w0 only the box g of a pixel was written. -/
def RS (g : Nat) (w0 w' : World) : Prop := KB w0.heap.size g w0 w' ∧ ∃ a b c d, Bx w' g 25 #[a, b, c, d]
section
variable {g : Nat} {w0 w1 w2 : World}
theorem RS.start {a b c d : Value} (h : Bx w0 g 25 #[a, b, c, d]) : RS g w0 w0.drew := ⟨(KB.refl _ _ _).drew, a, b, c, d, h.drew⟩
theorem RS.call (h : RS g w0 w1) (hb : Below w1.heap.size w1 w2) : RS g w0 w2 := by
  obtain ⟨h1, a, b, c, d, h2⟩ := h
  exact ⟨h1.below hb h1.size, a, b, c, d, h2.below hb⟩
theorem RS.drewN (h : RS g w0 w1) (n : Nat) : RS g w0 (w1.drewN n) := h.call (Below.drewN' (Below.refl _ _) n)
theorem RS.put (h : RS g w0 w1) (a b c d : Value) : RS g w0 ((((w1.setCell ⟨g, 0, none⟩ a).setCell ⟨g, 1, none⟩ b).setCell ⟨g, 2, none⟩ c).setCell ⟨g, 3, none⟩ d) := by
  obtain ⟨h1, _, _, _, _, h2⟩ := h
  exact ⟨h1.set4 _ _ _ _ _ _ _ _, _, _, _, _, h2.put4 _ _ _ _⟩
theorem RS.cvs (h : RS g w0 w1) : (w1.cell? ⟨g, 0, none⟩ = some (cv w1 g 0) ∧ w1.cell? ⟨g, 1, none⟩ = some (cv w1 g 1) ∧ w1.cell? ⟨g, 2, none⟩ = some (cv w1 g 2) ∧ w1.cell? ⟨g, 3, none⟩ = some (cv w1 g 3)) ∧
    w1.frozen? ⟨g, 0, none⟩ = false ∧ w1.frozen? ⟨g, 1, none⟩ = false ∧ w1.frozen? ⟨g, 2, none⟩ = false ∧ w1.frozen? ⟨g, 3, none⟩ = false := by
  obtain ⟨_, a, b, c, d, h2⟩ := h
  obtain ⟨⟨r1, r2, r3, r4⟩, f⟩ := h2.four
  exact ⟨⟨by rw [cv, r1]; rfl, by rw [cv, r2]; rfl, by rw [cv, r3]; rfl, by rw [cv, r4]; rfl⟩, f⟩
theorem RS.bx {g' : Nat} {t : TypeId} {vs : Array Value} (h : RS g w0 w1) (hb : Bx w0 g' t vs) (hn : g' ≠ g) : Bx w1 g' t vs := h.1.bx hb hb.lt hn
theorem RS.bel {w : World} (h : RS g w0 w1) (hb : Below w.heap.size w w0) (hg : w.heap.size ≤ g) : Below w.heap.size w w1 := h.1.toBelow hb hg hb.size
end
/-- A function value that computes a color, from a world on. -/
def FnP (F : Nat) (caps : Array Value) (f : Px → Int × Int × Int) (w0 : World) : Prop :=
  ∀ w, Below w0.heap.size w0 w → ∀ p : Px, p.ok → Calls Tryd.prog F (#[.agg #[.int .i64 p.r, .int .i64 p.g, .int .i64 p.b, .int .i64 p.a]] ++ caps) w (ColPost (f p) w)
theorem FnP.on {F : Nat} {caps : Array Value} {f : Px → Int × Int × Int} {w0 w : World} (h : FnP F caps f w0) (hb : Below w0.heap.size w0 w) : FnP F caps f w := fun w' hb' p hp => h w' (hb.trans (hb'.mono hb.size)) p hp

set_option maxRecDepth 100000 in
set_option maxHeartbeats 4000000 in
theorem k6_any (F : Nat) (caps : Array Value) (f : Int → Int) (p : Px) (hp : p.ok) (g : Nat) (w : World) (hent : Ent F) (hf : FnI F caps f w) (hb : w.cell? ⟨g, 0, none⟩ = some (.func (.func F) #[] caps)) :
    Calls Tryd.prog 59 #[.agg #[.int .i64 p.r, .int .i64 p.g, .int .i64 p.b, .int .i64 p.a], .pointer (some ⟨g, 0, none⟩)] w (ColPost (f p.r, f p.g, f p.b) w) := by
  have hg : g < w.heap.size := World.block_lt_of_cell? w _ hb
  have hent : ∀ (args : Array Value) (w : World), (callFunc F args).run Tryd.prog w = .ok (.enter F args) w := hent
  have HF := Lib.hid hf; clear hf
  have HPR := Lib.hid (show 0 ≤ p.r ∧ p.r ≤ 65535 from hp.1); have HPG := Lib.hid (show 0 ≤ p.g ∧ p.g ≤ 65535 from hp.2.1); have HPB := Lib.hid (show 0 ≤ p.b ∧ p.b ≤ 65535 from hp.2.2.1); clear hp
  go_enter Tryd.func59, Tryd.ntmps59
  go_upto_region 1 with fail
  obtain ⟨hb2, hb3, hB⟩ := two_boxes w #[.int .i64 p.r, .int .i64 p.g, .int .i64 p.b, .int .i64 p.a] #[.int .i64 0, .int .i64 0, .int .i64 0, .int .i64 0] 25 25 _ rfl
  replace hb := (hB.cell (p := ⟨g, 0, none⟩) hg).trans hb
  have hgl := Nat.lt_of_lt_of_le hg hB.size
  generalize World.alloc (World.alloc w _) _ = w0 at *
  have HSA := Lib.hid (show ∀ wq, RS (w.heap.size + 1) w0 wq → RS (w.heap.size + 1) w0 wq ∧ wq.cell? ⟨g, 0, none⟩ = some (.func (.func F) #[] caps) ∧ wq.cell? ⟨w.heap.size, 0, none⟩ = some (.int .i64 p.r) ∧ wq.cell? ⟨w.heap.size, 1, none⟩ = some (.int .i64 p.g) ∧ wq.cell? ⟨w.heap.size, 2, none⟩ = some (.int .i64 p.b) ∧
      wq.cell? ⟨w.heap.size + 1, 0, none⟩ = some (cv wq (w.heap.size + 1) 0) ∧ wq.cell? ⟨w.heap.size + 1, 1, none⟩ = some (cv wq (w.heap.size + 1) 1) ∧ wq.cell? ⟨w.heap.size + 1, 2, none⟩ = some (cv wq (w.heap.size + 1) 2) ∧ wq.cell? ⟨w.heap.size + 1, 3, none⟩ = some (cv wq (w.heap.size + 1) 3) ∧
      wq.frozen? ⟨w.heap.size + 1, 0, none⟩ = false ∧ wq.frozen? ⟨w.heap.size + 1, 1, none⟩ = false ∧ wq.frozen? ⟨w.heap.size + 1, 2, none⟩ = false ∧ wq.frozen? ⟨w.heap.size + 1, 3, none⟩ = false from
    fun wq h => ⟨h, (h.1.cell (k := g) hgl (by omega)).trans hb, (h.bx hb2 (by omega)).four.1.1, (h.bx hb2 (by omega)).four.1.2.1, (h.bx hb2 (by omega)).four.1.2.2.1, h.cvs.1.1, h.cvs.1.2.1, h.cvs.1.2.2.1, h.cvs.1.2.2.2, h.cvs.2⟩)
  have HSP := Lib.hid (fun wq (h : RS (w.heap.size + 1) w0 wq) a b c d => HSA.out _ (h.put a b c d))
  have HFB := Lib.hid (show ∀ wq, RS (w.heap.size + 1) w0 wq → ∀ c, 0 ≤ c ∧ c ≤ 65535 → Calls Tryd.prog F (#[.int .i64 c] ++ caps) wq fun e w' => e = .returned (.int .i64 (f c)) ∧ Below wq.heap.size wq w' from fun wq h c hc => HF.out wq (h.bel hB (by omega)) c hc)
  have hBv : RS (w.heap.size + 1) w0 w0.drew := RS.start hb3
  have hS0 := HSA.out _ hBv
  have HB := Lib.hid hB
  clear hB hb2 hb3 hb HF
  go_region_held3 (fun wq => RS (w.heap.size + 1) w0 wq ∧ wq.cell? ⟨g, 0, none⟩ = some (.func (.func F) #[] caps) ∧ wq.cell? ⟨w.heap.size, 0, none⟩ = some (.int .i64 p.r) ∧ wq.cell? ⟨w.heap.size, 1, none⟩ = some (.int .i64 p.g) ∧ wq.cell? ⟨w.heap.size, 2, none⟩ = some (.int .i64 p.b) ∧
      wq.cell? ⟨w.heap.size + 1, 0, none⟩ = some (cv wq (w.heap.size + 1) 0) ∧ wq.cell? ⟨w.heap.size + 1, 1, none⟩ = some (cv wq (w.heap.size + 1) 1) ∧ wq.cell? ⟨w.heap.size + 1, 2, none⟩ = some (cv wq (w.heap.size + 1) 2) ∧ wq.cell? ⟨w.heap.size + 1, 3, none⟩ = some (cv wq (w.heap.size + 1) 3) ∧
      wq.frozen? ⟨w.heap.size + 1, 0, none⟩ = false ∧ wq.frozen? ⟨w.heap.size + 1, 1, none⟩ = false ∧ wq.frozen? ⟨w.heap.size + 1, 2, none⟩ = false ∧ wq.frozen? ⟨w.heap.size + 1, 3, none⟩ = false)
    (first | assumption | exact hS0 | exact HSA.out _ hBv | exact HSP.out _ hBv _ _ _ _ | go_keep)
    (first | ((with_reducible refine (HFB.out _ hBv p.r HPR.out).mono ?_); rintro e wv ⟨rfl, hbv⟩; have hBv := RS.call hBv hbv) | ((with_reducible refine (HFB.out _ hBv p.g HPG.out).mono ?_); rintro e wv ⟨rfl, hbv⟩; have hBv := RS.call hBv hbv) | ((with_reducible refine (HFB.out _ hBv p.b HPB.out).mono ?_); rintro e wv ⟨rfl, hbv⟩; have hBv := RS.call hBv hbv))
  obtain ⟨⟨r1, r2, r3, r4⟩, f1, f2, f3, f4⟩ := hBv.cvs
  go_wp2_with fail
  refine bodyPost_ret (v := .agg #[.int .i64 (f p.r), .int .i64 (f p.g), .int .i64 (f p.b), .int .i64 0]) (by simp [results, Tryd.results59, go_sem, r1, r2, r3, r4]) rfl ⟨0, rfl, ?_⟩
  exact set4_below (hBv.bel HB.out (by omega)) (by omega) _ _ _ _ _ _ _ _
end Go.Proofs.YtmbglkholoblaaaDoor
