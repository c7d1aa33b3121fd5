/- FromHsl and its reference: one contract each. -/
import Derived.Test.YtmbglkholoblaaaDoorAdjC
import Derived.Test.YtmbglkholoblaaaDoorAdjC2
import Derived.Test.YtmbglkholoblaaaDoorAdjC3
namespace Go.Proofs.YtmbglkholoblaaaDoor
open Go.RowKit

theorem fromhsl_any (h s l a : Int) (w : World) : Calls Tryd.prog 17 #[.agg #[.int .i64 h, .int .i64 s, .int .i64 l], .int .i64 a] w (PxPost (fromH h s l a) w) := by
  by_cases hz2 : lim16 a = 0
  · exact from_z h s l a hz2 w
  have E : fromH h s l a = fromHsl (h % 65536) (lim16 s) (lim16 l) (lim16 a) := by unfold fromH; rw [if_neg hz2]
  rw [E]
  have ha := lim16_bd a; have hs := lim16_bd s; have hl := lim16_bd l
  have hu : 0 ≤ h % 65536 ∧ h % 65536 ≤ 65535 := by omega
  obtain ⟨hp, hC⟩ := hslC_bd hs hl
  have hn := rdiv_spec (2 * lim16 l - hslC (lim16 s) (lim16 l)) 2 (by omega)
  have TA := fun w' => aunit_any a w'
  have TS := fun w' => aunit_any s w'
  have TL := fun w' => aunit_any l w'
  rcases (show 6 * (h % 65536) / 65536 = 0 ∨ 6 * (h % 65536) / 65536 = 1 ∨ 6 * (h % 65536) / 65536 = 2 ∨ 6 * (h % 65536) / 65536 = 3 ∨ 6 * (h % 65536) / 65536 = 4 ∨ 6 * (h % 65536) / 65536 = 5 by omega) with hk | hk | hk | hk | hk | hk
  · have h2 := fr_bd (f := (6 * (h % 65536))) hC (by omega)
    have h3 := fr_bd (f := (6 * (h % 65536))) hC (by omega)
    exact from_y0 h s l a (h % 65536) (lim16 s) (lim16 l) (lim16 a) _ _ _ _ w (by omega) hu hs hl hk hC h3.2 (by omega) (fun w' => modulo_any h w') TA TS TL (fun w' => div_any _ _ w' (by omega) (by omega) (by omega) (by omega)) (fun w' => div_any _ _ w' (by omega) (by omega) (by omega) (by omega)) (fun w' => div_any _ _ w' (by omega) (by omega) (by omega) (by omega)) (from_0 hk rfl rfl rfl)
  · have h2 := fr_bd (f := (6 * (h % 65536) - 65536)) hC (by omega)
    have h3 := fr_bd (f := (65536 - (6 * (h % 65536) - 65536))) hC (by omega)
    exact from_y1 h s l a (h % 65536) (lim16 s) (lim16 l) (lim16 a) _ _ _ _ w (by omega) hu hs hl hk hC h3.2 (by omega) (fun w' => modulo_any h w') TA TS TL (fun w' => div_any _ _ w' (by omega) (by omega) (by omega) (by omega)) (fun w' => (div_any _ _ w' (by omega) (by omega) (by omega) (by omega)).mono fun e w'' ⟨x, y⟩ => ⟨⟨_, x⟩, y⟩) (fun w' => div_any _ _ w' (by omega) (by omega) (by omega) (by omega)) (fun w' => div_any _ _ w' (by omega) (by omega) (by omega) (by omega)) (from_1 hk rfl rfl rfl)
  · have h2 := fr_bd (f := (6 * (h % 65536) - 131072)) hC (by omega)
    have h3 := fr_bd (f := (6 * (h % 65536) - 131072)) hC (by omega)
    exact from_y2 h s l a (h % 65536) (lim16 s) (lim16 l) (lim16 a) _ _ _ _ w (by omega) hu hs hl hk hC h3.2 (by omega) (fun w' => modulo_any h w') TA TS TL (fun w' => div_any _ _ w' (by omega) (by omega) (by omega) (by omega)) (fun w' => div_any _ _ w' (by omega) (by omega) (by omega) (by omega)) (fun w' => div_any _ _ w' (by omega) (by omega) (by omega) (by omega)) (from_2 hk rfl rfl rfl)
  · have h2 := fr_bd (f := (6 * (h % 65536) - 196608)) hC (by omega)
    have h3 := fr_bd (f := (65536 - (6 * (h % 65536) - 196608))) hC (by omega)
    exact from_y3 h s l a (h % 65536) (lim16 s) (lim16 l) (lim16 a) _ _ _ _ w (by omega) hu hs hl hk hC h3.2 (by omega) (fun w' => modulo_any h w') TA TS TL (fun w' => div_any _ _ w' (by omega) (by omega) (by omega) (by omega)) (fun w' => (div_any _ _ w' (by omega) (by omega) (by omega) (by omega)).mono fun e w'' ⟨x, y⟩ => ⟨⟨_, x⟩, y⟩) (fun w' => div_any _ _ w' (by omega) (by omega) (by omega) (by omega)) (fun w' => div_any _ _ w' (by omega) (by omega) (by omega) (by omega)) (from_3 hk rfl rfl rfl)
  · have h2 := fr_bd (f := (6 * (h % 65536) - 262144)) hC (by omega)
    have h3 := fr_bd (f := (6 * (h % 65536) - 262144)) hC (by omega)
    exact from_y4 h s l a (h % 65536) (lim16 s) (lim16 l) (lim16 a) _ _ _ _ w (by omega) hu hs hl hk hC h3.2 (by omega) (fun w' => modulo_any h w') TA TS TL (fun w' => div_any _ _ w' (by omega) (by omega) (by omega) (by omega)) (fun w' => div_any _ _ w' (by omega) (by omega) (by omega) (by omega)) (fun w' => div_any _ _ w' (by omega) (by omega) (by omega) (by omega)) (from_4 hk rfl rfl rfl)
  · have h2 := fr_bd (f := (6 * (h % 65536) - 327680)) hC (by omega)
    have h3 := fr_bd (f := (65536 - (6 * (h % 65536) - 327680))) hC (by omega)
    exact from_y5 h s l a (h % 65536) (lim16 s) (lim16 l) (lim16 a) _ _ _ _ w (by omega) hu hs hl hk hC h3.2 (by omega) (fun w' => modulo_any h w') TA TS TL (fun w' => div_any _ _ w' (by omega) (by omega) (by omega) (by omega)) (fun w' => (div_any _ _ w' (by omega) (by omega) (by omega) (by omega)).mono fun e w'' ⟨x, y⟩ => ⟨⟨_, x⟩, y⟩) (fun w' => div_any _ _ w' (by omega) (by omega) (by omega) (by omega)) (fun w' => div_any _ _ w' (by omega) (by omega) (by omega) (by omega)) (from_5 hk rfl rfl rfl)
theorem rfromhsl_any (h s l a : Int) (w : World) : Calls Tryd.prog 18 #[.agg #[.int .i64 h, .int .i64 s, .int .i64 l], .int .i64 a] w (PxPost (fromH h s l a) w) := by
  by_cases hz : a ≤ 0
  · exact rfrom_z h s l a hz w
  have hz2 : lim16 a ≠ 0 := by unfold lim16; omega
  have E : fromH h s l a = fromHsl (h % 65536) (lim16 s) (lim16 l) (lim16 a) := by unfold fromH; rw [if_neg hz2]
  rw [E]
  have ha := lim16_bd a; have hs := lim16_bd s; have hl := lim16_bd l
  have hu : 0 ≤ h % 65536 ∧ h % 65536 ≤ 65535 := by omega
  obtain ⟨hp, hC⟩ := hslC_bd hs hl
  have hn := rdiv_spec (2 * lim16 l - hslC (lim16 s) (lim16 l)) 2 (by omega)
  have TA := fun w' => r17unit_any a w'
  have TS := fun w' => r17unit_any s w'
  have TL := fun w' => r17unit_any l w'
  rcases (show 6 * (h % 65536) / 65536 = 0 ∨ 6 * (h % 65536) / 65536 = 1 ∨ 6 * (h % 65536) / 65536 = 2 ∨ 6 * (h % 65536) / 65536 = 3 ∨ 6 * (h % 65536) / 65536 = 4 ∨ 6 * (h % 65536) / 65536 = 5 by omega) with hk | hk | hk | hk | hk | hk
  · have h2 := fr_bd (f := (6 * (h % 65536))) hC (by omega)
    have h3 := fr_bd (f := (6 * (h % 65536))) hC (by omega)
    exact rfrom_y0 h s l a (h % 65536) (lim16 s) (lim16 l) (lim16 a) _ _ _ _ w (by omega) (by omega) rfl hu hs hl hk hC h3.2 (by omega) TA TS TL (fun w' => rdiv_any _ _ w' (by omega) (by omega) (by omega) (by omega)) (fun w' => rdiv_any _ _ w' (by omega) (by omega) (by omega) (by omega)) (fun w' => rdiv_any _ _ w' (by omega) (by omega) (by omega) (by omega)) (from_0 hk rfl rfl rfl)
  · have h2 := fr_bd (f := (6 * (h % 65536) - 65536)) hC (by omega)
    have h3 := fr_bd (f := (65536 - (6 * (h % 65536) - 65536))) hC (by omega)
    exact rfrom_y1 h s l a (h % 65536) (lim16 s) (lim16 l) (lim16 a) _ _ _ _ w (by omega) (by omega) rfl hu hs hl hk hC h3.2 (by omega) TA TS TL (fun w' => rdiv_any _ _ w' (by omega) (by omega) (by omega) (by omega)) (fun w' => (rdiv_any _ _ w' (by omega) (by omega) (by omega) (by omega)).mono fun e w'' ⟨x, y⟩ => ⟨⟨_, x⟩, y⟩) (fun w' => rdiv_any _ _ w' (by omega) (by omega) (by omega) (by omega)) (fun w' => rdiv_any _ _ w' (by omega) (by omega) (by omega) (by omega)) (from_1 hk rfl rfl rfl)
  · have h2 := fr_bd (f := (6 * (h % 65536) - 131072)) hC (by omega)
    have h3 := fr_bd (f := (6 * (h % 65536) - 131072)) hC (by omega)
    exact rfrom_y2 h s l a (h % 65536) (lim16 s) (lim16 l) (lim16 a) _ _ _ _ w (by omega) (by omega) rfl hu hs hl hk hC h3.2 (by omega) TA TS TL (fun w' => rdiv_any _ _ w' (by omega) (by omega) (by omega) (by omega)) (fun w' => rdiv_any _ _ w' (by omega) (by omega) (by omega) (by omega)) (fun w' => rdiv_any _ _ w' (by omega) (by omega) (by omega) (by omega)) (from_2 hk rfl rfl rfl)
  · have h2 := fr_bd (f := (6 * (h % 65536) - 196608)) hC (by omega)
    have h3 := fr_bd (f := (65536 - (6 * (h % 65536) - 196608))) hC (by omega)
    exact rfrom_y3 h s l a (h % 65536) (lim16 s) (lim16 l) (lim16 a) _ _ _ _ w (by omega) (by omega) rfl hu hs hl hk hC h3.2 (by omega) TA TS TL (fun w' => rdiv_any _ _ w' (by omega) (by omega) (by omega) (by omega)) (fun w' => (rdiv_any _ _ w' (by omega) (by omega) (by omega) (by omega)).mono fun e w'' ⟨x, y⟩ => ⟨⟨_, x⟩, y⟩) (fun w' => rdiv_any _ _ w' (by omega) (by omega) (by omega) (by omega)) (fun w' => rdiv_any _ _ w' (by omega) (by omega) (by omega) (by omega)) (from_3 hk rfl rfl rfl)
  · have h2 := fr_bd (f := (6 * (h % 65536) - 262144)) hC (by omega)
    have h3 := fr_bd (f := (6 * (h % 65536) - 262144)) hC (by omega)
    exact rfrom_y4 h s l a (h % 65536) (lim16 s) (lim16 l) (lim16 a) _ _ _ _ w (by omega) (by omega) rfl hu hs hl hk hC h3.2 (by omega) TA TS TL (fun w' => rdiv_any _ _ w' (by omega) (by omega) (by omega) (by omega)) (fun w' => rdiv_any _ _ w' (by omega) (by omega) (by omega) (by omega)) (fun w' => rdiv_any _ _ w' (by omega) (by omega) (by omega) (by omega)) (from_4 hk rfl rfl rfl)
  · have h2 := fr_bd (f := (6 * (h % 65536) - 327680)) hC (by omega)
    have h3 := fr_bd (f := (65536 - (6 * (h % 65536) - 327680))) hC (by omega)
    exact rfrom_y5 h s l a (h % 65536) (lim16 s) (lim16 l) (lim16 a) _ _ _ _ w (by omega) (by omega) rfl hu hs hl hk hC h3.2 (by omega) TA TS TL (fun w' => rdiv_any _ _ w' (by omega) (by omega) (by omega) (by omega)) (fun w' => (rdiv_any _ _ w' (by omega) (by omega) (by omega) (by omega)).mono fun e w'' ⟨x, y⟩ => ⟨⟨_, x⟩, y⟩) (fun w' => rdiv_any _ _ w' (by omega) (by omega) (by omega) (by omega)) (fun w' => rdiv_any _ _ w' (by omega) (by omega) (by omega) (by omega)) (from_5 hk rfl rfl rfl)
end Go.Proofs.YtmbglkholoblaaaDoor
