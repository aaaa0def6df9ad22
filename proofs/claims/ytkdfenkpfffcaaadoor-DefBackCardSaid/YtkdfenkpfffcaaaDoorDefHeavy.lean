/- ratchetlaw26.Heavy: is a definition more than is played? -/
import Derived.Test.YtkdfenkpfffcaaaDoorDefWeight
import Derived.Test.YtkdfenkpfffcaaaDoorDefPrint2
namespace Go.Proofs.YtkdfenkpfffcaaaDoor
open Go.RowKit
def heavyS (d : DefL) : Bool := decide (10 < d.input.length) || decide (200 < weightS 0 0 d.layers)
set_option maxHeartbeats 4000000 in
set_option maxRecDepth 100000 in
theorem heavy_any {A : Nat → Prop} {n : Nat} {w : World} {v : Value} {d : DefL} (h : DefAt A n w v d) :
    Calls Tryd.prog 7 #[v] w fun e w' => e = .returned (.bool (heavyS d)) ∧ Ext w w' := by
  obtain ⟨a1, c1, a2, c2, rfl, hi, hl⟩ := h.is
  have HB := Lib.hid h.below
  have HL := Lib.hid hl
  obtain ⟨a1', c1', e1, -, -, hc⟩ := hi
  cases e1
  have wl := weight_le (L := d.layers) (deep := 0) (n := 0) (by omega)
  have CA := Lib.hid (fun (u : World) (x : Ext w u) => weight_any n A (.slice a2 d.layers.length c2) d.layers 0 0 u (HL.out.ext x) (fun b hb => Nat.lt_of_lt_of_le (HB.out b hb) x.size) (by omega) (by omega))
  obtain ⟨T, hT⟩ : ∃ T, weightS 0 0 d.layers = T := ⟨_, rfl⟩
  have hS : heavyS d = (decide (10 < d.input.length) || decide (200 < T)) := by unfold heavyS; rw [hT]
  rw [hS]
  rw [hT] at wl CA
  clear hl hc hS h hT HB HL
  by_cases hb : 10 < d.input.length
  · have z : (10 : Int) < (d.input.length : Int) := by omega
    rw [decide_eq_true hb, Bool.true_or]
    clear CA wl
    go_enter Tryd.func7, Tryd.ntmps7
    go_wp2_with fail
    go_ret
    first | exact (Ext.refl w).alloc _ | exact ⟨rfl, (Ext.refl w).alloc _⟩
  · have z : ¬ (10 : Int) < (d.input.length : Int) := by omega
    rw [decide_eq_false hb, Bool.false_or]
    obtain ⟨B, hB, z2⟩ : ∃ B, decide (200 < T) = B ∧ decide ((200 : Int) < (T : Int)) = B := ⟨_, rfl, by rcases Nat.lt_or_ge 200 T with h2 | h2 <;> simp <;> omega⟩
    rw [hB]
    clear hB
    go_enter Tryd.func7, Tryd.ntmps7
    go_wp2_with fail
    refine (CA.out _ ((Ext.refl w).alloc _)).mono ?_
    rintro e w2 ⟨rfl, x2⟩
    have X2 := Lib.hid (((Ext.refl w).alloc (.cells #[.slice a1 d.input.length c1, .slice a2 d.layers.length c2, .int .i64 d.loss] 26)).tr x2)
    clear CA x2
    cases B with
    | true =>
      have z3 : (200 : Int) < (T : Int) := of_decide_eq_true z2
      clear z2
      go_wp2_with fail
      go_ret
      first | exact X2.out | exact ⟨rfl, X2.out⟩ | exact ⟨by simp; omega, X2.out⟩
    | false =>
      have z3 : ¬ (200 : Int) < (T : Int) := of_decide_eq_false z2
      clear z2
      go_wp2_with fail
      go_ret
      first | exact X2.out | exact ⟨rfl, X2.out⟩ | exact ⟨by simp; omega, X2.out⟩
end Go.Proofs.YtkdfenkpfffcaaaDoor
