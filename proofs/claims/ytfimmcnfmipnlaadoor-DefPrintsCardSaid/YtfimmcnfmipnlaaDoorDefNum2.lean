/- ratchetref26.number; def.is. -/
import Derived.Test.YtfimmcnfmipnlaaDoorDefNum
namespace Go.Proofs.YtfimmcnfmipnlaaDoor
open Go.RowKit
/-- What the reference's number tells. -/
def numM (t : Bs) : Int := match numB t with
  | none => -1
  | some n => n
/-- A line of one word. -/
theorem is_any {v : Value} {L : List Bs} {x : Bs} {w : World} (h : RowV w v (strs L)) :
    Calls Tryd.prog 65 #[v, .string (ba x)] w fun e w' => e = .returned (.bool (decide (L = [x]))) ∧ w = w' := by
  obtain ⟨a, cap, rfl, h1, h2, h3⟩ := h
  rw [strs_len] at h1 h3 ⊢
  obtain ⟨X, hX, -, -, -, LX⟩ := str_of x
  rw [hX]
  clear hX
  by_cases hl : L.length = 1
  · obtain ⟨y, rfl⟩ := List.length_eq_one_iff.1 hl
    obtain ⟨b, o, rfl, hc⟩ := h3 (by simp [strs])
    have c0 := hc 0 (by simp)
    rw [Nat.add_zero] at c0
    simp only [strs, List.map_cons, List.map_nil, List.getElem?_cons_zero] at c0
    obtain ⟨Y, hY, -, -, -, LY⟩ := str_of y
    rw [hY] at c0
    have hz : decide ([y] = [x]) = (Y.toList == X.toList) := by
      rw [LY.out, LX.out]
      by_cases e : y = x <;> simp [e]
    rw [hz]
    clear h3 hc hY hz LX LY hl
    go_enter Tryd.func65, Tryd.ntmps65
    go_wp2
    go_ret
    exact ⟨rfl, rfl⟩
  · have hz : decide (L = [x]) = false := by simp; intro e; rw [e] at hl; exact hl rfl
    have hn : ((L.length : Int) == 1) = false := by simp; omega
    rw [hz]
    clear h3
    go_enter Tryd.func65, Tryd.ntmps65
    go_wp2
    go_ret
    exact ⟨rfl, rfl⟩
end Go.Proofs.YtfimmcnfmipnlaaDoor
