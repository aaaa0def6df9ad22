/- Package ratchetref26: name, words, all. -/
import Derived.Test.YtfimmcnfmipnlaaDoorDefParse
namespace Go.Proofs.YtfimmcnfmipnlaaDoor
open Go.RowKit
theorem nameR_any (k : Nat) (hk : k ≤ 13) (w : World) : Calls Tryd.prog 29 #[.int .i64 k] w fun e w' => e = .returned (.string (ba (nameB k))) ∧ w = w' := by
  have hh : k = 0 ∨ k = 1 ∨ k = 2 ∨ k = 3 ∨ k = 4 ∨ k = 5 ∨ k = 6 ∨ k = 7 ∨ k = 8 ∨ k = 9 ∨ k = 10 ∨ k = 11 ∨ k = 12 ∨ k = 13 := by omega
  rcases hh with rfl | rfl | rfl | rfl | rfl | rfl | rfl | rfl | rfl | rfl | rfl | rfl | rfl | rfl
  all_goals
    go_enter Tryd.func29, Tryd.ntmps29
    go_wp2
    go_ret
    exact ⟨rfl, rfl⟩
/-- What all tells. -/
def allRes (base : Nat) (w : World) (iv : Value) (ok : Bool) : Option (List Nat) → Prop
  | none => iv = .slice none 0 0 ∧ ok = false
  | some ns => ok = true ∧ w.ownsRow base 3 1 iv ns.length (ns.map (fun (n : Nat) => Value.int .i64 (n : Int)))
theorem numM_none {t : Bs} (h : numB t = none) : numM t = -1 := by unfold numM; rw [h]
theorem numM_some {t : Bs} {n : Nat} (h : numB t = some n) : numM t = n := by unfold numM; rw [h]
end Go.Proofs.YtfimmcnfmipnlaaDoor
