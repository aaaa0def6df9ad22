/- The plain law of a long division by a divisor of several digits. whole.div by a divisor of several limbs. whole.div by any divisor above 0. whole.Divide, Down, by any divisor above 0. -/
import Derived.Test.YtkegefnpmijfiaaGreatQGbI
import Derived.Test.YtkegefnpmijfiaaGreatQNats
import Derived.Test.YtkegefnpmijfiaaGreatQW3
import Derived.Test.YtkegefnpmijfiaaGreatQDiv64
import Derived.Test.YtkegefnpmijfiaaGreatQLeft
import Derived.BigRegion
import Derived.BigQuiet
import Derived.Deep.RegionWith
import Derived.Deep.RegionHeld3
import Derived.ArgAppend
namespace Go.Proofs.YtkegefnpmijfiaaGreat
end Go.Proofs.YtkegefnpmijfiaaGreat
namespace Go.Proofs.YtkegefnpmijfiaaGreat
open Go.RowKit
theorem Row.cells {k : IntKind} {w : World} {v : Value} {ds : List Int} (h : Row k w v ds) : ∃ ao cap, v = .slice ao ds.length cap ∧ (ds ≠ [] → ao ≠ none) ∧ ∀ b, ao = some b → ∀ j u, (ds.map (Value.int k))[j]? = some u → w.cell? (b.add j) = some u := by
  obtain ⟨a, cap, rfl, h1, h2, h3⟩ := h
  refine ⟨a, cap, rfl, fun hn => ?_, fun b hb j u hj => ?_⟩
  · obtain ⟨b, o, rfl, -⟩ := h3 hn; simp
  · have hjn : j < ds.length := by have := (List.getElem?_eq_some_iff.1 hj).1; simpa using this
    obtain ⟨b', o, e, hc⟩ := h3 (by intro e; subst e; simp at hjn)
    cases hb.symm.trans e
    rw [Addr.add_lit, hc j hjn]
    have e : (ds.map (Value.int k))[j]? = some (Value.int k (ds.getD j 0)) := by simp [List.getD, List.getElem?_eq_getElem hjn]
    rw [e] at hj
    exact hj
end Go.Proofs.YtkegefnpmijfiaaGreat
namespace Go.Proofs.YtkegefnpmijfiaaGreat
open Go.RowKit
end Go.Proofs.YtkegefnpmijfiaaGreat
namespace Go.Proofs.YtkegefnpmijfiaaGreat
open Go.RowKit
attribute [local go_sem ↓] Go.wp_at_zero Go.wp_at_succ
end Go.Proofs.YtkegefnpmijfiaaGreat
