/- Slices of numbers, as a world holds them. -/
import Derived.Test.YtjmecongccjcgaaBase
import Derived.WalkKit
import Derived.Laws.AppendOwn
namespace Go.Proofs.Ytjmecongccjcgaa
open Go.RowKit
/-- v is a slice of the numbers ds, as w holds them. -/
def Row (k : IntKind) (w : World) (v : Value) (ds : List Int) : Prop :=
  ∃ a cap, v = .slice a ds.length cap ∧ ds.length ≤ cap ∧ cap ≤ maxLen ∧ (ds ≠ [] → ∃ b o, a = some ⟨b, o, none⟩ ∧ ∀ i, i < ds.length → w.cell? ⟨b, o + i, none⟩ = some (.int k (ds.getD i 0)))
theorem Row.ext {k : IntKind} {w w' : World} {v : Value} {ds : List Int} (h : Row k w v ds) (x : Ext w w') : Row k w' v ds := by
  obtain ⟨a, cap, rfl, h1, h2, h3⟩ := h
  refine ⟨a, cap, rfl, h1, h2, fun hn => ?_⟩
  obtain ⟨b, o, rfl, hc⟩ := h3 hn
  exact ⟨b, o, rfl, fun i hi => x.cell (hc i hi)⟩
theorem getD_mem (ds : List Int) (i : Nat) (h : i < ds.length) : ds.getD i 0 ∈ ds := by
  rw [List.getD_eq_getElem?_getD, List.getElem?_eq_getElem h]; exact List.getElem_mem h
/-- v's row, if it has one, is none of w's. -/
def New (w : World) (v : Value) : Prop := ∀ b, v.ownBlock = some b → w.heap.size ≤ b
theorem getD_take (ds : List Int) (n i : Nat) (h : i < n) : (ds.take n).getD i 0 = ds.getD i 0 := by
  simp [List.getD, h]
theorem Row.nil (k : IntKind) (w : World) : Row k w (.slice none 0 0) [] := ⟨none, 0, rfl, Nat.le_refl _, by unfold maxLen; omega, fun h => absurd rfl h⟩
theorem Row.take {k : IntKind} {w : World} {b o cap n : Nat} {ds : List Int} (h1 : ds.length ≤ cap) (h2 : cap ≤ maxLen) (hn : n ≤ ds.length)
    (hc : ∀ i, i < ds.length → w.cell? ⟨b, o + i, none⟩ = some (.int k (ds.getD i 0))) : Row k w (.slice (some ⟨b, o, none⟩) n cap) (ds.take n) := by
  have hl : (ds.take n).length = n := by rw [List.length_take]; omega
  refine ⟨some ⟨b, o, none⟩, cap, by rw [hl], by omega, h2, fun _ => ⟨b, o, rfl, fun i hi => ?_⟩⟩
  rw [hl] at hi
  rw [getD_take _ _ _ hi]; exact hc i (by omega)
theorem take_succ_getD (ds : List Int) (k : Nat) (h : k < ds.length) : ds.take (k + 1) = ds.take k ++ [ds.getD k 0] := by
  rw [List.take_add_one, List.getD_eq_getElem?_getD, List.getElem?_eq_getElem h]; rfl
end Go.Proofs.Ytjmecongccjcgaa
