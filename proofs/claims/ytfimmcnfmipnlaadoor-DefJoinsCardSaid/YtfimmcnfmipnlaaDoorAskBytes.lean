/- A slice of slices of bytes, opened to its rows. -/
import Derived.Test.YtfimmcnfmipnlaaDoorFieldT
import Derived.Test.YtfimmcnfmipnlaaDoorDefParse
import Derived.OpenShut
namespace Go.Proofs.YtfimmcnfmipnlaaDoor
open Go.RowKit Go.WideShapes Go.ChangeShapes Go.Deep
theorem u8_wf {x : Int} (h : (Lit.int .u8 x).wf = true) : 0 ≤ x ∧ x ≤ 255 := by
  simp [Lit.wf, IntKind.min, IntKind.max, IntKind.signed, IntKind.bits] at h
  exact ⟨by omega, by omega⟩
/-- Numbers from 0 to 255, as bytes. -/
def bytesOf (l : List Int) : Bs := l.map (fun x => UInt8.ofNat x.toNat)
theorem bytesOf_len (l : List Int) : (bytesOf l).length = l.length := by simp [bytesOf]
theorem byte_of {x : Int} (h : 0 ≤ x ∧ x ≤ 255) : ((UInt8.ofNat x.toNat).toNat : Int) = x := by
  simp; omega
theorem bytes_row {P : Program} {H : Type} {enc : TypeId × Value → H} {w : World} {t e : TypeId} {n : Nat} {cs : List Value} {x : DataW H × List MemPlace} (hs : P.underlying t = some (.slice e)) (he : P.underlying e = some (.int .u8)) (hc : P.cellsOf e = 1)
    (hy : DataW.trod enc P w 0 (fun _ => true) true n t cs = some x) : ∃ v b, cs = [v] ∧ RowV w v (bytesV b) := by
  rcases open_ints hs he hc hy with ⟨hcs, _⟩ | ⟨a, len, cap, zs, hcs, _, hl, hm, hz, _, hcell, hwz⟩
  · exact ⟨_, [], hcs, ⟨none, 0, rfl, by simp [bytesV], by simp [maxLen], fun h => absurd rfl h⟩⟩
  · refine ⟨_, bytesOf (zs.take len), hcs, ?_⟩
    have hle : len ≤ zs.length := by rw [hz]; split <;> omega
    have hlen : (bytesV (bytesOf (zs.take len))).length = len := by simp [bytesV, bytesOf]; omega
    refine ⟨some a, cap, by rw [hlen], by omega, hm, fun hne => ?_⟩
    have hp : 0 < len := by
      rcases Nat.eq_zero_or_pos len with h0 | h0
      · subst h0; simp [bytesV, bytesOf] at hne
      · exact h0
    have hform := addr_form (hcell 0 (by omega)) rfl
    obtain ⟨ab, ao, asp⟩ := a
    obtain rfl : asp = none := by injection hform
    refine ⟨ab, ao, rfl, fun i hi => ?_⟩
    rw [hlen] at hi
    have h1 := hcell i (by omega)
    rw [add_none] at h1
    have hi2 : i < zs.length := by omega
    have hw := u8_wf (hwz zs[i] (List.getElem_mem hi2))
    rw [h1]
    simp only [bytesV, bytesOf, List.map_map, List.getElem?_map, List.getElem?_take, if_pos hi, List.getElem?_eq_getElem hi2, Option.map_some, Function.comp]
    rw [byte_of hw, List.getD_eq_getElem?_getD, List.getElem?_eq_getElem hi2]
    rfl
/-- The lists of bytes, as a world holds them. -/
def ListsB (w : World) (b o len : Nat) : Prop := ∀ k, k < len → ∃ v l, w.cell? ⟨b, o + k, none⟩ = some v ∧ RowV w v (bytesV l)
theorem ListsB.ext {w w' : World} {b o len : Nat} (h : ListsB w b o len) (x : Ext w w') : ListsB w' b o len := fun k hk => by
  obtain ⟨v, l, h1, h2⟩ := h k hk
  exact ⟨v, l, x.cell h1, h2.ext x⟩
end Go.Proofs.YtfimmcnfmipnlaaDoor
