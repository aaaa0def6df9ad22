/- Fields of structs that are read as data; bounds of 64 bits. A slice of structs opened; a struct's field that is a slice of numbers, or a tensor. -/
import Derived.Test.YtgokenbojppnhaaDoorBase
import Derived.Test.YtgokenbojppnhaaDoorGb
import Derived.ProofKit
import Derived.Deep.Slices
import Derived.Deep.Fields
namespace Go.Proofs.YtgokenbojppnhaaDoor
open Go.RowKit Go.WideShapes Go.ChangeShapes Go.Deep
section
variable {H : Type} {enc : TypeId × Value → H} {P : Program} {w : World} {base : Nat} {spare : Nat → Bool} {held : Bool}
/-- A struct's field that is a number. -/
theorem field_int {t : TypeId} {fs : Array Field} {n : Nat} {cs : List Value} {x : DataW H × List MemPlace} (ht : P.underlying t = some (.struct fs)) (h : DataW.trod enc P w base spare held n t cs = some x)
    (i : Nat) (f : Field) (k : IntKind) (hi : fs[i]? = some f) (hk : P.underlying f.type = some (.int k)) (h1 : P.cellsOf f.type = 1) :
    ∃ z, cs[f.offset]? = some (.int k z) ∧ (Lit.int k z).wf = true := by
  obtain ⟨xs, m, _, _, _, hlen, hf⟩ := DataW.trod_struct ht h
  have hil : i < xs.length := by rw [hlen]; exact (Array.getElem?_eq_some_iff.1 hi).1
  have g := (hf i f hi).trans (List.getElem?_eq_getElem hil)
  obtain ⟨z, hz, _, hw⟩ := DataW.trod_int hk g
  refine ⟨z, ?_, hw⟩
  rw [h1] at hz
  have := congrArg (fun l => l[0]?) hz
  simpa [List.getElem?_take, List.getElem?_drop] using this
/-- A struct's field that is a struct: its cells are read as one. -/
theorem field_struct {t : TypeId} {fs : Array Field} {n : Nat} {cs : List Value} {x : DataW H × List MemPlace} (ht : P.underlying t = some (.struct fs)) (h : DataW.trod enc P w base spare held n t cs = some x)
    (i : Nat) (f : Field) (hi : fs[i]? = some f) : ∃ m y, DataW.trod enc P w base spare held m f.type ((cs.drop f.offset).take (P.cellsOf f.type)) = some y := by
  obtain ⟨xs, m, _, _, _, hlen, hf⟩ := DataW.trod_struct ht h
  have hil : i < xs.length := by rw [hlen]; exact (Array.getElem?_eq_some_iff.1 hi).1
  exact ⟨m, _, (hf i f hi).trans (List.getElem?_eq_getElem hil)⟩
theorem at_sub {cs : List Value} {o m j : Nat} {v : Value} (h : ((cs.drop o).take m)[j]? = some v) : cs[o + j]? = some v := by
  rw [List.getElem?_take] at h
  split at h
  · rwa [List.getElem?_drop] at h
  · cases h
end
def I64 (x : Int) : Prop := -9223372036854775808 ≤ x ∧ x ≤ 9223372036854775807
def U64 (x : Int) : Prop := 0 ≤ x ∧ x ≤ 18446744073709551615
theorem i64_wf {x : Int} (h : (Lit.int .i64 x).wf = true) : I64 x := by
  simp [Lit.wf, IntKind.min, IntKind.max, IntKind.signed, IntKind.bits] at h
  exact ⟨by omega, by omega⟩
theorem u64_wf {x : Int} (h : (Lit.int .u64 x).wf = true) : U64 x := by
  simp [Lit.wf, IntKind.min, IntKind.max, IntKind.signed, IntKind.bits] at h
  exact ⟨by omega, by omega⟩
theorem addr_form {a : Addr} {n : Nat} {w : World} {v : Value} (h : w.cell? (a.add n) = some v) (h0 : n = 0) : a = ⟨a.block, a.off, none⟩ := by
  subst h0
  unfold Addr.add at h
  rw [if_pos rfl] at h
  obtain ⟨b, o, s⟩ := a
  cases s with
  | none => rfl
  | some s => unfold World.cell? at h; simp at h; split at h <;> simp at h
theorem add_none (b o n : Nat) : (Addr.mk b o none).add n = ⟨b, o + n, none⟩ := by
  unfold Addr.add; split <;> simp_all
end Go.Proofs.YtgokenbojppnhaaDoor
namespace Go.Proofs.YtgokenbojppnhaaDoor
open Go.RowKit Go.WideShapes Go.ChangeShapes Go.Deep
section
variable {H : Type} {enc : TypeId × Value → H} {P : Program} {w : World}
theorem slice_open {base C : Nat} {t e : TypeId} {v : Value} {d : DataW H} {p : List MemPlace} (ht : P.underlying t = some (.slice e)) (hC : P.cellsOf e = C) (hpos : 0 < C)
    (hv : Value.okWide P w .any base t v) (h : DataW.Trod enc P w 0 (fun _ => true) true t v d p) :
    (∃ a cap, v = .slice a 0 cap) ∨ ∃ b o len cap, v = .slice (some ⟨b, o, none⟩) len cap ∧ 0 < len ∧ len ≤ 9223372036854775807 ∧
      ∀ k, k < len → ∃ cs m y, (∀ j u, cs[j]? = some u → w.cell? ⟨b, o + k * C + j, none⟩ = some u) ∧ DataW.trod enc P w 0 (fun _ => true) true m e cs = some y := by
  obtain ⟨a0, len0, cap0, rfl⟩ := okWide_slice ht hv
  obtain ⟨fuel, hf⟩ := h
  rcases open_slice ht hf with ⟨hcs, _⟩ | ⟨a, len, cap, m, n, D, Pl, hcs, _, hl, hm, hmm, _, hx⟩
  · simp [Value.cells] at hcs
    obtain ⟨rfl, rfl, rfl⟩ := hcs
    exact .inl ⟨_, _, rfl⟩
  · simp [Value.cells] at hcs
    obtain ⟨rfl, rfl, rfl⟩ := hcs
    rcases Nat.eq_zero_or_pos len0 with h0 | h0
    · subst h0; exact .inl ⟨_, _, rfl⟩
    · right
      have hmle : len0 ≤ m := by rw [hmm]; split <;> omega
      rw [hC] at hx
      have hform : a = ⟨a.block, a.off, none⟩ := by
        obtain ⟨cs', h1, h2⟩ := hx 0 (by omega)
        obtain ⟨_, hcl, hat⟩ := World.cells?_some h1
        have := hat 0 hpos
        rw [List.getElem?_eq_getElem (by omega), Nat.zero_mul] at this
        have e : (a.add 0).add 0 = a.add 0 := by unfold Addr.add; simp
        rw [e] at this
        exact addr_form this rfl
      obtain ⟨ab, ao, asp⟩ := a
      obtain rfl : asp = none := by injection hform
      refine ⟨ab, ao, len0, cap0, rfl, h0, by unfold maxLen at hm; omega, fun k hk => ?_⟩
      obtain ⟨cs', h1, h2⟩ := hx k (by omega)
      obtain ⟨_, hcl, hat⟩ := World.cells?_some h1
      refine ⟨cs', _, _, fun j u hu => ?_, h2⟩
      have hj : j < C := by
        have := (List.getElem?_eq_some_iff.1 hu).1
        omega
      have := (hat j hj).trans hu
      rwa [add_none, add_none] at this
theorem sub_one {cs : List Value} {o : Nat} {v : Value} (h : (cs.drop o).take 1 = [v]) : cs[o]? = some v := by
  have := congrArg (fun l => l[0]?) h
  simpa [List.getElem?_take, List.getElem?_drop] using this
/-- A struct's field that is a slice of numbers. -/
theorem field_row {t : TypeId} {fs : Array Field} {n : Nat} {cs : List Value} {x : DataW H × List MemPlace} (ht : P.underlying t = some (.struct fs)) (h : DataW.trod enc P w 0 (fun _ => true) true n t cs = some x)
    (i : Nat) (f : Field) (e : TypeId) (k : IntKind) (hi : fs[i]? = some f) (hs : P.underlying f.type = some (.slice e)) (he : P.underlying e = some (.int k)) (hc : P.cellsOf e = 1) (h1 : P.cellsOf f.type = 1) :
    ∃ v zs, cs[f.offset]? = some v ∧ Row k w v zs ∧ ∀ z ∈ zs, (Lit.int k z).wf = true := by
  obtain ⟨m, y, hy⟩ := field_struct ht h i f hi
  rw [h1] at hy
  rcases open_ints hs he hc hy with ⟨hcs, _⟩ | ⟨a, len, cap, zs, hcs, _, hl, hm, hz, _, hcell, hwz⟩
  · exact ⟨_, [], sub_one hcs, Row.nil _ _, fun z hz => by cases hz⟩
  · refine ⟨_, zs.take len, sub_one hcs, ?_, fun z hz => hwz z (List.mem_of_mem_take hz)⟩
    have hle : len ≤ zs.length := by rw [hz]; split <;> omega
    have hlen : (zs.take len).length = len := by rw [List.length_take]; omega
    refine ⟨some a, cap, by rw [hlen], by omega, hm, fun hne => ?_⟩
    have hp : 0 < len := by
      rcases Nat.eq_zero_or_pos len with h0 | h0
      · subst h0; simp at hne
      · exact h0
    have hform := addr_form (hcell 0 (by omega)) rfl
    obtain ⟨ab, ao, asp⟩ := a
    obtain rfl : asp = none := by injection hform
    refine ⟨ab, ao, rfl, fun i hi => ?_⟩
    rw [hlen] at hi
    have := hcell i (by omega)
    rw [add_none] at this
    rw [this, getD_take _ _ _ hi]
theorem i64_all {zs : List Int} (h : ∀ z ∈ zs, (Lit.int .i64 z).wf = true) : ∀ z ∈ zs, I64 z := fun z hz => i64_wf (h z hz)
end
end Go.Proofs.YtgokenbojppnhaaDoor
