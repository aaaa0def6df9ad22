/- The argument of the laws of layer 2, a slice of structs of numbers, opened to its cells. -/
import Derived.Test.YtielcbpjnjdlmaaBase
import Derived.ProofKit
import Derived.Deep.Slices
import Derived.Deep.Fields
namespace Go.Proofs.Ytielcbpjnjdlmaa
open Go.RowKit Go.WideShapes Go.ChangeShapes Go.Deep
section
variable {H : Type} {enc : TypeId × Value → H} {P : Program} {w : World} {base : Nat} {spare : Nat → Bool} {held : Bool}
/-- A struct's field that is a number. -/
theorem field_int {t : TypeId} {fs : Array Field} {n : Nat} {cs : List Value} {x : DataW H × List MemPlace} (ht : P.underlying t = some (.struct fs)) (h : DataW.trod enc P w base spare held n t cs = some x)
    (i : Nat) (f : Field) (k : IntKind) (hi : fs[i]? = some f) (hk : P.underlying f.type = some (.int k)) (h1 : P.cellsOf f.type = 1) :
    ∃ z, cs[f.offset]? = some (.int k z) ∧ (Lit.int k z).wf = true := by
  obtain ⟨xs, m, _, _, _, hlen, hf⟩ := DataW.trod_struct ht h
  have hil : i < xs.length := by rw [hlen]; exact (Array.getElem?_eq_some_iff.1 hi).1
  have g := (hf i f hi).trans (List.getElem?_eq_getElem hil)
  obtain ⟨z, hz, _, hw⟩ := DataW.trod_int hk g
  refine ⟨z, ?_, hw⟩
  rw [h1] at hz
  have := congrArg (fun l => l[0]?) hz
  simpa [List.getElem?_take, List.getElem?_drop] using this
/-- A struct's field that is a struct: its cells are read as one. -/
theorem field_struct {t : TypeId} {fs : Array Field} {n : Nat} {cs : List Value} {x : DataW H × List MemPlace} (ht : P.underlying t = some (.struct fs)) (h : DataW.trod enc P w base spare held n t cs = some x)
    (i : Nat) (f : Field) (hi : fs[i]? = some f) : ∃ m y, DataW.trod enc P w base spare held m f.type ((cs.drop f.offset).take (P.cellsOf f.type)) = some y := by
  obtain ⟨xs, m, _, _, _, hlen, hf⟩ := DataW.trod_struct ht h
  have hil : i < xs.length := by rw [hlen]; exact (Array.getElem?_eq_some_iff.1 hi).1
  exact ⟨m, _, (hf i f hi).trans (List.getElem?_eq_getElem hil)⟩
theorem at_sub {cs : List Value} {o m j : Nat} {v : Value} (h : ((cs.drop o).take m)[j]? = some v) : cs[o + j]? = some v := by
  rw [List.getElem?_take] at h
  split at h
  · rwa [List.getElem?_drop] at h
  · cases h
end
def I64 (x : Int) : Prop := -9223372036854775808 ≤ x ∧ x ≤ 9223372036854775807
def U64 (x : Int) : Prop := 0 ≤ x ∧ x ≤ 18446744073709551615
theorem i64_wf {x : Int} (h : (Lit.int .i64 x).wf = true) : I64 x := by
  simp [Lit.wf, IntKind.min, IntKind.max, IntKind.signed, IntKind.bits] at h
  exact ⟨by omega, by omega⟩
theorem u64_wf {x : Int} (h : (Lit.int .u64 x).wf = true) : U64 x := by
  simp [Lit.wf, IntKind.min, IntKind.max, IntKind.signed, IntKind.bits] at h
  exact ⟨by omega, by omega⟩
/-- One of the law's inputs, as its eight cells hold it. -/
structure TwoAt (w : World) (b o : Nat) (A B F N D H L K : Int) : Prop where
  c0 : w.cell? ⟨b, o, none⟩ = some (.int .i64 A)
  c1 : w.cell? ⟨b, o + 1, none⟩ = some (.int .i64 B)
  c2 : w.cell? ⟨b, o + 2, none⟩ = some (.int .i64 F)
  c3 : w.cell? ⟨b, o + 3, none⟩ = some (.int .i64 N)
  c4 : w.cell? ⟨b, o + 4, none⟩ = some (.int .i64 D)
  c5 : w.cell? ⟨b, o + 5, none⟩ = some (.int .i64 H)
  c6 : w.cell? ⟨b, o + 6, none⟩ = some (.int .u64 L)
  c7 : w.cell? ⟨b, o + 7, none⟩ = some (.int .i64 K)
/-- The law's argument: a slice of such inputs. -/
def TwosAt (w : World) (b o len : Nat) : Prop :=
  ∀ k, k < len → ∃ A B F N D H L K : Int, TwoAt w b (o + k * 8) A B F N D H L K ∧ I64 A ∧ I64 B ∧ I64 F ∧ I64 N ∧ I64 D ∧ I64 H ∧ U64 L ∧ I64 K
theorem TwoAt.ext {w w' : World} {b o : Nat} {A B F N D H L K : Int} (h : TwoAt w b o A B F N D H L K) (x : Ext w w') : TwoAt w' b o A B F N D H L K :=
  ⟨x.cell h.c0, x.cell h.c1, x.cell h.c2, x.cell h.c3, x.cell h.c4, x.cell h.c5, x.cell h.c6, x.cell h.c7⟩
theorem addr_form {a : Addr} {n : Nat} {w : World} {v : Value} (h : w.cell? (a.add n) = some v) (h0 : n = 0) : a = ⟨a.block, a.off, none⟩ := by
  subst h0
  unfold Addr.add at h
  rw [if_pos rfl] at h
  obtain ⟨b, o, s⟩ := a
  cases s with
  | none => rfl
  | some s => unfold World.cell? at h; simp at h; split at h <;> simp at h
theorem add_none (b o n : Nat) : (Addr.mk b o none).add n = ⟨b, o + n, none⟩ := by
  unfold Addr.add; split <;> simp_all
set_option maxRecDepth 100000 in
theorem twos_open {H : Type} {enc : TypeId × Value → H} {w : World} {base : Nat} {v : Value} {d : DataW H} {p : List MemPlace}
    (hv : Value.okWide Try.prog w .any base 61 v) (h : DataW.Trod enc Try.prog w 0 (fun _ => true) true 61 v d p) :
    (∃ a cap, v = .slice a 0 cap) ∨ ∃ b o len cap, v = .slice (some ⟨b, o, none⟩) len cap ∧ 0 < len ∧ len ≤ 9223372036854775807 ∧ TwosAt w b o len := by
  obtain ⟨a0, len0, cap0, rfl⟩ := okWide_slice Try.underlying61 hv
  obtain ⟨fuel, hf⟩ := h
  rcases open_slice Try.underlying61 hf with ⟨hcs, _⟩ | ⟨a, len, cap, m, n, D, Pl, hcs, _, hl, hm, hmm, _, hx⟩
  · simp [Value.cells] at hcs
    obtain ⟨rfl, rfl, rfl⟩ := hcs
    exact .inl ⟨_, _, rfl⟩
  · simp [Value.cells] at hcs
    obtain ⟨rfl, rfl, rfl⟩ := hcs
    rcases Nat.eq_zero_or_pos len0 with h0 | h0
    · subst h0; exact .inl ⟨_, _, rfl⟩
    · right
      have hC : Try.prog.cellsOf 65 = 8 := by kernel_rfl
      have hmle : len0 ≤ m := by rw [hmm]; split <;> omega
      have hform : a = ⟨a.block, a.off, none⟩ := by
        obtain ⟨cs', h1, h2⟩ := hx 0 (by omega)
        obtain ⟨_, hcl, hat⟩ := World.cells?_some h1
        obtain ⟨z, hz, _⟩ := field_int Try.underlying65 h2 0 _ .i64 rfl Try.underlying2 (by kernel_rfl)
        have := (hat 0 (by rw [hC]; omega)).trans hz
        rw [Nat.zero_mul] at this
        have e : (a.add 0).add 0 = a.add 0 := by unfold Addr.add; simp
        rw [e] at this
        exact addr_form this rfl
      obtain ⟨ab, ao, asp⟩ := a
      obtain rfl : asp = none := by injection hform
      refine ⟨ab, ao, len0, cap0, rfl, h0, by unfold maxLen at hm; omega, fun k hk => ?_⟩
      obtain ⟨cs', h1, h2⟩ := hx k (by omega)
      rw [hC] at h1
      obtain ⟨_, hcl, hat⟩ := World.cells?_some h1
      have cell : ∀ j u, cs'[j]? = some u → w.cell? ⟨ab, ao + k * 8 + j, none⟩ = some u := fun j u hu => by
        have hj : j < 8 := by
          have := (List.getElem?_eq_some_iff.1 hu).1
          omega
        have := (hat j hj).trans hu
        rwa [add_none, add_none] at this
      obtain ⟨A, cA, wA⟩ := field_int Try.underlying65 h2 0 _ .i64 rfl Try.underlying2 (by kernel_rfl)
      obtain ⟨B, cB, wB⟩ := field_int Try.underlying65 h2 1 _ .i64 rfl Try.underlying2 (by kernel_rfl)
      obtain ⟨F, cF, wF⟩ := field_int Try.underlying65 h2 2 _ .i64 rfl Try.underlying3 (by kernel_rfl)
      obtain ⟨N, cN, wN⟩ := field_int Try.underlying65 h2 3 _ .i64 rfl Try.underlying2 (by kernel_rfl)
      obtain ⟨D', cD, wD⟩ := field_int Try.underlying65 h2 4 _ .i64 rfl Try.underlying2 (by kernel_rfl)
      obtain ⟨K, cK, wK⟩ := field_int Try.underlying65 h2 6 _ .i64 rfl Try.underlying3 (by kernel_rfl)
      obtain ⟨m', y, h3⟩ := field_struct Try.underlying65 h2 5 _ rfl
      obtain ⟨Hi, cH, wH⟩ := field_int Try.underlying63 h3 0 _ .i64 rfl Try.underlying2 (by kernel_rfl)
      obtain ⟨L, cL, wL⟩ := field_int Try.underlying63 h3 1 _ .u64 rfl Try.underlying24 (by kernel_rfl)
      exact ⟨A, B, F, N, D', Hi, L, K, ⟨by simpa using cell 0 _ cA, cell 1 _ cB, cell 2 _ cF, cell 3 _ cN, cell 4 _ cD, cell 5 _ (at_sub cH), cell 6 _ (at_sub cL), cell 7 _ cK⟩,
        i64_wf wA, i64_wf wB, i64_wf wF, i64_wf wN, i64_wf wD, i64_wf wH, u64_wf wL, i64_wf wK⟩
end Go.Proofs.Ytielcbpjnjdlmaa
