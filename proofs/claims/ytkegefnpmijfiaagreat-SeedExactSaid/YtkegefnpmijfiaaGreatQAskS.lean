/- ratchetlaw0: Within, F. ratchetlaw0.Heavy. Fields of structs that are read as data; bounds of 64 bits. A slice of structs opened; a struct's field that is a slice of numbers, or a tensor. The argument of the laws of layer 25, opened to its cells. -/
import Derived.Test.YtkegefnpmijfiaaGreatQFx
import Derived.Test.YtkegefnpmijfiaaGreatQShps
import Derived.Test.YtkegefnpmijfiaaGreatQReckon
import Derived.Test.YtkegefnpmijfiaaGreatQBase
import Derived.Test.YtkegefnpmijfiaaGreatQGbI
import Derived.Test.YtkegefnpmijfiaaGreatQClonesG
import Derived.Test.YtkegefnpmijfiaaGreatQRand
import Derived.ProofKit
import Derived.Deep.Slices
import Derived.Deep.Fields
import Derived.OpenShut
namespace Go.Proofs.YtkegefnpmijfiaaGreat
open Go.RowKit
theorem wrap_i64 {x : Int} (h1 : -9223372036854775808 ≤ x) (h2 : x ≤ 9223372036854775807) : IntKind.i64.wrap x = x := by
  rw [IntKind.wrap_i64]; omega
end Go.Proofs.YtkegefnpmijfiaaGreat
namespace Go.Proofs.YtkegefnpmijfiaaGreat
open Go.RowKit
attribute [local go_sem ↓] Go.wp_at_zero Go.wp_at_succ
end Go.Proofs.YtkegefnpmijfiaaGreat
namespace Go.Proofs.YtkegefnpmijfiaaGreat
open Go.RowKit Go.WideShapes Go.ChangeShapes Go.Deep
section
variable {H : Type} {enc : TypeId × Value → H} {P : Program} {w : World} {base : Nat} {spare : Nat → Bool} {held : Bool}
/-- A struct's field that is a number. -/
theorem field_int {t : TypeId} {fs : Array Field} {n : Nat} {cs : List Value} {x : DataW H × List MemPlace} (ht : P.underlying t = some (.struct fs)) (h : DataW.trod enc P w base spare held n t cs = some x)
    (i : Nat) (f : Field) (k : IntKind) (hi : fs[i]? = some f) (hk : P.underlying f.type = some (.int k)) (h1 : P.cellsOf f.type = 1) :
    ∃ z, cs[f.offset]? = some (.int k z) ∧ (Lit.int k z).wf = true := by
  obtain ⟨xs, m, _, _, _, hlen, hf⟩ := DataW.trod_struct ht h
  have hil : i < xs.length := by rw [hlen]; exact (Array.getElem?_eq_some_iff.1 hi).1
  have g := (hf i f hi).trans (List.getElem?_eq_getElem hil)
  obtain ⟨z, hz, _, hw⟩ := DataW.trod_int hk g
  refine ⟨z, ?_, hw⟩
  rw [h1] at hz
  have := congrArg (fun l => l[0]?) hz
  simpa [List.getElem?_take, List.getElem?_drop] using this
/-- A struct's field that is a struct: its cells are read as one. -/
theorem field_struct {t : TypeId} {fs : Array Field} {n : Nat} {cs : List Value} {x : DataW H × List MemPlace} (ht : P.underlying t = some (.struct fs)) (h : DataW.trod enc P w base spare held n t cs = some x)
    (i : Nat) (f : Field) (hi : fs[i]? = some f) : ∃ m y, DataW.trod enc P w base spare held m f.type ((cs.drop f.offset).take (P.cellsOf f.type)) = some y := by
  obtain ⟨xs, m, _, _, _, hlen, hf⟩ := DataW.trod_struct ht h
  have hil : i < xs.length := by rw [hlen]; exact (Array.getElem?_eq_some_iff.1 hi).1
  exact ⟨m, _, (hf i f hi).trans (List.getElem?_eq_getElem hil)⟩
theorem at_sub {cs : List Value} {o m j : Nat} {v : Value} (h : ((cs.drop o).take m)[j]? = some v) : cs[o + j]? = some v := by
  rw [List.getElem?_take] at h
  split at h
  · rwa [List.getElem?_drop] at h
  · cases h
end
def I64 (x : Int) : Prop := -9223372036854775808 ≤ x ∧ x ≤ 9223372036854775807
def U64 (x : Int) : Prop := 0 ≤ x ∧ x ≤ 18446744073709551615
theorem i64_wf {x : Int} (h : (Lit.int .i64 x).wf = true) : I64 x := by
  simp [Lit.wf, IntKind.min, IntKind.max, IntKind.signed, IntKind.bits] at h
  exact ⟨by omega, by omega⟩
theorem u64_wf {x : Int} (h : (Lit.int .u64 x).wf = true) : U64 x := by
  simp [Lit.wf, IntKind.min, IntKind.max, IntKind.signed, IntKind.bits] at h
  exact ⟨by omega, by omega⟩
theorem addr_form {a : Addr} {n : Nat} {w : World} {v : Value} (h : w.cell? (a.add n) = some v) (h0 : n = 0) : a = ⟨a.block, a.off, none⟩ := by
  subst h0
  unfold Addr.add at h
  rw [if_pos rfl] at h
  obtain ⟨b, o, s⟩ := a
  cases s with
  | none => rfl
  | some s => unfold World.cell? at h; simp at h; split at h <;> simp at h
theorem add_none (b o n : Nat) : (Addr.mk b o none).add n = ⟨b, o + n, none⟩ := by
  unfold Addr.add; split <;> simp_all
end Go.Proofs.YtkegefnpmijfiaaGreat
namespace Go.Proofs.YtkegefnpmijfiaaGreat
open Go.RowKit Go.WideShapes Go.ChangeShapes Go.Deep
section
variable {H : Type} {enc : TypeId × Value → H} {P : Program} {w : World}
theorem slice_open {base C : Nat} {t e : TypeId} {v : Value} {d : DataW H} {p : List MemPlace} (ht : P.underlying t = some (.slice e)) (hC : P.cellsOf e = C) (hpos : 0 < C)
    (hv : Value.okWide P w .any base t v) (h : DataW.Trod enc P w 0 (fun _ => true) true t v d p) :
    (∃ a cap, v = .slice a 0 cap) ∨ ∃ b o len cap, v = .slice (some ⟨b, o, none⟩) len cap ∧ 0 < len ∧ len ≤ 9223372036854775807 ∧
      ∀ k, k < len → ∃ cs m y, (∀ j u, cs[j]? = some u → w.cell? ⟨b, o + k * C + j, none⟩ = some u) ∧ DataW.trod enc P w 0 (fun _ => true) true m e cs = some y := by
  obtain ⟨a0, len0, cap0, rfl⟩ := okWide_slice ht hv
  obtain ⟨fuel, hf⟩ := h
  rcases open_slice ht hf with ⟨hcs, _⟩ | ⟨a, len, cap, m, n, D, Pl, hcs, _, hl, hm, hmm, _, hx⟩
  · simp [Value.cells] at hcs
    obtain ⟨rfl, rfl, rfl⟩ := hcs
    exact .inl ⟨_, _, rfl⟩
  · simp [Value.cells] at hcs
    obtain ⟨rfl, rfl, rfl⟩ := hcs
    rcases Nat.eq_zero_or_pos len0 with h0 | h0
    · subst h0; exact .inl ⟨_, _, rfl⟩
    · right
      have hmle : len0 ≤ m := by rw [hmm]; split <;> omega
      rw [hC] at hx
      have hform : a = ⟨a.block, a.off, none⟩ := by
        obtain ⟨cs', h1, h2⟩ := hx 0 (by omega)
        obtain ⟨_, hcl, hat⟩ := World.cells?_some h1
        have := hat 0 hpos
        rw [List.getElem?_eq_getElem (by omega), Nat.zero_mul] at this
        have e : (a.add 0).add 0 = a.add 0 := by unfold Addr.add; simp
        rw [e] at this
        exact addr_form this rfl
      obtain ⟨ab, ao, asp⟩ := a
      obtain rfl : asp = none := by injection hform
      refine ⟨ab, ao, len0, cap0, rfl, h0, by unfold maxLen at hm; omega, fun k hk => ?_⟩
      obtain ⟨cs', h1, h2⟩ := hx k (by omega)
      obtain ⟨_, hcl, hat⟩ := World.cells?_some h1
      refine ⟨cs', _, _, fun j u hu => ?_, h2⟩
      have hj : j < C := by
        have := (List.getElem?_eq_some_iff.1 hu).1
        omega
      have := (hat j hj).trans hu
      rwa [add_none, add_none] at this
theorem sub_one {cs : List Value} {o : Nat} {v : Value} (h : (cs.drop o).take 1 = [v]) : cs[o]? = some v := by
  have := congrArg (fun l => l[0]?) h
  simpa [List.getElem?_take, List.getElem?_drop] using this
/-- A struct's field that is a slice of numbers. -/
theorem field_row {t : TypeId} {fs : Array Field} {n : Nat} {cs : List Value} {x : DataW H × List MemPlace} (ht : P.underlying t = some (.struct fs)) (h : DataW.trod enc P w 0 (fun _ => true) true n t cs = some x)
    (i : Nat) (f : Field) (e : TypeId) (k : IntKind) (hi : fs[i]? = some f) (hs : P.underlying f.type = some (.slice e)) (he : P.underlying e = some (.int k)) (hc : P.cellsOf e = 1) (h1 : P.cellsOf f.type = 1) :
    ∃ v zs, cs[f.offset]? = some v ∧ Row k w v zs ∧ ∀ z ∈ zs, (Lit.int k z).wf = true := by
  obtain ⟨m, y, hy⟩ := field_struct ht h i f hi
  rw [h1] at hy
  rcases open_ints hs he hc hy with ⟨hcs, _⟩ | ⟨a, len, cap, zs, hcs, _, hl, hm, hz, _, hcell, hwz⟩
  · exact ⟨_, [], sub_one hcs, Row.nil _ _, fun z hz => by cases hz⟩
  · refine ⟨_, zs.take len, sub_one hcs, ?_, fun z hz => hwz z (List.mem_of_mem_take hz)⟩
    have hle : len ≤ zs.length := by rw [hz]; split <;> omega
    have hlen : (zs.take len).length = len := by rw [List.length_take]; omega
    refine ⟨some a, cap, by rw [hlen], by omega, hm, fun hne => ?_⟩
    have hp : 0 < len := by
      rcases Nat.eq_zero_or_pos len with h0 | h0
      · subst h0; simp at hne
      · exact h0
    have hform := addr_form (hcell 0 (by omega)) rfl
    obtain ⟨ab, ao, asp⟩ := a
    obtain rfl : asp = none := by injection hform
    refine ⟨ab, ao, rfl, fun i hi => ?_⟩
    rw [hlen] at hi
    have := hcell i (by omega)
    rw [add_none] at this
    rw [this, getD_take _ _ _ hi]
theorem i64_all {zs : List Int} (h : ∀ z ∈ zs, (Lit.int .i64 z).wf = true) : ∀ z ∈ zs, I64 z := fun z hz => i64_wf (h z hz)
end
end Go.Proofs.YtkegefnpmijfiaaGreat
namespace Go.Proofs.YtkegefnpmijfiaaGreat
open Go.RowKit Go.WideShapes Go.ChangeShapes Go.Deep
/-- One of the law's inputs, as its eleven cells hold it. -/
structure AskS (w : World) (b o : Nat) (g : Gen) (a : Option Addr) (c : Nat) (sv : Value) (ss : List Int) (In Out N P F : Int) : Prop where
  c0 : w.cell? ⟨b, o, none⟩ = some (.slice a g.script.length c)
  c1 : w.cell? ⟨b, o + 1, none⟩ = some (.int .u64 (iv g.st.a))
  c2 : w.cell? ⟨b, o + 2, none⟩ = some (.int .u64 (iv g.st.b))
  c3 : w.cell? ⟨b, o + 3, none⟩ = some (.int .u64 (iv g.st.c))
  c4 : w.cell? ⟨b, o + 4, none⟩ = some (.int .u64 (iv g.st.d))
  c5 : w.cell? ⟨b, o + 5, none⟩ = some sv
  c6 : w.cell? ⟨b, o + 6, none⟩ = some (.int .i64 In)
  c7 : w.cell? ⟨b, o + 7, none⟩ = some (.int .i64 Out)
  c8 : w.cell? ⟨b, o + 8, none⟩ = some (.int .i64 N)
  c9 : w.cell? ⟨b, o + 9, none⟩ = some (.int .i64 P)
  c10 : w.cell? ⟨b, o + 10, none⟩ = some (.int .i64 F)
  r0 : Row .u64 w (.slice a g.script.length c) g.script
  r1 : Row .i64 w sv ss
def AsksS (w : World) (b o len : Nat) : Prop :=
  ∀ k, k < len → ∃ g a c sv ss In Out N P F, AskS w b (o + k * 11) g a c sv ss In Out N P F ∧ I64 In ∧ I64 Out ∧ I64 N ∧ I64 P ∧ I64 F ∧ (∀ x ∈ g.script, 0 ≤ x) ∧ ∀ x ∈ ss, I64 x
theorem AskS.ext {w w' : World} {b o : Nat} {g : Gen} {a : Option Addr} {c : Nat} {sv : Value} {ss : List Int} {In Out N P F : Int} (h : AskS w b o g a c sv ss In Out N P F) (x : Ext w w') : AskS w' b o g a c sv ss In Out N P F :=
  ⟨x.cell h.c0, x.cell h.c1, x.cell h.c2, x.cell h.c3, x.cell h.c4, x.cell h.c5, x.cell h.c6, x.cell h.c7, x.cell h.c8, x.cell h.c9, x.cell h.c10, h.r0.ext x, h.r1.ext x⟩
theorem iv_of {x : Int} (h : U64 x) : iv (BitVec.ofNat 64 x.toNat) = x := by
  unfold iv; obtain ⟨h1, h2⟩ := h; simp; omega
set_option maxRecDepth 100000 in
theorem field_rand {H : Type} {enc : TypeId × Value → H} {w : World} {t : TypeId} {fs : Array Field} {n : Nat} {cs : List Value} {x : DataW H × List MemPlace} (ht : Tryz.prog.underlying t = some (.struct fs)) (h : DataW.trod enc Tryz.prog w 0 (fun _ => true) true n t cs = some x)
    (i : Nat) (f : Field) (hi : fs[i]? = some f) (hT : f.type = 62) :
    ∃ (g : Gen) (a : Option Addr) (c : Nat), cs[f.offset]? = some (.slice a g.script.length c) ∧ cs[f.offset + 1]? = some (.int .u64 (iv g.st.a)) ∧ cs[f.offset + 2]? = some (.int .u64 (iv g.st.b)) ∧ cs[f.offset + 3]? = some (.int .u64 (iv g.st.c)) ∧ cs[f.offset + 4]? = some (.int .u64 (iv g.st.d)) ∧
      Row .u64 w (.slice a g.script.length c) g.script ∧ ∀ x ∈ g.script, 0 ≤ x := by
  obtain ⟨m, y, hy⟩ := field_struct ht h i f hi
  rw [hT, show Tryz.prog.cellsOf 62 = 5 by kernel_rfl] at hy
  obtain ⟨s, xs, c0, r0, w0⟩ := field_row Tryz.underlying62 hy 0 _ 59 .u64 rfl Tryz.underlying58 Tryz.underlying59 (by kernel_rfl) (by kernel_rfl)
  obtain ⟨m2, y2, hy2⟩ := field_struct Tryz.underlying62 hy 1 _ rfl
  obtain ⟨ys, m3, _, _, _, hl, hw⟩ := DataW.trod_array Tryz.underlying60 hy2
  have word : ∀ j, j < 4 → ∃ z : Int, cs[f.offset + (1 + j)]? = some (.int .u64 z) ∧ U64 z := fun j hj => by
    have g := (hw j hj).trans (List.getElem?_eq_getElem (by omega))
    rw [show Tryz.prog.cellsOf 59 = 1 by kernel_rfl] at g
    obtain ⟨z, hz, _, hwz⟩ := DataW.trod_int Tryz.underlying59 g
    rw [Nat.mul_one] at hz
    have h1 := at_sub (j := 0) (v := .int .u64 z) (by rw [hz]; rfl)
    have h2 := at_sub h1
    have h3 := at_sub h2
    exact ⟨z, by simpa [Nat.add_assoc] using h3, u64_wf hwz⟩
  obtain ⟨z0, a0, u0⟩ := word 0 (by omega)
  obtain ⟨z1, a1, u1⟩ := word 1 (by omega)
  obtain ⟨z2, a2, u2⟩ := word 2 (by omega)
  obtain ⟨z3, a3, u3⟩ := word 3 (by omega)
  obtain ⟨a, c, rfl, -⟩ := r0.form'
  refine ⟨⟨xs, ⟨BitVec.ofNat 64 z0.toNat, BitVec.ofNat 64 z1.toNat, BitVec.ofNat 64 z2.toNat, BitVec.ofNat 64 z3.toNat⟩⟩, a, c, at_sub c0, ?_, ?_, ?_, ?_, r0, fun x hx => (u64_wf (w0 x hx)).1⟩
  · rw [iv_of u0]; exact a0
  · rw [iv_of u1]; exact a1
  · rw [iv_of u2]; exact a2
  · rw [iv_of u3]; exact a3
set_option maxRecDepth 100000 in
theorem askS_open {H : Type} {enc : TypeId × Value → H} {w : World} {base : Nat} {v : Value} {d : DataW H} {p : List MemPlace}
    (hv : Value.okWide Tryz.prog w .any base 57 v) (h : DataW.Trod enc Tryz.prog w 0 (fun _ => true) true 57 v d p) :
    (∃ a cap, v = .slice a 0 cap) ∨ ∃ b o len cap, v = .slice (some ⟨b, o, none⟩) len cap ∧ 0 < len ∧ len ≤ 9223372036854775807 ∧ AsksS w b o len := by
  rcases slice_open (C := 11) Tryz.underlying57 (by kernel_rfl) (by decide) hv h with h0 | ⟨b, o, len, cap, rfl, h1, h2, h3⟩
  · exact .inl h0
  refine .inr ⟨b, o, len, cap, rfl, h1, h2, fun k hk => ?_⟩
  obtain ⟨cs, m, y, cell, ht⟩ := h3 k hk
  obtain ⟨g, a, c, a0, a1, a2, a3, a4, r0, gz⟩ := field_rand Tryz.underlying64 ht 0 _ rfl rfl
  obtain ⟨sv, ss, a5, r5, w5⟩ := field_row Tryz.underlying64 ht 1 _ 3 .i64 rfl Tryz.underlying23 Tryz.underlying3 (by kernel_rfl) (by kernel_rfl)
  obtain ⟨In, a6, w6⟩ := field_int Tryz.underlying64 ht 2 _ .i64 rfl Tryz.underlying3 (by kernel_rfl)
  obtain ⟨Out, a7, w7⟩ := field_int Tryz.underlying64 ht 3 _ .i64 rfl Tryz.underlying3 (by kernel_rfl)
  obtain ⟨N, a8, w8⟩ := field_int Tryz.underlying64 ht 4 _ .i64 rfl Tryz.underlying3 (by kernel_rfl)
  obtain ⟨P, a9, w9⟩ := field_int Tryz.underlying64 ht 5 _ .i64 rfl Tryz.underlying3 (by kernel_rfl)
  obtain ⟨F, a10, w10⟩ := field_int Tryz.underlying64 ht 6 _ .i64 rfl Tryz.underlying3 (by kernel_rfl)
  exact ⟨g, a, c, sv, ss, In, Out, N, P, F, ⟨by simpa using cell 0 _ a0, cell 1 _ a1, cell 2 _ a2, cell 3 _ a3, cell 4 _ a4, cell 5 _ a5, cell 6 _ a6, cell 7 _ a7, cell 8 _ a8, cell 9 _ a9, cell 10 _ a10, r0, r5⟩, i64_wf w6, i64_wf w7, i64_wf w8, i64_wf w9, i64_wf w10, gz, i64_all w5⟩
end Go.Proofs.YtkegefnpmijfiaaGreat
