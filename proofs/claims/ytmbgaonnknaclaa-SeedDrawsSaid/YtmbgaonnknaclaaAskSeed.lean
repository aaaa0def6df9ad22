/- The argument of the laws of layer 25, opened to its cells. -/
import Derived.Test.YtmbgaonnknaclaaFieldT
import Derived.Test.YtmbgaonnknaclaaClones
import Derived.Test.YtmbgaonnknaclaaRand
import Derived.OpenShut
namespace Go.Proofs.Ytmbgaonnknaclaa
open Go.RowKit Go.WideShapes Go.ChangeShapes Go.Deep
/-- One of the law's inputs, as its eleven cells hold it. -/
structure AskS (w : World) (b o : Nat) (g : Gen) (a : Option Addr) (c : Nat) (sv : Value) (ss : List Int) (In Out N P F : Int) : Prop where
  c0 : w.cell? ⟨b, o, none⟩ = some (.slice a g.script.length c)
  c1 : w.cell? ⟨b, o + 1, none⟩ = some (.int .u64 (iv g.st.a))
  c2 : w.cell? ⟨b, o + 2, none⟩ = some (.int .u64 (iv g.st.b))
  c3 : w.cell? ⟨b, o + 3, none⟩ = some (.int .u64 (iv g.st.c))
  c4 : w.cell? ⟨b, o + 4, none⟩ = some (.int .u64 (iv g.st.d))
  c5 : w.cell? ⟨b, o + 5, none⟩ = some sv
  c6 : w.cell? ⟨b, o + 6, none⟩ = some (.int .i64 In)
  c7 : w.cell? ⟨b, o + 7, none⟩ = some (.int .i64 Out)
  c8 : w.cell? ⟨b, o + 8, none⟩ = some (.int .i64 N)
  c9 : w.cell? ⟨b, o + 9, none⟩ = some (.int .i64 P)
  c10 : w.cell? ⟨b, o + 10, none⟩ = some (.int .i64 F)
  r0 : Row .u64 w (.slice a g.script.length c) g.script
  r1 : Row .i64 w sv ss
def AsksS (w : World) (b o len : Nat) : Prop :=
  ∀ k, k < len → ∃ g a c sv ss In Out N P F, AskS w b (o + k * 11) g a c sv ss In Out N P F ∧ I64 In ∧ I64 Out ∧ I64 N ∧ I64 P ∧ I64 F ∧ (∀ x ∈ g.script, 0 ≤ x) ∧ ∀ x ∈ ss, I64 x
theorem AskS.ext {w w' : World} {b o : Nat} {g : Gen} {a : Option Addr} {c : Nat} {sv : Value} {ss : List Int} {In Out N P F : Int} (h : AskS w b o g a c sv ss In Out N P F) (x : Ext w w') : AskS w' b o g a c sv ss In Out N P F :=
  ⟨x.cell h.c0, x.cell h.c1, x.cell h.c2, x.cell h.c3, x.cell h.c4, x.cell h.c5, x.cell h.c6, x.cell h.c7, x.cell h.c8, x.cell h.c9, x.cell h.c10, h.r0.ext x, h.r1.ext x⟩
theorem iv_of {x : Int} (h : U64 x) : iv (BitVec.ofNat 64 x.toNat) = x := by
  unfold iv; obtain ⟨h1, h2⟩ := h; simp; omega
set_option maxRecDepth 100000 in
theorem field_rand {H : Type} {enc : TypeId × Value → H} {w : World} {t : TypeId} {fs : Array Field} {n : Nat} {cs : List Value} {x : DataW H × List MemPlace} (ht : Try.prog.underlying t = some (.struct fs)) (h : DataW.trod enc Try.prog w 0 (fun _ => true) true n t cs = some x)
    (i : Nat) (f : Field) (hi : fs[i]? = some f) (hT : f.type = 27) :
    ∃ (g : Gen) (a : Option Addr) (c : Nat), cs[f.offset]? = some (.slice a g.script.length c) ∧ cs[f.offset + 1]? = some (.int .u64 (iv g.st.a)) ∧ cs[f.offset + 2]? = some (.int .u64 (iv g.st.b)) ∧ cs[f.offset + 3]? = some (.int .u64 (iv g.st.c)) ∧ cs[f.offset + 4]? = some (.int .u64 (iv g.st.d)) ∧
      Row .u64 w (.slice a g.script.length c) g.script ∧ ∀ x ∈ g.script, 0 ≤ x := by
  obtain ⟨m, y, hy⟩ := field_struct ht h i f hi
  rw [hT, show Try.prog.cellsOf 27 = 5 by kernel_rfl] at hy
  obtain ⟨s, xs, c0, r0, w0⟩ := field_row Try.underlying27 hy 0 _ 24 .u64 rfl Try.underlying23 Try.underlying24 (by kernel_rfl) (by kernel_rfl)
  obtain ⟨m2, y2, hy2⟩ := field_struct Try.underlying27 hy 1 _ rfl
  obtain ⟨ys, m3, _, _, _, hl, hw⟩ := DataW.trod_array Try.underlying25 hy2
  have word : ∀ j, j < 4 → ∃ z : Int, cs[f.offset + (1 + j)]? = some (.int .u64 z) ∧ U64 z := fun j hj => by
    have g := (hw j hj).trans (List.getElem?_eq_getElem (by omega))
    rw [show Try.prog.cellsOf 24 = 1 by kernel_rfl] at g
    obtain ⟨z, hz, _, hwz⟩ := DataW.trod_int Try.underlying24 g
    rw [Nat.mul_one] at hz
    have h1 := at_sub (j := 0) (v := .int .u64 z) (by rw [hz]; rfl)
    have h2 := at_sub h1
    have h3 := at_sub h2
    exact ⟨z, by simpa [Nat.add_assoc] using h3, u64_wf hwz⟩
  obtain ⟨z0, a0, u0⟩ := word 0 (by omega)
  obtain ⟨z1, a1, u1⟩ := word 1 (by omega)
  obtain ⟨z2, a2, u2⟩ := word 2 (by omega)
  obtain ⟨z3, a3, u3⟩ := word 3 (by omega)
  obtain ⟨a, c, rfl, -⟩ := r0.form'
  refine ⟨⟨xs, ⟨BitVec.ofNat 64 z0.toNat, BitVec.ofNat 64 z1.toNat, BitVec.ofNat 64 z2.toNat, BitVec.ofNat 64 z3.toNat⟩⟩, a, c, at_sub c0, ?_, ?_, ?_, ?_, r0, fun x hx => (u64_wf (w0 x hx)).1⟩
  · rw [iv_of u0]; exact a0
  · rw [iv_of u1]; exact a1
  · rw [iv_of u2]; exact a2
  · rw [iv_of u3]; exact a3
set_option maxRecDepth 100000 in
theorem askS_open {H : Type} {enc : TypeId × Value → H} {w : World} {base : Nat} {v : Value} {d : DataW H} {p : List MemPlace}
    (hv : Value.okWide Try.prog w .any base 22 v) (h : DataW.Trod enc Try.prog w 0 (fun _ => true) true 22 v d p) :
    (∃ a cap, v = .slice a 0 cap) ∨ ∃ b o len cap, v = .slice (some ⟨b, o, none⟩) len cap ∧ 0 < len ∧ len ≤ 9223372036854775807 ∧ AsksS w b o len := by
  rcases slice_open (C := 11) Try.underlying22 (by kernel_rfl) (by decide) hv h with h0 | ⟨b, o, len, cap, rfl, h1, h2, h3⟩
  · exact .inl h0
  refine .inr ⟨b, o, len, cap, rfl, h1, h2, fun k hk => ?_⟩
  obtain ⟨cs, m, y, cell, ht⟩ := h3 k hk
  obtain ⟨g, a, c, a0, a1, a2, a3, a4, r0, gz⟩ := field_rand Try.underlying30 ht 0 _ rfl rfl
  obtain ⟨sv, ss, a5, r5, w5⟩ := field_row Try.underlying30 ht 1 _ 3 .i64 rfl Try.underlying28 Try.underlying3 (by kernel_rfl) (by kernel_rfl)
  obtain ⟨In, a6, w6⟩ := field_int Try.underlying30 ht 2 _ .i64 rfl Try.underlying3 (by kernel_rfl)
  obtain ⟨Out, a7, w7⟩ := field_int Try.underlying30 ht 3 _ .i64 rfl Try.underlying3 (by kernel_rfl)
  obtain ⟨N, a8, w8⟩ := field_int Try.underlying30 ht 4 _ .i64 rfl Try.underlying3 (by kernel_rfl)
  obtain ⟨P, a9, w9⟩ := field_int Try.underlying30 ht 5 _ .i64 rfl Try.underlying3 (by kernel_rfl)
  obtain ⟨F, a10, w10⟩ := field_int Try.underlying30 ht 6 _ .i64 rfl Try.underlying3 (by kernel_rfl)
  exact ⟨g, a, c, sv, ss, In, Out, N, P, F, ⟨by simpa using cell 0 _ a0, cell 1 _ a1, cell 2 _ a2, cell 3 _ a3, cell 4 _ a4, cell 5 _ a5, cell 6 _ a6, cell 7 _ a7, cell 8 _ a8, cell 9 _ a9, cell 10 _ a10, r0, r5⟩, i64_wf w6, i64_wf w7, i64_wf w8, i64_wf w9, i64_wf w10, gz, i64_all w5⟩
end Go.Proofs.Ytmbgaonnknaclaa
