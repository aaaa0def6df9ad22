/- The argument of the laws of layer 16, opened to its cells. -/
import Derived.Test.YtmbgaonnknaclaaFieldT
namespace Go.Proofs.Ytmbgaonnknaclaa
open Go.RowKit Go.WideShapes Go.ChangeShapes Go.Deep
/-- One of the law's inputs, as its seven cells hold it. -/
structure AskL (w : World) (b o : Nat) (sa da sb db lb : Value) (xa ya xb yb ls : List Int) (D F : Int) : Prop where
  c0 : w.cell? ⟨b, o, none⟩ = some sa
  c1 : w.cell? ⟨b, o + 1, none⟩ = some da
  c2 : w.cell? ⟨b, o + 2, none⟩ = some sb
  c3 : w.cell? ⟨b, o + 3, none⟩ = some db
  c4 : w.cell? ⟨b, o + 4, none⟩ = some lb
  c5 : w.cell? ⟨b, o + 5, none⟩ = some (.int .i64 D)
  c6 : w.cell? ⟨b, o + 6, none⟩ = some (.int .i64 F)
  r0 : Row .i64 w sa xa
  r1 : Row .i64 w da ya
  r2 : Row .i64 w sb xb
  r3 : Row .i64 w db yb
  r4 : Row .i64 w lb ls
def AsksL (w : World) (b o len : Nat) : Prop :=
  ∀ k, k < len → ∃ sa da sb db lb xa ya xb yb ls D F, AskL w b (o + k * 7) sa da sb db lb xa ya xb yb ls D F ∧ I64 D ∧ I64 F
theorem AskL.ext {w w' : World} {b o : Nat} {sa da sb db lb : Value} {xa ya xb yb ls : List Int} {D F : Int} (h : AskL w b o sa da sb db lb xa ya xb yb ls D F) (x : Ext w w') : AskL w' b o sa da sb db lb xa ya xb yb ls D F :=
  ⟨x.cell h.c0, x.cell h.c1, x.cell h.c2, x.cell h.c3, x.cell h.c4, x.cell h.c5, x.cell h.c6, h.r0.ext x, h.r1.ext x, h.r2.ext x, h.r3.ext x, h.r4.ext x⟩
set_option maxRecDepth 100000 in
theorem askL_open {H : Type} {enc : TypeId × Value → H} {w : World} {base : Nat} {v : Value} {d : DataW H} {p : List MemPlace}
    (hv : Value.okWide Try.prog w .any base 46 v) (h : DataW.Trod enc Try.prog w 0 (fun _ => true) true 46 v d p) :
    (∃ a cap, v = .slice a 0 cap) ∨ ∃ b o len cap, v = .slice (some ⟨b, o, none⟩) len cap ∧ 0 < len ∧ len ≤ 9223372036854775807 ∧ AsksL w b o len := by
  rcases slice_open (C := 7) Try.underlying46 (by kernel_rfl) (by decide) hv h with h0 | ⟨b, o, len, cap, rfl, h1, h2, h3⟩
  · exact .inl h0
  refine .inr ⟨b, o, len, cap, rfl, h1, h2, fun k hk => ?_⟩
  obtain ⟨cs, m, y, cell, ht⟩ := h3 k hk
  obtain ⟨sa, da, xa, ya, a0, a1, r0, r1, -, -⟩ := field_ten Try.underlying51 ht 0 _ rfl rfl
  obtain ⟨sb, db, xb, yb, a2, a3, r2, r3, -, -⟩ := field_ten Try.underlying51 ht 1 _ rfl rfl
  obtain ⟨lb, ls, a4, r4, -⟩ := field_row Try.underlying51 ht 2 _ 3 .i64 rfl Try.underlying28 Try.underlying3 (by kernel_rfl) (by kernel_rfl)
  obtain ⟨D, a5, wD⟩ := field_int Try.underlying51 ht 3 _ .i64 rfl Try.underlying2 (by kernel_rfl)
  obtain ⟨F, a6, wF⟩ := field_int Try.underlying51 ht 4 _ .i64 rfl Try.underlying3 (by kernel_rfl)
  exact ⟨sa, da, sb, db, lb, xa, ya, xb, yb, ls, D, F, ⟨by simpa using cell 0 _ a0, cell 1 _ a1, cell 2 _ a2, cell 3 _ a3, cell 4 _ a4, cell 5 _ a5, cell 6 _ a6, r0, r1, r2, r3, r4⟩, i64_wf wD, i64_wf wF⟩
end Go.Proofs.Ytmbgaonnknaclaa
