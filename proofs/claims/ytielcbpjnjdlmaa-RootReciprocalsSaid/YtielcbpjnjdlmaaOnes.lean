/- The argument of the laws of layer 3, a slice of structs of two numbers, opened to its cells. -/
import Derived.Test.YtielcbpjnjdlmaaTwos
namespace Go.Proofs.Ytielcbpjnjdlmaa
open Go.RowKit Go.WideShapes Go.ChangeShapes Go.Deep
/-- One of the law's inputs, as its two cells hold it. -/
structure OneAt (w : World) (b o : Nat) (A F : Int) : Prop where
  c0 : w.cell? ⟨b, o, none⟩ = some (.int .i64 A)
  c1 : w.cell? ⟨b, o + 1, none⟩ = some (.int .i64 F)
/-- The law's argument: a slice of such inputs. -/
def OnesAt (w : World) (b o len : Nat) : Prop :=
  ∀ k, k < len → ∃ A F : Int, OneAt w b (o + k * 2) A F ∧ I64 A ∧ I64 F
theorem OneAt.ext {w w' : World} {b o : Nat} {A F : Int} (h : OneAt w b o A F) (x : Ext w w') : OneAt w' b o A F :=
  ⟨x.cell h.c0, x.cell h.c1⟩
set_option maxRecDepth 100000 in
theorem ones_open {H : Type} {enc : TypeId × Value → H} {w : World} {base : Nat} {v : Value} {d : DataW H} {p : List MemPlace}
    (hv : Value.okWide Try.prog w .any base 108 v) (h : DataW.Trod enc Try.prog w 0 (fun _ => true) true 108 v d p) :
    (∃ a cap, v = .slice a 0 cap) ∨ ∃ b o len cap, v = .slice (some ⟨b, o, none⟩) len cap ∧ 0 < len ∧ len ≤ 9223372036854775807 ∧ OnesAt w b o len := by
  obtain ⟨a0, len0, cap0, rfl⟩ := okWide_slice Try.underlying108 hv
  obtain ⟨fuel, hf⟩ := h
  rcases open_slice Try.underlying108 hf with ⟨hcs, _⟩ | ⟨a, len, cap, m, n, D, Pl, hcs, _, hl, hm, hmm, _, hx⟩
  · simp [Value.cells] at hcs
    obtain ⟨rfl, rfl, rfl⟩ := hcs
    exact .inl ⟨_, _, rfl⟩
  · simp [Value.cells] at hcs
    obtain ⟨rfl, rfl, rfl⟩ := hcs
    rcases Nat.eq_zero_or_pos len0 with h0 | h0
    · subst h0; exact .inl ⟨_, _, rfl⟩
    · right
      have hC : Try.prog.cellsOf 110 = 2 := by kernel_rfl
      have hmle : len0 ≤ m := by rw [hmm]; split <;> omega
      have hform : a = ⟨a.block, a.off, none⟩ := by
        obtain ⟨cs', h1, h2⟩ := hx 0 (by omega)
        obtain ⟨_, hcl, hat⟩ := World.cells?_some h1
        obtain ⟨z, hz, _⟩ := field_int Try.underlying110 h2 0 _ .i64 rfl Try.underlying2 (by kernel_rfl)
        have := (hat 0 (by rw [hC]; omega)).trans hz
        rw [Nat.zero_mul] at this
        have e : (a.add 0).add 0 = a.add 0 := by unfold Addr.add; simp
        rw [e] at this
        exact addr_form this rfl
      obtain ⟨ab, ao, asp⟩ := a
      obtain rfl : asp = none := by injection hform
      refine ⟨ab, ao, len0, cap0, rfl, h0, by unfold maxLen at hm; omega, fun k hk => ?_⟩
      obtain ⟨cs', h1, h2⟩ := hx k (by omega)
      rw [hC] at h1
      obtain ⟨_, hcl, hat⟩ := World.cells?_some h1
      have cell : ∀ j u, cs'[j]? = some u → w.cell? ⟨ab, ao + k * 2 + j, none⟩ = some u := fun j u hu => by
        have hj : j < 2 := by
          have := (List.getElem?_eq_some_iff.1 hu).1
          omega
        have := (hat j hj).trans hu
        rwa [add_none, add_none] at this
      obtain ⟨A, cA, wA⟩ := field_int Try.underlying110 h2 0 _ .i64 rfl Try.underlying2 (by kernel_rfl)
      obtain ⟨F, cF, wF⟩ := field_int Try.underlying110 h2 1 _ .i64 rfl Try.underlying3 (by kernel_rfl)
      exact ⟨A, F, ⟨by simpa using cell 0 _ cA, cell 1 _ cF⟩, i64_wf wA, i64_wf wF⟩
end Go.Proofs.Ytielcbpjnjdlmaa
