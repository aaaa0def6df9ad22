/- What is written over: layers in own memory. -/
import Derived.Test.YtkdfenkpfffcaaaDefBody
import Derived.ArgAppend
namespace Go.Proofs.Ytkdfenkpfffcaaa
open Go.RowKit
def SpCells (cs cs' : Array Value) : Prop := cs'.size = cs.size ∧ ∀ i, (∀ p, p < 9 → cs'[i * 9 + p]? = cs[i * 9 + p]?) ∨ ∃ f, ∀ p, p < 9 → cs'[i * 9 + p]? = (layA f (.slice none 0 0))[p]?
theorem SpCells.refl (cs : Array Value) : SpCells cs cs := ⟨rfl, fun _ => .inl fun _ _ => rfl⟩
theorem SpCells.trans {a b c : Array Value} (h : SpCells a b) (k : SpCells b c) : SpCells a c := by
  refine ⟨k.1.trans h.1, fun i => ?_⟩
  rcases k.2 i with k1 | k1
  · rcases h.2 i with h1 | ⟨f, h1⟩
    · exact .inl fun p hp => (k1 p hp).trans (h1 p hp)
    · exact .inr ⟨f, fun p hp => (k1 p hp).trans (h1 p hp)⟩
  · exact .inr k1
/-- Layers of blocks that A tells may be written over. -/
structure Spoil (A : Nat → Prop) (w w' : World) : Prop where
  os : w'.os = w.os
  tape : w'.tape = w.tape
  output : w'.output = w.output
  size : w.heap.size ≤ w'.heap.size
  block : ∀ b, b < w.heap.size → w'.heap[b]? = w.heap[b]? ∨ (A b ∧ ∃ cs cs', Blk w b 105 cs ∧ Blk w' b 105 cs' ∧ SpCells cs cs')
theorem Spoil.refl (A : Nat → Prop) (w : World) : Spoil A w w := ⟨rfl, rfl, rfl, Nat.le_refl _, fun _ _ => .inl rfl⟩
theorem Spoil.trans {A : Nat → Prop} {a b c : World} (h : Spoil A a b) (k : Spoil A b c) : Spoil A a c := by
  refine ⟨k.os.trans h.os, k.tape.trans h.tape, k.output.trans h.output, Nat.le_trans h.size k.size, fun i hi => ?_⟩
  rcases k.block i (Nat.lt_of_lt_of_le hi h.size) with k1 | ⟨ka, cs, cs', k1, k2, k3⟩
  · rcases h.block i hi with h1 | ⟨ha, ds, ds', h1, h2, h3⟩
    · exact .inl (k1.trans h1)
    · exact .inr ⟨ha, ds, ds', h1, k1.trans h2, h3⟩
  · rcases h.block i hi with h1 | ⟨ha, ds, ds', h1, h2, h3⟩
    · exact .inr ⟨ka, cs, cs', h1.symm.trans k1, k2, k3⟩
    · have e : ds' = cs := by
        unfold Blk at h2 k1
        rw [h2] at k1
        cases k1; rfl
      subst e
      exact .inr ⟨ha, ds, cs', h1, k2, h3.trans k3⟩
theorem Spoil.grown {A : Nat → Prop} {a b c : World} (h : Spoil A a b) (k : b.grownBy c none) : Spoil A a c :=
  h.trans ⟨k.os, k.tape, k.output, k.size, fun i hi => .inl (k.block i hi (fun e => by cases e))⟩
theorem Spoil.ext {A : Nat → Prop} {a b c : World} (h : Spoil A a b) (k : Ext b c) : Spoil A a c := h.grown ⟨k.os, k.tape, k.output, k.size, fun i hi _ => k.block i hi⟩
theorem OwnL.spoil {A : Nat → Prop} {w w' : World} (h : Spoil A w w') : ∀ {n : Nat} {v : Value}, OwnL A w n v → OwnL A w' n v
  | 0, _, k => k
  | n + 1, _, .inl k => .inl k
  | n + 1, _, .inr k => by
    obtain ⟨g, len, cap, cur, rfl, h1, h2, h3, h4, h5, h5', h6⟩ := k
    rcases h.block g h2.lt with e | ⟨-, cs, cs', e1, e2, e3⟩
    · refine .inr ⟨g, len, cap, cur, rfl, h1, e.trans h2, h3, h4, h5, h5', fun i hi => ?_⟩
      obtain ⟨a, bv, b, c⟩ := h6 i hi
      exact ⟨a, bv, b, c.spoil h⟩
    · have e : cs = cur := by
        unfold Blk at h2 e1
        rw [h2] at e1
        cases e1; rfl
      subst e
      refine .inr ⟨g, len, cap, cs', rfl, h1, e2, by rw [e3.1, h3], h4, h5, h5', fun i hi => ?_⟩
      obtain ⟨a, bv, b, c⟩ := h6 i hi
      rcases e3.2 i with r | ⟨f, r⟩
      · exact ⟨fun p hp => by rw [r p (by omega)]; exact a p hp, bv, by rw [r 8 (by omega)]; exact b, c.spoil h⟩
      · exact ⟨fun p hp => by rw [r p (by omega), layA_at _ _ hp]; exact ⟨_, rfl⟩, .slice none 0 0, by rw [r 8 (by omega)]; rfl, OwnL.nil _ _ _⟩
/-- A group of cells is written over. -/
theorem sp_group {cs cs' : Array Value} {k : Nat} {f : LayF} (hs : cs'.size = cs.size) (hin : ∀ p, p < 9 → cs'[k * 9 + p]? = (layA f (.slice none 0 0))[p]?) (hout : ∀ j, (j < k * 9 ∨ k * 9 + 9 ≤ j) → cs'[j]? = cs[j]?) : SpCells cs cs' := by
  refine ⟨hs, fun i => ?_⟩
  by_cases e : i = k
  · subst e; exact .inr ⟨f, hin⟩
  · exact .inl fun p hp => hout _ (by omega)
theorem Spoil.one {A : Nat → Prop} {w w' : World} {g : Nat} {cs cs' : Array Value} (hA : A g) (hb : Blk w g 105 cs) (hb' : Blk w' g 105 cs') (hs : SpCells cs cs') (ho : w'.os = w.os) (ht : w'.tape = w.tape) (hp : w'.output = w.output) (hz : w.heap.size ≤ w'.heap.size) (hr : ∀ b, b < w.heap.size → b ≠ g → w'.heap[b]? = w.heap[b]?) : Spoil A w w' :=
  ⟨ho, ht, hp, hz, fun b hlt => if e : b = g then by subst e; exact .inr ⟨hA, cs, cs', hb, hb', hs⟩ else .inl (hr b hlt e)⟩
/-- What a world of new memory lets stand. -/
theorem Spoil.below {A : Nat → Prop} {w w' : World} {B : Nat} (h : Spoil A w w') (hA : ∀ b, A b → B ≤ b) (hB : B ≤ w.heap.size) : Below B w w' :=
  ⟨h.os, h.tape, h.output, h.size, fun b hb => by
    rcases h.block b (by omega) with e | ⟨ha, -⟩
    · exact e
    · have := hA b ha; omega⟩
end Go.Proofs.Ytkdfenkpfffcaaa
