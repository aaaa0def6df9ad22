/- Worlds that are alike but for one block. -/
import Derived.Test.YtjmecongccjcgaaIntsB
namespace Go.Proofs.Ytjmecongccjcgaa
open Go.RowKit
/-- All but the block b lies as it lay. -/
def GB (w w' : World) (b : Nat) : Prop := w.grownBy w' (some b)
section
variable {w W W' : World} {b : Nat}
theorem GB.refl (w : World) (b : Nat) : GB w w b := ⟨rfl, rfl, rfl, Nat.le_refl _, fun _ _ _ => rfl⟩
theorem GB.trans (h : GB w W b) (k : GB W W' b) : GB w W' b := ⟨k.os.trans h.os, k.tape.trans h.tape, k.output.trans h.output, Nat.le_trans h.size k.size, fun i hi hne => (k.block i (Nat.lt_of_lt_of_le hi h.size) hne).trans (h.block i hi hne)⟩
theorem GB.set (h : GB w W b) (o : Nat) (v : Value) : GB w (W.setCell ⟨b, o, none⟩ v) b :=
  h.trans ⟨rfl, rfl, rfl, by simp, fun k _ hk => Below.heap_setCell _ _ _ k (fun e => hk (by rw [e]))⟩
theorem GB.ext (h : GB w W b) (x : Ext W W') : GB w W' b := h.trans ⟨x.os, x.tape, x.output, x.size, fun k hk _ => x.block k hk⟩
theorem GB.drew (h : GB w W b) : GB w W.drew b := h.ext (Ext.drew (Ext.refl _))
end
theorem own_form1 {W : World} {base : Nat} {e : TypeId} {size : Nat} {v : Value} {k : Nat} {xs : List Value} (h : W.ownsRow base e size v k xs) (hk : 0 < k) : ∃ g cap, v = .slice (some ⟨g, 0, none⟩) k cap ∧ base ≤ g ∧ g < W.heap.size := by
  rcases h.2 with ⟨_, h0⟩ | ⟨g, cap, cur, rfl, hb, hg, _⟩
  · omega
  · exact ⟨g, cap, rfl, hb, (Array.getElem?_eq_some_iff.1 hg).1⟩
theorem own_far {w : World} {base : Nat} {e : TypeId} {size : Nat} {v : Value} {n : Nat} {xs : List Value} {b : Nat} (h : w.ownsRow base e size v n xs) (hb : v.ownBlock ≠ some b) (o : Nat) (u : Value) : (w.setCell ⟨b, o, none⟩ u).ownsRow base e size v n xs :=
  h.kept (row := some b) ⟨rfl, rfl, rfl, by simp, fun k _ hk => Below.heap_setCell _ _ _ k (fun e => hk (by rw [e]))⟩ (.inr hb)
theorem own_gb {w W : World} {base : Nat} {e : TypeId} {size : Nat} {v : Value} {n : Nat} {xs : List Value} {b : Nat} (h : w.ownsRow base e size v n xs) (hg : GB w W b) (hb : v.ownBlock ≠ some b) : W.ownsRow base e size v n xs :=
  h.kept (row := some b) hg (.inr hb)
end Go.Proofs.Ytjmecongccjcgaa
