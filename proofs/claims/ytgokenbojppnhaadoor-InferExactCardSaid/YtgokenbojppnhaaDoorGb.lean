/- Slices of numbers, as a world holds them. Worlds that grow by an append; rows that the call owns. A block that is known whole. A block of integers, known whole. Worlds that are alike but for one block. -/
import Derived.Test.YtgokenbojppnhaaDoorBase
import Derived.WalkKit
import Derived.Laws.AppendOwn
import Derived.Laws.OwnMore
import Derived.Deep.Draws
import Derived.Laws.Rows
import Derived.RangeFuncFrom
namespace Go.Proofs.YtgokenbojppnhaaDoor
open Go.RowKit
/-- v is a slice of the numbers ds, as w holds them. -/
def Row (k : IntKind) (w : World) (v : Value) (ds : List Int) : Prop :=
  ∃ a cap, v = .slice a ds.length cap ∧ ds.length ≤ cap ∧ cap ≤ maxLen ∧ (ds ≠ [] → ∃ b o, a = some ⟨b, o, none⟩ ∧ ∀ i, i < ds.length → w.cell? ⟨b, o + i, none⟩ = some (.int k (ds.getD i 0)))
theorem Row.ext {k : IntKind} {w w' : World} {v : Value} {ds : List Int} (h : Row k w v ds) (x : Ext w w') : Row k w' v ds := by
  obtain ⟨a, cap, rfl, h1, h2, h3⟩ := h
  refine ⟨a, cap, rfl, h1, h2, fun hn => ?_⟩
  obtain ⟨b, o, rfl, hc⟩ := h3 hn
  exact ⟨b, o, rfl, fun i hi => x.cell (hc i hi)⟩
theorem getD_mem (ds : List Int) (i : Nat) (h : i < ds.length) : ds.getD i 0 ∈ ds := by
  rw [List.getD_eq_getElem?_getD, List.getElem?_eq_getElem h]; exact List.getElem_mem h
/-- v's row, if it has one, is none of w's. -/
def New (w : World) (v : Value) : Prop := ∀ b, v.ownBlock = some b → w.heap.size ≤ b
theorem getD_take (ds : List Int) (n i : Nat) (h : i < n) : (ds.take n).getD i 0 = ds.getD i 0 := by
  simp [List.getD, h]
theorem Row.nil (k : IntKind) (w : World) : Row k w (.slice none 0 0) [] := ⟨none, 0, rfl, Nat.le_refl _, by unfold maxLen; omega, fun h => absurd rfl h⟩
theorem Row.take {k : IntKind} {w : World} {b o cap n : Nat} {ds : List Int} (h1 : ds.length ≤ cap) (h2 : cap ≤ maxLen) (hn : n ≤ ds.length)
    (hc : ∀ i, i < ds.length → w.cell? ⟨b, o + i, none⟩ = some (.int k (ds.getD i 0))) : Row k w (.slice (some ⟨b, o, none⟩) n cap) (ds.take n) := by
  have hl : (ds.take n).length = n := by rw [List.length_take]; omega
  refine ⟨some ⟨b, o, none⟩, cap, by rw [hl], by omega, h2, fun _ => ⟨b, o, rfl, fun i hi => ?_⟩⟩
  rw [hl] at hi
  rw [getD_take _ _ _ hi]; exact hc i (by omega)
theorem take_succ_getD (ds : List Int) (k : Nat) (h : k < ds.length) : ds.take (k + 1) = ds.take k ++ [ds.getD k 0] := by
  rw [List.take_add_one, List.getD_eq_getElem?_getD, List.getElem?_eq_getElem h]; rfl
end Go.Proofs.YtgokenbojppnhaaDoor
namespace Go.Proofs.YtgokenbojppnhaaDoor
open Go.RowKit
theorem Ext.grown {a b c : World} {row : Option Nat} (h : Ext a b) (hg : b.grownBy c row) (hrow : ∀ k, row = some k → a.heap.size ≤ k) : Ext a c :=
  ⟨hg.os.trans h.os, hg.tape.trans h.tape, hg.output.trans h.output, Nat.le_trans h.size hg.size, fun i hi =>
    (hg.block i (Nat.lt_of_lt_of_le hi h.size) (fun e => by have := hrow i e.symm; omega)).trans (h.block i hi)⟩
theorem Row.of_owns {w : World} {base : Nat} {e : TypeId} {v : Value} {n : Nat} {xs : List Int} {k : IntKind} (h : w.ownsRow base e 1 v n (xs.map (Value.int k))) : Row k w v xs ∧ xs.length = n := by
  have hl : xs.length = n := by simpa using h.1
  subst hl
  refine ⟨?_, rfl⟩
  rcases h.2 with ⟨rfl, h0⟩ | ⟨g, cap, cur, rfl, hb, hg, h1, h2, h3, h4⟩
  · have : xs = [] := List.eq_nil_of_length_eq_zero h0
    subst this; exact Row.nil k w
  · refine ⟨_, cap, rfl, h1, h2, fun _ => ⟨g, 0, rfl, fun i hi => ?_⟩⟩
    rw [Nat.zero_add, h.cellAt i (by omega), List.getElem?_map, List.getD_eq_getElem?_getD, List.getElem?_eq_getElem hi]
    rfl
end Go.Proofs.YtgokenbojppnhaaDoor
namespace Go.Proofs.YtgokenbojppnhaaDoor
open Go.RowKit
def Blk (w : World) (g : Nat) (t : TypeId) (cs : Array Value) : Prop := w.heap[g]? = some (.cells cs t (0, 0))
section
variable {w w' : World} {g : Nat} {t : TypeId} {cs : Array Value}
theorem Blk.lt (h : Blk w g t cs) : g < w.heap.size := by
  rcases Nat.lt_or_ge g w.heap.size with hlt | hge
  · exact hlt
  · unfold Blk at h; rw [Array.getElem?_eq_none hge] at h; cases h
theorem Blk.cell (h : Blk w g t cs) (i : Nat) : w.cell? ⟨g, i, none⟩ = cs[i]? := cell_of_row w g i cs t (0, 0) h
theorem Blk.frozen (h : Blk w g t cs) (i : Nat) : w.frozen? ⟨g, i, none⟩ = false := by
  unfold Blk at h
  simp [World.frozen?, h]
theorem Blk.new (w : World) (t : TypeId) (cs : Array Value) : Blk (w.alloc (.cells cs t)) w.heap.size t cs := heap_alloc_new w _
theorem Blk.drew (h : Blk w g t cs) : Blk w.drew g t cs := h
theorem Blk.drewN (h : Blk w g t cs) (n : Nat) : Blk (w.drewN n) g t cs := h
theorem Blk.alloc (h : Blk w g t cs) (o : Obj) : Blk (w.alloc o) g t cs := (Below.heap_alloc w o g h.lt).trans h
theorem Blk.set_ (h : Blk w g t cs) (i : Nat) (u : Value) : Blk (w.setCell ⟨g, i, none⟩ u) g t (cs.setIfInBounds i u) := by
  unfold Blk at h ⊢
  simp [World.setCell, Array.getElem?_modify, h]
theorem Blk.far (h : Blk w g t cs) {p : Addr} (hp : g ≠ p.block) (u : Value) : Blk (w.setCell p u) g t cs := (Below.heap_setCell w p u g hp).trans h
theorem Blk.ext (h : Blk w g t cs) (x : Ext w w') : Blk w' g t cs := (x.block g h.lt).trans h
theorem Blk.grown {row : Option Nat} (h : Blk w g t cs) (hb : w.grownBy w' row) (hg : some g ≠ row) : Blk w' g t cs := (hb.block g h.lt hg).trans h
theorem Blk.kept {row : Option Nat} (h : Blk w g t cs) (hb : w.grownBy w' row) (hrow : ∀ r, row = some r → ∃ o : Obj, w.heap[r]? = some o ∧ o.isCells = false) : Blk w' g t cs :=
  h.grown hb (fun e => by
    obtain ⟨o, ho, hc⟩ := hrow g e.symm
    unfold Blk at h
    rw [h] at ho
    cases ho
    simp [Obj.isCells] at hc)
end
end Go.Proofs.YtgokenbojppnhaaDoor
namespace Go.Proofs.YtgokenbojppnhaaDoor
open Go.RowKit
theorem own_base {w : World} {base base' : Nat} {e : TypeId} {size : Nat} {v : Value} {n : Nat} {xs : List Value} (h : w.ownsRow base e size v n xs) (hb : base' ≤ base) : w.ownsRow base' e size v n xs := by
  refine ⟨h.1, ?_⟩
  rcases h.2 with h0 | ⟨g, cap, cur, hv, h1, h2⟩
  · exact .inl h0
  · exact .inr ⟨g, cap, cur, hv, Nat.le_trans hb h1, h2⟩
theorem own_old {w w' : World} {base : Nat} {e : TypeId} {size : Nat} {v : Value} {n : Nat} {xs : List Value} (h : w.ownsRow base e size v n xs) (x : Ext w w') : w'.ownsRow base e size v n xs :=
  h.kept (row := none) ⟨x.os, x.tape, x.output, x.size, fun k hk _ => x.block k hk⟩ (by cases hv : v.ownBlock <;> simp)
def ints (l : List Int) : Array Value := (l.map (Value.int .i64)).toArray
theorem ints_at (l : List Int) (i : Nat) (h : i < l.length) : (ints l)[i]? = some (.int .i64 (l.getD i 0)) := by
  unfold ints
  rw [List.getElem?_toArray, List.getElem?_map, List.getElem?_eq_getElem h, List.getD_eq_getElem?_getD, List.getElem?_eq_getElem h]
  rfl
theorem ints_set (l : List Int) (i : Nat) (x : Int) : (ints l).setIfInBounds i (.int .i64 x) = ints (l.set i x) := by
  unfold ints
  rw [List.setIfInBounds_toArray, List.map_set]
theorem Row.of_blk {w : World} {E : Nat} {t : TypeId} {l : List Int} {n : Nat} (h : Blk w E t (ints l)) (hl : l.length = n) (hn : n ≤ maxLen) : Row .i64 w (.slice (some ⟨E, 0, none⟩) n n) l := by
  subst hl
  refine ⟨_, _, rfl, Nat.le_refl _, hn, fun _ => ⟨E, 0, rfl, fun i hi => ?_⟩⟩
  rw [Nat.zero_add, h.cell, ints_at l i hi]
theorem own_blk {w : World} {base g n : Nat} {t : TypeId} {l : List Int} (h : w.ownsRow base t 1 (.slice (some ⟨g, 0, none⟩) n n) n (l.map (Value.int .i64))) : Blk w g t (ints l) := by
  rcases h.2 with ⟨h0, _⟩ | ⟨g', cap, cur, hv, _, hg, _, _, hs, ht⟩
  · cases h0
  · cases hv
    unfold Blk ints
    rw [hg, ← ht, Nat.mul_one, List.take_of_length_le (by simp; omega)]
end Go.Proofs.YtgokenbojppnhaaDoor
namespace Go.Proofs.YtgokenbojppnhaaDoor
open Go.RowKit
/-- All but the block b lies as it lay. -/
def GB (w w' : World) (b : Nat) : Prop := w.grownBy w' (some b)
section
variable {w W W' : World} {b : Nat}
theorem GB.refl (w : World) (b : Nat) : GB w w b := ⟨rfl, rfl, rfl, Nat.le_refl _, fun _ _ _ => rfl⟩
theorem GB.trans (h : GB w W b) (k : GB W W' b) : GB w W' b := ⟨k.os.trans h.os, k.tape.trans h.tape, k.output.trans h.output, Nat.le_trans h.size k.size, fun i hi hne => (k.block i (Nat.lt_of_lt_of_le hi h.size) hne).trans (h.block i hi hne)⟩
theorem GB.set (h : GB w W b) (o : Nat) (v : Value) : GB w (W.setCell ⟨b, o, none⟩ v) b :=
  h.trans ⟨rfl, rfl, rfl, by simp, fun k _ hk => Below.heap_setCell _ _ _ k (fun e => hk (by rw [e]))⟩
theorem GB.ext (h : GB w W b) (x : Ext W W') : GB w W' b := h.trans ⟨x.os, x.tape, x.output, x.size, fun k hk _ => x.block k hk⟩
theorem GB.drew (h : GB w W b) : GB w W.drew b := h.ext (Ext.drew (Ext.refl _))
end
theorem own_form1 {W : World} {base : Nat} {e : TypeId} {size : Nat} {v : Value} {k : Nat} {xs : List Value} (h : W.ownsRow base e size v k xs) (hk : 0 < k) : ∃ g cap, v = .slice (some ⟨g, 0, none⟩) k cap ∧ base ≤ g ∧ g < W.heap.size := by
  rcases h.2 with ⟨_, h0⟩ | ⟨g, cap, cur, rfl, hb, hg, _⟩
  · omega
  · exact ⟨g, cap, rfl, hb, (Array.getElem?_eq_some_iff.1 hg).1⟩
theorem own_far {w : World} {base : Nat} {e : TypeId} {size : Nat} {v : Value} {n : Nat} {xs : List Value} {b : Nat} (h : w.ownsRow base e size v n xs) (hb : v.ownBlock ≠ some b) (o : Nat) (u : Value) : (w.setCell ⟨b, o, none⟩ u).ownsRow base e size v n xs :=
  h.kept (row := some b) ⟨rfl, rfl, rfl, by simp, fun k _ hk => Below.heap_setCell _ _ _ k (fun e => hk (by rw [e]))⟩ (.inr hb)
theorem own_gb {w W : World} {base : Nat} {e : TypeId} {size : Nat} {v : Value} {n : Nat} {xs : List Value} {b : Nat} (h : w.ownsRow base e size v n xs) (hg : GB w W b) (hb : v.ownBlock ≠ some b) : W.ownsRow base e size v n xs :=
  h.kept (row := some b) hg (.inr hb)
end Go.Proofs.YtgokenbojppnhaaDoor
