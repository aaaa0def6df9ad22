/- A store of a whole struct into a block that is known whole, in a drawn region: small laws. -/
import Derived.Test.YtgokenbojppnhaaDoorGb
import Derived.Laws.Tables
namespace Go.Proofs.YtgokenbojppnhaaDoor
open Go.RowKit
theorem want_pos {P : Program} {ops : Array Oper} {Q : Exit → Act → World → Prop} {o : Oper} {a : Act} {w : World} {K : Act → World → Prop} (hw : Region.wanted o (yielded ops a.tmps) = true) (h : Oper.wp P o a w K Q) :
    if Region.wanted o (yielded ops a.tmps) = true then Oper.wp P o a w K Q else K (a.put o.dst undef) w := by
  rw [if_pos hw]; exact h
theorem Ext.setRow {w W : World} {g : Nat} (h : Ext w W) (hg : w.heap.size ≤ g) (cs : Array Value) : Ext w (W.setRow g cs) :=
  ⟨h.os, h.tape, h.output, by rw [setRow_size]; exact h.size, fun k hk => by rw [setRow_other _ _ _ _ (by omega)]; exact h.block k hk⟩
theorem Blk.row {w : World} {g : Nat} {t : TypeId} {cs ds : Array Value} (h : Blk w g t cs) : Blk (w.setRow g ds) g t ds := setRow_heap w g cs ds t (0, 0) h
theorem wp_alloc_at {P : Program} {Q : Exit → Act → World → Prop} {o : Oper} {a : Act} {w w' : World} {K : Act → World → Prop} (ty : TypeId) {v : Value} (ho : o.op = .alloc ty) (hr : (Instr.alloc ty true (.tuple #[])).run P w = .ok v w') (h : K (a.put o.dst v) w') : o.wp P a w K Q := by
  unfold Oper.wp execOp
  simp only [ho, Sem.run_bind, Sem.run_pure, Result.andThen_ok, hr]
  exact h
theorem run_built_op {P : Program} {o : Oper} {a : Act} {w : World} (t : TypeId) (parts : Array (Nat × Operand)) (ho : o.op = .build t parts) {cells : Array Value} {l : List (Nat × Value)} (hl : (parts.toList.map fun (i, x) => (i, a.eval x)) = l) (h : P.built t l = some cells) : (execOp a.eval o).run P w = .ok (.value (.agg cells)) w := by
  unfold execOp
  simp only [ho, Sem.run_bind, run_build w t _ cells (by rw [Array.toList_map, hl]; exact h), Result.andThen_ok]
  rfl
end Go.Proofs.YtgokenbojppnhaaDoor
