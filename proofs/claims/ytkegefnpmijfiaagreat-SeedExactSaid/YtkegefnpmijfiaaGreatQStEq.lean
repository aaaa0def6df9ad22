/- Four words compared with four words. -/
import Derived.Test.YtkegefnpmijfiaaGreatQBase
import Derived.ChangeKeysEq
namespace Go.Proofs.YtkegefnpmijfiaaGreat
open Go.RowKit
theorem part_word (w : World) (x0 x1 x2 x3 : Int) (k : Nat) (x : Int) (h : (#[Value.int .u64 x0, .int .u64 x1, .int .u64 x2, .int .u64 x3] : Array Value)[k]? = some (.int .u64 x)) :
    (part 59 #[Value.int .u64 x0, .int .u64 x1, .int .u64 x2, .int .u64 x3] k).run Tryz.prog w = .ok (.int .u64 x) w := run_part_plain w (by kernel_rfl) h
theorem eq_word (w : World) (d : Nat) (x y : Int) : (Op.equalIn (d + 1) 59 (.int .u64 x) (.int .u64 y)).run Tryz.prog w = .ok (x == y) w := by
  simp [Op.equalIn, run_underlying Tryz.underlying59]
theorem state_eq (w : World) (x0 x1 x2 x3 y0 y1 y2 y3 : Int) :
    (Op.equalIn 10000 60 (.agg #[.int .u64 x0, .int .u64 x1, .int .u64 x2, .int .u64 x3]) (.agg #[.int .u64 y0, .int .u64 y1, .int .u64 y2, .int .u64 y3])).run Tryz.prog w = .ok ((x0 == y0) && (x1 == y1) && (x2 == y2) && (x3 == y3)) w := by
  obtain ⟨i, hi⟩ : ∃ i, Tryz.prog.info? 59 = some i := Option.isSome_iff_exists.1 (by kernel_rfl)
  rw [run_equalIn_array w 9999 _ _ Tryz.underlying60 hi]
  rw [show Tryz.prog.cellsOf 59 = 1 by kernel_rfl]
  simp only [List.range_succ, List.range_zero, List.nil_append, List.cons_append, Op.eqItems, Nat.mul_one, Sem.run_bind, Result.andThen_ok, eq_word, part_word w x0 x1 x2 x3 0 x0 rfl, part_word w y0 y1 y2 y3 0 y0 rfl]
  cases (x0 == y0)
  · simp
  simp only [Bool.not_true, Bool.false_eq_true, if_false, Bool.true_and, Sem.run_bind, Result.andThen_ok, eq_word, part_word w x0 x1 x2 x3 1 x1 rfl, part_word w y0 y1 y2 y3 1 y1 rfl]
  cases (x1 == y1)
  · simp
  simp only [Bool.not_true, Bool.false_eq_true, if_false, Bool.true_and, Sem.run_bind, Result.andThen_ok, eq_word, part_word w x0 x1 x2 x3 2 x2 rfl, part_word w y0 y1 y2 y3 2 y2 rfl]
  cases (x2 == y2)
  · simp
  simp only [Bool.not_true, Bool.false_eq_true, if_false, Bool.true_and, Sem.run_bind, Result.andThen_ok, eq_word, part_word w x0 x1 x2 x3 3 x3 rfl, part_word w y0 y1 y2 y3 3 y3 rfl]
  cases (x3 == y3) <;> simp
theorem run_eq4 (w : World) (x0 x1 x2 x3 y0 y1 y2 y3 : Int) :
    (binOp .eql 60 (.agg #[.int .u64 x0, .int .u64 x1, .int .u64 x2, .int .u64 x3]) (.agg #[.int .u64 y0, .int .u64 y1, .int .u64 y2, .int .u64 y3])).run Tryz.prog w = .ok (.bool ((x0 == y0) && (x1 == y1) && (x2 == y2) && (x3 == y3))) w := by
  simp only [binOp]
  simp [Op.equal, Op.maxDepth, state_eq]
theorem run_ne4 (w : World) (x0 x1 x2 x3 y0 y1 y2 y3 : Int) :
    (binOp .neq 60 (.agg #[.int .u64 x0, .int .u64 x1, .int .u64 x2, .int .u64 x3]) (.agg #[.int .u64 y0, .int .u64 y1, .int .u64 y2, .int .u64 y3])).run Tryz.prog w = .ok (.bool (!((x0 == y0) && (x1 == y1) && (x2 == y2) && (x3 == y3)))) w := by
  simp only [binOp]
  simp [Op.equal, Op.maxDepth, state_eq]
end Go.Proofs.YtkegefnpmijfiaaGreat
