/- Two pairs of numbers compared. -/
import Derived.Test.YtebahglmdifmpaaV5
import Derived.Laws.StructEq
set_option maxRecDepth 10000
set_option linter.unusedSimpArgs false
namespace Go.Proofs.Ytebahglmdifmpaa
open Go
theorem guard2 (a b c d : Int) (x y : Operand) (w' : World) : (eqGuard .neq 30 x y (.agg #[.int .i64 a, .int .i64 b]) (.agg #[.int .i64 c, .int .i64 d])).run Try.prog w' = .ok () w' := by kernel_rfl
theorem u30 : Try.prog.underlying 30 = some (.array 2 3) := by kernel_rfl
theorem u3 : Try.prog.underlying 3 = some (.int .i64) := by kernel_rfl
theorem eqi (n : Nat) (a c : Int) (w' : World) : (Op.equalIn (n+1) 3 (.int .i64 a) (.int .i64 c)).run Try.prog w' = .ok (a == c) w' := by
  exact run_equalIn_int w' n 3 .i64 .i64 a c u3
theorem isagg3 (w' : World) : (isAgg 3).run Try.prog w' = .ok false w' := by kernel_rfl
theorem eqa (a b c d : Int) (w' : World) : (Op.equalIn 10000 30 (.agg #[.int .i64 a, .int .i64 b]) (.agg #[.int .i64 c, .int .i64 d])).run Try.prog w' = .ok ((a == c) && (b == d)) w' := by
  have e9 := fun a c w' => eqi 9998 a c w'
  rw [show (10000 : Nat) = 9998 + 1 + 1 from rfl]
  unfold Op.equalIn
  simp [u30, go_sem]
  rw [show List.range' 0 2 = [0, 1] from rfl]
  simp [isagg3, go_sem]
  by_cases h1 : a = c
  · by_cases h2 : b = d
    · simp [h1, h2, e9, isagg3, go_sem]
    · simp [h1, h2, e9, isagg3, go_sem]
  · simp [h1, e9, isagg3, go_sem]
theorem neq2 (a b c d : Int) (x y : Operand) (w' : World) : (do eqGuard .neq 30 x y (.agg #[.int .i64 a, .int .i64 b]) (.agg #[.int .i64 c, .int .i64 d]); binOp .neq 30 (.agg #[.int .i64 a, .int .i64 b]) (.agg #[.int .i64 c, .int .i64 d]) : Sem Value).run Try.prog w' = .ok (.bool (!((a == c) && (b == d)))) w' := by
  rw [Sem.run_bind, guard2]
  simp only [Result.andThen_ok]
  rw [run_neq_struct, eqa]
  rfl
end Go.Proofs.Ytebahglmdifmpaa
