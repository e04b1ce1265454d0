/- Two pieces compared. -/
import Derived.Test.YtebahglmdifmpaaVcC
import Derived.Test.YtebahglmdifmpaaProg
import Derived.KernelRfl
import Derived.Laws.StructEq
set_option maxRecDepth 10000
set_option linter.unusedSimpArgs false
namespace Go.Proofs.Ytebahglmdifmpaa
open Go
/-- One field of a plain kind, and the rest. -/
theorem eqF_cons {P : Program} {d : Nat} {xs ys : Array Value} {f : Field} {fs : List Field} {a b : Value} {r : Bool} {w : World} (hn : f.name ≠ "_") (ha : (part f.type xs f.offset).run P w = .ok a w) (hb : (part f.type ys f.offset).run P w = .ok b w) (hr : (Op.equalIn d f.type a b).run P w = .ok r w) :
    (Op.eqFields d xs ys (f :: fs)).run P w = if r = true then (Op.eqFields d xs ys fs).run P w else .ok false w := by
  simp only [Op.eqFields, if_pos hn, Sem.run_bind, ha, hb, hr, Result.andThen_ok]
  cases r <;> simp
theorem eqB_in (a b a' b' : Int) (c c' : Bool) (w : World) : (Op.equalIn 10000 96 (.agg #[.int .i64 a, .int .i64 b, .bool c]) (.agg #[.int .i64 a', .int .i64 b', .bool c'])).run Try.prog w = .ok ((a == a') && ((b == b') && (c == c'))) w := by
  have h3 : Try.prog.underlying 3 = some (.int .i64) := by kernel_rfl
  have h4 : Try.prog.underlying 4 = some .bool := by kernel_rfl
  have e3 := fun (x y : Int) (w : World) => run_equalIn_int (P := Try.prog) w 9998 3 .i64 .i64 x y h3
  have e4 := fun (x y : Bool) (w : World) => run_equalIn_bool' (P := Try.prog) w 9998 4 x y h4
  rw [show (10000 : Nat) = 9999 + 1 from rfl, run_equalIn_agg w 9999 96 _ _ (by kernel_rfl) (by kernel_rfl)]
  rw [show (Try.prog.fieldsOf 96).toList = [{ name := "Addr", type := 3, offset := 0, embedded := false, tag := "", pkgPath := "", byteOffset := 0 }, { name := "Size", type := 3, offset := 1, embedded := false, tag := "", pkgPath := "", byteOffset := 8 }, { name := "Free", type := 4, offset := 2, embedded := false, tag := "", pkgPath := "", byteOffset := 16 }] by kernel_rfl]
  rw [eqF_cons (by decide) (a := .int .i64 a) (b := .int .i64 a') (by kernel_rfl) (by kernel_rfl) (e3 _ _ w)]
  rw [eqF_cons (by decide) (a := .int .i64 b) (b := .int .i64 b') (by kernel_rfl) (by kernel_rfl) (e3 _ _ w)]
  rw [eqF_cons (by decide) (a := .bool c) (b := .bool c') (by kernel_rfl) (by kernel_rfl) (e4 _ _ w)]
  have hn : (Op.eqFields 9999 #[.int .i64 a, .int .i64 b, .bool c] #[.int .i64 a', .int .i64 b', .bool c'] []).run Try.prog w = .ok true w := by simp [Op.eqFields]
  rw [hn]
  cases h1 : a == a' <;> cases h2 : b == b' <;> cases h5 : c == c' <;> simp
theorem eqB (a b a' b' : Int) (c c' : Bool) (x y : Operand) (w : World) : (do eqGuard .eql 96 x y (.agg #[.int .i64 a, .int .i64 b, .bool c]) (.agg #[.int .i64 a', .int .i64 b', .bool c']); binOp .eql 96 (.agg #[.int .i64 a, .int .i64 b, .bool c]) (.agg #[.int .i64 a', .int .i64 b', .bool c']) : Sem Value).run Try.prog w = .ok (.bool ((a == a') && ((b == b') && (c == c')))) w := by
  rw [Sem.run_bind, run_eqGuard_agg w .eql 96 x y _ _ (by kernel_rfl)]
  simp only [Result.andThen_ok]
  rw [run_eql_struct, eqB_in]
  rfl
theorem neqB (a b a' b' : Int) (c c' : Bool) (x y : Operand) (w : World) : (do eqGuard .neq 96 x y (.agg #[.int .i64 a, .int .i64 b, .bool c]) (.agg #[.int .i64 a', .int .i64 b', .bool c']); binOp .neq 96 (.agg #[.int .i64 a, .int .i64 b, .bool c]) (.agg #[.int .i64 a', .int .i64 b', .bool c']) : Sem Value).run Try.prog w = .ok (.bool (!((a == a') && ((b == b') && (c == c'))))) w := by
  rw [Sem.run_bind, run_eqGuard_agg w .neq 96 x y _ _ (by kernel_rfl)]
  simp only [Result.andThen_ok]
  rw [run_neq_struct, eqB_in]
  rfl
end Go.Proofs.Ytebahglmdifmpaa
