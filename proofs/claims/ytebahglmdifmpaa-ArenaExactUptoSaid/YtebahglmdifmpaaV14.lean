/- The plain statements of some functions, printed by vcgen.py. -/
import Derived.Test.YtebahglmdifmpaaVcC
import Derived.Test.YtebahglmdifmpaaProg
import Derived.KernelRfl
set_option maxRecDepth 100000
set_option linter.unusedVariables false
namespace Go.Proofs.Ytebahglmdifmpaa
open Go Go.Proofs.Ytebahglmdifmpaa.Vc
theorem V14.mixed : Try.prog.follows .mixedOrders = true := by kernel_rfl
/-- gatehouse/arena.New -/
def f38n.AL : Nat → Option Ann := fun _ => none
def f38n.AC : Nat → Option Ann := fun _ => none
def f38n.VC (a0 : Option Addr) (xa1 : Int) (w : World) (R : Value → World → Prop) : Prop :=
  sel (Option.isNone a0) (
    R (.tuple #[.pointer none, .int .i64 2]) w) (
    sel (decide ((xa1 : Int) < (0 : Int))) (
      R (.tuple #[.pointer none, .int .i64 3]) w) (
      Calls Try.prog 67 #[.pointer a0] w fun e_1 w_1 =>
      ∃ (x14 : Int),
      e_1 = .returned (.int .i64 x14) ∧
      sel (decide ((x14 : Int) ≤ (xa1 : Int))) (
        R (.tuple #[.pointer none, .int .i64 3]) w_1) (
        Calls Try.prog 68 #[.func (.func 69) #[] #[]] w_1 fun e_2 w_2 =>
        ∃ (p18 : Option Addr),
        e_2 = .returned (.pointer p18) ∧
        let w_3 : World := World.alloc w_2 (.map #[] 0);
        let w_4 : World := World.alloc w_3 (.cells #[.pointer a0, .pointer p18, .map (some w_2.heap.size)] 138);
        (∃ (p25 : Option Addr),
          w_4.cell? ⟨w_3.heap.size, 1, none⟩ = some (.pointer p25) ∧
          Calls Try.prog 67 #[.pointer a0] w_4.drew fun e_3 w_5 =>
          ∃ (x28 : Int),
          e_3 = .returned (.int .i64 x28) ∧
          let i30 : Int := IntKind.i64.wrap (x28 - xa1);
          Calls Try.prog 70 #[.pointer p25, .agg #[.int .i64 xa1, .int .i64 i30, .bool true]] w_5 fun e_4 w_6 =>
          e_4 = .returned (.tuple #[]) ∧
          R (.tuple #[.pointer (some ⟨w_3.heap.size, 0, none⟩), .int .i64 0]) w_6) ∧
        (Calls Try.prog 67 #[.pointer a0] w_4.drew fun e_5 w_7 =>
          ∃ (x28_1 : Int),
          e_5 = .returned (.int .i64 x28_1) ∧
          let i30_1 : Int := IntKind.i64.wrap (x28_1 - xa1);
          ∃ (p25_1 : Option Addr),
          w_7.cell? ⟨w_3.heap.size, 1, none⟩ = some (.pointer p25_1) ∧
          Calls Try.prog 70 #[.pointer p25_1, .agg #[.int .i64 xa1, .int .i64 i30_1, .bool true]] w_7 fun e_6 w_8 =>
          e_6 = .returned (.tuple #[]) ∧
          R (.tuple #[.pointer (some ⟨w_3.heap.size, 0, none⟩), .int .i64 0]) w_8) ∧ True)))
theorem f38n.eq (a0 : Option Addr) (xa1 : Int) (w : World) (R : Value → World → Prop) : f38n.VC a0 xa1 w R = funV Try.prog Try.f38 f38n.AL f38n.AC #[.pointer a0, .int .i64 xa1] w R := by kernel_rfl
theorem f38n.calls {a0 : Option Addr} {xa1 : Int} {w : World} {R : Value → World → Prop} (h : f38n.VC a0 xa1 w R) : Calls Try.prog 38 #[.pointer a0, .int .i64 xa1] w fun e w' => ∃ v, e = .returned v ∧ R v w' :=
  funV_sound (fn := Try.f38) (AL := f38n.AL) (AC := f38n.AC) V14.mixed (by kernel_rfl) (by rw [← f38n.eq a0 xa1]; exact h)

end Go.Proofs.Ytebahglmdifmpaa
