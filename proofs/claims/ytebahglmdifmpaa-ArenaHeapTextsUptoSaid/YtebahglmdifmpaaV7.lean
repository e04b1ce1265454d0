/- The plain statements of some functions, printed by vcgen.py. -/
import Derived.Test.YtebahglmdifmpaaVcC
import Derived.Test.YtebahglmdifmpaaProg
import Derived.KernelRfl
set_option maxRecDepth 100000
set_option linter.unusedVariables false
namespace Go.Proofs.Ytebahglmdifmpaa
open Go Go.Proofs.Ytebahglmdifmpaa.Vc
theorem V7.mixed : Try.prog.follows .mixedOrders = true := by kernel_rfl
/-- gatehouse/arena.NewHeap[string] -/
def f12n.AL : Nat → Option Ann := fun _ => none
def f12n.AC : Nat → Option Ann := fun _ => none
def f12n.VC  (w : World) (R : Value → World → Prop) : Prop :=
  ∃ b4 : Bool, (∀ w', (do eqGuard .eql 27 (.tmp 3) (.const .nilFunc) .nilFunc .nilFunc; binOp .eql 27 .nilFunc .nilFunc : Sem Value).run Try.prog w' = .ok (.bool b4) w') ∧
  sel b4 (
    R (.pointer none) w) (
    let w_1 : World := World.alloc w (.cells #[.nilFunc, .slice none 0 0, .int .i64 0] 117);
    R (.pointer (some ⟨w.heap.size, 0, none⟩)) w_1)
theorem f12n.eq  (w : World) (R : Value → World → Prop) : f12n.VC  w R = funV Try.prog Try.f12 f12n.AL f12n.AC #[.nilFunc] w R := by kernel_rfl
theorem f12n.calls {w : World} {R : Value → World → Prop} (h : f12n.VC  w R) : Calls Try.prog 12 #[.nilFunc] w fun e w' => ∃ v, e = .returned v ∧ R v w' :=
  funV_sound (fn := Try.f12) (AL := f12n.AL) (AC := f12n.AC) V7.mixed (by kernel_rfl) (by rw [← f12n.eq ]; exact h)

end Go.Proofs.Ytebahglmdifmpaa
