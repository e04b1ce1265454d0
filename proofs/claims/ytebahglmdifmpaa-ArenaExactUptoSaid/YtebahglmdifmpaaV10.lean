/- The plain statements of some functions, printed by vcgen.py. -/
import Derived.Test.YtebahglmdifmpaaVcC
import Derived.Test.YtebahglmdifmpaaProg
import Derived.KernelRfl
set_option maxRecDepth 100000
set_option linter.unusedVariables false
namespace Go.Proofs.Ytebahglmdifmpaa
open Go Go.Proofs.Ytebahglmdifmpaa.Vc
theorem V10.mixed : Try.prog.follows .mixedOrders = true := by kernel_rfl
/-- (*gatehouse/cells.basket).take -/
def f82.AL : Nat → Option Ann := fun _ => none
def f82.AC : Nat → Option Ann := fun _ => none
def f82.VC (a0 : Nat) (xa1 : Int) (w : World) (R : Value → World → Prop) : Prop :=
  ∃ (A8 : Option Addr) (n8 c8 : Nat),
  w.cell? ⟨a0, 1, none⟩ = some (.slice A8 n8 c8) ∧
  ∃ (p12 : Option Addr),
  w.cell? ⟨a0, 0, none⟩ = some (.pointer p12) ∧
  needPtr p12 fun b13 o13 =>
  ∃ (A15 : Option Addr) (n15 c15 : Nat),
  w.cell? ⟨b13, o13, none⟩ = some (.slice A15 n15 c15) ∧
  (0 : Int) ≤ xa1 ∧ xa1 < (n15 : Int) ∧
  needPtr A15 fun b17 o17 =>
  ∃ (x18 : Int),
  w.cell? ⟨b17, o17 + xa1.toNat * 1, none⟩ = some (.int .i64 x18) ∧
  let w_1 : World := World.alloc w.drew (.cells #[.int .i64 x18] 3);
  ∃ (A20 : Option Addr) (n20 c20 : Nat),
  ∃ w_2 : World, (Builtin.append_ #[23, 23] 23 #[.slice A8 n8 c8, .slice (some ⟨w.heap.size, 0, none⟩) 1 1]).run Try.prog w_1 = .ok (.slice A20 n20 c20) w_2 ∧
  canStore w_2 a0 1 1 ∧
  let w_3 : World := setCs w_2 a0 1 [.slice A20 n20 c20];
  R (.tuple #[]) w_3
theorem f82.eq (a0 : Nat) (xa1 : Int) (w : World) (R : Value → World → Prop) : f82.VC a0 xa1 w R = funV Try.prog Try.f82 f82.AL f82.AC #[.pointer (some ⟨a0, 0, none⟩), .int .i64 xa1] w R := by kernel_rfl
theorem f82.calls {a0 : Nat} {xa1 : Int} {w : World} {R : Value → World → Prop} (h : f82.VC a0 xa1 w R) : Calls Try.prog 82 #[.pointer (some ⟨a0, 0, none⟩), .int .i64 xa1] w fun e w' => ∃ v, e = .returned v ∧ R v w' :=
  funV_sound (fn := Try.f82) (AL := f82.AL) (AC := f82.AC) V10.mixed (by kernel_rfl) (by rw [← f82.eq a0 xa1]; exact h)

end Go.Proofs.Ytebahglmdifmpaa
