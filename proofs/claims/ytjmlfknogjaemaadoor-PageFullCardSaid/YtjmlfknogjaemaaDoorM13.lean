/- The plain statements of some functions, printed by vcgen.py. -/
import Derived.Test.YtjmlfknogjaemaaDoorM4
import Derived.Test.YtjmlfknogjaemaaDoorProg
import Derived.KernelRfl
set_option maxRecDepth 100000
set_option linter.unusedVariables false
namespace Go.Proofs.YtjmlfknogjaemaaDoor
open Go Go.Proofs.YtjmlfknogjaemaaDoor.Vc
theorem W7.mixed : Tryd.prog.follows .mixedOrders = true := by kernel_rfl
/-- gatehouse/graph.differ -/
def f51.AL : Nat → Option Ann := fun r => match r with | 3 => some ⟨[(9, .int .i64)], [0, 3, 7, 8]⟩ | _ => none
def f51.AC : Nat → Option Ann := fun _ => none
def f51.VC (Aa0 : Option Addr) (na0 ca0 : Nat) (w : World) (R : Value → World → Prop) : Prop :=
  let w_1 : World := World.alloc w (.map #[] 0);
  ∃ I : Int → World → Nat → Prop,
  (∃ n, I 0 w_1 n) ∧
  ∀ d : Env, ∀ (x9 : Int) (w_2 : World) (r : Nat), I x9 w_2 r →
  sel (decide ((x9 : Int) < ((na0 : Int) : Int))) (
  (0 : Int) ≤ x9 ∧ x9 < (na0 : Int) ∧
  needPtr Aa0 fun b11 o11 =>
  ∃ (x12_0 : Int),
  w_2.cell? ⟨b11, o11 + x9.toNat * 64, none⟩ = some (.int .u16 x12_0) ∧
  ∃ (x12_1 : Int),
  w_2.cell? ⟨b11, o11 + x9.toNat * 64 + 1, none⟩ = some (.int .u16 x12_1) ∧
  ∃ (x12_2 : Int),
  w_2.cell? ⟨b11, o11 + x9.toNat * 64 + 1 + 1, none⟩ = some (.int .u16 x12_2) ∧
  ∃ (x12_3 : Int),
  w_2.cell? ⟨b11, o11 + x9.toNat * 64 + 1 + 1 + 1, none⟩ = some (.int .u16 x12_3) ∧
  ∃ (x12_4 : Int),
  w_2.cell? ⟨b11, o11 + x9.toNat * 64 + 1 + 1 + 1 + 1, none⟩ = some (.int .u16 x12_4) ∧
  ∃ (x12_5 : Int),
  w_2.cell? ⟨b11, o11 + x9.toNat * 64 + 1 + 1 + 1 + 1 + 1, none⟩ = some (.int .u16 x12_5) ∧
  ∃ (x12_6 : Int),
  w_2.cell? ⟨b11, o11 + x9.toNat * 64 + 1 + 1 + 1 + 1 + 1 + 1, none⟩ = some (.int .u16 x12_6) ∧
  ∃ (x12_7 : Int),
  w_2.cell? ⟨b11, o11 + x9.toNat * 64 + 1 + 1 + 1 + 1 + 1 + 1 + 1, none⟩ = some (.int .u16 x12_7) ∧
  ∃ (x12_8 : Int),
  w_2.cell? ⟨b11, o11 + x9.toNat * 64 + 1 + 1 + 1 + 1 + 1 + 1 + 1 + 1, none⟩ = some (.int .u16 x12_8) ∧
  ∃ (x12_9 : Int),
  w_2.cell? ⟨b11, o11 + x9.toNat * 64 + 1 + 1 + 1 + 1 + 1 + 1 + 1 + 1 + 1, none⟩ = some (.int .u16 x12_9) ∧
  ∃ (x12_10 : Int),
  w_2.cell? ⟨b11, o11 + x9.toNat * 64 + 1 + 1 + 1 + 1 + 1 + 1 + 1 + 1 + 1 + 1, none⟩ = some (.int .u16 x12_10) ∧
  ∃ (x12_11 : Int),
  w_2.cell? ⟨b11, o11 + x9.toNat * 64 + 1 + 1 + 1 + 1 + 1 + 1 + 1 + 1 + 1 + 1 + 1, none⟩ = some (.int .u16 x12_11) ∧
  ∃ (x12_12 : Int),
  w_2.cell? ⟨b11, o11 + x9.toNat * 64 + 1 + 1 + 1 + 1 + 1 + 1 + 1 + 1 + 1 + 1 + 1 + 1, none⟩ = some (.int .u16 x12_12) ∧
  ∃ (x12_13 : Int),
  w_2.cell? ⟨b11, o11 + x9.toNat * 64 + 1 + 1 + 1 + 1 + 1 + 1 + 1 + 1 + 1 + 1 + 1 + 1 + 1, none⟩ = some (.int .u16 x12_13) ∧
  ∃ (x12_14 : Int),
  w_2.cell? ⟨b11, o11 + x9.toNat * 64 + 1 + 1 + 1 + 1 + 1 + 1 + 1 + 1 + 1 + 1 + 1 + 1 + 1 + 1, none⟩ = some (.int .u16 x12_14) ∧
  ∃ (x12_15 : Int),
  w_2.cell? ⟨b11, o11 + x9.toNat * 64 + 1 + 1 + 1 + 1 + 1 + 1 + 1 + 1 + 1 + 1 + 1 + 1 + 1 + 1 + 1, none⟩ = some (.int .u16 x12_15) ∧
  ∃ (x12_16 : Int),
  w_2.cell? ⟨b11, o11 + x9.toNat * 64 + 1 + 1 + 1 + 1 + 1 + 1 + 1 + 1 + 1 + 1 + 1 + 1 + 1 + 1 + 1 + 1, none⟩ = some (.int .u16 x12_16) ∧
  ∃ (x12_17 : Int),
  w_2.cell? ⟨b11, o11 + x9.toNat * 64 + 1 + 1 + 1 + 1 + 1 + 1 + 1 + 1 + 1 + 1 + 1 + 1 + 1 + 1 + 1 + 1 + 1, none⟩ = some (.int .u16 x12_17) ∧
  ∃ (x12_18 : Int),
  w_2.cell? ⟨b11, o11 + x9.toNat * 64 + 1 + 1 + 1 + 1 + 1 + 1 + 1 + 1 + 1 + 1 + 1 + 1 + 1 + 1 + 1 + 1 + 1 + 1, none⟩ = some (.int .u16 x12_18) ∧
  ∃ (x12_19 : Int),
  w_2.cell? ⟨b11, o11 + x9.toNat * 64 + 1 + 1 + 1 + 1 + 1 + 1 + 1 + 1 + 1 + 1 + 1 + 1 + 1 + 1 + 1 + 1 + 1 + 1 + 1, none⟩ = some (.int .u16 x12_19) ∧
  ∃ (x12_20 : Int),
  w_2.cell? ⟨b11, o11 + x9.toNat * 64 + 1 + 1 + 1 + 1 + 1 + 1 + 1 + 1 + 1 + 1 + 1 + 1 + 1 + 1 + 1 + 1 + 1 + 1 + 1 + 1, none⟩ = some (.int .u16 x12_20) ∧
  ∃ (x12_21 : Int),
  w_2.cell? ⟨b11, o11 + x9.toNat * 64 + 1 + 1 + 1 + 1 + 1 + 1 + 1 + 1 + 1 + 1 + 1 + 1 + 1 + 1 + 1 + 1 + 1 + 1 + 1 + 1 + 1, none⟩ = some (.int .u16 x12_21) ∧
  ∃ (x12_22 : Int),
  w_2.cell? ⟨b11, o11 + x9.toNat * 64 + 1 + 1 + 1 + 1 + 1 + 1 + 1 + 1 + 1 + 1 + 1 + 1 + 1 + 1 + 1 + 1 + 1 + 1 + 1 + 1 + 1 + 1, none⟩ = some (.int .u16 x12_22) ∧
  ∃ (x12_23 : Int),
  w_2.cell? ⟨b11, o11 + x9.toNat * 64 + 1 + 1 + 1 + 1 + 1 + 1 + 1 + 1 + 1 + 1 + 1 + 1 + 1 + 1 + 1 + 1 + 1 + 1 + 1 + 1 + 1 + 1 + 1, none⟩ = some (.int .u16 x12_23) ∧
  ∃ (x12_24 : Int),
  w_2.cell? ⟨b11, o11 + x9.toNat * 64 + 1 + 1 + 1 + 1 + 1 + 1 + 1 + 1 + 1 + 1 + 1 + 1 + 1 + 1 + 1 + 1 + 1 + 1 + 1 + 1 + 1 + 1 + 1 + 1, none⟩ = some (.int .u16 x12_24) ∧
  ∃ (x12_25 : Int),
  w_2.cell? ⟨b11, o11 + x9.toNat * 64 + 1 + 1 + 1 + 1 + 1 + 1 + 1 + 1 + 1 + 1 + 1 + 1 + 1 + 1 + 1 + 1 + 1 + 1 + 1 + 1 + 1 + 1 + 1 + 1 + 1, none⟩ = some (.int .u16 x12_25) ∧
  ∃ (x12_26 : Int),
  w_2.cell? ⟨b11, o11 + x9.toNat * 64 + 1 + 1 + 1 + 1 + 1 + 1 + 1 + 1 + 1 + 1 + 1 + 1 + 1 + 1 + 1 + 1 + 1 + 1 + 1 + 1 + 1 + 1 + 1 + 1 + 1 + 1, none⟩ = some (.int .u16 x12_26) ∧
  ∃ (x12_27 : Int),
  w_2.cell? ⟨b11, o11 + x9.toNat * 64 + 1 + 1 + 1 + 1 + 1 + 1 + 1 + 1 + 1 + 1 + 1 + 1 + 1 + 1 + 1 + 1 + 1 + 1 + 1 + 1 + 1 + 1 + 1 + 1 + 1 + 1 + 1, none⟩ = some (.int .u16 x12_27) ∧
  ∃ (x12_28 : Int),
  w_2.cell? ⟨b11, o11 + x9.toNat * 64 + 1 + 1 + 1 + 1 + 1 + 1 + 1 + 1 + 1 + 1 + 1 + 1 + 1 + 1 + 1 + 1 + 1 + 1 + 1 + 1 + 1 + 1 + 1 + 1 + 1 + 1 + 1 + 1, none⟩ = some (.int .u16 x12_28) ∧
  ∃ (x12_29 : Int),
  w_2.cell? ⟨b11, o11 + x9.toNat * 64 + 1 + 1 + 1 + 1 + 1 + 1 + 1 + 1 + 1 + 1 + 1 + 1 + 1 + 1 + 1 + 1 + 1 + 1 + 1 + 1 + 1 + 1 + 1 + 1 + 1 + 1 + 1 + 1 + 1, none⟩ = some (.int .u16 x12_29) ∧
  ∃ (x12_30 : Int),
  w_2.cell? ⟨b11, o11 + x9.toNat * 64 + 1 + 1 + 1 + 1 + 1 + 1 + 1 + 1 + 1 + 1 + 1 + 1 + 1 + 1 + 1 + 1 + 1 + 1 + 1 + 1 + 1 + 1 + 1 + 1 + 1 + 1 + 1 + 1 + 1 + 1, none⟩ = some (.int .u16 x12_30) ∧
  ∃ (x12_31 : Int),
  w_2.cell? ⟨b11, o11 + x9.toNat * 64 + 1 + 1 + 1 + 1 + 1 + 1 + 1 + 1 + 1 + 1 + 1 + 1 + 1 + 1 + 1 + 1 + 1 + 1 + 1 + 1 + 1 + 1 + 1 + 1 + 1 + 1 + 1 + 1 + 1 + 1 + 1, none⟩ = some (.int .u16 x12_31) ∧
  ∃ (x12_32 : Int),
  w_2.cell? ⟨b11, o11 + x9.toNat * 64 + 1 + 1 + 1 + 1 + 1 + 1 + 1 + 1 + 1 + 1 + 1 + 1 + 1 + 1 + 1 + 1 + 1 + 1 + 1 + 1 + 1 + 1 + 1 + 1 + 1 + 1 + 1 + 1 + 1 + 1 + 1 + 1, none⟩ = some (.int .u16 x12_32) ∧
  ∃ (x12_33 : Int),
  w_2.cell? ⟨b11, o11 + x9.toNat * 64 + 1 + 1 + 1 + 1 + 1 + 1 + 1 + 1 + 1 + 1 + 1 + 1 + 1 + 1 + 1 + 1 + 1 + 1 + 1 + 1 + 1 + 1 + 1 + 1 + 1 + 1 + 1 + 1 + 1 + 1 + 1 + 1 + 1, none⟩ = some (.int .u16 x12_33) ∧
  ∃ (x12_34 : Int),
  w_2.cell? ⟨b11, o11 + x9.toNat * 64 + 1 + 1 + 1 + 1 + 1 + 1 + 1 + 1 + 1 + 1 + 1 + 1 + 1 + 1 + 1 + 1 + 1 + 1 + 1 + 1 + 1 + 1 + 1 + 1 + 1 + 1 + 1 + 1 + 1 + 1 + 1 + 1 + 1 + 1, none⟩ = some (.int .u16 x12_34) ∧
  ∃ (x12_35 : Int),
  w_2.cell? ⟨b11, o11 + x9.toNat * 64 + 1 + 1 + 1 + 1 + 1 + 1 + 1 + 1 + 1 + 1 + 1 + 1 + 1 + 1 + 1 + 1 + 1 + 1 + 1 + 1 + 1 + 1 + 1 + 1 + 1 + 1 + 1 + 1 + 1 + 1 + 1 + 1 + 1 + 1 + 1, none⟩ = some (.int .u16 x12_35) ∧
  ∃ (x12_36 : Int),
  w_2.cell? ⟨b11, o11 + x9.toNat * 64 + 1 + 1 + 1 + 1 + 1 + 1 + 1 + 1 + 1 + 1 + 1 + 1 + 1 + 1 + 1 + 1 + 1 + 1 + 1 + 1 + 1 + 1 + 1 + 1 + 1 + 1 + 1 + 1 + 1 + 1 + 1 + 1 + 1 + 1 + 1 + 1, none⟩ = some (.int .u16 x12_36) ∧
  ∃ (x12_37 : Int),
  w_2.cell? ⟨b11, o11 + x9.toNat * 64 + 1 + 1 + 1 + 1 + 1 + 1 + 1 + 1 + 1 + 1 + 1 + 1 + 1 + 1 + 1 + 1 + 1 + 1 + 1 + 1 + 1 + 1 + 1 + 1 + 1 + 1 + 1 + 1 + 1 + 1 + 1 + 1 + 1 + 1 + 1 + 1 + 1, none⟩ = some (.int .u16 x12_37) ∧
  ∃ (x12_38 : Int),
  w_2.cell? ⟨b11, o11 + x9.toNat * 64 + 1 + 1 + 1 + 1 + 1 + 1 + 1 + 1 + 1 + 1 + 1 + 1 + 1 + 1 + 1 + 1 + 1 + 1 + 1 + 1 + 1 + 1 + 1 + 1 + 1 + 1 + 1 + 1 + 1 + 1 + 1 + 1 + 1 + 1 + 1 + 1 + 1 + 1, none⟩ = some (.int .u16 x12_38) ∧
  ∃ (x12_39 : Int),
  w_2.cell? ⟨b11, o11 + x9.toNat * 64 + 1 + 1 + 1 + 1 + 1 + 1 + 1 + 1 + 1 + 1 + 1 + 1 + 1 + 1 + 1 + 1 + 1 + 1 + 1 + 1 + 1 + 1 + 1 + 1 + 1 + 1 + 1 + 1 + 1 + 1 + 1 + 1 + 1 + 1 + 1 + 1 + 1 + 1 + 1, none⟩ = some (.int .u16 x12_39) ∧
  ∃ (x12_40 : Int),
  w_2.cell? ⟨b11, o11 + x9.toNat * 64 + 1 + 1 + 1 + 1 + 1 + 1 + 1 + 1 + 1 + 1 + 1 + 1 + 1 + 1 + 1 + 1 + 1 + 1 + 1 + 1 + 1 + 1 + 1 + 1 + 1 + 1 + 1 + 1 + 1 + 1 + 1 + 1 + 1 + 1 + 1 + 1 + 1 + 1 + 1 + 1, none⟩ = some (.int .u16 x12_40) ∧
  ∃ (x12_41 : Int),
  w_2.cell? ⟨b11, o11 + x9.toNat * 64 + 1 + 1 + 1 + 1 + 1 + 1 + 1 + 1 + 1 + 1 + 1 + 1 + 1 + 1 + 1 + 1 + 1 + 1 + 1 + 1 + 1 + 1 + 1 + 1 + 1 + 1 + 1 + 1 + 1 + 1 + 1 + 1 + 1 + 1 + 1 + 1 + 1 + 1 + 1 + 1 + 1, none⟩ = some (.int .u16 x12_41) ∧
  ∃ (x12_42 : Int),
  w_2.cell? ⟨b11, o11 + x9.toNat * 64 + 1 + 1 + 1 + 1 + 1 + 1 + 1 + 1 + 1 + 1 + 1 + 1 + 1 + 1 + 1 + 1 + 1 + 1 + 1 + 1 + 1 + 1 + 1 + 1 + 1 + 1 + 1 + 1 + 1 + 1 + 1 + 1 + 1 + 1 + 1 + 1 + 1 + 1 + 1 + 1 + 1 + 1, none⟩ = some (.int .u16 x12_42) ∧
  ∃ (x12_43 : Int),
  w_2.cell? ⟨b11, o11 + x9.toNat * 64 + 1 + 1 + 1 + 1 + 1 + 1 + 1 + 1 + 1 + 1 + 1 + 1 + 1 + 1 + 1 + 1 + 1 + 1 + 1 + 1 + 1 + 1 + 1 + 1 + 1 + 1 + 1 + 1 + 1 + 1 + 1 + 1 + 1 + 1 + 1 + 1 + 1 + 1 + 1 + 1 + 1 + 1 + 1, none⟩ = some (.int .u16 x12_43) ∧
  ∃ (x12_44 : Int),
  w_2.cell? ⟨b11, o11 + x9.toNat * 64 + 1 + 1 + 1 + 1 + 1 + 1 + 1 + 1 + 1 + 1 + 1 + 1 + 1 + 1 + 1 + 1 + 1 + 1 + 1 + 1 + 1 + 1 + 1 + 1 + 1 + 1 + 1 + 1 + 1 + 1 + 1 + 1 + 1 + 1 + 1 + 1 + 1 + 1 + 1 + 1 + 1 + 1 + 1 + 1, none⟩ = some (.int .u16 x12_44) ∧
  ∃ (x12_45 : Int),
  w_2.cell? ⟨b11, o11 + x9.toNat * 64 + 1 + 1 + 1 + 1 + 1 + 1 + 1 + 1 + 1 + 1 + 1 + 1 + 1 + 1 + 1 + 1 + 1 + 1 + 1 + 1 + 1 + 1 + 1 + 1 + 1 + 1 + 1 + 1 + 1 + 1 + 1 + 1 + 1 + 1 + 1 + 1 + 1 + 1 + 1 + 1 + 1 + 1 + 1 + 1 + 1, none⟩ = some (.int .u16 x12_45) ∧
  ∃ (x12_46 : Int),
  w_2.cell? ⟨b11, o11 + x9.toNat * 64 + 1 + 1 + 1 + 1 + 1 + 1 + 1 + 1 + 1 + 1 + 1 + 1 + 1 + 1 + 1 + 1 + 1 + 1 + 1 + 1 + 1 + 1 + 1 + 1 + 1 + 1 + 1 + 1 + 1 + 1 + 1 + 1 + 1 + 1 + 1 + 1 + 1 + 1 + 1 + 1 + 1 + 1 + 1 + 1 + 1 + 1, none⟩ = some (.int .u16 x12_46) ∧
  ∃ (x12_47 : Int),
  w_2.cell? ⟨b11, o11 + x9.toNat * 64 + 1 + 1 + 1 + 1 + 1 + 1 + 1 + 1 + 1 + 1 + 1 + 1 + 1 + 1 + 1 + 1 + 1 + 1 + 1 + 1 + 1 + 1 + 1 + 1 + 1 + 1 + 1 + 1 + 1 + 1 + 1 + 1 + 1 + 1 + 1 + 1 + 1 + 1 + 1 + 1 + 1 + 1 + 1 + 1 + 1 + 1 + 1, none⟩ = some (.int .u16 x12_47) ∧
  ∃ (x12_48 : Int),
  w_2.cell? ⟨b11, o11 + x9.toNat * 64 + 1 + 1 + 1 + 1 + 1 + 1 + 1 + 1 + 1 + 1 + 1 + 1 + 1 + 1 + 1 + 1 + 1 + 1 + 1 + 1 + 1 + 1 + 1 + 1 + 1 + 1 + 1 + 1 + 1 + 1 + 1 + 1 + 1 + 1 + 1 + 1 + 1 + 1 + 1 + 1 + 1 + 1 + 1 + 1 + 1 + 1 + 1 + 1, none⟩ = some (.int .u16 x12_48) ∧
  ∃ (x12_49 : Int),
  w_2.cell? ⟨b11, o11 + x9.toNat * 64 + 1 + 1 + 1 + 1 + 1 + 1 + 1 + 1 + 1 + 1 + 1 + 1 + 1 + 1 + 1 + 1 + 1 + 1 + 1 + 1 + 1 + 1 + 1 + 1 + 1 + 1 + 1 + 1 + 1 + 1 + 1 + 1 + 1 + 1 + 1 + 1 + 1 + 1 + 1 + 1 + 1 + 1 + 1 + 1 + 1 + 1 + 1 + 1 + 1, none⟩ = some (.int .u16 x12_49) ∧
  ∃ (x12_50 : Int),
  w_2.cell? ⟨b11, o11 + x9.toNat * 64 + 1 + 1 + 1 + 1 + 1 + 1 + 1 + 1 + 1 + 1 + 1 + 1 + 1 + 1 + 1 + 1 + 1 + 1 + 1 + 1 + 1 + 1 + 1 + 1 + 1 + 1 + 1 + 1 + 1 + 1 + 1 + 1 + 1 + 1 + 1 + 1 + 1 + 1 + 1 + 1 + 1 + 1 + 1 + 1 + 1 + 1 + 1 + 1 + 1 + 1, none⟩ = some (.int .u16 x12_50) ∧
  ∃ (x12_51 : Int),
  w_2.cell? ⟨b11, o11 + x9.toNat * 64 + 1 + 1 + 1 + 1 + 1 + 1 + 1 + 1 + 1 + 1 + 1 + 1 + 1 + 1 + 1 + 1 + 1 + 1 + 1 + 1 + 1 + 1 + 1 + 1 + 1 + 1 + 1 + 1 + 1 + 1 + 1 + 1 + 1 + 1 + 1 + 1 + 1 + 1 + 1 + 1 + 1 + 1 + 1 + 1 + 1 + 1 + 1 + 1 + 1 + 1 + 1, none⟩ = some (.int .u16 x12_51) ∧
  ∃ (x12_52 : Int),
  w_2.cell? ⟨b11, o11 + x9.toNat * 64 + 1 + 1 + 1 + 1 + 1 + 1 + 1 + 1 + 1 + 1 + 1 + 1 + 1 + 1 + 1 + 1 + 1 + 1 + 1 + 1 + 1 + 1 + 1 + 1 + 1 + 1 + 1 + 1 + 1 + 1 + 1 + 1 + 1 + 1 + 1 + 1 + 1 + 1 + 1 + 1 + 1 + 1 + 1 + 1 + 1 + 1 + 1 + 1 + 1 + 1 + 1 + 1, none⟩ = some (.int .u16 x12_52) ∧
  ∃ (x12_53 : Int),
  w_2.cell? ⟨b11, o11 + x9.toNat * 64 + 1 + 1 + 1 + 1 + 1 + 1 + 1 + 1 + 1 + 1 + 1 + 1 + 1 + 1 + 1 + 1 + 1 + 1 + 1 + 1 + 1 + 1 + 1 + 1 + 1 + 1 + 1 + 1 + 1 + 1 + 1 + 1 + 1 + 1 + 1 + 1 + 1 + 1 + 1 + 1 + 1 + 1 + 1 + 1 + 1 + 1 + 1 + 1 + 1 + 1 + 1 + 1 + 1, none⟩ = some (.int .u16 x12_53) ∧
  ∃ (x12_54 : Int),
  w_2.cell? ⟨b11, o11 + x9.toNat * 64 + 1 + 1 + 1 + 1 + 1 + 1 + 1 + 1 + 1 + 1 + 1 + 1 + 1 + 1 + 1 + 1 + 1 + 1 + 1 + 1 + 1 + 1 + 1 + 1 + 1 + 1 + 1 + 1 + 1 + 1 + 1 + 1 + 1 + 1 + 1 + 1 + 1 + 1 + 1 + 1 + 1 + 1 + 1 + 1 + 1 + 1 + 1 + 1 + 1 + 1 + 1 + 1 + 1 + 1, none⟩ = some (.int .u16 x12_54) ∧
  ∃ (x12_55 : Int),
  w_2.cell? ⟨b11, o11 + x9.toNat * 64 + 1 + 1 + 1 + 1 + 1 + 1 + 1 + 1 + 1 + 1 + 1 + 1 + 1 + 1 + 1 + 1 + 1 + 1 + 1 + 1 + 1 + 1 + 1 + 1 + 1 + 1 + 1 + 1 + 1 + 1 + 1 + 1 + 1 + 1 + 1 + 1 + 1 + 1 + 1 + 1 + 1 + 1 + 1 + 1 + 1 + 1 + 1 + 1 + 1 + 1 + 1 + 1 + 1 + 1 + 1, none⟩ = some (.int .u16 x12_55) ∧
  ∃ (x12_56 : Int),
  w_2.cell? ⟨b11, o11 + x9.toNat * 64 + 1 + 1 + 1 + 1 + 1 + 1 + 1 + 1 + 1 + 1 + 1 + 1 + 1 + 1 + 1 + 1 + 1 + 1 + 1 + 1 + 1 + 1 + 1 + 1 + 1 + 1 + 1 + 1 + 1 + 1 + 1 + 1 + 1 + 1 + 1 + 1 + 1 + 1 + 1 + 1 + 1 + 1 + 1 + 1 + 1 + 1 + 1 + 1 + 1 + 1 + 1 + 1 + 1 + 1 + 1 + 1, none⟩ = some (.int .u16 x12_56) ∧
  ∃ (x12_57 : Int),
  w_2.cell? ⟨b11, o11 + x9.toNat * 64 + 1 + 1 + 1 + 1 + 1 + 1 + 1 + 1 + 1 + 1 + 1 + 1 + 1 + 1 + 1 + 1 + 1 + 1 + 1 + 1 + 1 + 1 + 1 + 1 + 1 + 1 + 1 + 1 + 1 + 1 + 1 + 1 + 1 + 1 + 1 + 1 + 1 + 1 + 1 + 1 + 1 + 1 + 1 + 1 + 1 + 1 + 1 + 1 + 1 + 1 + 1 + 1 + 1 + 1 + 1 + 1 + 1, none⟩ = some (.int .u16 x12_57) ∧
  ∃ (x12_58 : Int),
  w_2.cell? ⟨b11, o11 + x9.toNat * 64 + 1 + 1 + 1 + 1 + 1 + 1 + 1 + 1 + 1 + 1 + 1 + 1 + 1 + 1 + 1 + 1 + 1 + 1 + 1 + 1 + 1 + 1 + 1 + 1 + 1 + 1 + 1 + 1 + 1 + 1 + 1 + 1 + 1 + 1 + 1 + 1 + 1 + 1 + 1 + 1 + 1 + 1 + 1 + 1 + 1 + 1 + 1 + 1 + 1 + 1 + 1 + 1 + 1 + 1 + 1 + 1 + 1 + 1, none⟩ = some (.int .u16 x12_58) ∧
  ∃ (x12_59 : Int),
  w_2.cell? ⟨b11, o11 + x9.toNat * 64 + 1 + 1 + 1 + 1 + 1 + 1 + 1 + 1 + 1 + 1 + 1 + 1 + 1 + 1 + 1 + 1 + 1 + 1 + 1 + 1 + 1 + 1 + 1 + 1 + 1 + 1 + 1 + 1 + 1 + 1 + 1 + 1 + 1 + 1 + 1 + 1 + 1 + 1 + 1 + 1 + 1 + 1 + 1 + 1 + 1 + 1 + 1 + 1 + 1 + 1 + 1 + 1 + 1 + 1 + 1 + 1 + 1 + 1 + 1, none⟩ = some (.int .u16 x12_59) ∧
  ∃ (x12_60 : Int),
  w_2.cell? ⟨b11, o11 + x9.toNat * 64 + 1 + 1 + 1 + 1 + 1 + 1 + 1 + 1 + 1 + 1 + 1 + 1 + 1 + 1 + 1 + 1 + 1 + 1 + 1 + 1 + 1 + 1 + 1 + 1 + 1 + 1 + 1 + 1 + 1 + 1 + 1 + 1 + 1 + 1 + 1 + 1 + 1 + 1 + 1 + 1 + 1 + 1 + 1 + 1 + 1 + 1 + 1 + 1 + 1 + 1 + 1 + 1 + 1 + 1 + 1 + 1 + 1 + 1 + 1 + 1, none⟩ = some (.int .u16 x12_60) ∧
  ∃ (x12_61 : Int),
  w_2.cell? ⟨b11, o11 + x9.toNat * 64 + 1 + 1 + 1 + 1 + 1 + 1 + 1 + 1 + 1 + 1 + 1 + 1 + 1 + 1 + 1 + 1 + 1 + 1 + 1 + 1 + 1 + 1 + 1 + 1 + 1 + 1 + 1 + 1 + 1 + 1 + 1 + 1 + 1 + 1 + 1 + 1 + 1 + 1 + 1 + 1 + 1 + 1 + 1 + 1 + 1 + 1 + 1 + 1 + 1 + 1 + 1 + 1 + 1 + 1 + 1 + 1 + 1 + 1 + 1 + 1 + 1, none⟩ = some (.int .u16 x12_61) ∧
  ∃ (x12_62 : Int),
  w_2.cell? ⟨b11, o11 + x9.toNat * 64 + 1 + 1 + 1 + 1 + 1 + 1 + 1 + 1 + 1 + 1 + 1 + 1 + 1 + 1 + 1 + 1 + 1 + 1 + 1 + 1 + 1 + 1 + 1 + 1 + 1 + 1 + 1 + 1 + 1 + 1 + 1 + 1 + 1 + 1 + 1 + 1 + 1 + 1 + 1 + 1 + 1 + 1 + 1 + 1 + 1 + 1 + 1 + 1 + 1 + 1 + 1 + 1 + 1 + 1 + 1 + 1 + 1 + 1 + 1 + 1 + 1 + 1, none⟩ = some (.int .u16 x12_62) ∧
  ∃ (x12_63 : Int),
  w_2.cell? ⟨b11, o11 + x9.toNat * 64 + 1 + 1 + 1 + 1 + 1 + 1 + 1 + 1 + 1 + 1 + 1 + 1 + 1 + 1 + 1 + 1 + 1 + 1 + 1 + 1 + 1 + 1 + 1 + 1 + 1 + 1 + 1 + 1 + 1 + 1 + 1 + 1 + 1 + 1 + 1 + 1 + 1 + 1 + 1 + 1 + 1 + 1 + 1 + 1 + 1 + 1 + 1 + 1 + 1 + 1 + 1 + 1 + 1 + 1 + 1 + 1 + 1 + 1 + 1 + 1 + 1 + 1 + 1, none⟩ = some (.int .u16 x12_63) ∧
  let w_3 : World := World.alloc w_2 (.cells #[.int .u16 0, .int .u16 0, .int .u16 0, .int .u16 0, .int .u16 0, .int .u16 0, .int .u16 0, .int .u16 0, .int .u16 0, .int .u16 0, .int .u16 0, .int .u16 0, .int .u16 0, .int .u16 0, .int .u16 0, .int .u16 0, .int .u16 0, .int .u16 0, .int .u16 0, .int .u16 0, .int .u16 0, .int .u16 0, .int .u16 0, .int .u16 0, .int .u16 0, .int .u16 0, .int .u16 0, .int .u16 0, .int .u16 0, .int .u16 0, .int .u16 0, .int .u16 0, .int .u16 0, .int .u16 0, .int .u16 0, .int .u16 0, .int .u16 0, .int .u16 0, .int .u16 0, .int .u16 0, .int .u16 0, .int .u16 0, .int .u16 0, .int .u16 0, .int .u16 0, .int .u16 0, .int .u16 0, .int .u16 0, .int .u16 0, .int .u16 0, .int .u16 0, .int .u16 0, .int .u16 0, .int .u16 0, .int .u16 0, .int .u16 0, .int .u16 0, .int .u16 0, .int .u16 0, .int .u16 0, .int .u16 0, .int .u16 0, .int .u16 0, .int .u16 0] 89);
  canStore w_3 w_2.heap.size 0 64 ∧
  let w_4 : World := setCs w_3 w_2.heap.size 0 [.int .u16 x12_0, .int .u16 x12_1, .int .u16 x12_2, .int .u16 x12_3, .int .u16 x12_4, .int .u16 x12_5, .int .u16 x12_6, .int .u16 x12_7, .int .u16 x12_8, .int .u16 x12_9, .int .u16 x12_10, .int .u16 x12_11, .int .u16 x12_12, .int .u16 x12_13, .int .u16 x12_14, .int .u16 x12_15, .int .u16 x12_16, .int .u16 x12_17, .int .u16 x12_18, .int .u16 x12_19, .int .u16 x12_20, .int .u16 x12_21, .int .u16 x12_22, .int .u16 x12_23, .int .u16 x12_24, .int .u16 x12_25, .int .u16 x12_26, .int .u16 x12_27, .int .u16 x12_28, .int .u16 x12_29, .int .u16 x12_30, .int .u16 x12_31, .int .u16 x12_32, .int .u16 x12_33, .int .u16 x12_34, .int .u16 x12_35, .int .u16 x12_36, .int .u16 x12_37, .int .u16 x12_38, .int .u16 x12_39, .int .u16 x12_40, .int .u16 x12_41, .int .u16 x12_42, .int .u16 x12_43, .int .u16 x12_44, .int .u16 x12_45, .int .u16 x12_46, .int .u16 x12_47, .int .u16 x12_48, .int .u16 x12_49, .int .u16 x12_50, .int .u16 x12_51, .int .u16 x12_52, .int .u16 x12_53, .int .u16 x12_54, .int .u16 x12_55, .int .u16 x12_56, .int .u16 x12_57, .int .u16 x12_58, .int .u16 x12_59, .int .u16 x12_60, .int .u16 x12_61, .int .u16 x12_62, .int .u16 x12_63];
  ∃ (x14_0 : Int),
  w_4.cell? ⟨w_2.heap.size, 0, none⟩ = some (.int .u16 x14_0) ∧
  ∃ (x14_1 : Int),
  w_4.cell? ⟨w_2.heap.size, 1, none⟩ = some (.int .u16 x14_1) ∧
  ∃ (x14_2 : Int),
  w_4.cell? ⟨w_2.heap.size, 2, none⟩ = some (.int .u16 x14_2) ∧
  ∃ (x14_3 : Int),
  w_4.cell? ⟨w_2.heap.size, 3, none⟩ = some (.int .u16 x14_3) ∧
  ∃ (x14_4 : Int),
  w_4.cell? ⟨w_2.heap.size, 4, none⟩ = some (.int .u16 x14_4) ∧
  ∃ (x14_5 : Int),
  w_4.cell? ⟨w_2.heap.size, 5, none⟩ = some (.int .u16 x14_5) ∧
  ∃ (x14_6 : Int),
  w_4.cell? ⟨w_2.heap.size, 6, none⟩ = some (.int .u16 x14_6) ∧
  ∃ (x14_7 : Int),
  w_4.cell? ⟨w_2.heap.size, 7, none⟩ = some (.int .u16 x14_7) ∧
  ∃ (x14_8 : Int),
  w_4.cell? ⟨w_2.heap.size, 8, none⟩ = some (.int .u16 x14_8) ∧
  ∃ (x14_9 : Int),
  w_4.cell? ⟨w_2.heap.size, 9, none⟩ = some (.int .u16 x14_9) ∧
  ∃ (x14_10 : Int),
  w_4.cell? ⟨w_2.heap.size, 10, none⟩ = some (.int .u16 x14_10) ∧
  ∃ (x14_11 : Int),
  w_4.cell? ⟨w_2.heap.size, 11, none⟩ = some (.int .u16 x14_11) ∧
  ∃ (x14_12 : Int),
  w_4.cell? ⟨w_2.heap.size, 12, none⟩ = some (.int .u16 x14_12) ∧
  ∃ (x14_13 : Int),
  w_4.cell? ⟨w_2.heap.size, 13, none⟩ = some (.int .u16 x14_13) ∧
  ∃ (x14_14 : Int),
  w_4.cell? ⟨w_2.heap.size, 14, none⟩ = some (.int .u16 x14_14) ∧
  ∃ (x14_15 : Int),
  w_4.cell? ⟨w_2.heap.size, 15, none⟩ = some (.int .u16 x14_15) ∧
  ∃ (x14_16 : Int),
  w_4.cell? ⟨w_2.heap.size, 16, none⟩ = some (.int .u16 x14_16) ∧
  ∃ (x14_17 : Int),
  w_4.cell? ⟨w_2.heap.size, 17, none⟩ = some (.int .u16 x14_17) ∧
  ∃ (x14_18 : Int),
  w_4.cell? ⟨w_2.heap.size, 18, none⟩ = some (.int .u16 x14_18) ∧
  ∃ (x14_19 : Int),
  w_4.cell? ⟨w_2.heap.size, 19, none⟩ = some (.int .u16 x14_19) ∧
  ∃ (x14_20 : Int),
  w_4.cell? ⟨w_2.heap.size, 20, none⟩ = some (.int .u16 x14_20) ∧
  ∃ (x14_21 : Int),
  w_4.cell? ⟨w_2.heap.size, 21, none⟩ = some (.int .u16 x14_21) ∧
  ∃ (x14_22 : Int),
  w_4.cell? ⟨w_2.heap.size, 22, none⟩ = some (.int .u16 x14_22) ∧
  ∃ (x14_23 : Int),
  w_4.cell? ⟨w_2.heap.size, 23, none⟩ = some (.int .u16 x14_23) ∧
  ∃ (x14_24 : Int),
  w_4.cell? ⟨w_2.heap.size, 24, none⟩ = some (.int .u16 x14_24) ∧
  ∃ (x14_25 : Int),
  w_4.cell? ⟨w_2.heap.size, 25, none⟩ = some (.int .u16 x14_25) ∧
  ∃ (x14_26 : Int),
  w_4.cell? ⟨w_2.heap.size, 26, none⟩ = some (.int .u16 x14_26) ∧
  ∃ (x14_27 : Int),
  w_4.cell? ⟨w_2.heap.size, 27, none⟩ = some (.int .u16 x14_27) ∧
  ∃ (x14_28 : Int),
  w_4.cell? ⟨w_2.heap.size, 28, none⟩ = some (.int .u16 x14_28) ∧
  ∃ (x14_29 : Int),
  w_4.cell? ⟨w_2.heap.size, 29, none⟩ = some (.int .u16 x14_29) ∧
  ∃ (x14_30 : Int),
  w_4.cell? ⟨w_2.heap.size, 30, none⟩ = some (.int .u16 x14_30) ∧
  ∃ (x14_31 : Int),
  w_4.cell? ⟨w_2.heap.size, 31, none⟩ = some (.int .u16 x14_31) ∧
  ∃ (x14_32 : Int),
  w_4.cell? ⟨w_2.heap.size, 32, none⟩ = some (.int .u16 x14_32) ∧
  ∃ (x14_33 : Int),
  w_4.cell? ⟨w_2.heap.size, 33, none⟩ = some (.int .u16 x14_33) ∧
  ∃ (x14_34 : Int),
  w_4.cell? ⟨w_2.heap.size, 34, none⟩ = some (.int .u16 x14_34) ∧
  ∃ (x14_35 : Int),
  w_4.cell? ⟨w_2.heap.size, 35, none⟩ = some (.int .u16 x14_35) ∧
  ∃ (x14_36 : Int),
  w_4.cell? ⟨w_2.heap.size, 36, none⟩ = some (.int .u16 x14_36) ∧
  ∃ (x14_37 : Int),
  w_4.cell? ⟨w_2.heap.size, 37, none⟩ = some (.int .u16 x14_37) ∧
  ∃ (x14_38 : Int),
  w_4.cell? ⟨w_2.heap.size, 38, none⟩ = some (.int .u16 x14_38) ∧
  ∃ (x14_39 : Int),
  w_4.cell? ⟨w_2.heap.size, 39, none⟩ = some (.int .u16 x14_39) ∧
  ∃ (x14_40 : Int),
  w_4.cell? ⟨w_2.heap.size, 40, none⟩ = some (.int .u16 x14_40) ∧
  ∃ (x14_41 : Int),
  w_4.cell? ⟨w_2.heap.size, 41, none⟩ = some (.int .u16 x14_41) ∧
  ∃ (x14_42 : Int),
  w_4.cell? ⟨w_2.heap.size, 42, none⟩ = some (.int .u16 x14_42) ∧
  ∃ (x14_43 : Int),
  w_4.cell? ⟨w_2.heap.size, 43, none⟩ = some (.int .u16 x14_43) ∧
  ∃ (x14_44 : Int),
  w_4.cell? ⟨w_2.heap.size, 44, none⟩ = some (.int .u16 x14_44) ∧
  ∃ (x14_45 : Int),
  w_4.cell? ⟨w_2.heap.size, 45, none⟩ = some (.int .u16 x14_45) ∧
  ∃ (x14_46 : Int),
  w_4.cell? ⟨w_2.heap.size, 46, none⟩ = some (.int .u16 x14_46) ∧
  ∃ (x14_47 : Int),
  w_4.cell? ⟨w_2.heap.size, 47, none⟩ = some (.int .u16 x14_47) ∧
  ∃ (x14_48 : Int),
  w_4.cell? ⟨w_2.heap.size, 48, none⟩ = some (.int .u16 x14_48) ∧
  ∃ (x14_49 : Int),
  w_4.cell? ⟨w_2.heap.size, 49, none⟩ = some (.int .u16 x14_49) ∧
  ∃ (x14_50 : Int),
  w_4.cell? ⟨w_2.heap.size, 50, none⟩ = some (.int .u16 x14_50) ∧
  ∃ (x14_51 : Int),
  w_4.cell? ⟨w_2.heap.size, 51, none⟩ = some (.int .u16 x14_51) ∧
  ∃ (x14_52 : Int),
  w_4.cell? ⟨w_2.heap.size, 52, none⟩ = some (.int .u16 x14_52) ∧
  ∃ (x14_53 : Int),
  w_4.cell? ⟨w_2.heap.size, 53, none⟩ = some (.int .u16 x14_53) ∧
  ∃ (x14_54 : Int),
  w_4.cell? ⟨w_2.heap.size, 54, none⟩ = some (.int .u16 x14_54) ∧
  ∃ (x14_55 : Int),
  w_4.cell? ⟨w_2.heap.size, 55, none⟩ = some (.int .u16 x14_55) ∧
  ∃ (x14_56 : Int),
  w_4.cell? ⟨w_2.heap.size, 56, none⟩ = some (.int .u16 x14_56) ∧
  ∃ (x14_57 : Int),
  w_4.cell? ⟨w_2.heap.size, 57, none⟩ = some (.int .u16 x14_57) ∧
  ∃ (x14_58 : Int),
  w_4.cell? ⟨w_2.heap.size, 58, none⟩ = some (.int .u16 x14_58) ∧
  ∃ (x14_59 : Int),
  w_4.cell? ⟨w_2.heap.size, 59, none⟩ = some (.int .u16 x14_59) ∧
  ∃ (x14_60 : Int),
  w_4.cell? ⟨w_2.heap.size, 60, none⟩ = some (.int .u16 x14_60) ∧
  ∃ (x14_61 : Int),
  w_4.cell? ⟨w_2.heap.size, 61, none⟩ = some (.int .u16 x14_61) ∧
  ∃ (x14_62 : Int),
  w_4.cell? ⟨w_2.heap.size, 62, none⟩ = some (.int .u16 x14_62) ∧
  ∃ (x14_63 : Int),
  w_4.cell? ⟨w_2.heap.size, 63, none⟩ = some (.int .u16 x14_63) ∧
  (∃ (x15 : Int),
  ∃ w_5 : World, (Instr.lookup 111 (.map (some w.heap.size)) (.agg #[.int .u16 x14_0, .int .u16 x14_1, .int .u16 x14_2, .int .u16 x14_3, .int .u16 x14_4, .int .u16 x14_5, .int .u16 x14_6, .int .u16 x14_7, .int .u16 x14_8, .int .u16 x14_9, .int .u16 x14_10, .int .u16 x14_11, .int .u16 x14_12, .int .u16 x14_13, .int .u16 x14_14, .int .u16 x14_15, .int .u16 x14_16, .int .u16 x14_17, .int .u16 x14_18, .int .u16 x14_19, .int .u16 x14_20, .int .u16 x14_21, .int .u16 x14_22, .int .u16 x14_23, .int .u16 x14_24, .int .u16 x14_25, .int .u16 x14_26, .int .u16 x14_27, .int .u16 x14_28, .int .u16 x14_29, .int .u16 x14_30, .int .u16 x14_31, .int .u16 x14_32, .int .u16 x14_33, .int .u16 x14_34, .int .u16 x14_35, .int .u16 x14_36, .int .u16 x14_37, .int .u16 x14_38, .int .u16 x14_39, .int .u16 x14_40, .int .u16 x14_41, .int .u16 x14_42, .int .u16 x14_43, .int .u16 x14_44, .int .u16 x14_45, .int .u16 x14_46, .int .u16 x14_47, .int .u16 x14_48, .int .u16 x14_49, .int .u16 x14_50, .int .u16 x14_51, .int .u16 x14_52, .int .u16 x14_53, .int .u16 x14_54, .int .u16 x14_55, .int .u16 x14_56, .int .u16 x14_57, .int .u16 x14_58, .int .u16 x14_59, .int .u16 x14_60, .int .u16 x14_61, .int .u16 x14_62, .int .u16 x14_63]) false).run Tryd.prog w_4.drew = .ok (.int .i64 x15) w_5 ∧
  let i16 : Int := IntKind.i64.wrap (x15 + 1);
  ∃ (x17_0 : Int),
  ∃ (t17 : Int) (w_6 : World), (Instr.mapEntry 111 (.map (some w.heap.size)) (.agg #[.int .u16 x14_0, .int .u16 x14_1, .int .u16 x14_2, .int .u16 x14_3, .int .u16 x14_4, .int .u16 x14_5, .int .u16 x14_6, .int .u16 x14_7, .int .u16 x14_8, .int .u16 x14_9, .int .u16 x14_10, .int .u16 x14_11, .int .u16 x14_12, .int .u16 x14_13, .int .u16 x14_14, .int .u16 x14_15, .int .u16 x14_16, .int .u16 x14_17, .int .u16 x14_18, .int .u16 x14_19, .int .u16 x14_20, .int .u16 x14_21, .int .u16 x14_22, .int .u16 x14_23, .int .u16 x14_24, .int .u16 x14_25, .int .u16 x14_26, .int .u16 x14_27, .int .u16 x14_28, .int .u16 x14_29, .int .u16 x14_30, .int .u16 x14_31, .int .u16 x14_32, .int .u16 x14_33, .int .u16 x14_34, .int .u16 x14_35, .int .u16 x14_36, .int .u16 x14_37, .int .u16 x14_38, .int .u16 x14_39, .int .u16 x14_40, .int .u16 x14_41, .int .u16 x14_42, .int .u16 x14_43, .int .u16 x14_44, .int .u16 x14_45, .int .u16 x14_46, .int .u16 x14_47, .int .u16 x14_48, .int .u16 x14_49, .int .u16 x14_50, .int .u16 x14_51, .int .u16 x14_52, .int .u16 x14_53, .int .u16 x14_54, .int .u16 x14_55, .int .u16 x14_56, .int .u16 x14_57, .int .u16 x14_58, .int .u16 x14_59, .int .u16 x14_60, .int .u16 x14_61, .int .u16 x14_62, .int .u16 x14_63])).run Tryd.prog w_5 = .ok (.tuple #[.int .i64 x17_0, .int .i64 t17]) w_6 ∧
  ∃ w_7 : World, (Instr.entryStore 111 (.map (some w.heap.size)) (.int .i64 t17) (.int .i64 i16)).run Tryd.prog w_6 = .ok () w_7 ∧
  let i19 : Int := IntKind.i64.wrap (x9 + 1);
  ([.slice Aa0 na0 ca0, .map (some w.heap.size), .slice Aa0 na0 ca0, .int .i64 (na0 : Int)] : List Value) = ([.slice Aa0 na0 ca0, .map (some w.heap.size), .slice Aa0 na0 ca0, .int .i64 (na0 : Int)] : List Value) ∧ ∃ m, m < r ∧ I i19 w_7 m) ∧
  (∃ (x17_0_1 : Int),
  ∃ (t17_1 : Int) (w_8 : World), (Instr.mapEntry 111 (.map (some w.heap.size)) (.agg #[.int .u16 x14_0, .int .u16 x14_1, .int .u16 x14_2, .int .u16 x14_3, .int .u16 x14_4, .int .u16 x14_5, .int .u16 x14_6, .int .u16 x14_7, .int .u16 x14_8, .int .u16 x14_9, .int .u16 x14_10, .int .u16 x14_11, .int .u16 x14_12, .int .u16 x14_13, .int .u16 x14_14, .int .u16 x14_15, .int .u16 x14_16, .int .u16 x14_17, .int .u16 x14_18, .int .u16 x14_19, .int .u16 x14_20, .int .u16 x14_21, .int .u16 x14_22, .int .u16 x14_23, .int .u16 x14_24, .int .u16 x14_25, .int .u16 x14_26, .int .u16 x14_27, .int .u16 x14_28, .int .u16 x14_29, .int .u16 x14_30, .int .u16 x14_31, .int .u16 x14_32, .int .u16 x14_33, .int .u16 x14_34, .int .u16 x14_35, .int .u16 x14_36, .int .u16 x14_37, .int .u16 x14_38, .int .u16 x14_39, .int .u16 x14_40, .int .u16 x14_41, .int .u16 x14_42, .int .u16 x14_43, .int .u16 x14_44, .int .u16 x14_45, .int .u16 x14_46, .int .u16 x14_47, .int .u16 x14_48, .int .u16 x14_49, .int .u16 x14_50, .int .u16 x14_51, .int .u16 x14_52, .int .u16 x14_53, .int .u16 x14_54, .int .u16 x14_55, .int .u16 x14_56, .int .u16 x14_57, .int .u16 x14_58, .int .u16 x14_59, .int .u16 x14_60, .int .u16 x14_61, .int .u16 x14_62, .int .u16 x14_63])).run Tryd.prog w_4.drew = .ok (.tuple #[.int .i64 x17_0_1, .int .i64 t17_1]) w_8 ∧
  ∃ (x15_1 : Int),
  ∃ w_9 : World, (Instr.lookup 111 (.map (some w.heap.size)) (.agg #[.int .u16 x14_0, .int .u16 x14_1, .int .u16 x14_2, .int .u16 x14_3, .int .u16 x14_4, .int .u16 x14_5, .int .u16 x14_6, .int .u16 x14_7, .int .u16 x14_8, .int .u16 x14_9, .int .u16 x14_10, .int .u16 x14_11, .int .u16 x14_12, .int .u16 x14_13, .int .u16 x14_14, .int .u16 x14_15, .int .u16 x14_16, .int .u16 x14_17, .int .u16 x14_18, .int .u16 x14_19, .int .u16 x14_20, .int .u16 x14_21, .int .u16 x14_22, .int .u16 x14_23, .int .u16 x14_24, .int .u16 x14_25, .int .u16 x14_26, .int .u16 x14_27, .int .u16 x14_28, .int .u16 x14_29, .int .u16 x14_30, .int .u16 x14_31, .int .u16 x14_32, .int .u16 x14_33, .int .u16 x14_34, .int .u16 x14_35, .int .u16 x14_36, .int .u16 x14_37, .int .u16 x14_38, .int .u16 x14_39, .int .u16 x14_40, .int .u16 x14_41, .int .u16 x14_42, .int .u16 x14_43, .int .u16 x14_44, .int .u16 x14_45, .int .u16 x14_46, .int .u16 x14_47, .int .u16 x14_48, .int .u16 x14_49, .int .u16 x14_50, .int .u16 x14_51, .int .u16 x14_52, .int .u16 x14_53, .int .u16 x14_54, .int .u16 x14_55, .int .u16 x14_56, .int .u16 x14_57, .int .u16 x14_58, .int .u16 x14_59, .int .u16 x14_60, .int .u16 x14_61, .int .u16 x14_62, .int .u16 x14_63]) false).run Tryd.prog w_8 = .ok (.int .i64 x15_1) w_9 ∧
  let i16_1 : Int := IntKind.i64.wrap (x15_1 + 1);
  ∃ w_10 : World, (Instr.entryStore 111 (.map (some w.heap.size)) (.int .i64 t17_1) (.int .i64 i16_1)).run Tryd.prog w_9 = .ok () w_10 ∧
  let i19_1 : Int := IntKind.i64.wrap (x9 + 1);
  ([.slice Aa0 na0 ca0, .map (some w.heap.size), .slice Aa0 na0 ca0, .int .i64 (na0 : Int)] : List Value) = ([.slice Aa0 na0 ca0, .map (some w.heap.size), .slice Aa0 na0 ca0, .int .i64 (na0 : Int)] : List Value) ∧ ∃ m, m < r ∧ I i19_1 w_10 m) ∧ True) (
  ∃ (x21 : Int),
  ∃ w_11 : World, (Builtin.len_ #[111] 3 #[.map (some w.heap.size)]).run Tryd.prog w_2 = .ok (.int .i64 x21) w_11 ∧
  R (.bool ((x21 : Int) == ((na0 : Int) : Int))) w_11)
theorem f51.eq (Aa0 : Option Addr) (na0 ca0 : Nat) (w : World) (R : Value → World → Prop) : f51.VC Aa0 na0 ca0 w R = funV Tryd.prog Tryd.f51 f51.AL f51.AC #[.slice Aa0 na0 ca0] w R := by kernel_rfl
theorem f51.calls {Aa0 : Option Addr} {na0 ca0 : Nat} {w : World} {R : Value → World → Prop} (h : f51.VC Aa0 na0 ca0 w R) : Calls Tryd.prog 51 #[.slice Aa0 na0 ca0] w fun e w' => ∃ v, e = .returned v ∧ R v w' :=
  funV_sound (fn := Tryd.f51) (AL := f51.AL) (AC := f51.AC) W7.mixed (by kernel_rfl) (by rw [← f51.eq Aa0 na0 ca0]; exact h)

end Go.Proofs.YtjmlfknogjaemaaDoor
