/- The plain statements of some functions, printed by vcgen.py. -/
import Derived.Test.YtjmlfknogjaemaaM4
import Derived.Test.YtjmlfknogjaemaaProg
import Derived.KernelRfl
set_option maxRecDepth 100000
set_option linter.unusedVariables false
namespace Go.Proofs.Ytjmlfknogjaemaa
open Go Go.Proofs.Ytjmlfknogjaemaa.Vc
theorem W19.mixed : Try.prog.follows .mixedOrders = true := by kernel_rfl
/-- gatehouse/gatehouselaw12.sameIndex -/
def f19.AL : Nat → Option Ann := fun r => match r with | 4 => some ⟨[(5, .int .i64)], [0, 1]⟩ | _ => none
def f19.AC : Nat → Option Ann := fun _ => none
def f19.VC (a0 : Nat) (a1 : Nat) (w : World) (R : Value → World → Prop) : Prop :=
  (Calls Try.prog 30 #[.pointer (some ⟨a0, 0, none⟩)] w.drew fun e_1 w_1 =>
    ∃ (x9 : Int),
    e_1 = .returned (.int .i64 x9) ∧
    ∃ (A13 : Option Addr) (n13 c13 : Nat),
    w_1.cell? ⟨a1, 0, none⟩ = some (.slice A13 n13 c13) ∧
    sel ((x9 : Int) != ((n13 : Int) : Int)) (
      R (.bool false) w_1) (
      ∃ I : Int → World → Nat → Prop,
      (∃ n, I 0 w_1 n) ∧
      ∀ d : Env, ∀ (x5 : Int) (w_2 : World) (r : Nat), I x5 w_2 r →
      ∃ (A20 : Option Addr) (n20 c20 : Nat),
      w_2.cell? ⟨a1, 0, none⟩ = some (.slice A20 n20 c20) ∧
      sel (decide ((x5 : Int) < ((n20 : Int) : Int))) (
        let i28 : Int := IntKind.i64.wrap (x5 + 1);
        Calls Try.prog 53 #[.pointer (some ⟨a0, 0, none⟩), .int .i64 i28] w_2 fun e_2 w_3 =>
        ∃ (s29_0 : ByteArray) (b29_1 : Bool),
        e_2 = .returned (.tuple #[.string s29_0, .bool b29_1]) ∧
        sel (!b29_1) (
          R (.bool false) w_3) (
          ∃ (A39 : Option Addr) (n39 c39 : Nat),
          w_3.cell? ⟨a1, 0, none⟩ = some (.slice A39 n39 c39) ∧
          (0 : Int) ≤ x5 ∧ x5 < (n39 : Int) ∧
          needPtr A39 fun b41 o41 =>
          ∃ (s42 : ByteArray),
          w_3.cell? ⟨b41, o41 + x5.toNat * 1, none⟩ = some (.string s42) ∧
          sel (!(decide (s29_0 = s42))) (
            R (.bool false) w_3) (
            let i24 : Int := IntKind.i64.wrap (x5 + 1);
            ([.pointer (some ⟨a0, 0, none⟩), .pointer (some ⟨a1, 0, none⟩)] : List Value) = ([.pointer (some ⟨a0, 0, none⟩), .pointer (some ⟨a1, 0, none⟩)] : List Value) ∧ ∃ m, m < r ∧ I i24 w_3 m))) (
        R (.bool true) w_2))) ∧
  (∃ (A13_1 : Option Addr) (n13_1 c13_1 : Nat),
    w.cell? ⟨a1, 0, none⟩ = some (.slice A13_1 n13_1 c13_1) ∧
    Calls Try.prog 30 #[.pointer (some ⟨a0, 0, none⟩)] w.drew fun e_3 w_4 =>
    ∃ (x9_1 : Int),
    e_3 = .returned (.int .i64 x9_1) ∧
    sel ((x9_1 : Int) != ((n13_1 : Int) : Int)) (
      R (.bool false) w_4) (
      ∃ I_1 : Int → World → Nat → Prop,
      (∃ n, I_1 0 w_4 n) ∧
      ∀ d_1 : Env, ∀ (x5_1 : Int) (w_5 : World) (r_1 : Nat), I_1 x5_1 w_5 r_1 →
      ∃ (A20_1 : Option Addr) (n20_1 c20_1 : Nat),
      w_5.cell? ⟨a1, 0, none⟩ = some (.slice A20_1 n20_1 c20_1) ∧
      sel (decide ((x5_1 : Int) < ((n20_1 : Int) : Int))) (
        let i28_1 : Int := IntKind.i64.wrap (x5_1 + 1);
        Calls Try.prog 53 #[.pointer (some ⟨a0, 0, none⟩), .int .i64 i28_1] w_5 fun e_4 w_6 =>
        ∃ (s29_0_1 : ByteArray) (b29_1_1 : Bool),
        e_4 = .returned (.tuple #[.string s29_0_1, .bool b29_1_1]) ∧
        sel (!b29_1_1) (
          R (.bool false) w_6) (
          ∃ (A39_1 : Option Addr) (n39_1 c39_1 : Nat),
          w_6.cell? ⟨a1, 0, none⟩ = some (.slice A39_1 n39_1 c39_1) ∧
          (0 : Int) ≤ x5_1 ∧ x5_1 < (n39_1 : Int) ∧
          needPtr A39_1 fun b41_1 o41_1 =>
          ∃ (s42_1 : ByteArray),
          w_6.cell? ⟨b41_1, o41_1 + x5_1.toNat * 1, none⟩ = some (.string s42_1) ∧
          sel (!(decide (s29_0_1 = s42_1))) (
            R (.bool false) w_6) (
            let i24_1 : Int := IntKind.i64.wrap (x5_1 + 1);
            ([.pointer (some ⟨a0, 0, none⟩), .pointer (some ⟨a1, 0, none⟩)] : List Value) = ([.pointer (some ⟨a0, 0, none⟩), .pointer (some ⟨a1, 0, none⟩)] : List Value) ∧ ∃ m, m < r_1 ∧ I_1 i24_1 w_6 m))) (
        R (.bool true) w_5))) ∧ True
theorem f19.eq (a0 : Nat) (a1 : Nat) (w : World) (R : Value → World → Prop) : f19.VC a0 a1 w R = funV Try.prog Try.f19 f19.AL f19.AC #[.pointer (some ⟨a0, 0, none⟩), .pointer (some ⟨a1, 0, none⟩)] w R := by kernel_rfl
theorem f19.calls {a0 : Nat} {a1 : Nat} {w : World} {R : Value → World → Prop} (h : f19.VC a0 a1 w R) : Calls Try.prog 19 #[.pointer (some ⟨a0, 0, none⟩), .pointer (some ⟨a1, 0, none⟩)] w fun e w' => ∃ v, e = .returned v ∧ R v w' :=
  funV_sound (fn := Try.f19) (AL := f19.AL) (AC := f19.AC) W19.mixed (by kernel_rfl) (by rw [← f19.eq a0 a1]; exact h)

/-- gatehouse/gatehouseref11.Same -/
def f22.AL : Nat → Option Ann := fun r => match r with | 4 => some ⟨[(5, .int .i64)], [2, 3]⟩ | _ => none
def f22.AC : Nat → Option Ann := fun _ => none
def f22.VC (Aa0_0 : Option Addr) (na0_0 ca0_0 : Nat) (Aa0_1 : Option Addr) (na0_1 ca0_1 : Nat) (Aa0_2 : Option Addr) (na0_2 ca0_2 : Nat) (Aa0_3 : Option Addr) (na0_3 ca0_3 : Nat) (Aa0_4 : Option Addr) (na0_4 ca0_4 : Nat) (Aa0_5 : Option Addr) (na0_5 ca0_5 : Nat) (Aa1_0 : Option Addr) (na1_0 ca1_0 : Nat) (Aa1_1 : Option Addr) (na1_1 ca1_1 : Nat) (Aa1_2 : Option Addr) (na1_2 ca1_2 : Nat) (Aa1_3 : Option Addr) (na1_3 ca1_3 : Nat) (Aa1_4 : Option Addr) (na1_4 ca1_4 : Nat) (Aa1_5 : Option Addr) (na1_5 ca1_5 : Nat) (w : World) (R : Value → World → Prop) : Prop :=
  let w_1 : World := World.alloc w (.cells #[.slice Aa0_0 na0_0 ca0_0, .slice Aa0_1 na0_1 ca0_1, .slice Aa0_2 na0_2 ca0_2, .slice Aa0_3 na0_3 ca0_3, .slice Aa0_4 na0_4 ca0_4, .slice Aa0_5 na0_5 ca0_5] 29);
  let w_2 : World := World.alloc w_1 (.cells #[.slice Aa1_0 na1_0 ca1_0, .slice Aa1_1 na1_1 ca1_1, .slice Aa1_2 na1_2 ca1_2, .slice Aa1_3 na1_3 ca1_3, .slice Aa1_4 na1_4 ca1_4, .slice Aa1_5 na1_5 ca1_5] 29);
  ∃ (A8 : Option Addr) (n8 c8 : Nat),
  w_2.cell? ⟨w.heap.size, 0, none⟩ = some (.slice A8 n8 c8) ∧
  ∃ (A10 : Option Addr) (n10 c10 : Nat),
  w_2.cell? ⟨w_1.heap.size, 0, none⟩ = some (.slice A10 n10 c10) ∧
  Calls Try.prog 54 #[.slice A8 n8 c8, .slice A10 n10 c10] w_2 fun e_1 w_3 =>
  ∃ (b11 : Bool),
  e_1 = .returned (.bool b11) ∧
  sel (!b11) (
    R (.bool false) w_3) (
    ∃ (A15 : Option Addr) (n15 c15 : Nat),
    w_3.cell? ⟨w.heap.size, 1, none⟩ = some (.slice A15 n15 c15) ∧
    ∃ (A17 : Option Addr) (n17 c17 : Nat),
    w_3.cell? ⟨w_1.heap.size, 1, none⟩ = some (.slice A17 n17 c17) ∧
    Calls Try.prog 54 #[.slice A15 n15 c15, .slice A17 n17 c17] w_3 fun e_2 w_4 =>
    ∃ (b18 : Bool),
    e_2 = .returned (.bool b18) ∧
    sel (!b18) (
      R (.bool false) w_4) (
      ∃ (A23 : Option Addr) (n23 c23 : Nat),
      w_4.cell? ⟨w.heap.size, 2, none⟩ = some (.slice A23 n23 c23) ∧
      ∃ (A25 : Option Addr) (n25 c25 : Nat),
      w_4.cell? ⟨w_1.heap.size, 2, none⟩ = some (.slice A25 n25 c25) ∧
      Calls Try.prog 54 #[.slice A23 n23 c23, .slice A25 n25 c25] w_4 fun e_3 w_5 =>
      ∃ (b26 : Bool),
      e_3 = .returned (.bool b26) ∧
      sel (!b26) (
        R (.bool false) w_5) (
        ∃ (A31 : Option Addr) (n31 c31 : Nat),
        w_5.cell? ⟨w.heap.size, 3, none⟩ = some (.slice A31 n31 c31) ∧
        ∃ (A33 : Option Addr) (n33 c33 : Nat),
        w_5.cell? ⟨w_1.heap.size, 3, none⟩ = some (.slice A33 n33 c33) ∧
        Calls Try.prog 55 #[.slice A31 n31 c31, .slice A33 n33 c33] w_5 fun e_4 w_6 =>
        ∃ (b34 : Bool),
        e_4 = .returned (.bool b34) ∧
        sel (!b34) (
          R (.bool false) w_6) (
          ∃ (A39 : Option Addr) (n39 c39 : Nat),
          w_6.cell? ⟨w.heap.size, 4, none⟩ = some (.slice A39 n39 c39) ∧
          ∃ (A41 : Option Addr) (n41 c41 : Nat),
          w_6.cell? ⟨w_1.heap.size, 4, none⟩ = some (.slice A41 n41 c41) ∧
          Calls Try.prog 55 #[.slice A39 n39 c39, .slice A41 n41 c41] w_6 fun e_5 w_7 =>
          ∃ (b42 : Bool),
          e_5 = .returned (.bool b42) ∧
          sel (!b42) (
            R (.bool false) w_7) (
            ∃ (A47 : Option Addr) (n47 c47 : Nat),
            w_7.cell? ⟨w.heap.size, 5, none⟩ = some (.slice A47 n47 c47) ∧
            ∃ (A50 : Option Addr) (n50 c50 : Nat),
            w_7.cell? ⟨w_1.heap.size, 5, none⟩ = some (.slice A50 n50 c50) ∧
            sel (((n47 : Int) : Int) != ((n50 : Int) : Int)) (
              R (.bool false) w_7) (
              ∃ I : Int → World → Nat → Prop,
              (∃ n, I 0 w_7 n) ∧
              ∀ d : Env, ∀ (x5 : Int) (w_8 : World) (r : Nat), I x5 w_8 r →
              ∃ (A56 : Option Addr) (n56 c56 : Nat),
              w_8.cell? ⟨w.heap.size, 5, none⟩ = some (.slice A56 n56 c56) ∧
              sel (decide ((x5 : Int) < ((n56 : Int) : Int))) (
                ∃ (A62 : Option Addr) (n62 c62 : Nat),
                w_8.cell? ⟨w.heap.size, 5, none⟩ = some (.slice A62 n62 c62) ∧
                (0 : Int) ≤ x5 ∧ x5 < (n62 : Int) ∧
                needPtr A62 fun b64 o64 =>
                ∃ (A65 : Option Addr) (n65 c65 : Nat),
                w_8.cell? ⟨b64, o64 + x5.toNat * 1, none⟩ = some (.slice A65 n65 c65) ∧
                ∃ (A67 : Option Addr) (n67 c67 : Nat),
                w_8.cell? ⟨w_1.heap.size, 5, none⟩ = some (.slice A67 n67 c67) ∧
                (0 : Int) ≤ x5 ∧ x5 < (n67 : Int) ∧
                needPtr A67 fun b69 o69 =>
                ∃ (A70 : Option Addr) (n70 c70 : Nat),
                w_8.cell? ⟨b69, o69 + x5.toNat * 1, none⟩ = some (.slice A70 n70 c70) ∧
                Calls Try.prog 56 #[.slice A65 n65 c65, .slice A70 n70 c70] w_8.drew fun e_6 w_9 =>
                ∃ (b71 : Bool),
                e_6 = .returned (.bool b71) ∧
                sel (!b71) (
                  R (.bool false) w_9) (
                  let i60 : Int := IntKind.i64.wrap (x5 + 1);
                  ([.pointer (some ⟨w.heap.size, 0, none⟩), .pointer (some ⟨w_1.heap.size, 0, none⟩)] : List Value) = ([.pointer (some ⟨w.heap.size, 0, none⟩), .pointer (some ⟨w_1.heap.size, 0, none⟩)] : List Value) ∧ ∃ m, m < r ∧ I i60 w_9 m)) (
                R (.bool true) w_8)))))))
theorem f22.eq (Aa0_0 : Option Addr) (na0_0 ca0_0 : Nat) (Aa0_1 : Option Addr) (na0_1 ca0_1 : Nat) (Aa0_2 : Option Addr) (na0_2 ca0_2 : Nat) (Aa0_3 : Option Addr) (na0_3 ca0_3 : Nat) (Aa0_4 : Option Addr) (na0_4 ca0_4 : Nat) (Aa0_5 : Option Addr) (na0_5 ca0_5 : Nat) (Aa1_0 : Option Addr) (na1_0 ca1_0 : Nat) (Aa1_1 : Option Addr) (na1_1 ca1_1 : Nat) (Aa1_2 : Option Addr) (na1_2 ca1_2 : Nat) (Aa1_3 : Option Addr) (na1_3 ca1_3 : Nat) (Aa1_4 : Option Addr) (na1_4 ca1_4 : Nat) (Aa1_5 : Option Addr) (na1_5 ca1_5 : Nat) (w : World) (R : Value → World → Prop) : f22.VC Aa0_0 na0_0 ca0_0 Aa0_1 na0_1 ca0_1 Aa0_2 na0_2 ca0_2 Aa0_3 na0_3 ca0_3 Aa0_4 na0_4 ca0_4 Aa0_5 na0_5 ca0_5 Aa1_0 na1_0 ca1_0 Aa1_1 na1_1 ca1_1 Aa1_2 na1_2 ca1_2 Aa1_3 na1_3 ca1_3 Aa1_4 na1_4 ca1_4 Aa1_5 na1_5 ca1_5 w R = funV Try.prog Try.f22 f22.AL f22.AC #[.agg #[.slice Aa0_0 na0_0 ca0_0, .slice Aa0_1 na0_1 ca0_1, .slice Aa0_2 na0_2 ca0_2, .slice Aa0_3 na0_3 ca0_3, .slice Aa0_4 na0_4 ca0_4, .slice Aa0_5 na0_5 ca0_5], .agg #[.slice Aa1_0 na1_0 ca1_0, .slice Aa1_1 na1_1 ca1_1, .slice Aa1_2 na1_2 ca1_2, .slice Aa1_3 na1_3 ca1_3, .slice Aa1_4 na1_4 ca1_4, .slice Aa1_5 na1_5 ca1_5]] w R := by kernel_rfl
theorem f22.calls {Aa0_0 : Option Addr} {na0_0 ca0_0 : Nat} {Aa0_1 : Option Addr} {na0_1 ca0_1 : Nat} {Aa0_2 : Option Addr} {na0_2 ca0_2 : Nat} {Aa0_3 : Option Addr} {na0_3 ca0_3 : Nat} {Aa0_4 : Option Addr} {na0_4 ca0_4 : Nat} {Aa0_5 : Option Addr} {na0_5 ca0_5 : Nat} {Aa1_0 : Option Addr} {na1_0 ca1_0 : Nat} {Aa1_1 : Option Addr} {na1_1 ca1_1 : Nat} {Aa1_2 : Option Addr} {na1_2 ca1_2 : Nat} {Aa1_3 : Option Addr} {na1_3 ca1_3 : Nat} {Aa1_4 : Option Addr} {na1_4 ca1_4 : Nat} {Aa1_5 : Option Addr} {na1_5 ca1_5 : Nat} {w : World} {R : Value → World → Prop} (h : f22.VC Aa0_0 na0_0 ca0_0 Aa0_1 na0_1 ca0_1 Aa0_2 na0_2 ca0_2 Aa0_3 na0_3 ca0_3 Aa0_4 na0_4 ca0_4 Aa0_5 na0_5 ca0_5 Aa1_0 na1_0 ca1_0 Aa1_1 na1_1 ca1_1 Aa1_2 na1_2 ca1_2 Aa1_3 na1_3 ca1_3 Aa1_4 na1_4 ca1_4 Aa1_5 na1_5 ca1_5 w R) : Calls Try.prog 22 #[.agg #[.slice Aa0_0 na0_0 ca0_0, .slice Aa0_1 na0_1 ca0_1, .slice Aa0_2 na0_2 ca0_2, .slice Aa0_3 na0_3 ca0_3, .slice Aa0_4 na0_4 ca0_4, .slice Aa0_5 na0_5 ca0_5], .agg #[.slice Aa1_0 na1_0 ca1_0, .slice Aa1_1 na1_1 ca1_1, .slice Aa1_2 na1_2 ca1_2, .slice Aa1_3 na1_3 ca1_3, .slice Aa1_4 na1_4 ca1_4, .slice Aa1_5 na1_5 ca1_5]] w fun e w' => ∃ v, e = .returned v ∧ R v w' :=
  funV_sound (fn := Try.f22) (AL := f22.AL) (AC := f22.AC) W19.mixed (by kernel_rfl) (by rw [← f22.eq Aa0_0 na0_0 ca0_0 Aa0_1 na0_1 ca0_1 Aa0_2 na0_2 ca0_2 Aa0_3 na0_3 ca0_3 Aa0_4 na0_4 ca0_4 Aa0_5 na0_5 ca0_5 Aa1_0 na1_0 ca1_0 Aa1_1 na1_1 ca1_1 Aa1_2 na1_2 ca1_2 Aa1_3 na1_3 ca1_3 Aa1_4 na1_4 ca1_4 Aa1_5 na1_5 ca1_5]; exact h)

/-- gatehouse/gatehouseref11.texts -/
def f54.AL : Nat → Option Ann := fun r => match r with | 4 => some ⟨[(5, .int .i64)], [0, 1]⟩ | _ => none
def f54.AC : Nat → Option Ann := fun _ => none
def f54.VC (Aa0 : Option Addr) (na0 ca0 : Nat) (Aa1 : Option Addr) (na1 ca1 : Nat) (w : World) (R : Value → World → Prop) : Prop :=
  sel (((na0 : Int) : Int) != ((na1 : Int) : Int)) (
    R (.bool false) w) (
    ∃ I : Int → World → Nat → Prop,
    (∃ n, I 0 w n) ∧
    ∀ d : Env, ∀ (x5 : Int) (w_1 : World) (r : Nat), I x5 w_1 r →
    sel (decide ((x5 : Int) < ((na0 : Int) : Int))) (
      (0 : Int) ≤ x5 ∧ x5 < (na0 : Int) ∧
      needPtr Aa0 fun b19 o19 =>
      (0 : Int) ≤ x5 ∧ x5 < (na1 : Int) ∧
      needPtr Aa1 fun b23 o23 =>
      ∃ (s20 : ByteArray),
      w_1.cell? ⟨b19, o19 + x5.toNat * 1, none⟩ = some (.string s20) ∧
      ∃ (s24 : ByteArray),
      w_1.cell? ⟨b23, o23 + x5.toNat * 1, none⟩ = some (.string s24) ∧
      sel (!(decide (s20 = s24))) (
        R (.bool false) w_1.drew) (
        let i16 : Int := IntKind.i64.wrap (x5 + 1);
        ([.slice Aa0 na0 ca0, .slice Aa1 na1 ca1] : List Value) = ([.slice Aa0 na0 ca0, .slice Aa1 na1 ca1] : List Value) ∧ ∃ m, m < r ∧ I i16 w_1.drew m)) (
      R (.bool true) w_1))
theorem f54.eq (Aa0 : Option Addr) (na0 ca0 : Nat) (Aa1 : Option Addr) (na1 ca1 : Nat) (w : World) (R : Value → World → Prop) : f54.VC Aa0 na0 ca0 Aa1 na1 ca1 w R = funV Try.prog Try.f54 f54.AL f54.AC #[.slice Aa0 na0 ca0, .slice Aa1 na1 ca1] w R := by kernel_rfl
theorem f54.calls {Aa0 : Option Addr} {na0 ca0 : Nat} {Aa1 : Option Addr} {na1 ca1 : Nat} {w : World} {R : Value → World → Prop} (h : f54.VC Aa0 na0 ca0 Aa1 na1 ca1 w R) : Calls Try.prog 54 #[.slice Aa0 na0 ca0, .slice Aa1 na1 ca1] w fun e w' => ∃ v, e = .returned v ∧ R v w' :=
  funV_sound (fn := Try.f54) (AL := f54.AL) (AC := f54.AC) W19.mixed (by kernel_rfl) (by rw [← f54.eq Aa0 na0 ca0 Aa1 na1 ca1]; exact h)

/-- gatehouse/gatehouseref11.numbers -/
def f55.AL : Nat → Option Ann := fun r => match r with | 4 => some ⟨[(5, .int .i64)], [0, 1]⟩ | _ => none
def f55.AC : Nat → Option Ann := fun _ => none
def f55.VC (Aa0 : Option Addr) (na0 ca0 : Nat) (Aa1 : Option Addr) (na1 ca1 : Nat) (w : World) (R : Value → World → Prop) : Prop :=
  sel (((na0 : Int) : Int) != ((na1 : Int) : Int)) (
    R (.bool false) w) (
    ∃ I : Int → World → Nat → Prop,
    (∃ n, I 0 w n) ∧
    ∀ d : Env, ∀ (x5 : Int) (w_1 : World) (r : Nat), I x5 w_1 r →
    sel (decide ((x5 : Int) < ((na0 : Int) : Int))) (
      (0 : Int) ≤ x5 ∧ x5 < (na0 : Int) ∧
      needPtr Aa0 fun b19 o19 =>
      (0 : Int) ≤ x5 ∧ x5 < (na1 : Int) ∧
      needPtr Aa1 fun b23 o23 =>
      ∃ (x20 : Int),
      w_1.cell? ⟨b19, o19 + x5.toNat * 1, none⟩ = some (.int .i64 x20) ∧
      ∃ (x24 : Int),
      w_1.cell? ⟨b23, o23 + x5.toNat * 1, none⟩ = some (.int .i64 x24) ∧
      sel ((x20 : Int) != (x24 : Int)) (
        R (.bool false) w_1.drew) (
        let i16 : Int := IntKind.i64.wrap (x5 + 1);
        ([.slice Aa0 na0 ca0, .slice Aa1 na1 ca1] : List Value) = ([.slice Aa0 na0 ca0, .slice Aa1 na1 ca1] : List Value) ∧ ∃ m, m < r ∧ I i16 w_1.drew m)) (
      R (.bool true) w_1))
theorem f55.eq (Aa0 : Option Addr) (na0 ca0 : Nat) (Aa1 : Option Addr) (na1 ca1 : Nat) (w : World) (R : Value → World → Prop) : f55.VC Aa0 na0 ca0 Aa1 na1 ca1 w R = funV Try.prog Try.f55 f55.AL f55.AC #[.slice Aa0 na0 ca0, .slice Aa1 na1 ca1] w R := by kernel_rfl
theorem f55.calls {Aa0 : Option Addr} {na0 ca0 : Nat} {Aa1 : Option Addr} {na1 ca1 : Nat} {w : World} {R : Value → World → Prop} (h : f55.VC Aa0 na0 ca0 Aa1 na1 ca1 w R) : Calls Try.prog 55 #[.slice Aa0 na0 ca0, .slice Aa1 na1 ca1] w fun e w' => ∃ v, e = .returned v ∧ R v w' :=
  funV_sound (fn := Try.f55) (AL := f55.AL) (AC := f55.AC) W19.mixed (by kernel_rfl) (by rw [← f55.eq Aa0 na0 ca0 Aa1 na1 ca1]; exact h)

/-- gatehouse/gatehouselaw12.stands -/
def f23.AL : Nat → Option Ann := fun r => match r with | 2 => some ⟨[(7, .int .i64)], [0, 1, 2]⟩ | 5 => some ⟨[(8, .int .i64)], [0, 1, 2, 7]⟩ | 10 => some ⟨[(9, .int .i64)], [0, 1, 2, 7]⟩ | 15 => some ⟨[(10, .int .i64)], [0, 1, 2, 7]⟩ | _ => none
def f23.AC : Nat → Option Ann := fun _ => none
def f23.VC (Aa0 : Option Addr) (na0 ca0 : Nat) (Aa1 : Option Addr) (na1 ca1 : Nat) (Aa2 : Option Addr) (na2 ca2 : Nat) (w : World) (R : Value → World → Prop) : Prop :=
  ∃ I : Int → World → Nat → Prop,
  (∃ n, I 0 w n) ∧
  ∀ d : Env, ∀ (x7 : Int) (w_1 : World) (r : Nat), I x7 w_1 r →
  sel (decide ((x7 : Int) < (12 : Int))) (
    ∃ I_1 : Int → World → Nat → Prop,
    (∃ n, I_1 0 w_1 n) ∧
    ∀ d_1 : Env, ∀ (x8 : Int) (w_2 : World) (r_1 : Nat), I_1 x8 w_2 r_1 →
    sel (decide ((x8 : Int) < ((na0 : Int) : Int))) (
      (0 : Int) ≤ x8 ∧ x8 < (na0 : Int) ∧
      needPtr Aa0 fun b23 o23 =>
      (0 : Int) ≤ x8 ∧ x8 < (na0 : Int) ∧
      needPtr Aa0 fun b27 o27 =>
      ∃ (A24 : Option Addr) (n24 c24 : Nat),
      w_2.cell? ⟨b23, o23 + x8.toNat * 1, none⟩ = some (.slice A24 n24 c24) ∧
      ∃ (A28 : Option Addr) (n28 c28 : Nat),
      w_2.cell? ⟨b27, o27 + x8.toNat * 1, none⟩ = some (.slice A28 n28 c28) ∧
      let i30 : Int := IntKind.i64.wrap ((n28 : Int) - 1);
      let i32 : Int := IntKind.i64.wrap (i30 - x7);
      (0 : Int) ≤ i32 ∧ i32 < (n24 : Int) ∧
      needPtr A24 fun b33 o33 =>
      ∃ (s34 : ByteArray),
      w_2.cell? ⟨b33, o33 + i32.toNat * 1, none⟩ = some (.string s34) ∧
      sel (!(decide (s34 = ⟨#[10, 32, 98, 101, 104, 105, 110, 100]⟩))) (
        R (.bool false) w_2.drew) (
        let i20 : Int := IntKind.i64.wrap (x8 + 1);
        ([.slice Aa0 na0 ca0, .slice Aa1 na1 ca1, .slice Aa2 na2 ca2, .int .i64 x7] : List Value) = ([.slice Aa0 na0 ca0, .slice Aa1 na1 ca1, .slice Aa2 na2 ca2, .int .i64 x7] : List Value) ∧ ∃ m, m < r_1 ∧ I_1 i20 w_2.drew m)) (
      ∃ I_2 : Int → World → Nat → Prop,
      (∃ n, I_2 0 w_2 n) ∧
      ∀ d_2 : Env, ∀ (x9 : Int) (w_3 : World) (r_2 : Nat), I_2 x9 w_3 r_2 →
      sel (decide ((x9 : Int) < ((na1 : Int) : Int))) (
        (0 : Int) ≤ x9 ∧ x9 < (na1 : Int) ∧
        needPtr Aa1 fun b44 o44 =>
        (0 : Int) ≤ x9 ∧ x9 < (na1 : Int) ∧
        needPtr Aa1 fun b48 o48 =>
        let i57 : Int := IntKind.i64.wrap ((-7000) - x7);
        ∃ (A45 : Option Addr) (n45 c45 : Nat),
        w_3.cell? ⟨b44, o44 + x9.toNat * 1, none⟩ = some (.slice A45 n45 c45) ∧
        ∃ (A49 : Option Addr) (n49 c49 : Nat),
        w_3.cell? ⟨b48, o48 + x9.toNat * 1, none⟩ = some (.slice A49 n49 c49) ∧
        let i51 : Int := IntKind.i64.wrap ((n49 : Int) - 12);
        let i53 : Int := IntKind.i64.wrap (i51 + x7);
        (0 : Int) ≤ i53 ∧ i53 < (n45 : Int) ∧
        needPtr A45 fun b54 o54 =>
        ∃ (x55 : Int),
        w_3.cell? ⟨b54, o54 + i53.toNat * 1, none⟩ = some (.int .i64 x55) ∧
        sel ((x55 : Int) != (i57 : Int)) (
          R (.bool false) w_3.drew) (
          let i41 : Int := IntKind.i64.wrap (x9 + 1);
          ([.slice Aa0 na0 ca0, .slice Aa1 na1 ca1, .slice Aa2 na2 ca2, .int .i64 x7] : List Value) = ([.slice Aa0 na0 ca0, .slice Aa1 na1 ca1, .slice Aa2 na2 ca2, .int .i64 x7] : List Value) ∧ ∃ m, m < r_2 ∧ I_2 i41 w_3.drew m)) (
        ∃ I_3 : Int → World → Nat → Prop,
        (∃ n, I_3 0 w_3 n) ∧
        ∀ d_3 : Env, ∀ (x10 : Int) (w_4 : World) (r_3 : Nat), I_3 x10 w_4 r_3 →
        sel (decide ((x10 : Int) < ((na2 : Int) : Int))) (
          (0 : Int) ≤ x10 ∧ x10 < (na2 : Int) ∧
          needPtr Aa2 fun b67 o67 =>
          (0 : Int) ≤ x10 ∧ x10 < (na2 : Int) ∧
          needPtr Aa2 fun b71 o71 =>
          ∃ (A68 : Option Addr) (n68 c68 : Nat),
          w_4.cell? ⟨b67, o67 + x10.toNat * 1, none⟩ = some (.slice A68 n68 c68) ∧
          ∃ (A72 : Option Addr) (n72 c72 : Nat),
          w_4.cell? ⟨b71, o71 + x10.toNat * 1, none⟩ = some (.slice A72 n72 c72) ∧
          let i74 : Int := IntKind.i64.wrap ((n72 : Int) - 1);
          let i76 : Int := IntKind.i64.wrap (i74 - x7);
          (0 : Int) ≤ i76 ∧ i76 < (n68 : Int) ∧
          needPtr A68 fun b77 o77 =>
          ∃ (x78 : Int),
          w_4.cell? ⟨b77, o77 + i76.toNat * 1, none⟩ = some (.int .u16 x78) ∧
          sel ((x78 : Int) != (60001 : Int)) (
            R (.bool false) w_4.drew) (
            let i64 : Int := IntKind.i64.wrap (x10 + 1);
            ([.slice Aa0 na0 ca0, .slice Aa1 na1 ca1, .slice Aa2 na2 ca2, .int .i64 x7] : List Value) = ([.slice Aa0 na0 ca0, .slice Aa1 na1 ca1, .slice Aa2 na2 ca2, .int .i64 x7] : List Value) ∧ ∃ m, m < r_3 ∧ I_3 i64 w_4.drew m)) (
          let i14 : Int := IntKind.i64.wrap (x7 + 1);
          ([.slice Aa0 na0 ca0, .slice Aa1 na1 ca1, .slice Aa2 na2 ca2] : List Value) = ([.slice Aa0 na0 ca0, .slice Aa1 na1 ca1, .slice Aa2 na2 ca2] : List Value) ∧ ∃ m, m < r ∧ I i14 w_4 m)))) (
    R (.bool true) w_1)
theorem f23.eq (Aa0 : Option Addr) (na0 ca0 : Nat) (Aa1 : Option Addr) (na1 ca1 : Nat) (Aa2 : Option Addr) (na2 ca2 : Nat) (w : World) (R : Value → World → Prop) : f23.VC Aa0 na0 ca0 Aa1 na1 ca1 Aa2 na2 ca2 w R = funV Try.prog Try.f23 f23.AL f23.AC #[.slice Aa0 na0 ca0, .slice Aa1 na1 ca1, .slice Aa2 na2 ca2] w R := by kernel_rfl
theorem f23.calls {Aa0 : Option Addr} {na0 ca0 : Nat} {Aa1 : Option Addr} {na1 ca1 : Nat} {Aa2 : Option Addr} {na2 ca2 : Nat} {w : World} {R : Value → World → Prop} (h : f23.VC Aa0 na0 ca0 Aa1 na1 ca1 Aa2 na2 ca2 w R) : Calls Try.prog 23 #[.slice Aa0 na0 ca0, .slice Aa1 na1 ca1, .slice Aa2 na2 ca2] w fun e w' => ∃ v, e = .returned v ∧ R v w' :=
  funV_sound (fn := Try.f23) (AL := f23.AL) (AC := f23.AC) W19.mixed (by kernel_rfl) (by rw [← f23.eq Aa0 na0 ca0 Aa1 na1 ca1 Aa2 na2 ca2]; exact h)

/-- gatehouse/gatehouselaw12.lent -/
def f14.AL : Nat → Option Ann := fun r => match r with | 6 => some ⟨[(10, .int .i64)], [1, 2, 6, 7, 8, 9]⟩ | 12 => some ⟨[(11, .int .i64)], [1, 2, 6, 7, 8, 9]⟩ | 15 => some ⟨[(12, .int .i64)], [1, 2, 6, 7, 8, 9, 11]⟩ | 20 => some ⟨[(13, .int .i64)], [1, 2, 6, 7, 8, 9]⟩ | _ => none
def f14.AC : Nat → Option Ann := fun _ => none
def f14.VC (Aa0_0 : Option Addr) (na0_0 ca0_0 : Nat) (Aa0_1 : Option Addr) (na0_1 ca0_1 : Nat) (Aa0_2 : Option Addr) (na0_2 ca0_2 : Nat) (Aa0_3 : Option Addr) (na0_3 ca0_3 : Nat) (Aa0_4 : Option Addr) (na0_4 ca0_4 : Nat) (Aa0_5 : Option Addr) (na0_5 ca0_5 : Nat) (w : World) (R : Value → World → Prop) : Prop :=
  let w_1 : World := World.alloc w (.cells #[.slice Aa0_0 na0_0 ca0_0, .slice Aa0_1 na0_1 ca0_1, .slice Aa0_2 na0_2 ca0_2, .slice Aa0_3 na0_3 ca0_3, .slice Aa0_4 na0_4 ca0_4, .slice Aa0_5 na0_5 ca0_5] 29);
  let w_2 : World := World.alloc w_1 (.cells #[.slice none 0 0, .slice none 0 0, .slice none 0 0, .slice none 0 0, .slice none 0 0, .slice none 0 0] 29);
  ∃ (A14_0 : Option Addr) (n14_0 c14_0 : Nat),
  w_2.cell? ⟨w.heap.size, 0, none⟩ = some (.slice A14_0 n14_0 c14_0) ∧
  ∃ (A14_1 : Option Addr) (n14_1 c14_1 : Nat),
  w_2.cell? ⟨w.heap.size, 1, none⟩ = some (.slice A14_1 n14_1 c14_1) ∧
  ∃ (A14_2 : Option Addr) (n14_2 c14_2 : Nat),
  w_2.cell? ⟨w.heap.size, 2, none⟩ = some (.slice A14_2 n14_2 c14_2) ∧
  ∃ (A14_3 : Option Addr) (n14_3 c14_3 : Nat),
  w_2.cell? ⟨w.heap.size, 3, none⟩ = some (.slice A14_3 n14_3 c14_3) ∧
  ∃ (A14_4 : Option Addr) (n14_4 c14_4 : Nat),
  w_2.cell? ⟨w.heap.size, 4, none⟩ = some (.slice A14_4 n14_4 c14_4) ∧
  ∃ (A14_5 : Option Addr) (n14_5 c14_5 : Nat),
  w_2.cell? ⟨w.heap.size, 5, none⟩ = some (.slice A14_5 n14_5 c14_5) ∧
  Calls Try.prog 15 #[.agg #[.slice A14_0 n14_0 c14_0, .slice A14_1 n14_1 c14_1, .slice A14_2 n14_2 c14_2, .slice A14_3 n14_3 c14_3, .slice A14_4 n14_4 c14_4, .slice A14_5 n14_5 c14_5]] w_2 fun e_1 w_3 =>
  ∃ (A15_0 : Option Addr) (n15_0 c15_0 : Nat) (A15_1 : Option Addr) (n15_1 c15_1 : Nat) (A15_2 : Option Addr) (n15_2 c15_2 : Nat) (A15_3 : Option Addr) (n15_3 c15_3 : Nat) (A15_4 : Option Addr) (n15_4 c15_4 : Nat) (A15_5 : Option Addr) (n15_5 c15_5 : Nat),
  e_1 = .returned (.agg #[.slice A15_0 n15_0 c15_0, .slice A15_1 n15_1 c15_1, .slice A15_2 n15_2 c15_2, .slice A15_3 n15_3 c15_3, .slice A15_4 n15_4 c15_4, .slice A15_5 n15_5 c15_5]) ∧
  let w_4 : World := World.alloc w_3 (.cells #[.slice none 0 0, .slice none 0 0, .slice none 0 0, .slice none 0 0, .slice none 0 0, .slice none 0 0] 29);
  canStore w_4 w_3.heap.size 0 6 ∧
  let w_5 : World := setCs w_4 w_3.heap.size 0 [.slice A15_0 n15_0 c15_0, .slice A15_1 n15_1 c15_1, .slice A15_2 n15_2 c15_2, .slice A15_3 n15_3 c15_3, .slice A15_4 n15_4 c15_4, .slice A15_5 n15_5 c15_5];
  ∃ (A17 : Option Addr) (n17 c17 : Nat),
  w_5.cell? ⟨w_3.heap.size, 0, none⟩ = some (.slice A17 n17 c17) ∧
  ∃ (A19 : Option Addr) (n19 c19 : Nat),
  w_5.cell? ⟨w_3.heap.size, 1, none⟩ = some (.slice A19 n19 c19) ∧
  ∃ (A21 : Option Addr) (n21 c21 : Nat),
  w_5.cell? ⟨w_3.heap.size, 2, none⟩ = some (.slice A21 n21 c21) ∧
  let w_6 : World := World.alloc w_5 (.cells #[.slice A17 n17 c17, .slice A19 n19 c19, .slice A21 n21 c21] 25);
  ∃ (A24 : Option Addr) (n24 c24 : Nat),
  w_6.cell? ⟨w.heap.size, 3, none⟩ = some (.slice A24 n24 c24) ∧
  (Calls Try.prog 24 #[.slice A24 n24 c24, .int .i64 12] w_6.drew fun e_2 w_7 =>
    ∃ (A25 : Option Addr) (n25 c25 : Nat),
    e_2 = .returned (.slice A25 n25 c25) ∧
    ∃ (A27 : Option Addr) (n27 c27 : Nat),
    w_7.cell? ⟨w.heap.size, 4, none⟩ = some (.slice A27 n27 c27) ∧
    Calls Try.prog 24 #[.slice A27 n27 c27, .int .i64 12] w_7 fun e_3 w_8 =>
    ∃ (A28 : Option Addr) (n28 c28 : Nat),
    e_3 = .returned (.slice A28 n28 c28) ∧
    let w_9 : World := World.alloc w_8 (.cells #[.slice A25 n25 c25, .slice A28 n28 c28] 26);
    ∃ (A31 : Option Addr) (n31 c31 : Nat),
    w_9.cell? ⟨w_3.heap.size, 5, none⟩ = some (.slice A31 n31 c31) ∧
    ∃ I : Int → World → Nat → Prop,
    (∃ n, I 0 w_9 n) ∧
    ∀ d : Env, ∀ (x10 : Int) (w_10 : World) (r : Nat), I x10 w_10 r →
    sel (decide ((x10 : Int) < (12 : Int))) (
      (0 : Int) ≤ 0 ∧ 0 < (3 : Int) ∧
      ∃ (A39 : Option Addr) (n39 c39 : Nat),
      w_10.cell? ⟨w_5.heap.size, 0, none⟩ = some (.slice A39 n39 c39) ∧
      let w_11 : World := World.alloc w_10 (.cells #[.string ⟨#[10, 32, 98, 101, 104, 105, 110, 100]⟩] 9);
      ∃ (A41 : Option Addr) (n41 c41 : Nat),
      ∃ w_12 : World, (Builtin.append_ #[25, 25] 25 #[.slice A39 n39 c39, .slice (some ⟨w_10.heap.size, 0, none⟩) 1 1]).run Try.prog w_11 = .ok (.slice A41 n41 c41) w_12 ∧
      (0 : Int) ≤ 0 ∧ 0 < (3 : Int) ∧
      canStore w_12 w_5.heap.size 0 1 ∧
      let w_13 : World := setCs w_12 w_5.heap.size 0 [.slice A41 n41 c41];
      (0 : Int) ≤ 1 ∧ 1 < (3 : Int) ∧
      ∃ (A46 : Option Addr) (n46 c46 : Nat),
      w_13.cell? ⟨w_5.heap.size, 1, none⟩ = some (.slice A46 n46 c46) ∧
      let w_14 : World := World.alloc w_13 (.cells #[.string ⟨#[10, 32, 98, 101, 104, 105, 110, 100]⟩] 9);
      ∃ (A48 : Option Addr) (n48 c48 : Nat),
      ∃ w_15 : World, (Builtin.append_ #[25, 25] 25 #[.slice A46 n46 c46, .slice (some ⟨w_13.heap.size, 0, none⟩) 1 1]).run Try.prog w_14 = .ok (.slice A48 n48 c48) w_15 ∧
      (0 : Int) ≤ 1 ∧ 1 < (3 : Int) ∧
      canStore w_15 w_5.heap.size 1 1 ∧
      let w_16 : World := setCs w_15 w_5.heap.size 1 [.slice A48 n48 c48];
      (0 : Int) ≤ 2 ∧ 2 < (3 : Int) ∧
      ∃ (A53 : Option Addr) (n53 c53 : Nat),
      w_16.cell? ⟨w_5.heap.size, 2, none⟩ = some (.slice A53 n53 c53) ∧
      let w_17 : World := World.alloc w_16 (.cells #[.string ⟨#[10, 32, 98, 101, 104, 105, 110, 100]⟩] 9);
      ∃ (A55 : Option Addr) (n55 c55 : Nat),
      ∃ w_18 : World, (Builtin.append_ #[25, 25] 25 #[.slice A53 n53 c53, .slice (some ⟨w_16.heap.size, 0, none⟩) 1 1]).run Try.prog w_17 = .ok (.slice A55 n55 c55) w_18 ∧
      (0 : Int) ≤ 2 ∧ 2 < (3 : Int) ∧
      canStore w_18 w_5.heap.size 2 1 ∧
      let w_19 : World := setCs w_18 w_5.heap.size 2 [.slice A55 n55 c55];
      let i35 : Int := IntKind.i64.wrap (x10 + 1);
      ([.pointer (some ⟨w.heap.size, 0, none⟩), .pointer (some ⟨w_1.heap.size, 0, none⟩), .pointer (some ⟨w_3.heap.size, 0, none⟩), .slice (some ⟨w_5.heap.size, 0, none⟩) 3 3, .slice (some ⟨w_8.heap.size, 0, none⟩) 2 2, .slice A31 n31 c31] : List Value) = ([.pointer (some ⟨w.heap.size, 0, none⟩), .pointer (some ⟨w_1.heap.size, 0, none⟩), .pointer (some ⟨w_3.heap.size, 0, none⟩), .slice (some ⟨w_5.heap.size, 0, none⟩) 3 3, .slice (some ⟨w_8.heap.size, 0, none⟩) 2 2, .slice A31 n31 c31] : List Value) ∧ ∃ m, m < r ∧ I i35 w_19 m) (
      ∃ I_1 : Int → World → Nat → Prop,
      (∃ n, I_1 0 w_10 n) ∧
      ∀ d_1 : Env, ∀ (x11 : Int) (w_20 : World) (r_1 : Nat), I_1 x11 w_20 r_1 →
      sel (decide ((x11 : Int) < ((n31 : Int) : Int))) (
        ∃ I_2 : Int → World → Nat → Prop,
        (∃ n, I_2 0 w_20 n) ∧
        ∀ d_2 : Env, ∀ (x12 : Int) (w_21 : World) (r_2 : Nat), I_2 x12 w_21 r_2 →
        sel (decide ((x12 : Int) < (12 : Int))) (
          (0 : Int) ≤ x11 ∧ x11 < (n31 : Int) ∧
          needPtr A31 fun b71 o71 =>
          ∃ (A72 : Option Addr) (n72 c72 : Nat),
          w_21.cell? ⟨b71, o71 + x11.toNat * 1, none⟩ = some (.slice A72 n72 c72) ∧
          let w_22 : World := World.alloc w_21 (.cells #[.int .u16 60001] 79);
          ∃ (A74 : Option Addr) (n74 c74 : Nat),
          ∃ w_23 : World, (Builtin.append_ #[82, 82] 82 #[.slice A72 n72 c72, .slice (some ⟨w_21.heap.size, 0, none⟩) 1 1]).run Try.prog w_22 = .ok (.slice A74 n74 c74) w_23 ∧
          (0 : Int) ≤ x11 ∧ x11 < (n31 : Int) ∧
          needPtr A31 fun b75 o75 =>
          canStore w_23 b75 (o75 + x11.toNat * 1) 1 ∧
          let w_24 : World := setCs w_23 b75 (o75 + x11.toNat * 1) [.slice A74 n74 c74];
          let i66 : Int := IntKind.i64.wrap (x12 + 1);
          ([.pointer (some ⟨w.heap.size, 0, none⟩), .pointer (some ⟨w_1.heap.size, 0, none⟩), .pointer (some ⟨w_3.heap.size, 0, none⟩), .slice (some ⟨w_5.heap.size, 0, none⟩) 3 3, .slice (some ⟨w_8.heap.size, 0, none⟩) 2 2, .slice A31 n31 c31, .int .i64 x11] : List Value) = ([.pointer (some ⟨w.heap.size, 0, none⟩), .pointer (some ⟨w_1.heap.size, 0, none⟩), .pointer (some ⟨w_3.heap.size, 0, none⟩), .slice (some ⟨w_5.heap.size, 0, none⟩) 3 3, .slice (some ⟨w_8.heap.size, 0, none⟩) 2 2, .slice A31 n31 c31, .int .i64 x11] : List Value) ∧ ∃ m, m < r_2 ∧ I_2 i66 w_24 m) (
          let i62 : Int := IntKind.i64.wrap (x11 + 1);
          ([.pointer (some ⟨w.heap.size, 0, none⟩), .pointer (some ⟨w_1.heap.size, 0, none⟩), .pointer (some ⟨w_3.heap.size, 0, none⟩), .slice (some ⟨w_5.heap.size, 0, none⟩) 3 3, .slice (some ⟨w_8.heap.size, 0, none⟩) 2 2, .slice A31 n31 c31] : List Value) = ([.pointer (some ⟨w.heap.size, 0, none⟩), .pointer (some ⟨w_1.heap.size, 0, none⟩), .pointer (some ⟨w_3.heap.size, 0, none⟩), .slice (some ⟨w_5.heap.size, 0, none⟩) 3 3, .slice (some ⟨w_8.heap.size, 0, none⟩) 2 2, .slice A31 n31 c31] : List Value) ∧ ∃ m, m < r_1 ∧ I_1 i62 w_21 m)) (
        (0 : Int) ≤ 0 ∧ 0 < (3 : Int) ∧
        (0 : Int) ≤ 1 ∧ 1 < (3 : Int) ∧
        (0 : Int) ≤ 2 ∧ 2 < (3 : Int) ∧
        (0 : Int) ≤ 0 ∧ 0 < (2 : Int) ∧
        (0 : Int) ≤ 1 ∧ 1 < (2 : Int) ∧
        ∃ (A78 : Option Addr) (n78 c78 : Nat),
        w_20.cell? ⟨w_5.heap.size, 0, none⟩ = some (.slice A78 n78 c78) ∧
        ∃ (A80 : Option Addr) (n80 c80 : Nat),
        w_20.cell? ⟨w.heap.size, 0, none⟩ = some (.slice A80 n80 c80) ∧
        (0 : Int) ≤ (n80 : Int) ∧ (n80 : Int) ≤ (c78 : Int) ∧
        ∃ (A85 : Option Addr) (n85 c85 : Nat),
        w_20.cell? ⟨w_5.heap.size, 1, none⟩ = some (.slice A85 n85 c85) ∧
        ∃ (A87 : Option Addr) (n87 c87 : Nat),
        w_20.cell? ⟨w.heap.size, 1, none⟩ = some (.slice A87 n87 c87) ∧
        (0 : Int) ≤ (n87 : Int) ∧ (n87 : Int) ≤ (c85 : Int) ∧
        ∃ (A92 : Option Addr) (n92 c92 : Nat),
        w_20.cell? ⟨w_5.heap.size, 2, none⟩ = some (.slice A92 n92 c92) ∧
        ∃ (A94 : Option Addr) (n94 c94 : Nat),
        w_20.cell? ⟨w.heap.size, 2, none⟩ = some (.slice A94 n94 c94) ∧
        (0 : Int) ≤ (n94 : Int) ∧ (n94 : Int) ≤ (c92 : Int) ∧
        ∃ (A99 : Option Addr) (n99 c99 : Nat),
        w_20.cell? ⟨w_8.heap.size, 0, none⟩ = some (.slice A99 n99 c99) ∧
        ∃ (A101 : Option Addr) (n101 c101 : Nat),
        w_20.cell? ⟨w.heap.size, 3, none⟩ = some (.slice A101 n101 c101) ∧
        (0 : Int) ≤ (n101 : Int) ∧ (n101 : Int) ≤ (c99 : Int) ∧
        ∃ (A106 : Option Addr) (n106 c106 : Nat),
        w_20.cell? ⟨w_8.heap.size, 1, none⟩ = some (.slice A106 n106 c106) ∧
        ∃ (A108 : Option Addr) (n108 c108 : Nat),
        w_20.cell? ⟨w.heap.size, 4, none⟩ = some (.slice A108 n108 c108) ∧
        (0 : Int) ≤ (n108 : Int) ∧ (n108 : Int) ≤ (c106 : Int) ∧
        canStore w_20 w_3.heap.size 0 6 ∧
        let w_25 : World := setCs w_20.drew w_3.heap.size 0 [.slice A78 (n80 : Int).toNat c78, .slice A85 (n87 : Int).toNat c85, .slice A92 (n94 : Int).toNat c92, .slice A99 (n101 : Int).toNat c99, .slice A106 (n108 : Int).toNat c106, .slice none 0 0];
        ∃ I_3 : Int → World → Nat → Prop,
        (∃ n, I_3 0 w_25 n) ∧
        ∀ d_3 : Env, ∀ (x13 : Int) (w_26 : World) (r_3 : Nat), I_3 x13 w_26 r_3 →
        sel (decide ((x13 : Int) < ((n31 : Int) : Int))) (
          (0 : Int) ≤ x13 ∧ x13 < (n31 : Int) ∧
          needPtr A31 fun b122 o122 =>
          ∃ (A119 : Option Addr) (n119 c119 : Nat),
          w_26.cell? ⟨w_3.heap.size, 5, none⟩ = some (.slice A119 n119 c119) ∧
          ∃ (A123 : Option Addr) (n123 c123 : Nat),
          w_26.cell? ⟨b122, o122 + x13.toNat * 1, none⟩ = some (.slice A123 n123 c123) ∧
          ∃ (A125 : Option Addr) (n125 c125 : Nat),
          w_26.cell? ⟨w.heap.size, 5, none⟩ = some (.slice A125 n125 c125) ∧
          (0 : Int) ≤ x13 ∧ x13 < (n125 : Int) ∧
          needPtr A125 fun b127 o127 =>
          ∃ (A128 : Option Addr) (n128 c128 : Nat),
          w_26.cell? ⟨b127, o127 + x13.toNat * 1, none⟩ = some (.slice A128 n128 c128) ∧
          (0 : Int) ≤ (n128 : Int) ∧ (n128 : Int) ≤ (c123 : Int) ∧
          let w_27 : World := World.alloc w_26.drew (.cells #[.slice A123 (n128 : Int).toNat c123] 82);
          ∃ (A132 : Option Addr) (n132 c132 : Nat),
          ∃ w_28 : World, (Builtin.append_ #[27, 27] 27 #[.slice A119 n119 c119, .slice (some ⟨w_26.heap.size, 0, none⟩) 1 1]).run Try.prog w_27 = .ok (.slice A132 n132 c132) w_28 ∧
          canStore w_28 w_3.heap.size 5 1 ∧
          let w_29 : World := setCs w_28 w_3.heap.size 5 [.slice A132 n132 c132];
          let i117 : Int := IntKind.i64.wrap (x13 + 1);
          ([.pointer (some ⟨w.heap.size, 0, none⟩), .pointer (some ⟨w_1.heap.size, 0, none⟩), .pointer (some ⟨w_3.heap.size, 0, none⟩), .slice (some ⟨w_5.heap.size, 0, none⟩) 3 3, .slice (some ⟨w_8.heap.size, 0, none⟩) 2 2, .slice A31 n31 c31] : List Value) = ([.pointer (some ⟨w.heap.size, 0, none⟩), .pointer (some ⟨w_1.heap.size, 0, none⟩), .pointer (some ⟨w_3.heap.size, 0, none⟩), .slice (some ⟨w_5.heap.size, 0, none⟩) 3 3, .slice (some ⟨w_8.heap.size, 0, none⟩) 2 2, .slice A31 n31 c31] : List Value) ∧ ∃ m, m < r_3 ∧ I_3 i117 w_29 m) (
          ∃ (A134_0 : Option Addr) (n134_0 c134_0 : Nat),
          w_26.cell? ⟨w_3.heap.size, 0, none⟩ = some (.slice A134_0 n134_0 c134_0) ∧
          ∃ (A134_1 : Option Addr) (n134_1 c134_1 : Nat),
          w_26.cell? ⟨w_3.heap.size, 1, none⟩ = some (.slice A134_1 n134_1 c134_1) ∧
          ∃ (A134_2 : Option Addr) (n134_2 c134_2 : Nat),
          w_26.cell? ⟨w_3.heap.size, 2, none⟩ = some (.slice A134_2 n134_2 c134_2) ∧
          ∃ (A134_3 : Option Addr) (n134_3 c134_3 : Nat),
          w_26.cell? ⟨w_3.heap.size, 3, none⟩ = some (.slice A134_3 n134_3 c134_3) ∧
          ∃ (A134_4 : Option Addr) (n134_4 c134_4 : Nat),
          w_26.cell? ⟨w_3.heap.size, 4, none⟩ = some (.slice A134_4 n134_4 c134_4) ∧
          ∃ (A134_5 : Option Addr) (n134_5 c134_5 : Nat),
          w_26.cell? ⟨w_3.heap.size, 5, none⟩ = some (.slice A134_5 n134_5 c134_5) ∧
          canStore w_26 w_1.heap.size 0 6 ∧
          let w_30 : World := setCs w_26 w_1.heap.size 0 [.slice A134_0 n134_0 c134_0, .slice A134_1 n134_1 c134_1, .slice A134_2 n134_2 c134_2, .slice A134_3 n134_3 c134_3, .slice A134_4 n134_4 c134_4, .slice A134_5 n134_5 c134_5];
          ∃ (A2_0 : Option Addr) (n2_0 c2_0 : Nat),
          w_30.cell? ⟨w_1.heap.size, 0, none⟩ = some (.slice A2_0 n2_0 c2_0) ∧
          ∃ (A2_1 : Option Addr) (n2_1 c2_1 : Nat),
          w_30.cell? ⟨w_1.heap.size, 1, none⟩ = some (.slice A2_1 n2_1 c2_1) ∧
          ∃ (A2_2 : Option Addr) (n2_2 c2_2 : Nat),
          w_30.cell? ⟨w_1.heap.size, 2, none⟩ = some (.slice A2_2 n2_2 c2_2) ∧
          ∃ (A2_3 : Option Addr) (n2_3 c2_3 : Nat),
          w_30.cell? ⟨w_1.heap.size, 3, none⟩ = some (.slice A2_3 n2_3 c2_3) ∧
          ∃ (A2_4 : Option Addr) (n2_4 c2_4 : Nat),
          w_30.cell? ⟨w_1.heap.size, 4, none⟩ = some (.slice A2_4 n2_4 c2_4) ∧
          ∃ (A2_5 : Option Addr) (n2_5 c2_5 : Nat),
          w_30.cell? ⟨w_1.heap.size, 5, none⟩ = some (.slice A2_5 n2_5 c2_5) ∧
          R (.tuple #[.agg #[.slice A2_0 n2_0 c2_0, .slice A2_1 n2_1 c2_1, .slice A2_2 n2_2 c2_2, .slice A2_3 n2_3 c2_3, .slice A2_4 n2_4 c2_4, .slice A2_5 n2_5 c2_5], .slice (some ⟨w_5.heap.size, 0, none⟩) 3 3, .slice (some ⟨w_8.heap.size, 0, none⟩) 2 2, .slice A31 n31 c31]) w_30)))) ∧
  (∃ (A27_1 : Option Addr) (n27_1 c27_1 : Nat),
    w_6.cell? ⟨w.heap.size, 4, none⟩ = some (.slice A27_1 n27_1 c27_1) ∧
    Calls Try.prog 24 #[.slice A24 n24 c24, .int .i64 12] w_6.drew fun e_4 w_31 =>
    ∃ (A25_1 : Option Addr) (n25_1 c25_1 : Nat),
    e_4 = .returned (.slice A25_1 n25_1 c25_1) ∧
    Calls Try.prog 24 #[.slice A27_1 n27_1 c27_1, .int .i64 12] w_31 fun e_5 w_32 =>
    ∃ (A28_1 : Option Addr) (n28_1 c28_1 : Nat),
    e_5 = .returned (.slice A28_1 n28_1 c28_1) ∧
    let w_33 : World := World.alloc w_32 (.cells #[.slice A25_1 n25_1 c25_1, .slice A28_1 n28_1 c28_1] 26);
    ∃ (A31_1 : Option Addr) (n31_1 c31_1 : Nat),
    w_33.cell? ⟨w_3.heap.size, 5, none⟩ = some (.slice A31_1 n31_1 c31_1) ∧
    ∃ I_4 : Int → World → Nat → Prop,
    (∃ n, I_4 0 w_33 n) ∧
    ∀ d_4 : Env, ∀ (x10_1 : Int) (w_34 : World) (r_4 : Nat), I_4 x10_1 w_34 r_4 →
    sel (decide ((x10_1 : Int) < (12 : Int))) (
      (0 : Int) ≤ 0 ∧ 0 < (3 : Int) ∧
      ∃ (A39_1 : Option Addr) (n39_1 c39_1 : Nat),
      w_34.cell? ⟨w_5.heap.size, 0, none⟩ = some (.slice A39_1 n39_1 c39_1) ∧
      let w_35 : World := World.alloc w_34 (.cells #[.string ⟨#[10, 32, 98, 101, 104, 105, 110, 100]⟩] 9);
      ∃ (A41_1 : Option Addr) (n41_1 c41_1 : Nat),
      ∃ w_36 : World, (Builtin.append_ #[25, 25] 25 #[.slice A39_1 n39_1 c39_1, .slice (some ⟨w_34.heap.size, 0, none⟩) 1 1]).run Try.prog w_35 = .ok (.slice A41_1 n41_1 c41_1) w_36 ∧
      (0 : Int) ≤ 0 ∧ 0 < (3 : Int) ∧
      canStore w_36 w_5.heap.size 0 1 ∧
      let w_37 : World := setCs w_36 w_5.heap.size 0 [.slice A41_1 n41_1 c41_1];
      (0 : Int) ≤ 1 ∧ 1 < (3 : Int) ∧
      ∃ (A46_1 : Option Addr) (n46_1 c46_1 : Nat),
      w_37.cell? ⟨w_5.heap.size, 1, none⟩ = some (.slice A46_1 n46_1 c46_1) ∧
      let w_38 : World := World.alloc w_37 (.cells #[.string ⟨#[10, 32, 98, 101, 104, 105, 110, 100]⟩] 9);
      ∃ (A48_1 : Option Addr) (n48_1 c48_1 : Nat),
      ∃ w_39 : World, (Builtin.append_ #[25, 25] 25 #[.slice A46_1 n46_1 c46_1, .slice (some ⟨w_37.heap.size, 0, none⟩) 1 1]).run Try.prog w_38 = .ok (.slice A48_1 n48_1 c48_1) w_39 ∧
      (0 : Int) ≤ 1 ∧ 1 < (3 : Int) ∧
      canStore w_39 w_5.heap.size 1 1 ∧
      let w_40 : World := setCs w_39 w_5.heap.size 1 [.slice A48_1 n48_1 c48_1];
      (0 : Int) ≤ 2 ∧ 2 < (3 : Int) ∧
      ∃ (A53_1 : Option Addr) (n53_1 c53_1 : Nat),
      w_40.cell? ⟨w_5.heap.size, 2, none⟩ = some (.slice A53_1 n53_1 c53_1) ∧
      let w_41 : World := World.alloc w_40 (.cells #[.string ⟨#[10, 32, 98, 101, 104, 105, 110, 100]⟩] 9);
      ∃ (A55_1 : Option Addr) (n55_1 c55_1 : Nat),
      ∃ w_42 : World, (Builtin.append_ #[25, 25] 25 #[.slice A53_1 n53_1 c53_1, .slice (some ⟨w_40.heap.size, 0, none⟩) 1 1]).run Try.prog w_41 = .ok (.slice A55_1 n55_1 c55_1) w_42 ∧
      (0 : Int) ≤ 2 ∧ 2 < (3 : Int) ∧
      canStore w_42 w_5.heap.size 2 1 ∧
      let w_43 : World := setCs w_42 w_5.heap.size 2 [.slice A55_1 n55_1 c55_1];
      let i35_1 : Int := IntKind.i64.wrap (x10_1 + 1);
      ([.pointer (some ⟨w.heap.size, 0, none⟩), .pointer (some ⟨w_1.heap.size, 0, none⟩), .pointer (some ⟨w_3.heap.size, 0, none⟩), .slice (some ⟨w_5.heap.size, 0, none⟩) 3 3, .slice (some ⟨w_32.heap.size, 0, none⟩) 2 2, .slice A31_1 n31_1 c31_1] : List Value) = ([.pointer (some ⟨w.heap.size, 0, none⟩), .pointer (some ⟨w_1.heap.size, 0, none⟩), .pointer (some ⟨w_3.heap.size, 0, none⟩), .slice (some ⟨w_5.heap.size, 0, none⟩) 3 3, .slice (some ⟨w_32.heap.size, 0, none⟩) 2 2, .slice A31_1 n31_1 c31_1] : List Value) ∧ ∃ m, m < r_4 ∧ I_4 i35_1 w_43 m) (
      ∃ I_5 : Int → World → Nat → Prop,
      (∃ n, I_5 0 w_34 n) ∧
      ∀ d_5 : Env, ∀ (x11_1 : Int) (w_44 : World) (r_5 : Nat), I_5 x11_1 w_44 r_5 →
      sel (decide ((x11_1 : Int) < ((n31_1 : Int) : Int))) (
        ∃ I_6 : Int → World → Nat → Prop,
        (∃ n, I_6 0 w_44 n) ∧
        ∀ d_6 : Env, ∀ (x12_1 : Int) (w_45 : World) (r_6 : Nat), I_6 x12_1 w_45 r_6 →
        sel (decide ((x12_1 : Int) < (12 : Int))) (
          (0 : Int) ≤ x11_1 ∧ x11_1 < (n31_1 : Int) ∧
          needPtr A31_1 fun b71_1 o71_1 =>
          ∃ (A72_1 : Option Addr) (n72_1 c72_1 : Nat),
          w_45.cell? ⟨b71_1, o71_1 + x11_1.toNat * 1, none⟩ = some (.slice A72_1 n72_1 c72_1) ∧
          let w_46 : World := World.alloc w_45 (.cells #[.int .u16 60001] 79);
          ∃ (A74_1 : Option Addr) (n74_1 c74_1 : Nat),
          ∃ w_47 : World, (Builtin.append_ #[82, 82] 82 #[.slice A72_1 n72_1 c72_1, .slice (some ⟨w_45.heap.size, 0, none⟩) 1 1]).run Try.prog w_46 = .ok (.slice A74_1 n74_1 c74_1) w_47 ∧
          (0 : Int) ≤ x11_1 ∧ x11_1 < (n31_1 : Int) ∧
          needPtr A31_1 fun b75_1 o75_1 =>
          canStore w_47 b75_1 (o75_1 + x11_1.toNat * 1) 1 ∧
          let w_48 : World := setCs w_47 b75_1 (o75_1 + x11_1.toNat * 1) [.slice A74_1 n74_1 c74_1];
          let i66_1 : Int := IntKind.i64.wrap (x12_1 + 1);
          ([.pointer (some ⟨w.heap.size, 0, none⟩), .pointer (some ⟨w_1.heap.size, 0, none⟩), .pointer (some ⟨w_3.heap.size, 0, none⟩), .slice (some ⟨w_5.heap.size, 0, none⟩) 3 3, .slice (some ⟨w_32.heap.size, 0, none⟩) 2 2, .slice A31_1 n31_1 c31_1, .int .i64 x11_1] : List Value) = ([.pointer (some ⟨w.heap.size, 0, none⟩), .pointer (some ⟨w_1.heap.size, 0, none⟩), .pointer (some ⟨w_3.heap.size, 0, none⟩), .slice (some ⟨w_5.heap.size, 0, none⟩) 3 3, .slice (some ⟨w_32.heap.size, 0, none⟩) 2 2, .slice A31_1 n31_1 c31_1, .int .i64 x11_1] : List Value) ∧ ∃ m, m < r_6 ∧ I_6 i66_1 w_48 m) (
          let i62_1 : Int := IntKind.i64.wrap (x11_1 + 1);
          ([.pointer (some ⟨w.heap.size, 0, none⟩), .pointer (some ⟨w_1.heap.size, 0, none⟩), .pointer (some ⟨w_3.heap.size, 0, none⟩), .slice (some ⟨w_5.heap.size, 0, none⟩) 3 3, .slice (some ⟨w_32.heap.size, 0, none⟩) 2 2, .slice A31_1 n31_1 c31_1] : List Value) = ([.pointer (some ⟨w.heap.size, 0, none⟩), .pointer (some ⟨w_1.heap.size, 0, none⟩), .pointer (some ⟨w_3.heap.size, 0, none⟩), .slice (some ⟨w_5.heap.size, 0, none⟩) 3 3, .slice (some ⟨w_32.heap.size, 0, none⟩) 2 2, .slice A31_1 n31_1 c31_1] : List Value) ∧ ∃ m, m < r_5 ∧ I_5 i62_1 w_45 m)) (
        (0 : Int) ≤ 0 ∧ 0 < (3 : Int) ∧
        (0 : Int) ≤ 1 ∧ 1 < (3 : Int) ∧
        (0 : Int) ≤ 2 ∧ 2 < (3 : Int) ∧
        (0 : Int) ≤ 0 ∧ 0 < (2 : Int) ∧
        (0 : Int) ≤ 1 ∧ 1 < (2 : Int) ∧
        ∃ (A78_1 : Option Addr) (n78_1 c78_1 : Nat),
        w_44.cell? ⟨w_5.heap.size, 0, none⟩ = some (.slice A78_1 n78_1 c78_1) ∧
        ∃ (A80_1 : Option Addr) (n80_1 c80_1 : Nat),
        w_44.cell? ⟨w.heap.size, 0, none⟩ = some (.slice A80_1 n80_1 c80_1) ∧
        (0 : Int) ≤ (n80_1 : Int) ∧ (n80_1 : Int) ≤ (c78_1 : Int) ∧
        ∃ (A85_1 : Option Addr) (n85_1 c85_1 : Nat),
        w_44.cell? ⟨w_5.heap.size, 1, none⟩ = some (.slice A85_1 n85_1 c85_1) ∧
        ∃ (A87_1 : Option Addr) (n87_1 c87_1 : Nat),
        w_44.cell? ⟨w.heap.size, 1, none⟩ = some (.slice A87_1 n87_1 c87_1) ∧
        (0 : Int) ≤ (n87_1 : Int) ∧ (n87_1 : Int) ≤ (c85_1 : Int) ∧
        ∃ (A92_1 : Option Addr) (n92_1 c92_1 : Nat),
        w_44.cell? ⟨w_5.heap.size, 2, none⟩ = some (.slice A92_1 n92_1 c92_1) ∧
        ∃ (A94_1 : Option Addr) (n94_1 c94_1 : Nat),
        w_44.cell? ⟨w.heap.size, 2, none⟩ = some (.slice A94_1 n94_1 c94_1) ∧
        (0 : Int) ≤ (n94_1 : Int) ∧ (n94_1 : Int) ≤ (c92_1 : Int) ∧
        ∃ (A99_1 : Option Addr) (n99_1 c99_1 : Nat),
        w_44.cell? ⟨w_32.heap.size, 0, none⟩ = some (.slice A99_1 n99_1 c99_1) ∧
        ∃ (A101_1 : Option Addr) (n101_1 c101_1 : Nat),
        w_44.cell? ⟨w.heap.size, 3, none⟩ = some (.slice A101_1 n101_1 c101_1) ∧
        (0 : Int) ≤ (n101_1 : Int) ∧ (n101_1 : Int) ≤ (c99_1 : Int) ∧
        ∃ (A106_1 : Option Addr) (n106_1 c106_1 : Nat),
        w_44.cell? ⟨w_32.heap.size, 1, none⟩ = some (.slice A106_1 n106_1 c106_1) ∧
        ∃ (A108_1 : Option Addr) (n108_1 c108_1 : Nat),
        w_44.cell? ⟨w.heap.size, 4, none⟩ = some (.slice A108_1 n108_1 c108_1) ∧
        (0 : Int) ≤ (n108_1 : Int) ∧ (n108_1 : Int) ≤ (c106_1 : Int) ∧
        canStore w_44 w_3.heap.size 0 6 ∧
        let w_49 : World := setCs w_44.drew w_3.heap.size 0 [.slice A78_1 (n80_1 : Int).toNat c78_1, .slice A85_1 (n87_1 : Int).toNat c85_1, .slice A92_1 (n94_1 : Int).toNat c92_1, .slice A99_1 (n101_1 : Int).toNat c99_1, .slice A106_1 (n108_1 : Int).toNat c106_1, .slice none 0 0];
        ∃ I_7 : Int → World → Nat → Prop,
        (∃ n, I_7 0 w_49 n) ∧
        ∀ d_7 : Env, ∀ (x13_1 : Int) (w_50 : World) (r_7 : Nat), I_7 x13_1 w_50 r_7 →
        sel (decide ((x13_1 : Int) < ((n31_1 : Int) : Int))) (
          (0 : Int) ≤ x13_1 ∧ x13_1 < (n31_1 : Int) ∧
          needPtr A31_1 fun b122_1 o122_1 =>
          ∃ (A119_1 : Option Addr) (n119_1 c119_1 : Nat),
          w_50.cell? ⟨w_3.heap.size, 5, none⟩ = some (.slice A119_1 n119_1 c119_1) ∧
          ∃ (A123_1 : Option Addr) (n123_1 c123_1 : Nat),
          w_50.cell? ⟨b122_1, o122_1 + x13_1.toNat * 1, none⟩ = some (.slice A123_1 n123_1 c123_1) ∧
          ∃ (A125_1 : Option Addr) (n125_1 c125_1 : Nat),
          w_50.cell? ⟨w.heap.size, 5, none⟩ = some (.slice A125_1 n125_1 c125_1) ∧
          (0 : Int) ≤ x13_1 ∧ x13_1 < (n125_1 : Int) ∧
          needPtr A125_1 fun b127_1 o127_1 =>
          ∃ (A128_1 : Option Addr) (n128_1 c128_1 : Nat),
          w_50.cell? ⟨b127_1, o127_1 + x13_1.toNat * 1, none⟩ = some (.slice A128_1 n128_1 c128_1) ∧
          (0 : Int) ≤ (n128_1 : Int) ∧ (n128_1 : Int) ≤ (c123_1 : Int) ∧
          let w_51 : World := World.alloc w_50.drew (.cells #[.slice A123_1 (n128_1 : Int).toNat c123_1] 82);
          ∃ (A132_1 : Option Addr) (n132_1 c132_1 : Nat),
          ∃ w_52 : World, (Builtin.append_ #[27, 27] 27 #[.slice A119_1 n119_1 c119_1, .slice (some ⟨w_50.heap.size, 0, none⟩) 1 1]).run Try.prog w_51 = .ok (.slice A132_1 n132_1 c132_1) w_52 ∧
          canStore w_52 w_3.heap.size 5 1 ∧
          let w_53 : World := setCs w_52 w_3.heap.size 5 [.slice A132_1 n132_1 c132_1];
          let i117_1 : Int := IntKind.i64.wrap (x13_1 + 1);
          ([.pointer (some ⟨w.heap.size, 0, none⟩), .pointer (some ⟨w_1.heap.size, 0, none⟩), .pointer (some ⟨w_3.heap.size, 0, none⟩), .slice (some ⟨w_5.heap.size, 0, none⟩) 3 3, .slice (some ⟨w_32.heap.size, 0, none⟩) 2 2, .slice A31_1 n31_1 c31_1] : List Value) = ([.pointer (some ⟨w.heap.size, 0, none⟩), .pointer (some ⟨w_1.heap.size, 0, none⟩), .pointer (some ⟨w_3.heap.size, 0, none⟩), .slice (some ⟨w_5.heap.size, 0, none⟩) 3 3, .slice (some ⟨w_32.heap.size, 0, none⟩) 2 2, .slice A31_1 n31_1 c31_1] : List Value) ∧ ∃ m, m < r_7 ∧ I_7 i117_1 w_53 m) (
          ∃ (A134_0_1 : Option Addr) (n134_0_1 c134_0_1 : Nat),
          w_50.cell? ⟨w_3.heap.size, 0, none⟩ = some (.slice A134_0_1 n134_0_1 c134_0_1) ∧
          ∃ (A134_1_1 : Option Addr) (n134_1_1 c134_1_1 : Nat),
          w_50.cell? ⟨w_3.heap.size, 1, none⟩ = some (.slice A134_1_1 n134_1_1 c134_1_1) ∧
          ∃ (A134_2_1 : Option Addr) (n134_2_1 c134_2_1 : Nat),
          w_50.cell? ⟨w_3.heap.size, 2, none⟩ = some (.slice A134_2_1 n134_2_1 c134_2_1) ∧
          ∃ (A134_3_1 : Option Addr) (n134_3_1 c134_3_1 : Nat),
          w_50.cell? ⟨w_3.heap.size, 3, none⟩ = some (.slice A134_3_1 n134_3_1 c134_3_1) ∧
          ∃ (A134_4_1 : Option Addr) (n134_4_1 c134_4_1 : Nat),
          w_50.cell? ⟨w_3.heap.size, 4, none⟩ = some (.slice A134_4_1 n134_4_1 c134_4_1) ∧
          ∃ (A134_5_1 : Option Addr) (n134_5_1 c134_5_1 : Nat),
          w_50.cell? ⟨w_3.heap.size, 5, none⟩ = some (.slice A134_5_1 n134_5_1 c134_5_1) ∧
          canStore w_50 w_1.heap.size 0 6 ∧
          let w_54 : World := setCs w_50 w_1.heap.size 0 [.slice A134_0_1 n134_0_1 c134_0_1, .slice A134_1_1 n134_1_1 c134_1_1, .slice A134_2_1 n134_2_1 c134_2_1, .slice A134_3_1 n134_3_1 c134_3_1, .slice A134_4_1 n134_4_1 c134_4_1, .slice A134_5_1 n134_5_1 c134_5_1];
          ∃ (A2_0_1 : Option Addr) (n2_0_1 c2_0_1 : Nat),
          w_54.cell? ⟨w_1.heap.size, 0, none⟩ = some (.slice A2_0_1 n2_0_1 c2_0_1) ∧
          ∃ (A2_1_1 : Option Addr) (n2_1_1 c2_1_1 : Nat),
          w_54.cell? ⟨w_1.heap.size, 1, none⟩ = some (.slice A2_1_1 n2_1_1 c2_1_1) ∧
          ∃ (A2_2_1 : Option Addr) (n2_2_1 c2_2_1 : Nat),
          w_54.cell? ⟨w_1.heap.size, 2, none⟩ = some (.slice A2_2_1 n2_2_1 c2_2_1) ∧
          ∃ (A2_3_1 : Option Addr) (n2_3_1 c2_3_1 : Nat),
          w_54.cell? ⟨w_1.heap.size, 3, none⟩ = some (.slice A2_3_1 n2_3_1 c2_3_1) ∧
          ∃ (A2_4_1 : Option Addr) (n2_4_1 c2_4_1 : Nat),
          w_54.cell? ⟨w_1.heap.size, 4, none⟩ = some (.slice A2_4_1 n2_4_1 c2_4_1) ∧
          ∃ (A2_5_1 : Option Addr) (n2_5_1 c2_5_1 : Nat),
          w_54.cell? ⟨w_1.heap.size, 5, none⟩ = some (.slice A2_5_1 n2_5_1 c2_5_1) ∧
          R (.tuple #[.agg #[.slice A2_0_1 n2_0_1 c2_0_1, .slice A2_1_1 n2_1_1 c2_1_1, .slice A2_2_1 n2_2_1 c2_2_1, .slice A2_3_1 n2_3_1 c2_3_1, .slice A2_4_1 n2_4_1 c2_4_1, .slice A2_5_1 n2_5_1 c2_5_1], .slice (some ⟨w_5.heap.size, 0, none⟩) 3 3, .slice (some ⟨w_32.heap.size, 0, none⟩) 2 2, .slice A31_1 n31_1 c31_1]) w_54)))) ∧ True
theorem f14.eq (Aa0_0 : Option Addr) (na0_0 ca0_0 : Nat) (Aa0_1 : Option Addr) (na0_1 ca0_1 : Nat) (Aa0_2 : Option Addr) (na0_2 ca0_2 : Nat) (Aa0_3 : Option Addr) (na0_3 ca0_3 : Nat) (Aa0_4 : Option Addr) (na0_4 ca0_4 : Nat) (Aa0_5 : Option Addr) (na0_5 ca0_5 : Nat) (w : World) (R : Value → World → Prop) : f14.VC Aa0_0 na0_0 ca0_0 Aa0_1 na0_1 ca0_1 Aa0_2 na0_2 ca0_2 Aa0_3 na0_3 ca0_3 Aa0_4 na0_4 ca0_4 Aa0_5 na0_5 ca0_5 w R = funV Try.prog Try.f14 f14.AL f14.AC #[.agg #[.slice Aa0_0 na0_0 ca0_0, .slice Aa0_1 na0_1 ca0_1, .slice Aa0_2 na0_2 ca0_2, .slice Aa0_3 na0_3 ca0_3, .slice Aa0_4 na0_4 ca0_4, .slice Aa0_5 na0_5 ca0_5]] w R := by kernel_rfl
theorem f14.calls {Aa0_0 : Option Addr} {na0_0 ca0_0 : Nat} {Aa0_1 : Option Addr} {na0_1 ca0_1 : Nat} {Aa0_2 : Option Addr} {na0_2 ca0_2 : Nat} {Aa0_3 : Option Addr} {na0_3 ca0_3 : Nat} {Aa0_4 : Option Addr} {na0_4 ca0_4 : Nat} {Aa0_5 : Option Addr} {na0_5 ca0_5 : Nat} {w : World} {R : Value → World → Prop} (h : f14.VC Aa0_0 na0_0 ca0_0 Aa0_1 na0_1 ca0_1 Aa0_2 na0_2 ca0_2 Aa0_3 na0_3 ca0_3 Aa0_4 na0_4 ca0_4 Aa0_5 na0_5 ca0_5 w R) : Calls Try.prog 14 #[.agg #[.slice Aa0_0 na0_0 ca0_0, .slice Aa0_1 na0_1 ca0_1, .slice Aa0_2 na0_2 ca0_2, .slice Aa0_3 na0_3 ca0_3, .slice Aa0_4 na0_4 ca0_4, .slice Aa0_5 na0_5 ca0_5]] w fun e w' => ∃ v, e = .returned v ∧ R v w' :=
  funV_sound (fn := Try.f14) (AL := f14.AL) (AC := f14.AC) W19.mixed (by kernel_rfl) (by rw [← f14.eq Aa0_0 na0_0 ca0_0 Aa0_1 na0_1 ca0_1 Aa0_2 na0_2 ca0_2 Aa0_3 na0_3 ca0_3 Aa0_4 na0_4 ca0_4 Aa0_5 na0_5 ca0_5]; exact h)

end Go.Proofs.Ytjmlfknogjaemaa
