/- The plain statements of some functions, printed by vcgen.py. -/
import Derived.Test.YtjmlfknogjaemaaM4
import Derived.Test.YtjmlfknogjaemaaProg
import Derived.KernelRfl
import Derived.Test.YtjmlfknogjaemaaM31
set_option maxRecDepth 100000
set_option linter.unusedVariables false
namespace Go.Proofs.Ytjmlfknogjaemaa
open Go Go.Proofs.Ytjmlfknogjaemaa.Vc
theorem W19.mixed : Try.prog.follows .mixedOrders = true := by kernel_rfl
/-- gatehouse/gatehouselaw12.sameIndex -/
def f19.AL : Nat → Option Ann := fun r => match r with | 4 => some ⟨[(5, .int .i64)], [0, 1]⟩ | _ => none
def f19.AC : Nat → Option Ann := fun _ => none
def f19.VC (a0 : Nat) (a1 : Nat) (w : World) (R : Value → World → Prop) : Prop :=
  (Calls Try.prog 30 #[.pointer (some ⟨a0, 0, none⟩)] w.drew fun e_1 w_1 =>
    ∃ (x9 : Int),
    e_1 = .returned (.int .i64 x9) ∧
    ∃ (A13 : Option Addr) (n13 c13 : Nat),
    w_1.cell? ⟨a1, 0, none⟩ = some (.slice A13 n13 c13) ∧
    sel ((x9 : Int) != ((n13 : Int) : Int)) (
      R (.bool false) w_1) (
      ∃ I : Int → World → Nat → Prop,
      (∃ n, I 0 w_1 n) ∧
      ∀ d : Env, ∀ (x5 : Int) (w_2 : World) (r : Nat), I x5 w_2 r →
      ∃ (A20 : Option Addr) (n20 c20 : Nat),
      w_2.cell? ⟨a1, 0, none⟩ = some (.slice A20 n20 c20) ∧
      sel (decide ((x5 : Int) < ((n20 : Int) : Int))) (
        let i28 : Int := IntKind.i64.wrap (x5 + 1);
        Calls Try.prog 53 #[.pointer (some ⟨a0, 0, none⟩), .int .i64 i28] w_2 fun e_2 w_3 =>
        ∃ (s29_0 : ByteArray) (b29_1 : Bool),
        e_2 = .returned (.tuple #[.string s29_0, .bool b29_1]) ∧
        sel (!b29_1) (
          R (.bool false) w_3) (
          ∃ (A39 : Option Addr) (n39 c39 : Nat),
          w_3.cell? ⟨a1, 0, none⟩ = some (.slice A39 n39 c39) ∧
          (0 : Int) ≤ x5 ∧ x5 < (n39 : Int) ∧
          needPtr A39 fun b41 o41 =>
          ∃ (s42 : ByteArray),
          w_3.cell? ⟨b41, o41 + x5.toNat * 1, none⟩ = some (.string s42) ∧
          sel (!(decide (s29_0 = s42))) (
            R (.bool false) w_3) (
            let i24 : Int := IntKind.i64.wrap (x5 + 1);
            ([.pointer (some ⟨a0, 0, none⟩), .pointer (some ⟨a1, 0, none⟩)] : List Value) = ([.pointer (some ⟨a0, 0, none⟩), .pointer (some ⟨a1, 0, none⟩)] : List Value) ∧ ∃ m, m < r ∧ I i24 w_3 m))) (
        R (.bool true) w_2))) ∧
  (∃ (A13_1 : Option Addr) (n13_1 c13_1 : Nat),
    w.cell? ⟨a1, 0, none⟩ = some (.slice A13_1 n13_1 c13_1) ∧
    Calls Try.prog 30 #[.pointer (some ⟨a0, 0, none⟩)] w.drew fun e_3 w_4 =>
    ∃ (x9_1 : Int),
    e_3 = .returned (.int .i64 x9_1) ∧
    sel ((x9_1 : Int) != ((n13_1 : Int) : Int)) (
      R (.bool false) w_4) (
      ∃ I_1 : Int → World → Nat → Prop,
      (∃ n, I_1 0 w_4 n) ∧
      ∀ d_1 : Env, ∀ (x5_1 : Int) (w_5 : World) (r_1 : Nat), I_1 x5_1 w_5 r_1 →
      ∃ (A20_1 : Option Addr) (n20_1 c20_1 : Nat),
      w_5.cell? ⟨a1, 0, none⟩ = some (.slice A20_1 n20_1 c20_1) ∧
      sel (decide ((x5_1 : Int) < ((n20_1 : Int) : Int))) (
        let i28_1 : Int := IntKind.i64.wrap (x5_1 + 1);
        Calls Try.prog 53 #[.pointer (some ⟨a0, 0, none⟩), .int .i64 i28_1] w_5 fun e_4 w_6 =>
        ∃ (s29_0_1 : ByteArray) (b29_1_1 : Bool),
        e_4 = .returned (.tuple #[.string s29_0_1, .bool b29_1_1]) ∧
        sel (!b29_1_1) (
          R (.bool false) w_6) (
          ∃ (A39_1 : Option Addr) (n39_1 c39_1 : Nat),
          w_6.cell? ⟨a1, 0, none⟩ = some (.slice A39_1 n39_1 c39_1) ∧
          (0 : Int) ≤ x5_1 ∧ x5_1 < (n39_1 : Int) ∧
          needPtr A39_1 fun b41_1 o41_1 =>
          ∃ (s42_1 : ByteArray),
          w_6.cell? ⟨b41_1, o41_1 + x5_1.toNat * 1, none⟩ = some (.string s42_1) ∧
          sel (!(decide (s29_0_1 = s42_1))) (
            R (.bool false) w_6) (
            let i24_1 : Int := IntKind.i64.wrap (x5_1 + 1);
            ([.pointer (some ⟨a0, 0, none⟩), .pointer (some ⟨a1, 0, none⟩)] : List Value) = ([.pointer (some ⟨a0, 0, none⟩), .pointer (some ⟨a1, 0, none⟩)] : List Value) ∧ ∃ m, m < r_1 ∧ I_1 i24_1 w_6 m))) (
        R (.bool true) w_5))) ∧ True
theorem f19.eq (a0 : Nat) (a1 : Nat) (w : World) (R : Value → World → Prop) : f19.VC a0 a1 w R = funV Try.prog Try.f19 f19.AL f19.AC #[.pointer (some ⟨a0, 0, none⟩), .pointer (some ⟨a1, 0, none⟩)] w R := by kernel_rfl
theorem f19.calls {a0 : Nat} {a1 : Nat} {w : World} {R : Value → World → Prop} (h : f19.VC a0 a1 w R) : Calls Try.prog 19 #[.pointer (some ⟨a0, 0, none⟩), .pointer (some ⟨a1, 0, none⟩)] w fun e w' => ∃ v, e = .returned v ∧ R v w' :=
  funV_sound (fn := Try.f19) (AL := f19.AL) (AC := f19.AC) W19.mixed (by kernel_rfl) (by rw [← f19.eq a0 a1]; exact h)

/-- gatehouse/gatehouseref11.Same -/
def f22.AL : Nat → Option Ann := fun r => match r with | 4 => some ⟨[(5, .int .i64)], [2, 3]⟩ | _ => none
def f22.AC : Nat → Option Ann := fun _ => none
def f22.VC (Aa0_0 : Option Addr) (na0_0 ca0_0 : Nat) (Aa0_1 : Option Addr) (na0_1 ca0_1 : Nat) (Aa0_2 : Option Addr) (na0_2 ca0_2 : Nat) (Aa0_3 : Option Addr) (na0_3 ca0_3 : Nat) (Aa0_4 : Option Addr) (na0_4 ca0_4 : Nat) (Aa0_5 : Option Addr) (na0_5 ca0_5 : Nat) (Aa1_0 : Option Addr) (na1_0 ca1_0 : Nat) (Aa1_1 : Option Addr) (na1_1 ca1_1 : Nat) (Aa1_2 : Option Addr) (na1_2 ca1_2 : Nat) (Aa1_3 : Option Addr) (na1_3 ca1_3 : Nat) (Aa1_4 : Option Addr) (na1_4 ca1_4 : Nat) (Aa1_5 : Option Addr) (na1_5 ca1_5 : Nat) (w : World) (R : Value → World → Prop) : Prop :=
  let w_1 : World := World.alloc w (.cells #[.slice Aa0_0 na0_0 ca0_0, .slice Aa0_1 na0_1 ca0_1, .slice Aa0_2 na0_2 ca0_2, .slice Aa0_3 na0_3 ca0_3, .slice Aa0_4 na0_4 ca0_4, .slice Aa0_5 na0_5 ca0_5] 29);
  let w_2 : World := World.alloc w_1 (.cells #[.slice Aa1_0 na1_0 ca1_0, .slice Aa1_1 na1_1 ca1_1, .slice Aa1_2 na1_2 ca1_2, .slice Aa1_3 na1_3 ca1_3, .slice Aa1_4 na1_4 ca1_4, .slice Aa1_5 na1_5 ca1_5] 29);
  ∃ (A8 : Option Addr) (n8 c8 : Nat),
  w_2.cell? ⟨w.heap.size, 0, none⟩ = some (.slice A8 n8 c8) ∧
  ∃ (A10 : Option Addr) (n10 c10 : Nat),
  w_2.cell? ⟨w_1.heap.size, 0, none⟩ = some (.slice A10 n10 c10) ∧
  Calls Try.prog 54 #[.slice A8 n8 c8, .slice A10 n10 c10] w_2 fun e_1 w_3 =>
  ∃ (b11 : Bool),
  e_1 = .returned (.bool b11) ∧
  sel (!b11) (
    R (.bool false) w_3) (
    ∃ (A15 : Option Addr) (n15 c15 : Nat),
    w_3.cell? ⟨w.heap.size, 1, none⟩ = some (.slice A15 n15 c15) ∧
    ∃ (A17 : Option Addr) (n17 c17 : Nat),
    w_3.cell? ⟨w_1.heap.size, 1, none⟩ = some (.slice A17 n17 c17) ∧
    Calls Try.prog 54 #[.slice A15 n15 c15, .slice A17 n17 c17] w_3 fun e_2 w_4 =>
    ∃ (b18 : Bool),
    e_2 = .returned (.bool b18) ∧
    sel (!b18) (
      R (.bool false) w_4) (
      ∃ (A23 : Option Addr) (n23 c23 : Nat),
      w_4.cell? ⟨w.heap.size, 2, none⟩ = some (.slice A23 n23 c23) ∧
      ∃ (A25 : Option Addr) (n25 c25 : Nat),
      w_4.cell? ⟨w_1.heap.size, 2, none⟩ = some (.slice A25 n25 c25) ∧
      Calls Try.prog 54 #[.slice A23 n23 c23, .slice A25 n25 c25] w_4 fun e_3 w_5 =>
      ∃ (b26 : Bool),
      e_3 = .returned (.bool b26) ∧
      sel (!b26) (
        R (.bool false) w_5) (
        ∃ (A31 : Option Addr) (n31 c31 : Nat),
        w_5.cell? ⟨w.heap.size, 3, none⟩ = some (.slice A31 n31 c31) ∧
        ∃ (A33 : Option Addr) (n33 c33 : Nat),
        w_5.cell? ⟨w_1.heap.size, 3, none⟩ = some (.slice A33 n33 c33) ∧
        Calls Try.prog 55 #[.slice A31 n31 c31, .slice A33 n33 c33] w_5 fun e_4 w_6 =>
        ∃ (b34 : Bool),
        e_4 = .returned (.bool b34) ∧
        sel (!b34) (
          R (.bool false) w_6) (
          ∃ (A39 : Option Addr) (n39 c39 : Nat),
          w_6.cell? ⟨w.heap.size, 4, none⟩ = some (.slice A39 n39 c39) ∧
          ∃ (A41 : Option Addr) (n41 c41 : Nat),
          w_6.cell? ⟨w_1.heap.size, 4, none⟩ = some (.slice A41 n41 c41) ∧
          Calls Try.prog 55 #[.slice A39 n39 c39, .slice A41 n41 c41] w_6 fun e_5 w_7 =>
          ∃ (b42 : Bool),
          e_5 = .returned (.bool b42) ∧
          sel (!b42) (
            R (.bool false) w_7) (
            ∃ (A47 : Option Addr) (n47 c47 : Nat),
            w_7.cell? ⟨w.heap.size, 5, none⟩ = some (.slice A47 n47 c47) ∧
            ∃ (A50 : Option Addr) (n50 c50 : Nat),
            w_7.cell? ⟨w_1.heap.size, 5, none⟩ = some (.slice A50 n50 c50) ∧
            sel (((n47 : Int) : Int) != ((n50 : Int) : Int)) (
              R (.bool false) w_7) (
              ∃ I : Int → World → Nat → Prop,
              (∃ n, I 0 w_7 n) ∧
              ∀ d : Env, ∀ (x5 : Int) (w_8 : World) (r : Nat), I x5 w_8 r →
              ∃ (A56 : Option Addr) (n56 c56 : Nat),
              w_8.cell? ⟨w.heap.size, 5, none⟩ = some (.slice A56 n56 c56) ∧
              sel (decide ((x5 : Int) < ((n56 : Int) : Int))) (
                ∃ (A62 : Option Addr) (n62 c62 : Nat),
                w_8.cell? ⟨w.heap.size, 5, none⟩ = some (.slice A62 n62 c62) ∧
                (0 : Int) ≤ x5 ∧ x5 < (n62 : Int) ∧
                needPtr A62 fun b64 o64 =>
                ∃ (A65 : Option Addr) (n65 c65 : Nat),
                w_8.cell? ⟨b64, o64 + x5.toNat * 1, none⟩ = some (.slice A65 n65 c65) ∧
                ∃ (A67 : Option Addr) (n67 c67 : Nat),
                w_8.cell? ⟨w_1.heap.size, 5, none⟩ = some (.slice A67 n67 c67) ∧
                (0 : Int) ≤ x5 ∧ x5 < (n67 : Int) ∧
                needPtr A67 fun b69 o69 =>
                ∃ (A70 : Option Addr) (n70 c70 : Nat),
                w_8.cell? ⟨b69, o69 + x5.toNat * 1, none⟩ = some (.slice A70 n70 c70) ∧
                Calls Try.prog 56 #[.slice A65 n65 c65, .slice A70 n70 c70] w_8.drew fun e_6 w_9 =>
                ∃ (b71 : Bool),
                e_6 = .returned (.bool b71) ∧
                sel (!b71) (
                  R (.bool false) w_9) (
                  let i60 : Int := IntKind.i64.wrap (x5 + 1);
                  ([.pointer (some ⟨w.heap.size, 0, none⟩), .pointer (some ⟨w_1.heap.size, 0, none⟩)] : List Value) = ([.pointer (some ⟨w.heap.size, 0, none⟩), .pointer (some ⟨w_1.heap.size, 0, none⟩)] : List Value) ∧ ∃ m, m < r ∧ I i60 w_9 m)) (
                R (.bool true) w_8)))))))
theorem f22.eq (Aa0_0 : Option Addr) (na0_0 ca0_0 : Nat) (Aa0_1 : Option Addr) (na0_1 ca0_1 : Nat) (Aa0_2 : Option Addr) (na0_2 ca0_2 : Nat) (Aa0_3 : Option Addr) (na0_3 ca0_3 : Nat) (Aa0_4 : Option Addr) (na0_4 ca0_4 : Nat) (Aa0_5 : Option Addr) (na0_5 ca0_5 : Nat) (Aa1_0 : Option Addr) (na1_0 ca1_0 : Nat) (Aa1_1 : Option Addr) (na1_1 ca1_1 : Nat) (Aa1_2 : Option Addr) (na1_2 ca1_2 : Nat) (Aa1_3 : Option Addr) (na1_3 ca1_3 : Nat) (Aa1_4 : Option Addr) (na1_4 ca1_4 : Nat) (Aa1_5 : Option Addr) (na1_5 ca1_5 : Nat) (w : World) (R : Value → World → Prop) : f22.VC Aa0_0 na0_0 ca0_0 Aa0_1 na0_1 ca0_1 Aa0_2 na0_2 ca0_2 Aa0_3 na0_3 ca0_3 Aa0_4 na0_4 ca0_4 Aa0_5 na0_5 ca0_5 Aa1_0 na1_0 ca1_0 Aa1_1 na1_1 ca1_1 Aa1_2 na1_2 ca1_2 Aa1_3 na1_3 ca1_3 Aa1_4 na1_4 ca1_4 Aa1_5 na1_5 ca1_5 w R = funV Try.prog Try.f22 f22.AL f22.AC #[.agg #[.slice Aa0_0 na0_0 ca0_0, .slice Aa0_1 na0_1 ca0_1, .slice Aa0_2 na0_2 ca0_2, .slice Aa0_3 na0_3 ca0_3, .slice Aa0_4 na0_4 ca0_4, .slice Aa0_5 na0_5 ca0_5], .agg #[.slice Aa1_0 na1_0 ca1_0, .slice Aa1_1 na1_1 ca1_1, .slice Aa1_2 na1_2 ca1_2, .slice Aa1_3 na1_3 ca1_3, .slice Aa1_4 na1_4 ca1_4, .slice Aa1_5 na1_5 ca1_5]] w R := by kernel_rfl
theorem f22.calls {Aa0_0 : Option Addr} {na0_0 ca0_0 : Nat} {Aa0_1 : Option Addr} {na0_1 ca0_1 : Nat} {Aa0_2 : Option Addr} {na0_2 ca0_2 : Nat} {Aa0_3 : Option Addr} {na0_3 ca0_3 : Nat} {Aa0_4 : Option Addr} {na0_4 ca0_4 : Nat} {Aa0_5 : Option Addr} {na0_5 ca0_5 : Nat} {Aa1_0 : Option Addr} {na1_0 ca1_0 : Nat} {Aa1_1 : Option Addr} {na1_1 ca1_1 : Nat} {Aa1_2 : Option Addr} {na1_2 ca1_2 : Nat} {Aa1_3 : Option Addr} {na1_3 ca1_3 : Nat} {Aa1_4 : Option Addr} {na1_4 ca1_4 : Nat} {Aa1_5 : Option Addr} {na1_5 ca1_5 : Nat} {w : World} {R : Value → World → Prop} (h : f22.VC Aa0_0 na0_0 ca0_0 Aa0_1 na0_1 ca0_1 Aa0_2 na0_2 ca0_2 Aa0_3 na0_3 ca0_3 Aa0_4 na0_4 ca0_4 Aa0_5 na0_5 ca0_5 Aa1_0 na1_0 ca1_0 Aa1_1 na1_1 ca1_1 Aa1_2 na1_2 ca1_2 Aa1_3 na1_3 ca1_3 Aa1_4 na1_4 ca1_4 Aa1_5 na1_5 ca1_5 w R) : Calls Try.prog 22 #[.agg #[.slice Aa0_0 na0_0 ca0_0, .slice Aa0_1 na0_1 ca0_1, .slice Aa0_2 na0_2 ca0_2, .slice Aa0_3 na0_3 ca0_3, .slice Aa0_4 na0_4 ca0_4, .slice Aa0_5 na0_5 ca0_5], .agg #[.slice Aa1_0 na1_0 ca1_0, .slice Aa1_1 na1_1 ca1_1, .slice Aa1_2 na1_2 ca1_2, .slice Aa1_3 na1_3 ca1_3, .slice Aa1_4 na1_4 ca1_4, .slice Aa1_5 na1_5 ca1_5]] w fun e w' => ∃ v, e = .returned v ∧ R v w' :=
  funV_sound (fn := Try.f22) (AL := f22.AL) (AC := f22.AC) W19.mixed (by kernel_rfl) (by rw [← f22.eq Aa0_0 na0_0 ca0_0 Aa0_1 na0_1 ca0_1 Aa0_2 na0_2 ca0_2 Aa0_3 na0_3 ca0_3 Aa0_4 na0_4 ca0_4 Aa0_5 na0_5 ca0_5 Aa1_0 na1_0 ca1_0 Aa1_1 na1_1 ca1_1 Aa1_2 na1_2 ca1_2 Aa1_3 na1_3 ca1_3 Aa1_4 na1_4 ca1_4 Aa1_5 na1_5 ca1_5]; exact h)

/-- gatehouse/gatehouseref11.texts -/
def f54.AL : Nat → Option Ann := fun r => match r with | 4 => some ⟨[(5, .int .i64)], [0, 1]⟩ | _ => none
def f54.AC : Nat → Option Ann := fun _ => none
def f54.VC (Aa0 : Option Addr) (na0 ca0 : Nat) (Aa1 : Option Addr) (na1 ca1 : Nat) (w : World) (R : Value → World → Prop) : Prop :=
  sel (((na0 : Int) : Int) != ((na1 : Int) : Int)) (
    R (.bool false) w) (
    ∃ I : Int → World → Nat → Prop,
    (∃ n, I 0 w n) ∧
    ∀ d : Env, ∀ (x5 : Int) (w_1 : World) (r : Nat), I x5 w_1 r →
    sel (decide ((x5 : Int) < ((na0 : Int) : Int))) (
      (0 : Int) ≤ x5 ∧ x5 < (na0 : Int) ∧
      needPtr Aa0 fun b19 o19 =>
      (0 : Int) ≤ x5 ∧ x5 < (na1 : Int) ∧
      needPtr Aa1 fun b23 o23 =>
      ∃ (s20 : ByteArray),
      w_1.cell? ⟨b19, o19 + x5.toNat * 1, none⟩ = some (.string s20) ∧
      ∃ (s24 : ByteArray),
      w_1.cell? ⟨b23, o23 + x5.toNat * 1, none⟩ = some (.string s24) ∧
      sel (!(decide (s20 = s24))) (
        R (.bool false) w_1.drew) (
        let i16 : Int := IntKind.i64.wrap (x5 + 1);
        ([.slice Aa0 na0 ca0, .slice Aa1 na1 ca1] : List Value) = ([.slice Aa0 na0 ca0, .slice Aa1 na1 ca1] : List Value) ∧ ∃ m, m < r ∧ I i16 w_1.drew m)) (
      R (.bool true) w_1))
theorem f54.eq (Aa0 : Option Addr) (na0 ca0 : Nat) (Aa1 : Option Addr) (na1 ca1 : Nat) (w : World) (R : Value → World → Prop) : f54.VC Aa0 na0 ca0 Aa1 na1 ca1 w R = funV Try.prog Try.f54 f54.AL f54.AC #[.slice Aa0 na0 ca0, .slice Aa1 na1 ca1] w R := by kernel_rfl
theorem f54.calls {Aa0 : Option Addr} {na0 ca0 : Nat} {Aa1 : Option Addr} {na1 ca1 : Nat} {w : World} {R : Value → World → Prop} (h : f54.VC Aa0 na0 ca0 Aa1 na1 ca1 w R) : Calls Try.prog 54 #[.slice Aa0 na0 ca0, .slice Aa1 na1 ca1] w fun e w' => ∃ v, e = .returned v ∧ R v w' :=
  funV_sound (fn := Try.f54) (AL := f54.AL) (AC := f54.AC) W19.mixed (by kernel_rfl) (by rw [← f54.eq Aa0 na0 ca0 Aa1 na1 ca1]; exact h)

/-- gatehouse/gatehouseref11.numbers -/
def f55.AL : Nat → Option Ann := fun r => match r with | 4 => some ⟨[(5, .int .i64)], [0, 1]⟩ | _ => none
def f55.AC : Nat → Option Ann := fun _ => none
def f55.VC (Aa0 : Option Addr) (na0 ca0 : Nat) (Aa1 : Option Addr) (na1 ca1 : Nat) (w : World) (R : Value → World → Prop) : Prop :=
  sel (((na0 : Int) : Int) != ((na1 : Int) : Int)) (
    R (.bool false) w) (
    ∃ I : Int → World → Nat → Prop,
    (∃ n, I 0 w n) ∧
    ∀ d : Env, ∀ (x5 : Int) (w_1 : World) (r : Nat), I x5 w_1 r →
    sel (decide ((x5 : Int) < ((na0 : Int) : Int))) (
      (0 : Int) ≤ x5 ∧ x5 < (na0 : Int) ∧
      needPtr Aa0 fun b19 o19 =>
      (0 : Int) ≤ x5 ∧ x5 < (na1 : Int) ∧
      needPtr Aa1 fun b23 o23 =>
      ∃ (x20 : Int),
      w_1.cell? ⟨b19, o19 + x5.toNat * 1, none⟩ = some (.int .i64 x20) ∧
      ∃ (x24 : Int),
      w_1.cell? ⟨b23, o23 + x5.toNat * 1, none⟩ = some (.int .i64 x24) ∧
      sel ((x20 : Int) != (x24 : Int)) (
        R (.bool false) w_1.drew) (
        let i16 : Int := IntKind.i64.wrap (x5 + 1);
        ([.slice Aa0 na0 ca0, .slice Aa1 na1 ca1] : List Value) = ([.slice Aa0 na0 ca0, .slice Aa1 na1 ca1] : List Value) ∧ ∃ m, m < r ∧ I i16 w_1.drew m)) (
      R (.bool true) w_1))
theorem f55.eq (Aa0 : Option Addr) (na0 ca0 : Nat) (Aa1 : Option Addr) (na1 ca1 : Nat) (w : World) (R : Value → World → Prop) : f55.VC Aa0 na0 ca0 Aa1 na1 ca1 w R = funV Try.prog Try.f55 f55.AL f55.AC #[.slice Aa0 na0 ca0, .slice Aa1 na1 ca1] w R := by kernel_rfl
theorem f55.calls {Aa0 : Option Addr} {na0 ca0 : Nat} {Aa1 : Option Addr} {na1 ca1 : Nat} {w : World} {R : Value → World → Prop} (h : f55.VC Aa0 na0 ca0 Aa1 na1 ca1 w R) : Calls Try.prog 55 #[.slice Aa0 na0 ca0, .slice Aa1 na1 ca1] w fun e w' => ∃ v, e = .returned v ∧ R v w' :=
  funV_sound (fn := Try.f55) (AL := f55.AL) (AC := f55.AC) W19.mixed (by kernel_rfl) (by rw [← f55.eq Aa0 na0 ca0 Aa1 na1 ca1]; exact h)

end Go.Proofs.Ytjmlfknogjaemaa
/- Page: graphs and indexes that are alike. -/
set_option linter.unusedVariables false
set_option linter.unusedSimpArgs false
set_option maxRecDepth 10000
namespace Go.Proofs.Ytjmlfknogjaemaa
open Go Go.Proofs.Ytjmlfknogjaemaa.Vc
namespace PG
open Vc.PG NI
theorem numbersR {w : World} {A B : Option Addr} {n c m d : Nat} {l k : List Int} (h : InW w A n l) (h2 : InW w B m k) (hn : n ≤ 1000000000) : Calls Try.prog 55 #[.slice A n c, .slice B m d] w fun e w' => e = .returned (.bool (decide (l = k))) ∧ Fr [] w w' := by
  refine Calls.mono (f55.calls (R := fun v w' => v = .bool (decide (l = k)) ∧ Fr [] w w') ?_) ?_
  · dsimp only [f55.VC]
    have hl := h.1
    have hk := h2.1
    refine sel_of (fun hd => ?_) (fun hd => ?_)
    · have hd : (n : Int) ≠ m := by simpa using hd
      refine ⟨?_, Fr.refl _ _⟩
      rw [decide_eq_false]
      rintro rfl; omega
    · have hd : (n : Int) = m := by simpa using hd
      refine ⟨fun x w' r => Fr [] w w' ∧ ∃ i : Nat, x = (i : Int) ∧ i + r = n ∧ ∀ a, a < i → l.getD a 0 = k.getD a 0, ⟨n, Fr.refl _ _, 0, rfl, by omega, fun a ha => by omega⟩, ?_⟩
      rintro d x w1 r ⟨hf, i, rfl, hir, hno⟩
      refine sel_of (fun hd => ?_) (fun hd => ?_)
      · have hi : i < n := by have := of_decide_eq_true hd; omega
        obtain ⟨b, o, rfl, hc⟩ := h.2 (by omega)
        obtain ⟨b2, o2, rfl, hc2⟩ := h2.2 (by omega)
        refine ⟨by omega, by omega, needPtr_of rfl ⟨by omega, by omega, needPtr_of rfl ⟨_, by rw [Nat.mul_one, Int.toNat_natCast]; exact hf.cell (hc i (by omega)), _, by rw [Nat.mul_one, Int.toNat_natCast]; exact hf.cell (hc2 i (by omega)), sel_of (fun hs => ?_) (fun hs => ?_)⟩⟩⟩
        · have hs : l.getD i 0 ≠ k.getD i 0 := by simpa using hs
          refine ⟨?_, hf.drew⟩
          rw [decide_eq_false]
          rintro rfl; exact hs rfl
        · have hs : l.getD i 0 = k.getD i 0 := by simpa using hs
          rw [inc i n hn (by omega)]
          refine ⟨rfl, r - 1, by omega, hf.drew, i + 1, rfl, by omega, fun a ha => ?_⟩
          rcases Nat.lt_or_ge a i with h1 | h1
          · exact hno a h1
          · have : a = i := by omega
            subst this; exact hs
      · have hi : i = n := by have := of_decide_eq_false hd; omega
        refine ⟨?_, hf⟩
        rw [decide_eq_true]
        exact (ext_getD 0 _ _).2 ⟨by omega, fun q hq => hno q (by omega)⟩
  · rintro e w' ⟨v, rfl, rfl, h⟩; exact ⟨rfl, h⟩
theorem textsR {w : World} {A B : Option Addr} {n c m d : Nat} {l k : List ByteArray} (h : InX w A n l) (h2 : InX w B m k) (hn : n ≤ 1000000000) : Calls Try.prog 54 #[.slice A n c, .slice B m d] w fun e w' => e = .returned (.bool (decide (l = k))) ∧ Fr [] w w' := by
  refine Calls.mono (f54.calls (R := fun v w' => v = .bool (decide (l = k)) ∧ Fr [] w w') ?_) ?_
  · dsimp only [f54.VC]
    have hl := h.1
    have hk := h2.1
    refine sel_of (fun hd => ?_) (fun hd => ?_)
    · have hd : (n : Int) ≠ m := by simpa using hd
      refine ⟨?_, Fr.refl _ _⟩
      rw [decide_eq_false]
      rintro rfl; omega
    · have hd : (n : Int) = m := by simpa using hd
      refine ⟨fun x w' r => Fr [] w w' ∧ ∃ i : Nat, x = (i : Int) ∧ i + r = n ∧ ∀ a, a < i → l.getD a ByteArray.empty = k.getD a ByteArray.empty, ⟨n, Fr.refl _ _, 0, rfl, by omega, fun a ha => by omega⟩, ?_⟩
      rintro d x w1 r ⟨hf, i, rfl, hir, hno⟩
      refine sel_of (fun hd => ?_) (fun hd => ?_)
      · have hi : i < n := by have := of_decide_eq_true hd; omega
        obtain ⟨b, o, rfl, hc⟩ := h.2 (by omega)
        obtain ⟨b2, o2, rfl, hc2⟩ := h2.2 (by omega)
        refine ⟨by omega, by omega, needPtr_of rfl ⟨by omega, by omega, needPtr_of rfl ⟨_, by rw [Nat.mul_one, Int.toNat_natCast]; exact hf.cell (hc i (by omega)), _, by rw [Nat.mul_one, Int.toNat_natCast]; exact hf.cell (hc2 i (by omega)), sel_of (fun hs => ?_) (fun hs => ?_)⟩⟩⟩
        · have hs : l.getD i ByteArray.empty ≠ k.getD i ByteArray.empty := by simpa using hs
          refine ⟨?_, hf.drew⟩
          rw [decide_eq_false]
          rintro rfl; exact hs rfl
        · have hs : l.getD i ByteArray.empty = k.getD i ByteArray.empty := by simpa using hs
          rw [inc i n hn (by omega)]
          refine ⟨rfl, r - 1, by omega, hf.drew, i + 1, rfl, by omega, fun a ha => ?_⟩
          rcases Nat.lt_or_ge a i with h1 | h1
          · exact hno a h1
          · have : a = i := by omega
            subst this; exact hs
      · have hi : i = n := by have := of_decide_eq_false hd; omega
        refine ⟨?_, hf⟩
        rw [decide_eq_true]
        exact (ext_getD ByteArray.empty _ _).2 ⟨by omega, fun q hq => hno q (by omega)⟩
  · rintro e w' ⟨v, rfl, rfl, h⟩; exact ⟨rfl, h⟩
/-- The document's index, read. -/
theorem RefAt.things {w : World} {x : Nat} {l : List ByteArray} (h : RefAt w x l) : ∃ A c, w.cell? ⟨x, 0, none⟩ = some (.slice A l.length c) ∧ InX w A l.length l := by
  obtain ⟨F, hF⟩ := h
  obtain ⟨y, hS⟩ := openX (St.start1 hF)
  have hn := hS.slLen 1 rfl
  rw [List.length_map] at hn
  refine ⟨y.1, y.2.2, by rw [← hn]; exact (hS.blk 0 rfl).cell rfl, rfl, fun h0 => ?_⟩
  obtain ⟨_, g, hg, _⟩ := textAt hS 1 rfl h0
  refine ⟨g, 0, hg, fun i hi => ?_⟩
  obtain ⟨_, g2, hg2, hc⟩ := textAt hS 1 rfl hi
  rw [hg] at hg2
  injection hg2 with hg2
  injection hg2 with hg2
  subst hg2
  rw [Nat.mul_one] at hc
  exact hc
theorem thing_at (l : List ByteArray) (i : Nat) : thing l ((i + 1 : Nat) : Int) = if i < l.length then (l.getD i ByteArray.empty, true) else (ByteArray.empty, false) := by
  unfold thing
  by_cases h : i < l.length
  · rw [if_neg (by omega), if_pos h]
    have : (((i + 1 : Nat) : Int) - 1).toNat = i := by omega
    rw [this]; rfl
  · rw [if_pos (by omega), if_neg h]; rfl
def idI (w : World) (l k : List ByteArray) (x : Int) (w' : World) (r : Nat) : Prop := Fr [] w w' ∧ ∃ i : Nat, x = (i : Int) ∧ i + r = k.length ∧ ∀ a, a < i → l.getD a ByteArray.empty = k.getD a ByteArray.empty
theorem sameBody {w : World} {x y : Nat} {l k : List ByteArray} (hX : IdxAt w x l) (hY : RefAt w y k) (hl : l.length ≤ 1048576) (hlk : l.length = k.length) {x5 : Int} {w_2 : World} {r : Nat} (h : idI w l k x5 w_2 r) :
    ∃ (A20 : Option Addr) (n20 c20 : Nat), w_2.cell? ⟨y, 0, none⟩ = some (.slice A20 n20 c20) ∧
    sel (decide ((x5 : Int) < ((n20 : Int) : Int))) (
      Calls Try.prog 53 #[.pointer (some ⟨x, 0, none⟩), .int .i64 (IntKind.i64.wrap (x5 + 1))] w_2 fun e_2 w_3 =>
      ∃ (s29_0 : ByteArray) (b29_1 : Bool), e_2 = .returned (.tuple #[.string s29_0, .bool b29_1]) ∧
      sel (!b29_1) ((Value.bool false) = .bool (decide (l = k)) ∧ Fr [] w w_3) (
        ∃ (A39 : Option Addr) (n39 c39 : Nat), w_3.cell? ⟨y, 0, none⟩ = some (.slice A39 n39 c39) ∧
        (0 : Int) ≤ x5 ∧ x5 < (n39 : Int) ∧
        needPtr A39 fun b41 o41 => ∃ (s42 : ByteArray), w_3.cell? ⟨b41, o41 + x5.toNat * 1, none⟩ = some (.string s42) ∧
        sel (!(decide (s29_0 = s42))) ((Value.bool false) = .bool (decide (l = k)) ∧ Fr [] w w_3) (
          ([.pointer (some ⟨x, 0, none⟩), .pointer (some ⟨y, 0, none⟩)] : List Value) = ([.pointer (some ⟨x, 0, none⟩), .pointer (some ⟨y, 0, none⟩)] : List Value) ∧ ∃ m, m < r ∧ idI w l k (IntKind.i64.wrap (x5 + 1)) w_3 m))) (
      (Value.bool true) = .bool (decide (l = k)) ∧ Fr [] w w_2) := by
  obtain ⟨hf, i, rfl, hir, hno⟩ := h
  obtain ⟨A, c, hc, hI⟩ := (hY.fr hf).things
  refine ⟨A, _, c, hc, sel_of (fun hd => ?_) (fun hd => ?_)⟩
  · have hi : i < k.length := by have := of_decide_eq_true hd; omega
    rw [inc i 1048576 (by decide) (by omega)]
    refine Calls.mono (atE (hX.fr hf) hl _) ?_
    rintro _ w3 ⟨rfl, rfl⟩
    rw [thing_at, if_pos (by omega)]
    refine ⟨_, _, rfl, sel_of (fun h => by cases h) (fun _ => ⟨A, _, c, hc, by omega, by omega, InX.need (n := k.length) hI rfl hi (sel_of (fun hs => ?_) (fun hs => ?_))⟩)⟩
    · have hs : l.getD i ByteArray.empty ≠ k.getD i ByteArray.empty := by simpa using hs
      refine ⟨?_, hf⟩
      rw [decide_eq_false]
      rintro rfl; exact hs rfl
    · have hs : l.getD i ByteArray.empty = k.getD i ByteArray.empty := by simpa using hs
      refine ⟨rfl, r - 1, by omega, hf, i + 1, rfl, by omega, fun a ha => ?_⟩
      rcases Nat.lt_or_ge a i with h1 | h1
      · exact hno a h1
      · have : a = i := by omega
        subst this; exact hs
  · have hi : i = k.length := by have := of_decide_eq_false hd; omega
    refine ⟨?_, hf⟩
    rw [decide_eq_true]
    exact (ext_getD ByteArray.empty _ _).2 ⟨hlk, fun q hq => hno q (by omega)⟩
theorem sameIdx {w : World} {x y : Nat} {l k : List ByteArray} (hX : IdxAt w x l) (hY : RefAt w y k) (hl : l.length ≤ 1048576) :
    Calls Try.prog 19 #[.pointer (some ⟨x, 0, none⟩), .pointer (some ⟨y, 0, none⟩)] w fun e w' => e = .returned (.bool (decide (l = k))) ∧ Fr [] w w' := by
  refine Calls.mono (f19.calls (R := fun v w' => v = .bool (decide (l = k)) ∧ Fr [] w w') ?_) ?_
  · dsimp only [f19.VC]
    have h0 : Fr [] w w.drew := (Fr.refl [] w).drew
    have hne : ∀ {a b : List ByteArray}, ((a.length : Int) != (b.length : Int)) = true → decide (a = b) = false := by
      intro a b h
      have h : (a.length : Int) ≠ b.length := by simpa using h
      rw [decide_eq_false]
      rintro rfl; exact h rfl
    refine ⟨?_, ?_, trivial⟩
    · refine Calls.mono (lenE (hX.fr h0)) ?_
      rintro _ w1 ⟨rfl, rfl⟩
      obtain ⟨A, c, hc, hI⟩ := (hY.fr h0).things
      refine ⟨_, rfl, A, _, c, hc, sel_of (fun h => ⟨by rw [hne h], h0⟩) (fun h => ?_)⟩
      have h : l.length = k.length := by
        have h : (l.length : Int) = k.length := by simpa using h
        omega
      exact ⟨idI w l k, ⟨k.length, h0, 0, rfl, by omega, fun a ha => by omega⟩, fun d x5 w2 r hh => sameBody hX hY hl h hh⟩
    · obtain ⟨A, c, hc, hI⟩ := hY.things
      refine ⟨A, _, c, hc, Calls.mono (lenE (hX.fr h0)) ?_⟩
      rintro _ w1 ⟨rfl, rfl⟩
      refine ⟨_, rfl, sel_of (fun h => ⟨by rw [hne h], h0⟩) (fun h => ?_)⟩
      have h : l.length = k.length := by
        have h : (l.length : Int) = k.length := by simpa using h
        omega
      exact ⟨idI w l k, ⟨k.length, h0, 0, rfl, by omega, fun a ha => by omega⟩, fun d x5 w2 r hh => sameBody hX hY hl h hh⟩
  · rintro e w' ⟨v, rfl, rfl, h⟩; exact ⟨rfl, h⟩
/-- Are two graphs alike? -/
def sameG (g h : Gd) : Bool := decide (gA g = gA h) && decide (gS g = gS h) && decide (gO g = gO h) && decide (gF g = gF h) && decide (gN g = gN h) && decide (gM g = gM h)
theorem sameG_refl (g : Gd) : sameG g g = true := by simp [sameG]
theorem sameGR {w : World} {u v : GV} {g h : Gd} (hu : InG w u g) (hv : InG w v h) (hb : (u.a.2.1 ≤ 1000000000 ∧ u.s.2.1 ≤ 1000000000 ∧ u.o.2.1 ≤ 1000000000 ∧ u.f.2.1 ≤ 1000000000 ∧ u.n.2.1 ≤ 1000000000 ∧ u.m.2.1 ≤ 1000000000) ∧ ∀ r ∈ gM g, r.length ≤ 1000000000) :
    Calls Try.prog 22 #[u.v, v.v] w fun e w' => e = .returned (.bool (sameG g h)) ∧ Fr [] w w' := by
  refine Calls.mono (f22.calls (R := fun v w' => v = .bool (sameG g h) ∧ Fr [] w w') ?_) ?_
  · dsimp only [f22.VC]
    have hS1 := (St.start w).alloc u.cells 29
    generalize w.heap.size = b1 at *
    generalize World.alloc w (.cells u.cells 29) = w1 at *
    have hS := hS1.alloc v.cells 29
    generalize w1.heap.size = b2 at *
    generalize World.alloc w1 (.cells v.cells 29) = w2 at *
    clear hS1
    obtain ⟨⟨q1, q2, q3, q4, q5, q6⟩, q7⟩ := hb
    refine ⟨_, _, _, (hS.blk 1 rfl).cell rfl, _, _, _, (hS.blk 0 rfl).cell rfl, ?_⟩
    refine Calls.mono (hS.step0 (textsR (hu.fr hS.frame).a.1 (hv.fr hS.frame).a.1 q1)) ?_
    clear hS
    rintro _ w3 ⟨rfl, hS⟩
    refine ⟨_, rfl, sel_of (fun c => ⟨by simp at c; simp [sameG, c], hS.frame⟩) (fun d1 => ?_)⟩
    have d1 : decide (gA g = gA h) = true := by simpa using d1
    refine ⟨_, _, _, (hS.blk 1 rfl).cell rfl, _, _, _, (hS.blk 0 rfl).cell rfl, ?_⟩
    refine Calls.mono (hS.step0 (textsR (hu.fr hS.frame).s.1 (hv.fr hS.frame).s.1 q2)) ?_
    clear hS
    rintro _ w3 ⟨rfl, hS⟩
    refine ⟨_, rfl, sel_of (fun c => ⟨by simp at c; simp [sameG, c], hS.frame⟩) (fun d2 => ?_)⟩
    have d2 : decide (gS g = gS h) = true := by simpa using d2
    refine ⟨_, _, _, (hS.blk 1 rfl).cell rfl, _, _, _, (hS.blk 0 rfl).cell rfl, ?_⟩
    refine Calls.mono (hS.step0 (textsR (hu.fr hS.frame).o.1 (hv.fr hS.frame).o.1 q3)) ?_
    clear hS
    rintro _ w3 ⟨rfl, hS⟩
    refine ⟨_, rfl, sel_of (fun c => ⟨by simp at c; simp [sameG, c], hS.frame⟩) (fun d3 => ?_)⟩
    have d3 : decide (gO g = gO h) = true := by simpa using d3
    refine ⟨_, _, _, (hS.blk 1 rfl).cell rfl, _, _, _, (hS.blk 0 rfl).cell rfl, ?_⟩
    refine Calls.mono (hS.step0 (numbersR (hu.fr hS.frame).f.1 (hv.fr hS.frame).f.1 q4)) ?_
    clear hS
    rintro _ w3 ⟨rfl, hS⟩
    refine ⟨_, rfl, sel_of (fun c => ⟨by simp at c; simp [sameG, c], hS.frame⟩) (fun d4 => ?_)⟩
    have d4 : decide (gF g = gF h) = true := by simpa using d4
    refine ⟨_, _, _, (hS.blk 1 rfl).cell rfl, _, _, _, (hS.blk 0 rfl).cell rfl, ?_⟩
    refine Calls.mono (hS.step0 (numbersR (hu.fr hS.frame).n.1 (hv.fr hS.frame).n.1 q5)) ?_
    clear hS
    rintro _ w3 ⟨rfl, hS⟩
    refine ⟨_, rfl, sel_of (fun c => ⟨by simp at c; simp [sameG, c], hS.frame⟩) (fun d5 => ?_)⟩
    have d5 : decide (gN g = gN h) = true := by simpa using d5
    have hgo : sameG g h = decide (gM g = gM h) := by simp only [sameG, d1, d2, d3, d4, d5, Bool.true_and]
    rw [hgo]
    have m1 := hu.m.1.1
    have m2 := hv.m.1.1
    refine ⟨_, _, _, (hS.blk 1 rfl).cell rfl, _, _, _, (hS.blk 0 rfl).cell rfl, sel_of (fun c => ⟨?_, hS.frame⟩) (fun d6 => ?_)⟩
    · have c : (u.m.2.1 : Int) ≠ v.m.2.1 := by simpa using c
      rw [decide_eq_false]
      intro hh
      rw [hh] at m1; omega
    have d6 : (u.m.2.1 : Int) = v.m.2.1 := by simpa using d6
    refine ⟨fun x w' r => St [] w w' [Chunk.blk b2 v.cells 29, Chunk.blk b1 u.cells 29] ∧ ∃ i : Nat, x = (i : Int) ∧ i + r = u.m.2.1 ∧ ∀ a, a < i → (gM g).getD a [] = (gM h).getD a [], ⟨u.m.2.1, hS, 0, rfl, by omega, fun a ha => by omega⟩, ?_⟩
    clear hS
    rintro dd x w4 r ⟨hS, i, rfl, hir, hno⟩
    refine ⟨_, _, _, (hS.blk 1 rfl).cell rfl, sel_of (fun hd => ?_) (fun hd => ?_)⟩
    · have hi : i < u.m.2.1 := by have := of_decide_eq_true hd; omega
      refine ⟨_, _, _, (hS.blk 1 rfl).cell rfl, by omega, by omega, (hu.fr hS.frame).m.1.need rfl hi fun B1 k1 c1 hU => ?_⟩
      refine ⟨_, _, _, (hS.blk 0 rfl).cell rfl, by omega, by omega, (hv.fr hS.frame).m.1.need rfl (by omega) fun B2 k2 c2 hV => ?_⟩
      have hrl : k1 ≤ 1000000000 := by
        rw [hU.1]
        refine q7 _ ?_
        rw [List.getD_eq_getElem?_getD, List.getElem?_eq_getElem (by omega)]; exact List.getElem_mem _
      have hS2 := hS.drew
      refine Calls.mono (hS2.step0 (equalR (hU.fr (Fr.refl [] w4).drew) (hV.fr (Fr.refl [] w4).drew) hrl)) ?_
      rintro _ w5 ⟨rfl, hS3⟩
      refine ⟨_, rfl, sel_of (fun c => ⟨?_, hS3.frame⟩) (fun c => ?_)⟩
      · have c : (gM g).getD i [] ≠ (gM h).getD i [] := by simpa using c
        rw [decide_eq_false]
        intro hh; rw [hh] at c; exact c rfl
      · have c : (gM g).getD i [] = (gM h).getD i [] := by simpa using c
        rw [inc i 1000000000 (by omega) (by omega)]
        refine ⟨rfl, r - 1, by omega, hS3, i + 1, rfl, by omega, fun a ha => ?_⟩
        rcases Nat.lt_or_ge a i with h1 | h1
        · exact hno a h1
        · have : a = i := by omega
          subst this; exact c
    · have hi : i = u.m.2.1 := by have := of_decide_eq_false hd; omega
      refine ⟨?_, hS.frame⟩
      rw [decide_eq_true]
      exact (ext_getD [] _ _).2 ⟨by omega, fun q hq => hno q (by omega)⟩
  · rintro e w' ⟨v, rfl, rfl, h⟩; exact ⟨rfl, h⟩
end PG
end Go.Proofs.Ytjmlfknogjaemaa
