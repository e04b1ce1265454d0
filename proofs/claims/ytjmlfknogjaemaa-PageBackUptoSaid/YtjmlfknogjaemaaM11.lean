/- The plain statements of some functions, printed by vcgen.py. -/
import Derived.Test.YtjmlfknogjaemaaM4
import Derived.Test.YtjmlfknogjaemaaProg
import Derived.KernelRfl
import Derived.Test.YtjmlfknogjaemaaM10
import Derived.Test.YtjmlfknogjaemaaM8
import Derived.Test.YtjmlfknogjaemaaM9
set_option maxRecDepth 100000
set_option linter.unusedVariables false
namespace Go.Proofs.Ytjmlfknogjaemaa
open Go Go.Proofs.Ytjmlfknogjaemaa.Vc
theorem W4.mixed : Try.prog.follows .mixedOrders = true := by kernel_rfl
/-- gatehouse/gatehouselaw12.asked -/
def f25.AL : Nat → Option Ann := fun _ => none
def f25.AC : Nat → Option Ann := fun _ => none
def f25.VC (Aa0 : Option Addr) (na0 ca0 : Nat) (Aa1 : Option Addr) (na1 ca1 : Nat) (xa2_0 : Int) (xa2_1 : Int) (xa2_2 : Int) (xa2_3 : Int) (w : World) (R : Value → World → Prop) : Prop :=
  let w_1 : World := World.alloc w (.cells #[.int .i64 xa2_0, .int .i64 xa2_1, .int .i64 xa2_2, .int .i8 xa2_3] 54);
  ∃ (x18 : Int),
  w_1.cell? ⟨w.heap.size, 0, none⟩ = some (.int .i64 x18) ∧
  ∃ (x20 : Int),
  w_1.cell? ⟨w.heap.size, 1, none⟩ = some (.int .i64 x20) ∧
  ∃ (x22 : Int),
  w_1.cell? ⟨w.heap.size, 2, none⟩ = some (.int .i64 x22) ∧
  Calls Try.prog 36 #[.slice Aa0 na0 ca0, .int .i64 x18, .int .i64 x20, .int .i64 x22] w_1 fun e_1 w_2 =>
  ∃ (b23_0 : Bool) (x23_1 : Int),
  e_1 = .returned (.tuple #[.bool b23_0, .int .i64 x23_1]) ∧
  ∃ (x29 : Int),
  w_2.cell? ⟨w.heap.size, 0, none⟩ = some (.int .i64 x29) ∧
  ∃ (x31 : Int),
  w_2.cell? ⟨w.heap.size, 1, none⟩ = some (.int .i64 x31) ∧
  ∃ (x33 : Int),
  w_2.cell? ⟨w.heap.size, 2, none⟩ = some (.int .i64 x33) ∧
  Calls Try.prog 57 #[.slice Aa1 na1 ca1, .int .i64 x29, .int .i64 x31, .int .i64 x33] w_2 fun e_2 w_3 =>
  ∃ (b34_0 : Bool) (x34_1 : Int),
  e_2 = .returned (.tuple #[.bool b34_0, .int .i64 x34_1]) ∧
  ∃ (x40 : Int),
  w_3.cell? ⟨w.heap.size, 0, none⟩ = some (.int .i64 x40) ∧
  ∃ (x42 : Int),
  w_3.cell? ⟨w.heap.size, 3, none⟩ = some (.int .i8 x42) ∧
  Calls Try.prog 31 #[.slice Aa0 na0 ca0, .int .i64 x40, .int .i8 x42] w_3 fun e_3 w_4 =>
  ∃ (x43_0 : Int) (x43_1 : Int),
  e_3 = .returned (.tuple #[.int .i64 x43_0, .int .i64 x43_1]) ∧
  ∃ (x49 : Int),
  w_4.cell? ⟨w.heap.size, 0, none⟩ = some (.int .i64 x49) ∧
  ∃ (x51 : Int),
  w_4.cell? ⟨w.heap.size, 3, none⟩ = some (.int .i8 x51) ∧
  Calls Try.prog 58 #[.slice Aa1 na1 ca1, .int .i64 x49, .int .i8 x51] w_4 fun e_4 w_5 =>
  ∃ (x52_0 : Int) (x52_1 : Int),
  e_4 = .returned (.tuple #[.int .i64 x52_0, .int .i64 x52_1]) ∧
  sel (b23_0 == b34_0) (
    sel ((x23_1 : Int) == (x34_1 : Int)) (
      sel ((x43_0 : Int) == (x52_0 : Int)) (
        R (.bool ((x43_1 : Int) == (x52_1 : Int))) w_5) (
        R (.bool false) w_5)) (
      R (.bool false) w_5)) (
    R (.bool false) w_5)
theorem f25.eq (Aa0 : Option Addr) (na0 ca0 : Nat) (Aa1 : Option Addr) (na1 ca1 : Nat) (xa2_0 : Int) (xa2_1 : Int) (xa2_2 : Int) (xa2_3 : Int) (w : World) (R : Value → World → Prop) : f25.VC Aa0 na0 ca0 Aa1 na1 ca1 xa2_0 xa2_1 xa2_2 xa2_3 w R = funV Try.prog Try.f25 f25.AL f25.AC #[.slice Aa0 na0 ca0, .slice Aa1 na1 ca1, .agg #[.int .i64 xa2_0, .int .i64 xa2_1, .int .i64 xa2_2, .int .i8 xa2_3]] w R := by kernel_rfl
theorem f25.calls {Aa0 : Option Addr} {na0 ca0 : Nat} {Aa1 : Option Addr} {na1 ca1 : Nat} {xa2_0 : Int} {xa2_1 : Int} {xa2_2 : Int} {xa2_3 : Int} {w : World} {R : Value → World → Prop} (h : f25.VC Aa0 na0 ca0 Aa1 na1 ca1 xa2_0 xa2_1 xa2_2 xa2_3 w R) : Calls Try.prog 25 #[.slice Aa0 na0 ca0, .slice Aa1 na1 ca1, .agg #[.int .i64 xa2_0, .int .i64 xa2_1, .int .i64 xa2_2, .int .i8 xa2_3]] w fun e w' => ∃ v, e = .returned v ∧ R v w' :=
  funV_sound (fn := Try.f25) (AL := f25.AL) (AC := f25.AC) W4.mixed (by kernel_rfl) (by rw [← f25.eq Aa0 na0 ca0 Aa1 na1 ca1 xa2_0 xa2_1 xa2_2 xa2_3]; exact h)

end Go.Proofs.Ytjmlfknogjaemaa
/- Page: the document's Decide; 'asked'. -/
set_option linter.unusedVariables false
set_option linter.unusedSimpArgs false
set_option maxRecDepth 10000
namespace Go.Proofs.Ytjmlfknogjaemaa
open Go Go.Proofs.Ytjmlfknogjaemaa.Vc
namespace PG
open Vc.PG
theorem maskR (t : Nat) (x y c : Int) : IntKind.i64.wrap (IntKind.i64.wrap (IntKind.i64.wrap (4 + IntKind.i64.wrap (2 * (t : Int))) + IntKind.i64.wrap (IntKind.i64.wrap (x - 1) * c)) + IntKind.i64.wrap (y - 1)) = maskAt t x y c := by
  unfold maskAt
  rw [wr_mul]
  generalize (x - 1) * c = p
  simp only [wr]
  omega
theorem decR {w : World} {A : Option Addr} {n c : Nat} {W : List Int} (h : InW w A n W) (hn : n ≤ 1000000000) (s o a : Int) :
    Calls Try.prog 57 #[.slice A n c, .int .i64 s, .int .i64 o, .int .i64 a] w fun e w' => e = .returned (.tuple #[.bool (decP W s o a).1, .int .i64 ((decP W s o a).2 : Int)]) ∧ Fr [] w w' := by
  refine Calls.mono (f57.calls (R := fun v w' => v = .tuple #[.bool (decP W s o a).1, .int .i64 ((decP W s o a).2 : Int)] ∧ Fr [] w w') ?_) ?_
  · dsimp only [f57.VC]
    have hl := h.1
    have hS := (St.start w).alloc #[.slice A n c, .int .i64 0, .bool false] 139
    generalize w.heap.size = b at *
    by_cases h1 : 1 < W.length
    · refine Calls.mono (rRead (s := 0) hS h 0 rfl (by omega) 1 (by omega)) ?_
      rintro _ w2 ⟨rfl, hS2⟩
      refine ⟨_, rfl, _, (hS2.blk 0 rfl).cell rfl, sel_false rfl ?_⟩
      refine Calls.mono (powR _ _) ?_
      rintro _ w3 ⟨rfl, e3⟩
      rw [e3]
      refine ⟨_, rfl, sel_of (fun hp => ?_) (fun hp => ?_)⟩
      · have hp : powB (W.getD 1 0) = false := by simpa using hp
        have e : decP W s o a = (false, 1) := by unfold decP; rw [if_pos h1, if_neg (by rw [hp]; simp)]
        rw [e]
        exact ⟨_, (hS2.blk 0 rfl).cell rfl, rfl, hS2.drew.frame⟩
      · have hp : powB (W.getD 1 0) = true := by simpa using hp
        have hr := powB_range hp
        have e : decP W s o a = decFrom W (W.getD 1 0).toNat s o a 3 0 0 0 1 := by unfold decP; rw [if_pos h1, if_pos hp]
        obtain ⟨t, ht⟩ : ∃ t : Nat, W.getD 1 0 = (t : Int) := ⟨(W.getD 1 0).toNat, by omega⟩
        rw [ht] at e hr ⊢
        rw [Int.toNat_natCast] at e
        rw [e]
        clear e
        rw [decFrom]
        have hb := seekP_le W t (keyN s 1) 1
        have hx := rSeek (s := 1) hS2 h 0 rfl (by omega) hn t (by omega) (by omega) s 1
        cases hq : seekP W t (keyN s 1) 1 with
        | mk q m1 =>
        rw [hq] at hx hb
        refine Calls.mono hx ?_
        rintro _ w4 ⟨rfl, bad, hbad, hS4⟩
        have hS4 : St [] w w4 [bookB b A n c m1 bad] := hS4
        refine ⟨_, _, rfl, ?_⟩
        cases q with
        | none => exact sel_true rfl ⟨_, (hS4.blk 0 rfl).cell rfl, rfl, hS4.drew.frame⟩
        | some x =>
        obtain rfl := hbad rfl
        refine sel_false rfl ?_
        dsimp only at hb hS4 ⊢
        clear hx hq
        rw [decFrom]
        have hb2 := seekP_le W t (keyN o 2) m1
        have hx := rSeek (s := m1) hS4 h 0 rfl (by omega) hn t (by omega) (by omega) o 2
        cases hq : seekP W t (keyN o 2) m1 with
        | mk q m2 =>
        rw [hq] at hx hb2
        refine Calls.mono hx ?_
        rintro _ w5 ⟨rfl, bad, hbad, hS5⟩
        have hS5 : St [] w w5 [bookB b A n c m2 bad] := hS5
        refine ⟨_, _, rfl, ?_⟩
        cases q with
        | none => exact sel_true rfl ⟨_, (hS5.blk 0 rfl).cell rfl, rfl, hS5.drew.frame⟩
        | some y =>
        obtain rfl := hbad rfl
        refine sel_false rfl ?_
        dsimp only at hb2 hS5 ⊢
        clear hx hq
        rw [decFrom]
        have hb3 := seekP_le W t (keyN a 3) m2
        have hx := rSeek (s := m2) hS5 h 0 rfl (by omega) hn t (by omega) (by omega) a 3
        cases hq : seekP W t (keyN a 3) m2 with
        | mk q m3 =>
        rw [hq] at hx hb3
        refine Calls.mono hx ?_
        rintro _ w6 ⟨rfl, bad, hbad, hS6⟩
        have hS6 : St [] w w6 [bookB b A n c m3 bad] := hS6
        refine ⟨_, _, rfl, ?_⟩
        cases q with
        | none => exact sel_true rfl ⟨_, (hS6.blk 0 rfl).cell rfl, rfl, hS6.drew.frame⟩
        | some z =>
        obtain rfl := hbad rfl
        refine sel_false rfl ?_
        dsimp only at hb3 hS6 ⊢
        clear hx hq
        unfold decEnd
        by_cases h3 : 3 < W.length
        · rw [if_pos h3]
          refine Calls.mono (rRead (s := m3) hS6 h 0 rfl (by omega) 3 (by omega)) ?_
          rintro _ w7 ⟨rfl, hS7⟩
          have hS7 : St [] w w7 [bookB b A n c (m3 + 1) false] := hS7
          refine ⟨_, rfl, _, (hS7.blk 0 rfl).cell rfl, sel_false rfl ?_⟩
          simp only [Option.getD_some]
          rw [maskR]
          by_cases hm : 0 ≤ maskAt t x y (W.getD 3 0) ∧ maskAt t x y (W.getD 3 0) < W.length
          · rw [if_pos hm]
            obtain ⟨q, hq⟩ : ∃ q : Nat, maskAt t x y (W.getD 3 0) = (q : Int) := ⟨(maskAt t x y (W.getD 3 0)).toNat, by omega⟩
            rw [hq] at hm ⊢
            rw [Int.toNat_natCast]
            have hs1 : m3 + 1 ≤ 1000000 := by omega
            have hq1 : q < n := by omega
            have hx := rRead hS7 h 0 rfl hs1 q hq1
            refine Calls.mono hx ?_
            rintro _ w8 ⟨rfl, hS8⟩
            refine ⟨_, rfl, _, (hS8.blk 0 rfl).cell rfl, sel_false rfl (sel_of (fun z1 => ?_) (fun z1 => sel_of (fun z2 => ?_) (fun z2 => ?_)))⟩
            · have z1 : z < 1 := of_decide_eq_true z1
              rw [if_pos (.inl z1)]
              exact ⟨_, (hS8.blk 0 rfl).cell rfl, rfl, hS8.drew.frame⟩
            · have z2 : 16 < z := of_decide_eq_true z2
              rw [if_pos (.inr z2)]
              exact ⟨_, (hS8.blk 0 rfl).cell rfl, rfl, hS8.drew.frame⟩
            · have z1 : ¬ z < 1 := of_decide_eq_false z1
              have z2 : ¬ 16 < z := of_decide_eq_false z2
              rw [if_neg (by omega), i64_id (by omega) (by omega), bitB_eq]
              exact ⟨by omega, _, (hS8.blk 0 rfl).cell rfl, rfl, hS8.drew.frame⟩
          · rw [if_neg hm]
            have hko : maskAt t x y (W.getD 3 0) < 0 ∨ (n : Int) ≤ maskAt t x y (W.getD 3 0) := by omega
            generalize maskAt t x y (W.getD 3 0) = km at *
            refine Calls.mono (rOut (s := m3 + 1) hS7 0 rfl km hko) ?_
            rintro _ w8 ⟨rfl, hS8⟩
            exact ⟨_, rfl, _, (hS8.blk 0 rfl).cell rfl, sel_true rfl ⟨_, (hS8.blk 0 rfl).cell rfl, rfl, hS8.drew.frame⟩⟩
        · rw [if_neg h3]
          refine Calls.mono (rOut (s := m3) hS6 0 rfl 3 (.inr (by omega))) ?_
          rintro _ w7 ⟨rfl, hS7⟩
          exact ⟨_, rfl, _, (hS7.blk 0 rfl).cell rfl, sel_true rfl ⟨_, (hS7.blk 0 rfl).cell rfl, rfl, hS7.drew.frame⟩⟩
    · have e : decP W s o a = (false, 0) := by unfold decP; rw [if_neg h1]
      rw [e]
      refine Calls.mono (rOut (s := 0) hS 0 rfl 1 (.inr (by omega))) ?_
      rintro _ w2 ⟨rfl, hS2⟩
      exact ⟨_, rfl, _, (hS2.blk 0 rfl).cell rfl, sel_true rfl ⟨_, (hS2.blk 0 rfl).cell rfl, rfl, hS2.drew.frame⟩⟩
  · rintro e w' ⟨v, rfl, rfl, h⟩; exact ⟨rfl, h⟩
/-- One question, of both. -/
theorem askedC {w : World} {A B : Option Addr} {n c m d : Nat} {W : List Int} (h : InW w A n W) (k : InW w B m W) (hn : n ≤ 1000000000) (s o a kd : Int) :
    Calls Try.prog 25 #[.slice A n c, .slice B m d, .agg #[.int .i64 s, .int .i64 o, .int .i64 a, .int .i8 kd]] w fun e w' => e = .returned (.bool true) ∧ Fr [] w w' := by
  refine Calls.mono (f25.calls (R := fun v w' => v = .bool true ∧ Fr [] w w') ?_) ?_
  · dsimp only [f25.VC]
    have hm : m ≤ 1000000000 := by have := h.1; have := k.1; omega
    have hS := (St.start w).alloc #[.int .i64 s, .int .i64 o, .int .i64 a, .int .i8 kd] 54
    generalize w.heap.size = b at *
    generalize World.alloc w (.cells #[.int .i64 s, .int .i64 o, .int .i64 a, .int .i8 kd] 54) = w1 at *
    refine ⟨_, (hS.blk 0 rfl).cell rfl, _, (hS.blk 0 rfl).cell rfl, _, (hS.blk 0 rfl).cell rfl, ?_⟩
    refine Calls.mono (hS.step0 (decC (h.fr hS.frame) hn s o a)) ?_
    rintro _ w2 ⟨rfl, hS⟩
    refine ⟨_, _, rfl, _, (hS.blk 0 rfl).cell rfl, _, (hS.blk 0 rfl).cell rfl, _, (hS.blk 0 rfl).cell rfl, ?_⟩
    refine Calls.mono (hS.step0 (decR (k.fr hS.frame) hm s o a)) ?_
    rintro _ w3 ⟨rfl, hS⟩
    refine ⟨_, _, rfl, _, (hS.blk 0 rfl).cell rfl, _, (hS.blk 0 rfl).cell rfl, ?_⟩
    refine Calls.mono (hS.step0 (lookC (h.fr hS.frame) hn s kd)) ?_
    rintro _ w4 ⟨rfl, hS⟩
    refine ⟨_, _, rfl, _, (hS.blk 0 rfl).cell rfl, _, (hS.blk 0 rfl).cell rfl, ?_⟩
    refine Calls.mono (hS.step0 (lookR (k.fr hS.frame) hm s kd)) ?_
    rintro _ w5 ⟨rfl, hS⟩
    exact ⟨_, _, rfl, sel_true (by simp) (sel_true (by simp) (sel_true (by simp) ⟨by simp, hS.frame⟩))⟩
  · rintro e w' ⟨v, rfl, rfl, h⟩; exact ⟨rfl, h⟩
end PG
end Go.Proofs.Ytjmlfknogjaemaa
/- The plain statements of some functions, printed by vcgen.py. -/
set_option maxRecDepth 100000
set_option linter.unusedVariables false
namespace Go.Proofs.Ytjmlfknogjaemaa
open Go Go.Proofs.Ytjmlfknogjaemaa.Vc
theorem W1.mixed : Try.prog.follows .mixedOrders = true := by kernel_rfl
/-- (*gatehouse/names.Index[string]).Of -/
def f32.AL : Nat → Option Ann := fun _ => none
def f32.AC : Nat → Option Ann := fun _ => none
def f32.VC (a0 : Nat) (sa1 : ByteArray) (w : World) (R : Value → World → Prop) : Prop :=
  ∃ (m11 : Option Nat),
  w.cell? ⟨a0, 0, none⟩ = some (.map m11) ∧
  ∃ (x13_0 : Int) (b13_1 : Bool),
  ∃ w_1 : World, (Instr.lookup 120 (.map m11) (.string sa1) true).run Try.prog w = .ok (.tuple #[.int .i64 x13_0, .bool b13_1]) w_1 ∧
  sel b13_1 (
    R (.int .i64 x13_0) w_1) (
    ∃ (A21 : Option Addr) (n21 c21 : Nat),
    w_1.cell? ⟨a0, 1, none⟩ = some (.slice A21 n21 c21) ∧
    sel (decide ((1048576 : Int) ≤ ((n21 : Int) : Int))) (
      R (.int .i64 0) w_1) (
      ∃ (A28 : Option Addr) (n28 c28 : Nat),
      w_1.cell? ⟨a0, 1, none⟩ = some (.slice A28 n28 c28) ∧
      let w_2 : World := World.alloc w_1 (.cells #[.string sa1] 9);
      ∃ (A31 : Option Addr) (n31 c31 : Nat),
      ∃ w_3 : World, (Builtin.append_ #[25, 25] 25 #[.slice A28 n28 c28, .slice (some ⟨w_1.heap.size, 0, none⟩) 1 1]).run Try.prog w_2 = .ok (.slice A31 n31 c31) w_3 ∧
      canStore w_3 a0 1 1 ∧
      let w_4 : World := setCs w_3 a0 1 [.slice A31 n31 c31];
      ∃ (m37 : Option Nat),
      w_4.cell? ⟨a0, 0, none⟩ = some (.map m37) ∧
      ∃ (A42 : Option Addr) (n42 c42 : Nat),
      w_4.cell? ⟨a0, 1, none⟩ = some (.slice A42 n42 c42) ∧
      ∃ w_5 : World, (Instr.mapUpdate 120 (.map m37) (.string sa1) (.int .i64 (n42 : Int))).run Try.prog w_4.drew = .ok () w_5 ∧
      ∃ (A47 : Option Addr) (n47 c47 : Nat),
      w_5.cell? ⟨a0, 1, none⟩ = some (.slice A47 n47 c47) ∧
      R (.int .i64 (n47 : Int)) w_5))
theorem f32.eq (a0 : Nat) (sa1 : ByteArray) (w : World) (R : Value → World → Prop) : f32.VC a0 sa1 w R = funV Try.prog Try.f32 f32.AL f32.AC #[.pointer (some ⟨a0, 0, none⟩), .string sa1] w R := by kernel_rfl
theorem f32.calls {a0 : Nat} {sa1 : ByteArray} {w : World} {R : Value → World → Prop} (h : f32.VC a0 sa1 w R) : Calls Try.prog 32 #[.pointer (some ⟨a0, 0, none⟩), .string sa1] w fun e w' => ∃ v, e = .returned v ∧ R v w' :=
  funV_sound (fn := Try.f32) (AL := f32.AL) (AC := f32.AC) W1.mixed (by kernel_rfl) (by rw [← f32.eq a0 sa1]; exact h)

/-- (*gatehouse/gatehouseref01.Index).Of -/
def f39.AL : Nat → Option Ann := fun _ => none
def f39.AC : Nat → Option Ann := fun _ => none
def f39.VC (a0 : Nat) (sa1 : ByteArray) (w : World) (R : Value → World → Prop) : Prop :=
  Calls Try.prog 80 #[.pointer (some ⟨a0, 0, none⟩), .string sa1] w fun e_1 w_1 =>
  ∃ (x10_0 : Int) (b10_1 : Bool),
  e_1 = .returned (.tuple #[.int .i64 x10_0, .bool b10_1]) ∧
  sel b10_1 (
    R (.int .i64 x10_0) w_1) (
    ∃ (A18 : Option Addr) (n18 c18 : Nat),
    w_1.cell? ⟨a0, 0, none⟩ = some (.slice A18 n18 c18) ∧
    sel (decide ((1048576 : Int) ≤ ((n18 : Int) : Int))) (
      R (.int .i64 0) w_1) (
      ∃ (A25 : Option Addr) (n25 c25 : Nat),
      w_1.cell? ⟨a0, 0, none⟩ = some (.slice A25 n25 c25) ∧
      let w_2 : World := World.alloc w_1 (.cells #[.string sa1] 9);
      ∃ (A28 : Option Addr) (n28 c28 : Nat),
      ∃ w_3 : World, (Builtin.append_ #[25, 25] 25 #[.slice A25 n25 c25, .slice (some ⟨w_1.heap.size, 0, none⟩) 1 1]).run Try.prog w_2 = .ok (.slice A28 n28 c28) w_3 ∧
      canStore w_3 a0 0 1 ∧
      let w_4 : World := setCs w_3 a0 0 [.slice A28 n28 c28];
      ∃ (A34 : Option Addr) (n34 c34 : Nat),
      w_4.cell? ⟨a0, 0, none⟩ = some (.slice A34 n34 c34) ∧
      R (.int .i64 (n34 : Int)) w_4))
theorem f39.eq (a0 : Nat) (sa1 : ByteArray) (w : World) (R : Value → World → Prop) : f39.VC a0 sa1 w R = funV Try.prog Try.f39 f39.AL f39.AC #[.pointer (some ⟨a0, 0, none⟩), .string sa1] w R := by kernel_rfl
theorem f39.calls {a0 : Nat} {sa1 : ByteArray} {w : World} {R : Value → World → Prop} (h : f39.VC a0 sa1 w R) : Calls Try.prog 39 #[.pointer (some ⟨a0, 0, none⟩), .string sa1] w fun e w' => ∃ v, e = .returned v ∧ R v w' :=
  funV_sound (fn := Try.f39) (AL := f39.AL) (AC := f39.AC) W1.mixed (by kernel_rfl) (by rw [← f39.eq a0 sa1]; exact h)

end Go.Proofs.Ytjmlfknogjaemaa
/- Page: the index of texts: its contracts. -/
set_option linter.unusedVariables false
set_option linter.unusedSimpArgs false
set_option maxRecDepth 10000
namespace Go.Proofs.Ytjmlfknogjaemaa
open Go Go.Proofs.Ytjmlfknogjaemaa.Vc
namespace NI
abbrev encS (s : ByteArray) : Value := .string s
abbrev encN (n : Int) : Value := .int .i64 n
abbrev txC (v : Value) (l : List ByteArray) : Chunk := Chunk.sl 9 1 v (l.map fun s => [Value.string s])
abbrev mpC (r : Nat) (l : List ByteArray) : Chunk := Chunk.map encS encN r (IX.pairs l)
abbrev xB (x : Nat) (y : Nat × Option Addr × Nat × Nat) : Chunk := Chunk.blk x #[.map (some y.1), .slice y.2.1 y.2.2.1 y.2.2.2] 122
/-- An index at x that knows the things l. -/
def idxC (x : Nat) (l : List ByteArray) : Chunk :=
  Chunk.ex fun y : Nat × Option Addr × Nat × Nat => Chunk.star (xB x y) (Chunk.star (mpC y.1 l) (txC (.slice y.2.1 y.2.2.1 y.2.2.2) l))
section
variable {S : List Nat} {w0 w : World} {K : List Chunk} {x : Nat} {l : List ByteArray}
theorem openI (h : St S w0 w (idxC x l :: K)) : ∃ y : Nat × Option Addr × Nat × Nat, St S w0 w (xB x y :: mpC y.1 l :: txC (.slice y.2.1 y.2.2.1 y.2.2.2) l :: K) := by
  obtain ⟨y, h1⟩ := h.unex 0 rfl
  have h2 := St.split h1
  have h3 := St.split (h2.perm (List.Perm.swap _ _ _))
  exact ⟨y, h3.perm (((List.Perm.swap _ _ _).cons _).trans (List.Perm.swap _ _ _))⟩
theorem closeI (y : Nat × Option Addr × Nat × Nat) (h : St S w0 w (xB x y :: mpC y.1 l :: txC (.slice y.2.1 y.2.2.1 y.2.2.2) l :: K)) : St S w0 w (idxC x l :: K) := by
  have h2 := St.join (h.perm ((List.Perm.swap _ _ _).trans ((List.Perm.swap _ _ _).cons _)))
  have h3 := St.join (h2.perm (List.Perm.swap _ _ _))
  exact h3.as 0 rfl (idxC x l) (fun F hF => ⟨y, hF⟩)
theorem new (h : St S w0 w K) : Calls Try.prog 29 #[] w fun e w' => ∃ x, e = .returned (.pointer (some ⟨x, 0, none⟩)) ∧ St S w0 w' (idxC x [] :: K) := by
  refine Calls.mono (f29.calls (R := fun v w' => ∃ x, v = .pointer (some ⟨x, 0, none⟩) ∧ St S w0 w' (idxC x [] :: K)) ?_) ?_
  · dsimp only [f29.VC]
    have h1 := (h.nil 9 1).mapNew (encK := encS) (encV := encN)
    have h2 := h1.alloc #[.map (some w.heap.size), .slice none 0 0] 122
    exact ⟨_, rfl, closeI (w.heap.size, none, 0, 0) h2⟩
  · rintro e w' ⟨v, rfl, x, rfl, h⟩; exact ⟨x, rfl, h⟩
end
theorem under120 : Try.prog.underlying 120 = some (.map 9 3) := by kernel_rfl
theorem under9 : Try.prog.underlying 9 = some .string := by kernel_rfl
theorem info3 : ∃ i, Try.prog.info? 3 = some i ∧ i.zero = some (.int .i64 0) ∧ i.size = 1 ∧ i.bytes = 8 := ⟨Try.prog.types[3]!, by kernel_rfl, by kernel_rfl, by kernel_rfl, by kernel_rfl⟩
theorem info9 : ∃ i, Try.prog.info? 9 = some i ∧ i.zero = some (.string ⟨#[]⟩) ∧ i.size = 1 ∧ i.bytes = 16 := ⟨Try.prog.types[9]!, by kernel_rfl, by kernel_rfl, by kernel_rfl, by kernel_rfl⟩
theorem under25 : Try.prog.underlying 25 = some (.slice 9) := by kernel_rfl
theorem keyS : GM.KeyLaw Try.prog 9 encS := GM.KeyLaw.text under9
/-- A lookup in an index's map. -/
theorem lookI {w : World} {mp : Nat} {l : List ByteArray} (h : GM.MapIs encS encN w mp (IX.pairs l)) (s : ByteArray) :
    (Instr.lookup 120 (.map (some mp)) (.string s) true).run Try.prog w = .ok (.tuple #[.int .i64 (IX.num l s : Int), .bool (decide (IX.num l s ≠ 0))]) w := by
  obtain ⟨ti, i1, i2, i3, i4⟩ := info3
  have h1 := GM.look (d := (0 : Int)) under120 keyS i1 i2 h s true
  rw [(IX.get_pairs l s).1, (IX.get_pairs l s).2] at h1
  exact h1
section
variable {S : List Nat} {w0 w : World} {K : List Chunk} {x : Nat} {l : List ByteArray}
theorem len (h : St S w0 w K) (i : Nat) (hi : K[i]? = some (idxC x l)) : Calls Try.prog 30 #[.pointer (some ⟨x, 0, none⟩)] w fun e w' => e = .returned (.int .i64 (l.length : Int)) ∧ St S w0 w' K := by
  obtain ⟨F, hF, _⟩ := h.at i hi
  obtain ⟨y, hS⟩ := openI (St.start1 hF)
  have hn := hS.slLen 2 rfl
  rw [List.length_map] at hn
  refine Calls.mono (f30.calls (R := fun v w' => v = .int .i64 (l.length : Int) ∧ w' = w) ⟨_, _, _, (hS.blk 0 rfl).cell rfl, by rw [← hn], rfl⟩) ?_
  rintro e w' ⟨v, rfl, rfl, rfl⟩; exact ⟨rfl, h⟩
theorem find (h : St S w0 w K) (i : Nat) (hi : K[i]? = some (idxC x l)) (s : ByteArray) : Calls Try.prog 81 #[.pointer (some ⟨x, 0, none⟩), .string s] w fun e w' => e = .returned (.tuple #[.int .i64 (IX.num l s : Int), .bool (decide (IX.num l s ≠ 0))]) ∧ St S w0 w' K := by
  obtain ⟨F, hF, _⟩ := h.at i hi
  obtain ⟨y, hS⟩ := openI (St.start1 hF)
  refine Calls.mono (f81.calls (R := fun v w' => v = .tuple #[.int .i64 (IX.num l s : Int), .bool (decide (IX.num l s ≠ 0))] ∧ w' = w) ⟨_, (hS.blk 0 rfl).cell rfl, _, _, _, lookI (hS.mapIs 1 rfl) s, rfl, rfl⟩) ?_
  rintro e w' ⟨v, rfl, rfl, rfl⟩; exact ⟨rfl, h⟩
end
section
variable {S : List Nat} {w0 w : World} {K : List Chunk} {x : Nat} {l : List ByteArray}
theorem of_ {F : List Nat} (hI : St F w w [idxC x l]) (hl : l.length ≤ 1048576) (s : ByteArray) : Calls Try.prog 32 #[.pointer (some ⟨x, 0, none⟩), .string s] w fun e w' => e = .returned (.int .i64 (IX.ofN l s : Int)) ∧ St F w w' [idxC x (IX.of l s)] := by
  refine Calls.mono (f32.calls (R := fun v w' => v = .int .i64 (IX.ofN l s : Int) ∧ St F w w' [idxC x (IX.of l s)]) ?_) ?_
  · dsimp only [f32.VC]
    obtain ⟨y, hS⟩ := openI hI
    have hn := hS.slLen 2 rfl
    rw [List.length_map] at hn
    refine ⟨_, (hS.blk 0 rfl).cell rfl, _, _, _, lookI (hS.mapIs 1 rfl) s, sel_of (fun h0 => ?_) (fun h0 => ?_)⟩
    · have h0 : IX.num l s ≠ 0 := of_decide_eq_true h0
      have e1 : IX.ofN l s = IX.num l s := by unfold IX.ofN; rw [if_neg h0]
      have e2 : IX.of l s = l := by unfold IX.of; rw [if_neg h0]
      rw [e1, e2]
      exact ⟨rfl, hI⟩
    · have h0 : IX.num l s = 0 := by simpa using h0
      refine ⟨_, _, _, (hS.blk 0 rfl).cell rfl, sel_of (fun hb => ?_) (fun hb => ?_)⟩
      · have hb : 1048576 ≤ l.length := by have := of_decide_eq_true hb; omega
        have e1 : IX.ofN l s = 0 := by unfold IX.ofN; rw [if_pos h0, if_pos hb]
        have e2 : IX.of l s = l := by unfold IX.of; rw [if_pos h0, if_pos hb]
        rw [e1, e2]
        exact ⟨rfl, hI⟩
      · have hb : ¬ l.length ≥ 1048576 := by have := of_decide_eq_false hb; omega
        have e1 : IX.ofN l s = l.length + 1 := by unfold IX.ofN; rw [if_pos h0, if_neg hb]
        have e2 : IX.of l s = l ++ [s] := by unfold IX.of; rw [if_pos h0, if_neg hb]
        rw [e1, e2]
        have hS2 := hS.alloc #[.string s] 9
        obtain ⟨ti, i1, i2, i3, i4⟩ := info9
        obtain ⟨g', cap', w3, hrun, hS3⟩ := hS2.append (P := Try.prog) (ty := 25) (r := [.string s]) 3 under25 i1 i2 i3 rfl (by decide) rfl (hS2.blk 0 rfl) rfl rfl (by intro u hu; simp at hu; subst hu; rfl) (by rw [i4]; simp; omega) (by simp [maxLen]; omega)
        have el : (l.map fun s => [Value.string s]).length = l.length := by simp
        rw [el] at hrun
        have hS3 : St F w w3 [xB x y, mpC y.1 l, txC (.slice (some ⟨g', 0, none⟩) (l.length + 1) cap') (l ++ [s])] := by
          have := hS3.tail
          rw [el, show (l.map fun s => [Value.string s]) ++ [[Value.string s]] = (l ++ [s]).map (fun s => [Value.string s]) by simp] at this
          exact this
        refine ⟨_, _, _, (hS.blk 0 rfl).cell rfl, _, _, _, _, hrun, (hS3.blk 0 rfl).can (by simp), ?_⟩
        have hS4 := hS3.set 0 rfl 1 [.slice (some ⟨g', 0, none⟩) (l.length + 1) cap']
        generalize setCs w3 x 1 [.slice (some ⟨g', 0, none⟩) (l.length + 1) cap'] = w4 at *
        have hS4 : St F w w4 [xB x (y.1, some ⟨g', 0, none⟩, l.length + 1, cap'), mpC y.1 l, txC (.slice (some ⟨g', 0, none⟩) (l.length + 1) cap') (l ++ [s])] := hS4
        obtain ⟨w5, hup, hS5⟩ := hS4.drew.mapUpd 1 rfl under120 keyS s (((l.length + 1 : Nat) : Int))
        rw [IX.put_pairs l s h0] at hS5
        exact ⟨_, (hS4.blk 0 rfl).cell rfl, _, _, _, (hS4.blk 0 rfl).cell rfl, _, hup, _, _, _, (hS5.blk 0 rfl).cell rfl, rfl, closeI (y.1, some ⟨g', 0, none⟩, l.length + 1, cap') hS5⟩
  · rintro e w' ⟨v, rfl, rfl, h⟩; exact ⟨rfl, h⟩
theorem of (h : St S w0 w K) (i : Nat) (hi : K[i]? = some (idxC x l)) (hl : l.length ≤ 1048576) (s : ByteArray) : Calls Try.prog 32 #[.pointer (some ⟨x, 0, none⟩), .string s] w fun e w' => e = .returned (.int .i64 (IX.ofN l s : Int)) ∧ St S w0 w' (K.set i (idxC x (IX.of l s))) :=
  h.use i hi (fun F hF => of_ hF hl s)
end
section
variable {S : List Nat} {w0 w : World} {K : List Chunk} {x : Nat} {l : List ByteArray}
/-- The thing that has a number. -/
def thing (l : List ByteArray) (n : Int) : ByteArray × Bool := if n < 1 ∨ (l.length : Int) < n then (⟨#[]⟩, false) else (l.getD (n - 1).toNat ⟨#[]⟩, true)
theorem at_ (h : St S w0 w K) (i : Nat) (hi : K[i]? = some (idxC x l)) (hl : l.length ≤ 1048576) (n : Int) : Calls Try.prog 53 #[.pointer (some ⟨x, 0, none⟩), .int .i64 n] w fun e w' => e = .returned (.tuple #[.string (thing l n).1, .bool (thing l n).2]) ∧ St S w0 w' K := by
  obtain ⟨F, hF, _⟩ := h.at i hi
  obtain ⟨y, hS⟩ := openI (St.start1 hF)
  have hn := hS.slLen 2 rfl
  rw [List.length_map] at hn
  refine Calls.mono (f53.calls (R := fun v w' => v = .tuple #[.string (thing l n).1, .bool (thing l n).2] ∧ w' = w) ?_) ?_
  · dsimp only [f53.VC]
    refine sel_of (fun h1 => ?_) (fun h1 => ⟨_, _, _, (hS.blk 0 rfl).cell rfl, sel_of (fun h2 => ?_) (fun h2 => ?_)⟩)
    · have h1 : n < 1 := of_decide_eq_true h1
      exact ⟨by unfold thing; rw [if_pos (.inl h1)], rfl⟩
    · have h2 : (y.2.2.1 : Int) < n := of_decide_eq_true h2
      exact ⟨by unfold thing; rw [if_pos (.inr (by omega))], rfl⟩
    · have h1 : ¬ n < 1 := of_decide_eq_false h1
      have h2 : ¬ (y.2.2.1 : Int) < n := of_decide_eq_false h2
      have e : IntKind.i64.wrap (n - 1) = n - 1 := i64_id (by omega) (by omega)
      rw [e]
      obtain ⟨g, hg, hc⟩ := hS.slGet 2 rfl (by simp; omega)
      have hj : (n - 1).toNat < l.length := by omega
      have e2 : thing l n = (l.getD (n - 1).toNat ⟨#[]⟩, true) := by unfold thing; rw [if_neg (by omega)]
      have hb1 : (0 : Int) ≤ n - 1 := by omega
      have hb2 : n - 1 < (y.2.2.1 : Int) := by omega
      generalize (n - 1).toNat = q at *
      have := hc q 0 (.string (l.getD q ⟨#[]⟩)) (by simpa using hj) (by decide) (by simp [List.getD_eq_getElem?_getD, hj])
      refine ⟨_, _, _, (hS.blk 0 rfl).cell rfl, hb1, hb2, needPtr_of hg ⟨_, by rw [show 0 + q * 1 = q * 1 + 0 by omega]; exact this, ?_, rfl⟩⟩
      rw [e2]
  · rintro e w' ⟨v, rfl, rfl, rfl⟩; exact ⟨rfl, h⟩
end
end NI
end Go.Proofs.Ytjmlfknogjaemaa
/- Page: the document's index of texts: its contracts. -/
set_option linter.unusedVariables false
set_option linter.unusedSimpArgs false
set_option maxRecDepth 10000
namespace Go.Proofs.Ytjmlfknogjaemaa
open Go Go.Proofs.Ytjmlfknogjaemaa.Vc
namespace NI
abbrev rB (T : TypeId) (x : Nat) (y : Option Addr × Nat × Nat) : Chunk := Chunk.blk x #[.slice y.1 y.2.1 y.2.2] T
/-- The document's index at x that knows the things l. -/
def refI (T : TypeId) (x : Nat) (l : List ByteArray) : Chunk :=
  Chunk.ex fun y : Option Addr × Nat × Nat => Chunk.star (rB T x y) (txC (.slice y.1 y.2.1 y.2.2) l)
section
variable {S : List Nat} {w0 w : World} {K : List Chunk} {x : Nat} {l : List ByteArray} {T : TypeId}
theorem openX (h : St S w0 w (refI T x l :: K)) : ∃ y : Option Addr × Nat × Nat, St S w0 w (rB T x y :: txC (.slice y.1 y.2.1 y.2.2) l :: K) := by
  obtain ⟨y, h1⟩ := h.unex 0 rfl
  exact ⟨y, St.split h1⟩
theorem closeX (y : Option Addr × Nat × Nat) (h : St S w0 w (rB T x y :: txC (.slice y.1 y.2.1 y.2.2) l :: K)) : St S w0 w (refI T x l :: K) :=
  (St.join h).as 0 rfl (refI T x l) (fun F hF => ⟨y, hF⟩)
theorem textAt {A : Option Addr} {n c : Nat} (h : St S w0 w K) (i : Nat) (hi : K[i]? = some (txC (.slice A n c) l)) {q : Nat} (hq : q < l.length) : n = l.length ∧ ∃ g, A = some ⟨g, 0, none⟩ ∧ w.cell? ⟨g, 0 + q * 1, none⟩ = some (.string (l.getD q ⟨#[]⟩)) := by
  have hn := h.slLen i hi
  rw [List.length_map] at hn
  obtain ⟨g, hg, hc⟩ := h.slGet i hi (by simp; omega)
  have := hc q 0 (.string (l.getD q ⟨#[]⟩)) (by simpa using hq) (by decide) (by simp [List.getD_eq_getElem?_getD, hq])
  exact ⟨hn, g, hg, by rw [show 0 + q * 1 = q * 1 + 0 by omega]; exact this⟩
theorem rAt (h : St S w0 w K) (i : Nat) (hi : K[i]? = some (refI T x l)) (hl : l.length ≤ 1048576) (n : Int) : Calls Try.prog 61 #[.pointer (some ⟨x, 0, none⟩), .int .i64 n] w fun e w' => e = .returned (.tuple #[.string (thing l n).1, .bool (thing l n).2]) ∧ St S w0 w' K := by
  obtain ⟨F, hF, _⟩ := h.at i hi
  obtain ⟨y, hS⟩ := openX (St.start1 hF)
  have hn := hS.slLen 1 rfl
  rw [List.length_map] at hn
  refine Calls.mono (f61.calls (R := fun v w' => v = .tuple #[.string (thing l n).1, .bool (thing l n).2] ∧ w' = w) ?_) ?_
  · dsimp only [f61.VC]
    refine sel_of (fun h1 => ?_) (fun h1 => ⟨_, _, _, (hS.blk 0 rfl).cell rfl, sel_of (fun h2 => ?_) (fun h2 => ?_)⟩)
    · have h1 : n < 1 := of_decide_eq_true h1
      exact ⟨by unfold thing; rw [if_pos (.inl h1)], rfl⟩
    · have h2 : (y.2.1 : Int) < n := of_decide_eq_true h2
      exact ⟨by unfold thing; rw [if_pos (.inr (by omega))], rfl⟩
    · have h1 : ¬ n < 1 := of_decide_eq_false h1
      have h2 : ¬ (y.2.1 : Int) < n := of_decide_eq_false h2
      have e : IntKind.i64.wrap (n - 1) = n - 1 := i64_id (by omega) (by omega)
      rw [e]
      have hj : (n - 1).toNat < l.length := by omega
      have e2 : thing l n = (l.getD (n - 1).toNat ⟨#[]⟩, true) := by unfold thing; rw [if_neg (by omega)]
      have hb1 : (0 : Int) ≤ n - 1 := by omega
      have hb2 : n - 1 < (y.2.1 : Int) := by omega
      generalize (n - 1).toNat = q at *
      obtain ⟨_, g, hg, hc⟩ := textAt hS 1 rfl hj
      exact ⟨_, _, _, (hS.blk 0 rfl).cell rfl, hb1, hb2, needPtr_of hg ⟨_, hc, by rw [e2], rfl⟩⟩
  · rintro e w' ⟨v, rfl, rfl, rfl⟩; exact ⟨rfl, h⟩
theorem num_from {l : List ByteArray} {s : ByteArray} {j : Nat} (hj : j < l.length) (hno : ∀ q, q < j → l.getD q ⟨#[]⟩ ≠ s) (h : l.getD j ⟨#[]⟩ = s) : IX.num l s = j + 1 := by
  have : l.findIdx? (fun x => decide (x = s)) = some j := by
    rw [List.findIdx?_eq_some_iff_getElem]
    refine ⟨hj, ?_, fun q hq => ?_⟩
    · rw [List.getD_eq_getElem?_getD, List.getElem?_eq_getElem hj] at h
      simpa using h
    · have := hno q hq
      rw [List.getD_eq_getElem?_getD, List.getElem?_eq_getElem (by omega)] at this
      simpa using this
  unfold IX.num
  rw [this]
theorem num_no {l : List ByteArray} {s : ByteArray} (hno : ∀ q, q < l.length → l.getD q ⟨#[]⟩ ≠ s) : IX.num l s = 0 := by
  have : l.findIdx? (fun x => decide (x = s)) = none := by
    rw [List.findIdx?_eq_none_iff]
    intro x hx
    obtain ⟨q, hq, rfl⟩ := List.mem_iff_getElem.1 hx
    have := hno q hq
    rw [List.getD_eq_getElem?_getD, List.getElem?_eq_getElem hq] at this
    simpa using this
  unfold IX.num
  rw [this]
theorem rFind (h : St S w0 w K) (i : Nat) (hi : K[i]? = some (refI T x l)) (hl : l.length ≤ 1048576) (s : ByteArray) : Calls Try.prog 80 #[.pointer (some ⟨x, 0, none⟩), .string s] w fun e w' => e = .returned (.tuple #[.int .i64 (IX.num l s : Int), .bool (decide (IX.num l s ≠ 0))]) ∧ St S w0 w' K := by
  obtain ⟨F, hF, _⟩ := h.at i hi
  obtain ⟨y, hS⟩ := openX (St.start1 hF)
  have hn := hS.slLen 1 rfl
  rw [List.length_map] at hn
  refine Calls.mono (f80.calls (R := fun v w' => v = .tuple #[.int .i64 (IX.num l s : Int), .bool (decide (IX.num l s ≠ 0))] ∧ w' = w) ?_) ?_
  · dsimp only [f80.VC]
    refine ⟨fun x6 w' r => w' = w ∧ ∃ j : Nat, x6 = (j : Int) ∧ j + r = l.length ∧ ∀ q, q < j → l.getD q ⟨#[]⟩ ≠ s, ⟨l.length, rfl, 0, rfl, by omega, fun q hq => by omega⟩, ?_⟩
    rintro d x6 w1 r ⟨rfl, j, rfl, hjr, hno⟩
    refine ⟨_, _, _, (hS.blk 0 rfl).cell rfl, sel_of (fun hd => ?_) (fun hd => ?_)⟩
    · have hj : j < l.length := by have := of_decide_eq_true hd; omega
      have hj1 : IntKind.i64.wrap ((j : Int) + 1) = ((j + 1 : Nat) : Int) := by rw [i64_id (by omega) (by omega)]; omega
      obtain ⟨_, g, hg, hc⟩ := textAt hS 1 rfl hj
      rw [hj1]
      refine ⟨_, _, _, (hS.blk 0 rfl).cell rfl, by omega, by omega, needPtr_of hg ⟨_, by rw [Int.toNat_natCast]; exact hc, sel_of (fun hs => ?_) (fun hs => ?_)⟩⟩
      · have hs : l.getD j ⟨#[]⟩ = s := of_decide_eq_true hs
        rw [num_from hj hno hs]
        exact ⟨by simp, rfl⟩
      · have hs : l.getD j ⟨#[]⟩ ≠ s := of_decide_eq_false hs
        refine ⟨rfl, r - 1, by omega, rfl, j + 1, rfl, by omega, fun q hq => ?_⟩
        rcases Nat.lt_or_ge q j with h1 | h1
        · exact hno q h1
        · have : q = j := by omega
          subst this; exact hs
    · have hj : j = l.length := by have := of_decide_eq_false hd; omega
      rw [num_no (fun q hq => hno q (by omega))]
      exact ⟨by simp, rfl⟩
  · rintro e w' ⟨v, rfl, rfl, rfl⟩; exact ⟨rfl, h⟩
end
section
variable {S : List Nat} {w0 w : World} {K : List Chunk} {x : Nat} {l : List ByteArray} {T : TypeId}
theorem rOf_ {F : List Nat} (hI : St F w w [refI T x l]) (hl : l.length ≤ 1048576) (s : ByteArray) : Calls Try.prog 39 #[.pointer (some ⟨x, 0, none⟩), .string s] w fun e w' => e = .returned (.int .i64 (IX.ofN l s : Int)) ∧ St F w w' [refI T x (IX.of l s)] := by
  refine Calls.mono (f39.calls (R := fun v w' => v = .int .i64 (IX.ofN l s : Int) ∧ St F w w' [refI T x (IX.of l s)]) ?_) ?_
  · dsimp only [f39.VC]
    refine Calls.mono (rFind hI 0 rfl hl s) ?_
    rintro _ w1 ⟨rfl, hI⟩
    obtain ⟨y, hS⟩ := openX hI
    have hn := hS.slLen 1 rfl
    rw [List.length_map] at hn
    refine ⟨_, _, rfl, sel_of (fun h0 => ?_) (fun h0 => ?_)⟩
    · have h0 : IX.num l s ≠ 0 := of_decide_eq_true h0
      have e1 : IX.ofN l s = IX.num l s := by unfold IX.ofN; rw [if_neg h0]
      have e2 : IX.of l s = l := by unfold IX.of; rw [if_neg h0]
      rw [e1, e2]
      exact ⟨rfl, hI⟩
    · have h0 : IX.num l s = 0 := by simpa using h0
      refine ⟨_, _, _, (hS.blk 0 rfl).cell rfl, sel_of (fun hb => ?_) (fun hb => ?_)⟩
      · have hb : 1048576 ≤ l.length := by have := of_decide_eq_true hb; omega
        have e1 : IX.ofN l s = 0 := by unfold IX.ofN; rw [if_pos h0, if_pos hb]
        have e2 : IX.of l s = l := by unfold IX.of; rw [if_pos h0, if_pos hb]
        rw [e1, e2]
        exact ⟨rfl, hI⟩
      · have hb : ¬ l.length ≥ 1048576 := by have := of_decide_eq_false hb; omega
        have e1 : IX.ofN l s = l.length + 1 := by unfold IX.ofN; rw [if_pos h0, if_neg hb]
        have e2 : IX.of l s = l ++ [s] := by unfold IX.of; rw [if_pos h0, if_neg hb]
        rw [e1, e2]
        have hS2 := hS.alloc #[.string s] 9
        obtain ⟨ti, i1, i2, i3, i4⟩ := info9
        obtain ⟨g', cap', w3, hrun, hS3⟩ := hS2.append (P := Try.prog) (ty := 25) (r := [.string s]) 2 under25 i1 i2 i3 rfl (by decide) rfl (hS2.blk 0 rfl) rfl rfl (by intro u hu; simp at hu; subst hu; rfl) (by rw [i4]; simp; omega) (by simp [maxLen]; omega)
        have el : (l.map fun s => [Value.string s]).length = l.length := by simp
        rw [el] at hrun
        have hS3 : St F w w3 [rB T x y, txC (.slice (some ⟨g', 0, none⟩) (l.length + 1) cap') (l ++ [s])] := by
          have := hS3.tail
          rw [el, show (l.map fun s => [Value.string s]) ++ [[Value.string s]] = (l ++ [s]).map (fun s => [Value.string s]) by simp] at this
          exact this
        have hS4 := hS3.set 0 rfl 0 [.slice (some ⟨g', 0, none⟩) (l.length + 1) cap']
        refine ⟨_, _, _, (hS.blk 0 rfl).cell rfl, _, _, _, _, hrun, (hS3.blk 0 rfl).can (by simp), _, _, _, (hS4.blk 0 rfl).cell rfl, rfl, closeX (some ⟨g', 0, none⟩, l.length + 1, cap') hS4⟩
  · rintro e w' ⟨v, rfl, rfl, h⟩; exact ⟨rfl, h⟩
theorem rOf (h : St S w0 w K) (i : Nat) (hi : K[i]? = some (refI T x l)) (hl : l.length ≤ 1048576) (s : ByteArray) : Calls Try.prog 39 #[.pointer (some ⟨x, 0, none⟩), .string s] w fun e w' => e = .returned (.int .i64 (IX.ofN l s : Int)) ∧ St S w0 w' (K.set i (refI T x (IX.of l s))) :=
  h.use i hi (fun F hF => rOf_ hF hl s)
end
end NI
end Go.Proofs.Ytjmlfknogjaemaa
