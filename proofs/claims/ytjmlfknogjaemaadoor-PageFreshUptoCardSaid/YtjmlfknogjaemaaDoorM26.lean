/- The plain statements of some functions, printed by vcgen.py. -/
import Derived.Test.YtjmlfknogjaemaaDoorM5
import Derived.Test.YtjmlfknogjaemaaDoorProg
import Derived.KernelRfl
import Derived.Test.YtjmlfknogjaemaaDoorM25
import Derived.Test.YtjmlfknogjaemaaDoorM7
set_option maxRecDepth 100000
set_option maxHeartbeats 4000000
set_option linter.unusedVariables false
namespace Go.Proofs.YtjmlfknogjaemaaDoor
open Go Go.Proofs.YtjmlfknogjaemaaDoor.Vc
theorem W19.mixed : Tryd.prog.follows .mixedOrders = true := by kernel_rfl
/-- gatehouse/gatehouseref11.Same -/
def f17.AL : Nat → Option Ann := fun r => match r with | 4 => some ⟨[(5, .int .i64)], [2, 3]⟩ | _ => none
def f17.AC : Nat → Option Ann := fun _ => none
def f17.VC (Aa0_0 : Option Addr) (na0_0 ca0_0 : Nat) (Aa0_1 : Option Addr) (na0_1 ca0_1 : Nat) (Aa0_2 : Option Addr) (na0_2 ca0_2 : Nat) (Aa0_3 : Option Addr) (na0_3 ca0_3 : Nat) (Aa0_4 : Option Addr) (na0_4 ca0_4 : Nat) (Aa0_5 : Option Addr) (na0_5 ca0_5 : Nat) (Aa1_0 : Option Addr) (na1_0 ca1_0 : Nat) (Aa1_1 : Option Addr) (na1_1 ca1_1 : Nat) (Aa1_2 : Option Addr) (na1_2 ca1_2 : Nat) (Aa1_3 : Option Addr) (na1_3 ca1_3 : Nat) (Aa1_4 : Option Addr) (na1_4 ca1_4 : Nat) (Aa1_5 : Option Addr) (na1_5 ca1_5 : Nat) (w : World) (R : Value → World → Prop) : Prop :=
  let b0 := World.alloc w (.cells #[.slice Aa0_0 na0_0 ca0_0, .slice Aa0_1 na0_1 ca0_1, .slice Aa0_2 na0_2 ca0_2, .slice Aa0_3 na0_3 ca0_3, .slice Aa0_4 na0_4 ca0_4, .slice Aa0_5 na0_5 ca0_5] 32);
  let d0 := World.alloc b0 (.cells #[.slice Aa1_0 na1_0 ca1_0, .slice Aa1_1 na1_1 ca1_1, .slice Aa1_2 na1_2 ca1_2, .slice Aa1_3 na1_3 ca1_3, .slice Aa1_4 na1_4 ca1_4, .slice Aa1_5 na1_5 ca1_5] 32);
  ∃ g0 h0 i0,
  d0.cell? ⟨w.heap.size, 0, none⟩ = some (.slice g0 h0 i0) ∧
  ∃ j0 k0 p0,
  d0.cell? ⟨b0.heap.size, 0, none⟩ = some (.slice j0 k0 p0) ∧
  Calls Tryd.prog 43 #[.slice g0 h0 i0, .slice j0 k0 p0] d0 fun q0 t0 =>
  ∃ u0,
  q0 = .returned (.bool u0) ∧
  sel (!u0) (
  R (.bool false) t0) (
  ∃ v0 x0 y0,
  t0.cell? ⟨w.heap.size, 1, none⟩ = some (.slice v0 x0 y0) ∧
  ∃ z0 b1 d1,
  t0.cell? ⟨b0.heap.size, 1, none⟩ = some (.slice z0 b1 d1) ∧
  Calls Tryd.prog 43 #[.slice v0 x0 y0, .slice z0 b1 d1] t0 fun g1 h1 =>
  ∃ i1,
  g1 = .returned (.bool i1) ∧
  sel (!i1) (
  R (.bool false) h1) (
  ∃ j1 k1 p1,
  h1.cell? ⟨w.heap.size, 2, none⟩ = some (.slice j1 k1 p1) ∧
  ∃ q1 t1 u1,
  h1.cell? ⟨b0.heap.size, 2, none⟩ = some (.slice q1 t1 u1) ∧
  Calls Tryd.prog 43 #[.slice j1 k1 p1, .slice q1 t1 u1] h1 fun v1 x1 =>
  ∃ y1,
  v1 = .returned (.bool y1) ∧
  sel (!y1) (
  R (.bool false) x1) (
  ∃ z1 b2 d2,
  x1.cell? ⟨w.heap.size, 3, none⟩ = some (.slice z1 b2 d2) ∧
  ∃ g2 h2 i2,
  x1.cell? ⟨b0.heap.size, 3, none⟩ = some (.slice g2 h2 i2) ∧
  Calls Tryd.prog 44 #[.slice z1 b2 d2, .slice g2 h2 i2] x1 fun j2 k2 =>
  ∃ p2,
  j2 = .returned (.bool p2) ∧
  sel (!p2) (
  R (.bool false) k2) (
  ∃ q2 t2 u2,
  k2.cell? ⟨w.heap.size, 4, none⟩ = some (.slice q2 t2 u2) ∧
  ∃ v2 x2 y2,
  k2.cell? ⟨b0.heap.size, 4, none⟩ = some (.slice v2 x2 y2) ∧
  Calls Tryd.prog 44 #[.slice q2 t2 u2, .slice v2 x2 y2] k2 fun z2 b3 =>
  ∃ d3,
  z2 = .returned (.bool d3) ∧
  sel (!d3) (
  R (.bool false) b3) (
  ∃ g3 h3 i3,
  b3.cell? ⟨w.heap.size, 5, none⟩ = some (.slice g3 h3 i3) ∧
  ∃ j3 k3 p3,
  b3.cell? ⟨b0.heap.size, 5, none⟩ = some (.slice j3 k3 p3) ∧
  sel (((h3 : Int) : Int) != ((k3 : Int) : Int)) (
  R (.bool false) b3) (
  ∃ q3 : Int → World → Nat → Prop,
  (∃ n, q3 0 b3 n) ∧
  ∀ t3 : Env, ∀ u3 v3 x3, q3 u3 v3 x3 →
  ∃ y3 z3 b4,
  v3.cell? ⟨w.heap.size, 5, none⟩ = some (.slice y3 z3 b4) ∧
  sel (decide ((u3 : Int) < ((z3 : Int) : Int))) (
  ∃ d4 g4 h4,
  v3.cell? ⟨w.heap.size, 5, none⟩ = some (.slice d4 g4 h4) ∧
  (0 : Int) ≤ u3 ∧ u3 < (g4 : Int) ∧
  needPtr d4 fun i4 j4 =>
  ∃ k4 p4 q4,
  v3.cell? ⟨i4, j4 + u3.toNat * 1, none⟩ = some (.slice k4 p4 q4) ∧
  ∃ t4 u4 v4,
  v3.cell? ⟨b0.heap.size, 5, none⟩ = some (.slice t4 u4 v4) ∧
  (0 : Int) ≤ u3 ∧ u3 < (u4 : Int) ∧
  needPtr t4 fun x4 y4 =>
  ∃ z4 b5 d5,
  v3.cell? ⟨x4, y4 + u3.toNat * 1, none⟩ = some (.slice z4 b5 d5) ∧
  Calls Tryd.prog 35 #[.slice k4 p4 q4, .slice z4 b5 d5] v3.drew fun g5 h5 =>
  ∃ i5,
  g5 = .returned (.bool i5) ∧
  sel (!i5) (
  R (.bool false) h5) (
  let j5 : Int := IntKind.i64.wrap (u3 + 1);
  ([.pointer (some ⟨w.heap.size, 0, none⟩), .pointer (some ⟨b0.heap.size, 0, none⟩)] : List Value) = ([.pointer (some ⟨w.heap.size, 0, none⟩), .pointer (some ⟨b0.heap.size, 0, none⟩)] : List Value) ∧ ∃ m, m < x3 ∧ q3 j5 h5 m)) (
  R (.bool true) v3)))))))
theorem f17.eq (Aa0_0 : Option Addr) (na0_0 ca0_0 : Nat) (Aa0_1 : Option Addr) (na0_1 ca0_1 : Nat) (Aa0_2 : Option Addr) (na0_2 ca0_2 : Nat) (Aa0_3 : Option Addr) (na0_3 ca0_3 : Nat) (Aa0_4 : Option Addr) (na0_4 ca0_4 : Nat) (Aa0_5 : Option Addr) (na0_5 ca0_5 : Nat) (Aa1_0 : Option Addr) (na1_0 ca1_0 : Nat) (Aa1_1 : Option Addr) (na1_1 ca1_1 : Nat) (Aa1_2 : Option Addr) (na1_2 ca1_2 : Nat) (Aa1_3 : Option Addr) (na1_3 ca1_3 : Nat) (Aa1_4 : Option Addr) (na1_4 ca1_4 : Nat) (Aa1_5 : Option Addr) (na1_5 ca1_5 : Nat) (w : World) (R : Value → World → Prop) : f17.VC Aa0_0 na0_0 ca0_0 Aa0_1 na0_1 ca0_1 Aa0_2 na0_2 ca0_2 Aa0_3 na0_3 ca0_3 Aa0_4 na0_4 ca0_4 Aa0_5 na0_5 ca0_5 Aa1_0 na1_0 ca1_0 Aa1_1 na1_1 ca1_1 Aa1_2 na1_2 ca1_2 Aa1_3 na1_3 ca1_3 Aa1_4 na1_4 ca1_4 Aa1_5 na1_5 ca1_5 w R = funV Tryd.prog Tryd.f17 f17.AL f17.AC #[.agg #[.slice Aa0_0 na0_0 ca0_0, .slice Aa0_1 na0_1 ca0_1, .slice Aa0_2 na0_2 ca0_2, .slice Aa0_3 na0_3 ca0_3, .slice Aa0_4 na0_4 ca0_4, .slice Aa0_5 na0_5 ca0_5], .agg #[.slice Aa1_0 na1_0 ca1_0, .slice Aa1_1 na1_1 ca1_1, .slice Aa1_2 na1_2 ca1_2, .slice Aa1_3 na1_3 ca1_3, .slice Aa1_4 na1_4 ca1_4, .slice Aa1_5 na1_5 ca1_5]] w R := by kernel_rfl
theorem f17.calls {Aa0_0 : Option Addr} {na0_0 ca0_0 : Nat} {Aa0_1 : Option Addr} {na0_1 ca0_1 : Nat} {Aa0_2 : Option Addr} {na0_2 ca0_2 : Nat} {Aa0_3 : Option Addr} {na0_3 ca0_3 : Nat} {Aa0_4 : Option Addr} {na0_4 ca0_4 : Nat} {Aa0_5 : Option Addr} {na0_5 ca0_5 : Nat} {Aa1_0 : Option Addr} {na1_0 ca1_0 : Nat} {Aa1_1 : Option Addr} {na1_1 ca1_1 : Nat} {Aa1_2 : Option Addr} {na1_2 ca1_2 : Nat} {Aa1_3 : Option Addr} {na1_3 ca1_3 : Nat} {Aa1_4 : Option Addr} {na1_4 ca1_4 : Nat} {Aa1_5 : Option Addr} {na1_5 ca1_5 : Nat} {w : World} {R : Value → World → Prop} (h : f17.VC Aa0_0 na0_0 ca0_0 Aa0_1 na0_1 ca0_1 Aa0_2 na0_2 ca0_2 Aa0_3 na0_3 ca0_3 Aa0_4 na0_4 ca0_4 Aa0_5 na0_5 ca0_5 Aa1_0 na1_0 ca1_0 Aa1_1 na1_1 ca1_1 Aa1_2 na1_2 ca1_2 Aa1_3 na1_3 ca1_3 Aa1_4 na1_4 ca1_4 Aa1_5 na1_5 ca1_5 w R) : Calls Tryd.prog 17 #[.agg #[.slice Aa0_0 na0_0 ca0_0, .slice Aa0_1 na0_1 ca0_1, .slice Aa0_2 na0_2 ca0_2, .slice Aa0_3 na0_3 ca0_3, .slice Aa0_4 na0_4 ca0_4, .slice Aa0_5 na0_5 ca0_5], .agg #[.slice Aa1_0 na1_0 ca1_0, .slice Aa1_1 na1_1 ca1_1, .slice Aa1_2 na1_2 ca1_2, .slice Aa1_3 na1_3 ca1_3, .slice Aa1_4 na1_4 ca1_4, .slice Aa1_5 na1_5 ca1_5]] w fun e w' => ∃ v, e = .returned v ∧ R v w' :=
  funV_sound (fn := Tryd.f17) (AL := f17.AL) (AC := f17.AC) W19.mixed (by kernel_rfl) (by rw [← f17.eq Aa0_0 na0_0 ca0_0 Aa0_1 na0_1 ca0_1 Aa0_2 na0_2 ca0_2 Aa0_3 na0_3 ca0_3 Aa0_4 na0_4 ca0_4 Aa0_5 na0_5 ca0_5 Aa1_0 na1_0 ca1_0 Aa1_1 na1_1 ca1_1 Aa1_2 na1_2 ca1_2 Aa1_3 na1_3 ca1_3 Aa1_4 na1_4 ca1_4 Aa1_5 na1_5 ca1_5]; exact h)

/-- gatehouse/gatehouseref11.texts -/
def f43.AL : Nat → Option Ann := fun r => match r with | 4 => some ⟨[(5, .int .i64)], [0, 1]⟩ | _ => none
def f43.AC : Nat → Option Ann := fun _ => none
def f43.VC (Aa0 : Option Addr) (na0 ca0 : Nat) (Aa1 : Option Addr) (na1 ca1 : Nat) (w : World) (R : Value → World → Prop) : Prop :=
  sel (((na0 : Int) : Int) != ((na1 : Int) : Int)) (
  R (.bool false) w) (
  ∃ b0 : Int → World → Nat → Prop,
  (∃ n, b0 0 w n) ∧
  ∀ d0 : Env, ∀ g0 h0 i0, b0 g0 h0 i0 →
  sel (decide ((g0 : Int) < ((na0 : Int) : Int))) (
  (0 : Int) ≤ g0 ∧ g0 < (na0 : Int) ∧
  needPtr Aa0 fun j0 k0 =>
  (0 : Int) ≤ g0 ∧ g0 < (na1 : Int) ∧
  needPtr Aa1 fun p0 q0 =>
  ∃ t0,
  h0.cell? ⟨j0, k0 + g0.toNat * 1, none⟩ = some (.string t0) ∧
  ∃ u0,
  h0.cell? ⟨p0, q0 + g0.toNat * 1, none⟩ = some (.string u0) ∧
  sel (!(decide (t0 = u0))) (
  R (.bool false) h0.drew) (
  let v0 : Int := IntKind.i64.wrap (g0 + 1);
  ([.slice Aa0 na0 ca0, .slice Aa1 na1 ca1] : List Value) = ([.slice Aa0 na0 ca0, .slice Aa1 na1 ca1] : List Value) ∧ ∃ m, m < i0 ∧ b0 v0 h0.drew m)) (
  R (.bool true) h0))
theorem f43.eq (Aa0 : Option Addr) (na0 ca0 : Nat) (Aa1 : Option Addr) (na1 ca1 : Nat) (w : World) (R : Value → World → Prop) : f43.VC Aa0 na0 ca0 Aa1 na1 ca1 w R = funV Tryd.prog Tryd.f43 f43.AL f43.AC #[.slice Aa0 na0 ca0, .slice Aa1 na1 ca1] w R := by kernel_rfl
theorem f43.calls {Aa0 : Option Addr} {na0 ca0 : Nat} {Aa1 : Option Addr} {na1 ca1 : Nat} {w : World} {R : Value → World → Prop} (h : f43.VC Aa0 na0 ca0 Aa1 na1 ca1 w R) : Calls Tryd.prog 43 #[.slice Aa0 na0 ca0, .slice Aa1 na1 ca1] w fun e w' => ∃ v, e = .returned v ∧ R v w' :=
  funV_sound (fn := Tryd.f43) (AL := f43.AL) (AC := f43.AC) W19.mixed (by kernel_rfl) (by rw [← f43.eq Aa0 na0 ca0 Aa1 na1 ca1]; exact h)

/-- gatehouse/gatehouseref11.numbers -/
def f44.AL : Nat → Option Ann := fun r => match r with | 4 => some ⟨[(5, .int .i64)], [0, 1]⟩ | _ => none
def f44.AC : Nat → Option Ann := fun _ => none
def f44.VC (Aa0 : Option Addr) (na0 ca0 : Nat) (Aa1 : Option Addr) (na1 ca1 : Nat) (w : World) (R : Value → World → Prop) : Prop :=
  sel (((na0 : Int) : Int) != ((na1 : Int) : Int)) (
  R (.bool false) w) (
  ∃ b0 : Int → World → Nat → Prop,
  (∃ n, b0 0 w n) ∧
  ∀ d0 : Env, ∀ g0 h0 i0, b0 g0 h0 i0 →
  sel (decide ((g0 : Int) < ((na0 : Int) : Int))) (
  (0 : Int) ≤ g0 ∧ g0 < (na0 : Int) ∧
  needPtr Aa0 fun j0 k0 =>
  (0 : Int) ≤ g0 ∧ g0 < (na1 : Int) ∧
  needPtr Aa1 fun p0 q0 =>
  ∃ t0,
  h0.cell? ⟨j0, k0 + g0.toNat * 1, none⟩ = some (.int .i64 t0) ∧
  ∃ u0,
  h0.cell? ⟨p0, q0 + g0.toNat * 1, none⟩ = some (.int .i64 u0) ∧
  sel ((t0 : Int) != (u0 : Int)) (
  R (.bool false) h0.drew) (
  let v0 : Int := IntKind.i64.wrap (g0 + 1);
  ([.slice Aa0 na0 ca0, .slice Aa1 na1 ca1] : List Value) = ([.slice Aa0 na0 ca0, .slice Aa1 na1 ca1] : List Value) ∧ ∃ m, m < i0 ∧ b0 v0 h0.drew m)) (
  R (.bool true) h0))
theorem f44.eq (Aa0 : Option Addr) (na0 ca0 : Nat) (Aa1 : Option Addr) (na1 ca1 : Nat) (w : World) (R : Value → World → Prop) : f44.VC Aa0 na0 ca0 Aa1 na1 ca1 w R = funV Tryd.prog Tryd.f44 f44.AL f44.AC #[.slice Aa0 na0 ca0, .slice Aa1 na1 ca1] w R := by kernel_rfl
theorem f44.calls {Aa0 : Option Addr} {na0 ca0 : Nat} {Aa1 : Option Addr} {na1 ca1 : Nat} {w : World} {R : Value → World → Prop} (h : f44.VC Aa0 na0 ca0 Aa1 na1 ca1 w R) : Calls Tryd.prog 44 #[.slice Aa0 na0 ca0, .slice Aa1 na1 ca1] w fun e w' => ∃ v, e = .returned v ∧ R v w' :=
  funV_sound (fn := Tryd.f44) (AL := f44.AL) (AC := f44.AC) W19.mixed (by kernel_rfl) (by rw [← f44.eq Aa0 na0 ca0 Aa1 na1 ca1]; exact h)

end Go.Proofs.YtjmlfknogjaemaaDoor
/- Page: graphs and indexes that are alike. -/
set_option linter.unusedVariables false
set_option linter.unusedSimpArgs false
set_option maxRecDepth 10000
namespace Go.Proofs.YtjmlfknogjaemaaDoor
open Go Go.Proofs.YtjmlfknogjaemaaDoor.Vc
namespace PG
open Vc.PG NI
theorem numbersR {w : World} {A B : Option Addr} {n c m d : Nat} {l k : List Int} (h : InW w A n l) (h2 : InW w B m k) (hn : n ≤ 1000000000) : Calls Tryd.prog 44 #[.slice A n c, .slice B m d] w fun e w' => e = .returned (.bool (decide (l = k))) ∧ Fr [] w w' := by
  refine Calls.mono (f44.calls (R := fun v w' => v = .bool (decide (l = k)) ∧ Fr [] w w') ?_) ?_
  · dsimp only [f44.VC]
    have hl := h.1
    have hk := h2.1
    refine sel_of (fun hd => ?_) (fun hd => ?_)
    · have hd : (n : Int) ≠ m := by simpa using hd
      refine ⟨?_, Fr.refl _ _⟩
      rw [decide_eq_false]
      rintro rfl; omega
    · have hd : (n : Int) = m := by simpa using hd
      refine ⟨fun x w' r => Fr [] w w' ∧ ∃ i : Nat, x = (i : Int) ∧ i + r = n ∧ ∀ a, a < i → l.getD a 0 = k.getD a 0, ⟨n, Fr.refl _ _, 0, rfl, by omega, fun a ha => by omega⟩, ?_⟩
      rintro d x w1 r ⟨hf, i, rfl, hir, hno⟩
      refine sel_of (fun hd => ?_) (fun hd => ?_)
      · have hi : i < n := by have := of_decide_eq_true hd; omega
        obtain ⟨b, o, rfl, hc⟩ := h.2 (by omega)
        obtain ⟨b2, o2, rfl, hc2⟩ := h2.2 (by omega)
        refine ⟨by omega, by omega, needPtr_of rfl ⟨by omega, by omega, needPtr_of rfl ⟨_, by rw [Nat.mul_one, Int.toNat_natCast]; exact hf.cell (hc i (by omega)), _, by rw [Nat.mul_one, Int.toNat_natCast]; exact hf.cell (hc2 i (by omega)), sel_of (fun hs => ?_) (fun hs => ?_)⟩⟩⟩
        · have hs : l.getD i 0 ≠ k.getD i 0 := by simpa using hs
          refine ⟨?_, hf.drew⟩
          rw [decide_eq_false]
          rintro rfl; exact hs rfl
        · have hs : l.getD i 0 = k.getD i 0 := by simpa using hs
          rw [inc i n hn (by omega)]
          refine ⟨rfl, r - 1, by omega, hf.drew, i + 1, rfl, by omega, fun a ha => ?_⟩
          rcases Nat.lt_or_ge a i with h1 | h1
          · exact hno a h1
          · have : a = i := by omega
            subst this; exact hs
      · have hi : i = n := by have := of_decide_eq_false hd; omega
        refine ⟨?_, hf⟩
        rw [decide_eq_true]
        exact (ext_getD 0 _ _).2 ⟨by omega, fun q hq => hno q (by omega)⟩
  · rintro e w' ⟨v, rfl, rfl, h⟩; exact ⟨rfl, h⟩
theorem textsR {w : World} {A B : Option Addr} {n c m d : Nat} {l k : List ByteArray} (h : InX w A n l) (h2 : InX w B m k) (hn : n ≤ 1000000000) : Calls Tryd.prog 43 #[.slice A n c, .slice B m d] w fun e w' => e = .returned (.bool (decide (l = k))) ∧ Fr [] w w' := by
  refine Calls.mono (f43.calls (R := fun v w' => v = .bool (decide (l = k)) ∧ Fr [] w w') ?_) ?_
  · dsimp only [f43.VC]
    have hl := h.1
    have hk := h2.1
    refine sel_of (fun hd => ?_) (fun hd => ?_)
    · have hd : (n : Int) ≠ m := by simpa using hd
      refine ⟨?_, Fr.refl _ _⟩
      rw [decide_eq_false]
      rintro rfl; omega
    · have hd : (n : Int) = m := by simpa using hd
      refine ⟨fun x w' r => Fr [] w w' ∧ ∃ i : Nat, x = (i : Int) ∧ i + r = n ∧ ∀ a, a < i → l.getD a ByteArray.empty = k.getD a ByteArray.empty, ⟨n, Fr.refl _ _, 0, rfl, by omega, fun a ha => by omega⟩, ?_⟩
      rintro d x w1 r ⟨hf, i, rfl, hir, hno⟩
      refine sel_of (fun hd => ?_) (fun hd => ?_)
      · have hi : i < n := by have := of_decide_eq_true hd; omega
        obtain ⟨b, o, rfl, hc⟩ := h.2 (by omega)
        obtain ⟨b2, o2, rfl, hc2⟩ := h2.2 (by omega)
        refine ⟨by omega, by omega, needPtr_of rfl ⟨by omega, by omega, needPtr_of rfl ⟨_, by rw [Nat.mul_one, Int.toNat_natCast]; exact hf.cell (hc i (by omega)), _, by rw [Nat.mul_one, Int.toNat_natCast]; exact hf.cell (hc2 i (by omega)), sel_of (fun hs => ?_) (fun hs => ?_)⟩⟩⟩
        · have hs : l.getD i ByteArray.empty ≠ k.getD i ByteArray.empty := by simpa using hs
          refine ⟨?_, hf.drew⟩
          rw [decide_eq_false]
          rintro rfl; exact hs rfl
        · have hs : l.getD i ByteArray.empty = k.getD i ByteArray.empty := by simpa using hs
          rw [inc i n hn (by omega)]
          refine ⟨rfl, r - 1, by omega, hf.drew, i + 1, rfl, by omega, fun a ha => ?_⟩
          rcases Nat.lt_or_ge a i with h1 | h1
          · exact hno a h1
          · have : a = i := by omega
            subst this; exact hs
      · have hi : i = n := by have := of_decide_eq_false hd; omega
        refine ⟨?_, hf⟩
        rw [decide_eq_true]
        exact (ext_getD ByteArray.empty _ _).2 ⟨by omega, fun q hq => hno q (by omega)⟩
  · rintro e w' ⟨v, rfl, rfl, h⟩; exact ⟨rfl, h⟩
/-- The document's index, read. -/
theorem RefAt.things {w : World} {x : Nat} {l : List ByteArray} (h : RefAt w x l) : ∃ A c, w.cell? ⟨x, 0, none⟩ = some (.slice A l.length c) ∧ InX w A l.length l := by
  obtain ⟨F, hF⟩ := h
  obtain ⟨y, hS⟩ := openX (St.start1 hF)
  have hn := hS.slLen 1 rfl
  rw [List.length_map] at hn
  refine ⟨y.1, y.2.2, by rw [← hn]; exact (hS.blk 0 rfl).cell rfl, rfl, fun h0 => ?_⟩
  obtain ⟨_, g, hg, _⟩ := textAt hS 1 rfl h0
  refine ⟨g, 0, hg, fun i hi => ?_⟩
  obtain ⟨_, g2, hg2, hc⟩ := textAt hS 1 rfl hi
  rw [hg] at hg2
  injection hg2 with hg2
  injection hg2 with hg2
  subst hg2
  rw [Nat.mul_one] at hc
  exact hc
/-- Are two graphs alike? -/
def sameG (g h : Gd) : Bool := decide (gA g = gA h) && decide (gS g = gS h) && decide (gO g = gO h) && decide (gF g = gF h) && decide (gN g = gN h) && decide (gM g = gM h)
theorem sameG_refl (g : Gd) : sameG g g = true := by simp [sameG]
theorem sameGR {w : World} {u v : GV} {g h : Gd} (hu : InG w u g) (hv : InG w v h) (hb : (u.a.2.1 ≤ 1000000000 ∧ u.s.2.1 ≤ 1000000000 ∧ u.o.2.1 ≤ 1000000000 ∧ u.f.2.1 ≤ 1000000000 ∧ u.n.2.1 ≤ 1000000000 ∧ u.m.2.1 ≤ 1000000000) ∧ ∀ r ∈ gM g, r.length ≤ 1000000000) :
    Calls Tryd.prog 17 #[u.v, v.v] w fun e w' => e = .returned (.bool (sameG g h)) ∧ Fr [] w w' := by
  refine Calls.mono (f17.calls (R := fun v w' => v = .bool (sameG g h) ∧ Fr [] w w') ?_) ?_
  · dsimp only [f17.VC]
    have hS1 := (St.start w).alloc u.cells 32
    generalize w.heap.size = b1 at *
    generalize World.alloc w (.cells u.cells 32) = w1 at *
    have hS := hS1.alloc v.cells 32
    generalize w1.heap.size = b2 at *
    generalize World.alloc w1 (.cells v.cells 32) = w2 at *
    clear hS1
    obtain ⟨⟨q1, q2, q3, q4, q5, q6⟩, q7⟩ := hb
    refine ⟨_, _, _, (hS.blk 1 rfl).cell rfl, _, _, _, (hS.blk 0 rfl).cell rfl, ?_⟩
    refine Calls.mono (hS.step0 (textsR (hu.fr hS.frame).a.1 (hv.fr hS.frame).a.1 q1)) ?_
    clear hS
    rintro _ w3 ⟨rfl, hS⟩
    refine ⟨_, rfl, sel_of (fun c => ⟨by simp at c; simp [sameG, c], hS.frame⟩) (fun d1 => ?_)⟩
    have d1 : decide (gA g = gA h) = true := by simpa using d1
    refine ⟨_, _, _, (hS.blk 1 rfl).cell rfl, _, _, _, (hS.blk 0 rfl).cell rfl, ?_⟩
    refine Calls.mono (hS.step0 (textsR (hu.fr hS.frame).s.1 (hv.fr hS.frame).s.1 q2)) ?_
    clear hS
    rintro _ w3 ⟨rfl, hS⟩
    refine ⟨_, rfl, sel_of (fun c => ⟨by simp at c; simp [sameG, c], hS.frame⟩) (fun d2 => ?_)⟩
    have d2 : decide (gS g = gS h) = true := by simpa using d2
    refine ⟨_, _, _, (hS.blk 1 rfl).cell rfl, _, _, _, (hS.blk 0 rfl).cell rfl, ?_⟩
    refine Calls.mono (hS.step0 (textsR (hu.fr hS.frame).o.1 (hv.fr hS.frame).o.1 q3)) ?_
    clear hS
    rintro _ w3 ⟨rfl, hS⟩
    refine ⟨_, rfl, sel_of (fun c => ⟨by simp at c; simp [sameG, c], hS.frame⟩) (fun d3 => ?_)⟩
    have d3 : decide (gO g = gO h) = true := by simpa using d3
    refine ⟨_, _, _, (hS.blk 1 rfl).cell rfl, _, _, _, (hS.blk 0 rfl).cell rfl, ?_⟩
    refine Calls.mono (hS.step0 (numbersR (hu.fr hS.frame).f.1 (hv.fr hS.frame).f.1 q4)) ?_
    clear hS
    rintro _ w3 ⟨rfl, hS⟩
    refine ⟨_, rfl, sel_of (fun c => ⟨by simp at c; simp [sameG, c], hS.frame⟩) (fun d4 => ?_)⟩
    have d4 : decide (gF g = gF h) = true := by simpa using d4
    refine ⟨_, _, _, (hS.blk 1 rfl).cell rfl, _, _, _, (hS.blk 0 rfl).cell rfl, ?_⟩
    refine Calls.mono (hS.step0 (numbersR (hu.fr hS.frame).n.1 (hv.fr hS.frame).n.1 q5)) ?_
    clear hS
    rintro _ w3 ⟨rfl, hS⟩
    refine ⟨_, rfl, sel_of (fun c => ⟨by simp at c; simp [sameG, c], hS.frame⟩) (fun d5 => ?_)⟩
    have d5 : decide (gN g = gN h) = true := by simpa using d5
    have hgo : sameG g h = decide (gM g = gM h) := by simp only [sameG, d1, d2, d3, d4, d5, Bool.true_and]
    rw [hgo]
    have m1 := hu.m.1.1
    have m2 := hv.m.1.1
    refine ⟨_, _, _, (hS.blk 1 rfl).cell rfl, _, _, _, (hS.blk 0 rfl).cell rfl, sel_of (fun c => ⟨?_, hS.frame⟩) (fun d6 => ?_)⟩
    · have c : (u.m.2.1 : Int) ≠ v.m.2.1 := by simpa using c
      rw [decide_eq_false]
      intro hh
      rw [hh] at m1; omega
    have d6 : (u.m.2.1 : Int) = v.m.2.1 := by simpa using d6
    refine ⟨fun x w' r => St [] w w' [Chunk.blk b2 v.cells 32, Chunk.blk b1 u.cells 32] ∧ ∃ i : Nat, x = (i : Int) ∧ i + r = u.m.2.1 ∧ ∀ a, a < i → (gM g).getD a [] = (gM h).getD a [], ⟨u.m.2.1, hS, 0, rfl, by omega, fun a ha => by omega⟩, ?_⟩
    clear hS
    rintro dd x w4 r ⟨hS, i, rfl, hir, hno⟩
    refine ⟨_, _, _, (hS.blk 1 rfl).cell rfl, sel_of (fun hd => ?_) (fun hd => ?_)⟩
    · have hi : i < u.m.2.1 := by have := of_decide_eq_true hd; omega
      refine ⟨_, _, _, (hS.blk 1 rfl).cell rfl, by omega, by omega, (hu.fr hS.frame).m.1.need rfl hi fun B1 k1 c1 hU => ?_⟩
      refine ⟨_, _, _, (hS.blk 0 rfl).cell rfl, by omega, by omega, (hv.fr hS.frame).m.1.need rfl (by omega) fun B2 k2 c2 hV => ?_⟩
      have hrl : k1 ≤ 1000000000 := by
        rw [hU.1]
        refine q7 _ ?_
        rw [List.getD_eq_getElem?_getD, List.getElem?_eq_getElem (by omega)]; exact List.getElem_mem _
      have hS2 := hS.drew
      refine Calls.mono (hS2.step0 (equalR (hU.fr (Fr.refl [] w4).drew) (hV.fr (Fr.refl [] w4).drew) hrl)) ?_
      rintro _ w5 ⟨rfl, hS3⟩
      refine ⟨_, rfl, sel_of (fun c => ⟨?_, hS3.frame⟩) (fun c => ?_)⟩
      · have c : (gM g).getD i [] ≠ (gM h).getD i [] := by simpa using c
        rw [decide_eq_false]
        intro hh; rw [hh] at c; exact c rfl
      · have c : (gM g).getD i [] = (gM h).getD i [] := by simpa using c
        rw [inc i 1000000000 (by omega) (by omega)]
        refine ⟨rfl, r - 1, by omega, hS3, i + 1, rfl, by omega, fun a ha => ?_⟩
        rcases Nat.lt_or_ge a i with h1 | h1
        · exact hno a h1
        · have : a = i := by omega
          subst this; exact c
    · have hi : i = u.m.2.1 := by have := of_decide_eq_false hd; omega
      refine ⟨?_, hS.frame⟩
      rw [decide_eq_true]
      exact (ext_getD [] _ _).2 ⟨by omega, fun q hq => hno q (by omega)⟩
  · rintro e w' ⟨v, rfl, rfl, h⟩; exact ⟨rfl, h⟩
end PG
end Go.Proofs.YtjmlfknogjaemaaDoor
/- Page: awake. -/
set_option linter.unusedVariables false
set_option linter.unusedSimpArgs false
set_option maxRecDepth 10000
namespace Go.Proofs.YtjmlfknogjaemaaDoor
open Go Go.Proofs.YtjmlfknogjaemaaDoor.Vc
namespace PG
open Vc.PG NI
theorem exW_le : ∀ i, exW.getD i 0 ≤ 9223372036854775807 := by
  intro i
  by_cases hi : i < 21
  · have : ∀ i : Fin 21, exW.getD i 0 ≤ 9223372036854775807 := by decide
    exact this ⟨i, hi⟩
  · rw [List.getD_eq_getElem?_getD, List.getElem?_eq_none (by simp [exW]; omega)]; decide
theorem awake (w : World) : Calls Tryd.prog 5 #[] w fun e w' => e = .returned (.bool true) ∧ Fr [] w w' := by
  refine Calls.mono (f5.calls (R := fun v w' => v = .bool true ∧ Fr [] w w') ?_) ?_
  · dsimp only [f5.VC]
    refine Calls.mono (NI.new (St.start w)) ?_
    rintro _ w1 ⟨x, rfl, hS1⟩
    refine ⟨_, rfl, sel_of (fun h => by cases h) (fun _ => ?_)⟩
    refine Calls.mono (smallC hS1) ?_
    rintro _ w2 ⟨v, rfl, hv, hS2⟩
    have hG2 : InG w2 v exG := hS2.says 0 rfl
    have hsz := sizeC hG2 ⟨by omega, by omega, by omega⟩
    rw [ex_size] at hsz
    refine ⟨_, _, _, _, _, _, _, _, _, _, _, _, _, _, _, _, _, _, rfl, ?_⟩
    refine Calls.mono (hS2.step0 hsz) ?_
    rintro _ w3 ⟨rfl, hS3⟩
    refine ⟨_, rfl, sel_of (fun h => by simp at h) (fun _ => ?_)⟩
    refine Calls.mono (smallC hS3) ?_
    rintro _ w4 ⟨u, rfl, hu, hS4⟩
    refine ⟨_, _, _, _, _, _, _, _, _, _, _, _, _, _, _, _, _, _, rfl, ?_⟩
    obtain ⟨F, hF, hG, hgr⟩ := hS4.graftW 2 rfl
    obtain ⟨G, hG4, hd⟩ := hG 0 _ (by decide) rfl
    have hlay := layC (St.start1 hF) (v := u) (g := exG) (fun w' hf => Chunk.keep_says (Chunk.fr _ hG4 hf hd)) (by simp) ⟨by omega, by omega, by omega⟩ 5
    rw [ex_lay] at hlay
    refine Calls.mono hlay ?_
    rintro _ w5 ⟨A, n, c, rfl, hS5⟩
    have hS6 := hgr (hS5.swap 0 1 rfl rfl)
    have hS6 : St [] w w5 [ints (.slice A n c) exW, gC u exG, gC v exG, idxC x exL] := hS6
    clear hS5 hlay hgr hG hF hG4
    refine ⟨_, _, _, _, rfl, sel_of (fun h => by cases h) (fun _ => ?_)⟩
    have hS7 := hS6.alloc (exW.map encN).toArray 3
    have hW7 : InW (w5.alloc (.cells (exW.map encN).toArray 3)) (some ⟨w5.heap.size, 0, none⟩) 21 exW := by
      obtain ⟨F, hF, _⟩ := hS7.at 0 rfl
      have := Chunk.ls_says 0 (ls_of_blk (l := exW) (enc := encN) (by decide) hF)
      exact ⟨this.1, this.2.2⟩
    have hn : n = 21 := hS6.lsLen 0 rfl
    subst hn
    refine Calls.mono (hS7.step0 (sameC (St.inI hS7 1 rfl) hW7 (by decide))) ?_
    rintro _ w7 ⟨rfl, hS8⟩
    refine ⟨_, rfl, sel_of (fun h => by simp at h) (fun _ => ?_)⟩
    have d1 := decC (St.inI hS8 1 rfl) (c := c) (by decide) 2 3 1
    rw [ex_dec1] at d1
    refine Calls.mono (hS8.step0 d1) ?_
    rintro _ w8 ⟨rfl, hS9⟩
    refine ⟨_, _, rfl, ?_⟩
    have d2 := decC (St.inI hS9 1 rfl) (c := c) (by decide) 2 3 2
    rw [ex_dec2] at d2
    refine Calls.mono (hS9.step0 d2) ?_
    rintro _ w9 ⟨rfl, hS10⟩
    refine ⟨_, _, rfl, ?_⟩
    have hrd := readC (St.inI hS10 1 rfl) (c := c) (idxAt hS10 4 rfl) (by decide) (by decide) exW_le
    refine Calls.mono hrd ?_
    obtain ⟨q1, q2, q3⟩ := ex_read
    rintro _ w10 ⟨_, rfl, g, rfl, hS11⟩
    rw [q1, q2]
    have hg : InG w10 g (readP exW exL).2.1 := hS11.says 0 rfl
    have hgs : g.s.2.1 = 1 := by rw [hg.s.1.1, q3]
    have hS12 := hS10.gone hS11
    have hS13 := hS12.alloc #[.slice none 0 0, .slice none 0 0, .slice none 0 0, .slice none 0 0, .slice none 0 0, .slice none 0 0] 32
    have hS14 := hS13.over 0 rfl [g.a.v, g.s.v, g.o.v, g.f.v, g.n.v, g.m.v] rfl
    refine ⟨_, _, _, _, _, _, _, _, _, _, _, _, _, _, _, _, _, _, _, _, rfl, (hS13.blk 0 rfl).can (by decide), ?_⟩
    refine sel_of (fun _ => sel_of (fun _ => sel_of (fun _ => sel_of (fun _ => sel_of (fun _ => sel_of (fun _ => ?_) (fun h => by simp at h)) (fun h => by simp at h)) (fun h => by simp at h)) (fun h => by simp at h)) (fun h => by simp at h)) (fun h => by simp at h)
    refine ⟨_, _, _, (hS14.blk 0 rfl).cell rfl, sel_of (fun _ => ?_) (fun h => by rw [hgs] at h; simp at h)⟩
    have hh := hashP (setCs (World.alloc w10 (.cells #[.slice none 0 0, .slice none 0 0, .slice none 0 0, .slice none 0 0, .slice none 0 0, .slice none 0 0] 32)) w10.heap.size 0 [g.a.v, g.s.v, g.o.v, g.f.v, g.n.v, g.m.v]) 9 8 (by decide)
    rw [ex_hash] at hh
    refine Calls.mono (hS14.step0 hh) ?_
    rintro _ w13 ⟨rfl, hS15⟩
    exact ⟨_, rfl, rfl, hS15.frame⟩
  · rintro e w' ⟨v, rfl, rfl, h⟩; exact ⟨rfl, h⟩
end PG
end Go.Proofs.YtjmlfknogjaemaaDoor

/- Page: copied; the law PageAsked, the walk. -/
set_option linter.unusedVariables false
set_option linter.unusedSimpArgs false
set_option maxRecDepth 10000
namespace Go.Proofs.YtjmlfknogjaemaaDoor
open Go Go.Proofs.YtjmlfknogjaemaaDoor.Vc
namespace PG
open Vc.PG NI
/-- The marks behind a list. -/
def marksL (k : Nat) : List Int := (List.range k).map fun (i : Nat) => -7000 - (i : Int)
theorem marksL_succ (k : Nat) : marksL (k + 1) = marksL k ++ [-7000 - (k : Int)] := by
  unfold marksL
  rw [List.range_succ, List.map_append]; rfl
theorem marksL_len (k : Nat) : (marksL k).length = k := by simp [marksL]
theorem copiedC {S : List Nat} {w0 w : World} {L : List Chunk} (h : St S w0 w L) {A : Option Addr} {n c : Nat} {W : List Int} (hW : InW w A n W) (hn : n ≤ 3000000) (k : Nat) (hk : k ≤ 1000) :
    Calls Tryd.prog 14 #[.slice A n c, .int .i64 (k : Int)] w fun e w' => ∃ X : Sl, e = .returned X.v ∧ St S w0 w' (ints X.v (W ++ marksL k) :: L) := by
  refine Calls.mono (f14.calls (R := fun v w' => ∃ X : Sl, v = X.v ∧ St S w0 w' (ints X.v (W ++ marksL k) :: L)) ?_) ?_
  · dsimp only [f14.VC]
    have hl := hW.1
    obtain ⟨ti, i1, i2, i3, i4⟩ := info3
    obtain ⟨A1, n1, c1, w1, r1, hS1⟩ := St.appMany (ty := 28) 0 (enc := encN) (fun _ => rfl) under26 i1 i2 i3 rfl (by omega) (h.nil 3 1) 0 (l := []) rfl hW.1 hW.2 (c2 := c) (by simp; omega)
    refine ⟨A1, n1, c1, w1, r1, fun A5 n5 c5 x w' r => ∃ i : Nat, x = (i : Int) ∧ i + r = k ∧ St S w0 w' (ints (.slice A5 n5 c5) (W ++ marksL i) :: L), ⟨k, 0, rfl, by omega, by simpa [marksL] using hS1⟩, ?_⟩
    rintro d A5 n5 c5 x w2 r ⟨i, rfl, hir, hS⟩
    refine sel_of (fun hd => ?_) (fun hd => ?_)
    · have hi : i < k := by have := of_decide_eq_true hd; omega
      have hm := marksL_len i
      obtain ⟨A6, n6, c6, w3, r3, hS3⟩ := appI hS 0 rfl (-7000 - (i : Int)) (by simp [hm]; omega)
      rw [i64_id (x := -7000 - (i : Int)) (by omega) (by omega), inc i k (by omega) (by omega)]
      refine ⟨A6, n6, c6, w3, r3, rfl, r - 1, by omega, i + 1, rfl, by omega, ?_⟩
      rw [marksL_succ, ← List.append_assoc]
      exact hS3
    · have hi : i = k := by have := of_decide_eq_false hd; omega
      subst hi
      exact ⟨(A5, n5, c5), rfl, hS⟩
  · rintro e w' ⟨v, rfl, X, rfl, h⟩; exact ⟨X, rfl, h⟩
/-- Questions that are read. -/
def encK (x : Int × Int × Int × Int) : List Value := [.int .i64 x.1, .int .i64 x.2.1, .int .i64 x.2.2.1, .int .i8 x.2.2.2]
def InK (w : World) (A : Option Addr) (n : Nat) (l : List (Int × Int × Int × Int)) : Prop := InR w 4 A n (l.map encK)
theorem InK.fr {w w' : World} {A : Option Addr} {n : Nat} {l : List (Int × Int × Int × Int)} (h : InK w A n l) (hf : Fr [] w w') : InK w' A n l :=
  InR.fr (S := []) h (fun r hr => by obtain ⟨x, _, rfl⟩ := List.mem_map.1 hr; rfl) hf
end PG
end Go.Proofs.YtjmlfknogjaemaaDoor

/- Page: the document's Read, its parts: seats, mask, named. -/
set_option linter.unusedVariables false
set_option linter.unusedSimpArgs false
set_option maxRecDepth 10000
namespace Go.Proofs.YtjmlfknogjaemaaDoor
open Go Go.Proofs.YtjmlfknogjaemaaDoor.Vc
namespace PG
open Vc.PG NI
end PG
end Go.Proofs.YtjmlfknogjaemaaDoor
/- Page: the document's Read, its parts: named, seated, spans. -/
set_option linter.unusedVariables false
set_option linter.unusedSimpArgs false
set_option maxRecDepth 10000
namespace Go.Proofs.YtjmlfknogjaemaaDoor
open Go Go.Proofs.YtjmlfknogjaemaaDoor.Vc
namespace PG
open Vc.PG NI
theorem namedStep_nodup (l : List ByteArray) (t : List ByteArray × List Int × List Int) (p : Se) (h : t.2.2.Nodup) : (namedStep l t p).2.2.Nodup := by
  unfold namedStep
  by_cases hx : idxI t.2.2 p.2 < 0
  · rw [if_pos hx]
    have hm : ¬ p.2 ∈ t.2.2 := by
      intro hm
      have := (memB_iff _ _).2 hm
      rw [← idxI_mem] at this
      have := of_decide_eq_true this
      omega
    rw [List.nodup_append]
    exact ⟨h, by simp, fun a ha b hb => by simp at hb; subst hb; rintro rfl; exact hm ha⟩
  · rw [if_neg hx]; exact h
theorem namedGo_nodup (l : List ByteArray) : ∀ (s : List Se) (t : List ByteArray × List Int × List Int), t.2.2.Nodup → (s.foldl (namedStep l) t).2.2.Nodup
  | [], t, h => h
  | p :: s, t, h => namedGo_nodup l s _ (namedStep_nodup l t p h)
theorem namedP_nodup (l : List ByteArray) (s : List Se) : (namedP l s).2.2.Nodup := namedGo_nodup l s _ (by simp)
end PG
end Go.Proofs.YtjmlfknogjaemaaDoor
/- Page: the document's Read, its parts: spans, apart. -/
set_option linter.unusedVariables false
set_option linter.unusedSimpArgs false
set_option maxRecDepth 10000
namespace Go.Proofs.YtjmlfknogjaemaaDoor
open Go Go.Proofs.YtjmlfknogjaemaaDoor.Vc
namespace PG
open Vc.PG NI
def cnt (l : List Se) (k : Int) : Nat := (l.filter fun p => decide (p.2 = k)).length
/-- Do the numbers span 1 to n? -/
def SpansP (l : List Se) (N : Nat) (once : Bool) : Prop :=
  (∀ k : Nat, k < N → cnt l ((k + 1 : Nat) : Int) ≠ 0 ∧ (once = true → cnt l ((k + 1 : Nat) : Int) ≤ 1)) ∧ ∀ i, i < l.length → 1 ≤ (l.getD i se0).2 ∧ (l.getD i se0).2 ≤ N
/-- Are the masks small, no two rows alike, no two columns? (m: the masks, from 0 on.) -/
def ApartP (m : Nat → Nat → Int) (H2 H3 bits : Nat) : Prop :=
  (∀ x, x < H2 → ∀ y, y < H3 → 0 ≤ m x y ∧ m x y < 2 ^ bits) ∧ (∀ x, x < H2 → ∀ k, k < x → ¬ ∀ y, y < H3 → m x y = m k y) ∧ (∀ y, y < H3 → ∀ k, k < y → ¬ ∀ x, x < H2 → m x y = m x k)
end PG
end Go.Proofs.YtjmlfknogjaemaaDoor
/- Page: the document's Laid. -/
set_option linter.unusedVariables false
set_option linter.unusedSimpArgs false
set_option maxRecDepth 10000
namespace Go.Proofs.YtjmlfknogjaemaaDoor
open Go Go.Proofs.YtjmlfknogjaemaaDoor.Vc
namespace PG
open Vc.PG NI
/-- The masks of a page, from 0 on. -/
def mskN (W : List Int) (t : Nat) (x y : Nat) : Int := maskP W t (W.getD 3 0) ((x + 1 : Nat) : Int) ((y + 1 : Nat) : Int)
/-- What the document asks of a page whose table has t places. -/
def LaidT (W : List Int) (t : Nat) : Prop :=
  tabN ((seatsP W 3 t).length + (seatsP W 1 t).length + (seatsP W 2 t).length) = t ∧ (seatsP W 3 t).length ≤ 16 ∧ (seatsP W 1 t).length ≤ 64 ∧ (seatsP W 2 t).length ≤ 64 ∧
  SpansP (seatsP W 3 t) (seatsP W 3 t).length true ∧ SpansP (seatsP W 1 t) (W.getD 2 0).toNat false ∧ SpansP (seatsP W 2 t) (W.getD 3 0).toNat false ∧ ApartP (mskN W t) (W.getD 2 0).toNat (W.getD 3 0).toNat (seatsP W 3 t).length
def LaidP (W : List Int) (l : List ByteArray) : Prop := ∃ t : Nat, tabP W = (t : Int) ∧ 0 < t ∧ shapeB W t = true ∧ seatedB W t l = true ∧ LaidT W t
end PG
end Go.Proofs.YtjmlfknogjaemaaDoor
/- Page: the document's Read. -/
set_option linter.unusedVariables false
set_option linter.unusedSimpArgs false
set_option maxRecDepth 10000
namespace Go.Proofs.YtjmlfknogjaemaaDoor
open Go Go.Proofs.YtjmlfknogjaemaaDoor.Vc
namespace PG
open Vc.PG NI
theorem namedGo_sub (l : List ByteArray) : ∀ (s : List Se) (t : List ByteArray × List Int × List Int) (x : Int), x ∈ (s.foldl (namedStep l) t).2.2 → x ∈ t.2.2 ∨ ∃ p ∈ s, p.2 = x
  | [], t, x, h => .inl h
  | p :: s, t, x, h => by
    rcases namedGo_sub l s _ x h with h1 | ⟨q, hq, he⟩
    · unfold namedStep at h1
      split at h1
      · simp only [List.mem_append, List.mem_singleton] at h1
        rcases h1 with h1 | h1
        · exact .inl h1
        · exact .inr ⟨p, List.mem_cons_self, h1.symm⟩
      · exact .inl h1
    · exact .inr ⟨q, List.mem_cons_of_mem _ hq, he⟩
theorem namedP_sub {l : List ByteArray} {s : List Se} {x : Int} (h : x ∈ (namedP l s).2.2) : ∃ p ∈ s, p.2 = x := by
  rcases namedGo_sub l s _ x h with h1 | h1
  · simp at h1
  · exact h1
theorem spans_rows {l : List ByteArray} {s : List Se} {N : Nat} {o : Bool} (h : SpansP s N o) : ∀ x ∈ (namedP l s).2.2, 1 ≤ x ∧ x ≤ N := by
  intro x hx
  obtain ⟨p, hp, rfl⟩ := namedP_sub hx
  obtain ⟨i, hi, rfl⟩ := (mem_getD se0 _ _).1 hp
  exact h.2 i hi
def nameK (l : List ByteArray) (a : List Se) (i : Nat) : ByteArray := (thing l ((seatOf a ((i + 1 : Nat) : Int)).getD se0).1).1
theorem listedP_nameK (l : List ByteArray) (a : List Se) : listedP l a = (List.range a.length).map (nameK l a) := rfl
end PG
end Go.Proofs.YtjmlfknogjaemaaDoor
