/- Page: awake. -/
import Derived.Test.YtjmlfknogjaemaaM30
import Derived.Test.YtjmlfknogjaemaaM4
import Derived.Test.YtjmlfknogjaemaaProg
import Derived.KernelRfl
import Derived.Test.YtjmlfknogjaemaaM6
set_option linter.unusedVariables false
set_option linter.unusedSimpArgs false
set_option maxRecDepth 10000
namespace Go.Proofs.Ytjmlfknogjaemaa
open Go Go.Proofs.Ytjmlfknogjaemaa.Vc
namespace PG
open Vc.PG NI
theorem exW_le : ∀ i, exW.getD i 0 ≤ 9223372036854775807 := by
  intro i
  by_cases hi : i < 21
  · have : ∀ i : Fin 21, exW.getD i 0 ≤ 9223372036854775807 := by decide
    exact this ⟨i, hi⟩
  · rw [List.getD_eq_getElem?_getD, List.getElem?_eq_none (by simp [exW]; omega)]; decide
theorem awake (w : World) : Calls Try.prog 10 #[] w fun e w' => e = .returned (.bool true) ∧ Fr [] w w' := by
  refine Calls.mono (f10.calls (R := fun v w' => v = .bool true ∧ Fr [] w w') ?_) ?_
  · dsimp only [f10.VC]
    refine Calls.mono (NI.new (St.start w)) ?_
    rintro _ w1 ⟨x, rfl, hS1⟩
    refine ⟨_, rfl, sel_of (fun h => by cases h) (fun _ => ?_)⟩
    refine Calls.mono (smallC hS1) ?_
    rintro _ w2 ⟨v, rfl, hv, hS2⟩
    have hG2 : InG w2 v exG := hS2.says 0 rfl
    have hsz := sizeC hG2 ⟨by omega, by omega, by omega⟩
    rw [ex_size] at hsz
    refine ⟨_, _, _, _, _, _, _, _, _, _, _, _, _, _, _, _, _, _, rfl, ?_⟩
    refine Calls.mono (hS2.step0 hsz) ?_
    rintro _ w3 ⟨rfl, hS3⟩
    refine ⟨_, rfl, sel_of (fun h => by simp at h) (fun _ => ?_)⟩
    refine Calls.mono (smallC hS3) ?_
    rintro _ w4 ⟨u, rfl, hu, hS4⟩
    refine ⟨_, _, _, _, _, _, _, _, _, _, _, _, _, _, _, _, _, _, rfl, ?_⟩
    obtain ⟨F, hF, hG, hgr⟩ := hS4.graftW 2 rfl
    obtain ⟨G, hG4, hd⟩ := hG 0 _ (by decide) rfl
    have hlay := layC (St.start1 hF) (v := u) (g := exG) (fun w' hf => Chunk.keep_says (Chunk.fr _ hG4 hf hd)) (by simp) ⟨by omega, by omega, by omega⟩ 5
    rw [ex_lay] at hlay
    refine Calls.mono hlay ?_
    rintro _ w5 ⟨A, n, c, rfl, hS5⟩
    have hS6 := hgr (hS5.swap 0 1 rfl rfl)
    have hS6 : St [] w w5 [ints (.slice A n c) exW, gC u exG, gC v exG, idxC x exL] := hS6
    clear hS5 hlay hgr hG hF hG4
    refine ⟨_, _, _, _, rfl, sel_of (fun h => by cases h) (fun _ => ?_)⟩
    have hS7 := hS6.alloc (exW.map encN).toArray 3
    have hW7 : InW (w5.alloc (.cells (exW.map encN).toArray 3)) (some ⟨w5.heap.size, 0, none⟩) 21 exW := by
      obtain ⟨F, hF, _⟩ := hS7.at 0 rfl
      have := Chunk.ls_says 0 (ls_of_blk (l := exW) (enc := encN) (by decide) hF)
      exact ⟨this.1, this.2.2⟩
    have hn : n = 21 := hS6.lsLen 0 rfl
    subst hn
    refine Calls.mono (hS7.step0 (sameC (St.inI hS7 1 rfl) hW7 (by decide))) ?_
    rintro _ w7 ⟨rfl, hS8⟩
    refine ⟨_, rfl, sel_of (fun h => by simp at h) (fun _ => ?_)⟩
    have d1 := decC (St.inI hS8 1 rfl) (c := c) (by decide) 2 3 1
    rw [ex_dec1] at d1
    refine Calls.mono (hS8.step0 d1) ?_
    rintro _ w8 ⟨rfl, hS9⟩
    refine ⟨_, _, rfl, ?_⟩
    have d2 := decC (St.inI hS9 1 rfl) (c := c) (by decide) 2 3 2
    rw [ex_dec2] at d2
    refine Calls.mono (hS9.step0 d2) ?_
    rintro _ w9 ⟨rfl, hS10⟩
    refine ⟨_, _, rfl, ?_⟩
    have hrd := readC (St.inI hS10 1 rfl) (c := c) (idxAt hS10 4 rfl) (by decide) (by decide) exW_le
    refine Calls.mono hrd ?_
    obtain ⟨q1, q2, q3⟩ := ex_read
    rintro _ w10 ⟨_, rfl, g, rfl, hS11⟩
    rw [q1, q2]
    have hg : InG w10 g (readP exW exL).2.1 := hS11.says 0 rfl
    have hgs : g.s.2.1 = 1 := by rw [hg.s.1.1, q3]
    have hS12 := hS10.gone hS11
    have hS13 := hS12.alloc #[.slice none 0 0, .slice none 0 0, .slice none 0 0, .slice none 0 0, .slice none 0 0, .slice none 0 0] 29
    have hS14 := hS13.over 0 rfl [g.a.v, g.s.v, g.o.v, g.f.v, g.n.v, g.m.v] rfl
    refine ⟨_, _, _, _, _, _, _, _, _, _, _, _, _, _, _, _, _, _, _, _, rfl, (hS13.blk 0 rfl).can (by decide), ?_⟩
    refine sel_of (fun _ => sel_of (fun _ => sel_of (fun _ => sel_of (fun _ => sel_of (fun _ => sel_of (fun _ => ?_) (fun h => by simp at h)) (fun h => by simp at h)) (fun h => by simp at h)) (fun h => by simp at h)) (fun h => by simp at h)) (fun h => by simp at h)
    refine ⟨_, _, _, (hS14.blk 0 rfl).cell rfl, sel_of (fun _ => ?_) (fun h => by rw [hgs] at h; simp at h)⟩
    have hh := hashP (setCs (World.alloc w10 (.cells #[.slice none 0 0, .slice none 0 0, .slice none 0 0, .slice none 0 0, .slice none 0 0, .slice none 0 0] 29)) w10.heap.size 0 [g.a.v, g.s.v, g.o.v, g.f.v, g.n.v, g.m.v]) 9 8 (by decide)
    rw [ex_hash] at hh
    refine Calls.mono (hS14.step0 hh) ?_
    rintro _ w13 ⟨rfl, hS15⟩
    exact ⟨_, rfl, rfl, hS15.frame⟩
  · rintro e w' ⟨v, rfl, rfl, h⟩; exact ⟨rfl, h⟩
end PG
end Go.Proofs.Ytjmlfknogjaemaa
/- The plain statements of some functions, printed by vcgen.py. -/
set_option maxRecDepth 100000
set_option linter.unusedVariables false
namespace Go.Proofs.Ytjmlfknogjaemaa
open Go Go.Proofs.Ytjmlfknogjaemaa.Vc
theorem W18.mixed : Try.prog.follows .mixedOrders = true := by kernel_rfl
/-- gatehouse/gatehouselaw12.PageAsked -/
def f5.AL : Nat → Option Ann := fun r => match r with | 5 => some ⟨[(7, .bool), (10, .int .i64)], [0, 1, 2, 8, 9]⟩ | 8 => some ⟨[(7, .bool), (11, .int .i64)], [0, 1, 2, 8, 9, 10]⟩ | 13 => some ⟨[(12, .int .i64)], [1, 2, 7, 9]⟩ | 18 => some ⟨[(7, .bool), (14, .int .i64)], [2, 9, 13]⟩ | _ => none
def f5.AC : Nat → Option Ann := fun r => match r with | 11 => some ⟨[(7, .bool)], [0, 1, 2, 8, 9]⟩ | 12 => some ⟨[(7, .bool)], [1, 2, 9]⟩ | 16 => some ⟨[], [2, 7, 9]⟩ | _ => none
def f5.VC (Aa0 : Option Addr) (na0 ca0 : Nat) (Aa1 : Option Addr) (na1 ca1 : Nat) (Aa2 : Option Addr) (na2 ca2 : Nat) (w : World) (R : Value → World → Prop) : Prop :=
  Calls Try.prog 10 #[] w fun e_1 w_1 =>
  ∃ (b15 : Bool),
  e_1 = .returned (.bool b15) ∧
  Calls Try.prog 24 #[.slice Aa0 na0 ca0, .int .i64 40] w_1 fun e_2 w_2 =>
  ∃ (A17 : Option Addr) (n17 c17 : Nat),
  e_2 = .returned (.slice A17 n17 c17) ∧
  (0 : Int) ≤ (na0 : Int) ∧ (na0 : Int) ≤ (c17 : Int) ∧
  ∃ M : Bool → World → Prop,
  (∃ I : Bool → Int → World → Nat → Prop,
  (∃ n, I b15 0 w_2 n) ∧
  ∀ d : Env, ∀ (b7 : Bool) (x10 : Int) (w_3 : World) (r : Nat), I b7 x10 w_3 r →
  sel (decide ((x10 : Int) < (2 : Int))) (
  sel b7 (
  ∃ I_1 : Bool → Int → World → Nat → Prop,
  (∃ n, I_1 b7 0 w_3 n) ∧
  ∀ d_1 : Env, ∀ (b7_1 : Bool) (x11 : Int) (w_4 : World) (r_1 : Nat), I_1 b7_1 x11 w_4 r_1 →
  sel (decide ((x11 : Int) < ((na2 : Int) : Int))) (
  sel b7_1 (
  (0 : Int) ≤ x11 ∧ x11 < (na2 : Int) ∧
  needPtr Aa2 fun b42 o42 =>
  ∃ (x43_0 : Int),
  w_4.cell? ⟨b42, o42 + x11.toNat * 4, none⟩ = some (.int .i64 x43_0) ∧
  ∃ (x43_1 : Int),
  w_4.cell? ⟨b42, o42 + x11.toNat * 4 + 1, none⟩ = some (.int .i64 x43_1) ∧
  ∃ (x43_2 : Int),
  w_4.cell? ⟨b42, o42 + x11.toNat * 4 + 1 + 1, none⟩ = some (.int .i64 x43_2) ∧
  ∃ (x43_3 : Int),
  w_4.cell? ⟨b42, o42 + x11.toNat * 4 + 1 + 1 + 1, none⟩ = some (.int .i8 x43_3) ∧
  Calls Try.prog 25 #[.slice A17 (na0 : Int).toNat c17, .slice Aa0 na0 ca0, .agg #[.int .i64 x43_0, .int .i64 x43_1, .int .i64 x43_2, .int .i8 x43_3]] w_4 fun e_3 w_5 =>
  ∃ (b44 : Bool),
  e_3 = .returned (.bool b44) ∧
  let i37 : Int := IntKind.i64.wrap (x11 + 1);
  ([.slice Aa0 na0 ca0, .slice Aa1 na1 ca1, .slice Aa2 na2 ca2, .slice A17 n17 c17, .slice A17 (na0 : Int).toNat c17, .int .i64 x10] : List Value) = ([.slice Aa0 na0 ca0, .slice Aa1 na1 ca1, .slice Aa2 na2 ca2, .slice A17 n17 c17, .slice A17 (na0 : Int).toNat c17, .int .i64 x10] : List Value) ∧ ∃ m, m < r_1 ∧ I_1 b44 i37 w_5 m) (
  let i28 : Int := IntKind.i64.wrap (x10 + 1);
  ([.slice Aa0 na0 ca0, .slice Aa1 na1 ca1, .slice Aa2 na2 ca2, .slice A17 n17 c17, .slice A17 (na0 : Int).toNat c17] : List Value) = ([.slice Aa0 na0 ca0, .slice Aa1 na1 ca1, .slice Aa2 na2 ca2, .slice A17 n17 c17, .slice A17 (na0 : Int).toNat c17] : List Value) ∧ ∃ m, m < r ∧ I b7_1 i28 w_4 m)) (
  let i28_1 : Int := IntKind.i64.wrap (x10 + 1);
  ([.slice Aa0 na0 ca0, .slice Aa1 na1 ca1, .slice Aa2 na2 ca2, .slice A17 n17 c17, .slice A17 (na0 : Int).toNat c17] : List Value) = ([.slice Aa0 na0 ca0, .slice Aa1 na1 ca1, .slice Aa2 na2 ca2, .slice A17 n17 c17, .slice A17 (na0 : Int).toNat c17] : List Value) ∧ ∃ m, m < r ∧ I b7_1 i28_1 w_4 m)) (
  ([.slice Aa0 na0 ca0, .slice Aa1 na1 ca1, .slice Aa2 na2 ca2, .slice A17 n17 c17, .slice A17 (na0 : Int).toNat c17] : List Value) = ([.slice Aa0 na0 ca0, .slice Aa1 na1 ca1, .slice Aa2 na2 ca2, .slice A17 n17 c17, .slice A17 (na0 : Int).toNat c17] : List Value) ∧ M b7 w_3)) (
  ([.slice Aa0 na0 ca0, .slice Aa1 na1 ca1, .slice Aa2 na2 ca2, .slice A17 n17 c17, .slice A17 (na0 : Int).toNat c17] : List Value) = ([.slice Aa0 na0 ca0, .slice Aa1 na1 ca1, .slice Aa2 na2 ca2, .slice A17 n17 c17, .slice A17 (na0 : Int).toNat c17] : List Value) ∧ M b7 w_3)) ∧
  ∀ d_2 : Env, ∀ (b7_2 : Bool) (w_6 : World), M b7_2 w_6 →
  ∃ M_1 : Bool → World → Prop,
  (sel b7_2 (
  Calls Try.prog 24 #[.slice Aa0 na0 ca0, .int .i64 40] w_6 fun e_4 w_7 =>
  ∃ (A49 : Option Addr) (n49 c49 : Nat),
  e_4 = .returned (.slice A49 n49 c49) ∧
  Calls Try.prog 18 #[.slice A17 n17 c17, .slice A49 n49 c49] w_7 fun e_5 w_8 =>
  ∃ (b50 : Bool),
  e_5 = .returned (.bool b50) ∧
  ([.slice Aa1 na1 ca1, .slice Aa2 na2 ca2, .slice A17 (na0 : Int).toNat c17] : List Value) = ([.slice Aa1 na1 ca1, .slice Aa2 na2 ca2, .slice A17 (na0 : Int).toNat c17] : List Value) ∧ M_1 b50 w_8) (
  ([.slice Aa1 na1 ca1, .slice Aa2 na2 ca2, .slice A17 (na0 : Int).toNat c17] : List Value) = ([.slice Aa1 na1 ca1, .slice Aa2 na2 ca2, .slice A17 (na0 : Int).toNat c17] : List Value) ∧ M_1 false w_6)) ∧
  ∀ d_3 : Env, ∀ (b7_3 : Bool) (w_9 : World), M_1 b7_3 w_9 →
  ∃ M_2 : World → Prop,
  (∃ I_2 : Int → World → Nat → Prop,
  (∃ n, I_2 0 w_9 n) ∧
  ∀ d_4 : Env, ∀ (x12 : Int) (w_10 : World) (r_2 : Nat), I_2 x12 w_10 r_2 →
  sel (decide ((x12 : Int) < (((na0 : Int).toNat : Int) : Int))) (
  sel (decide ((x12 : Int) < ((na1 : Int) : Int))) (
  (0 : Int) ≤ x12 ∧ x12 < (na1 : Int) ∧
  needPtr Aa1 fun b68 o68 =>
  ∃ (x69 : Int),
  w_10.cell? ⟨b68, o68 + x12.toNat * 1, none⟩ = some (.int .i64 x69) ∧
  (0 : Int) ≤ x12 ∧ x12 < ((na0 : Int).toNat : Int) ∧
  needPtr A17 fun b70 o70 =>
  canStore w_10 b70 (o70 + x12.toNat * 1) 1 ∧
  let w_11 : World := setCs w_10 b70 (o70 + x12.toNat * 1) [.int .i64 x69];
  let i63 : Int := IntKind.i64.wrap (x12 + 1);
  ([.slice Aa1 na1 ca1, .slice Aa2 na2 ca2, .bool b7_3, .slice A17 (na0 : Int).toNat c17] : List Value) = ([.slice Aa1 na1 ca1, .slice Aa2 na2 ca2, .bool b7_3, .slice A17 (na0 : Int).toNat c17] : List Value) ∧ ∃ m, m < r_2 ∧ I_2 i63 w_11 m) (
  ([.slice Aa2 na2 ca2, .bool b7_3, .slice A17 (na0 : Int).toNat c17] : List Value) = ([.slice Aa2 na2 ca2, .bool b7_3, .slice A17 (na0 : Int).toNat c17] : List Value) ∧ M_2 w_10)) (
  ([.slice Aa2 na2 ca2, .bool b7_3, .slice A17 (na0 : Int).toNat c17] : List Value) = ([.slice Aa2 na2 ca2, .bool b7_3, .slice A17 (na0 : Int).toNat c17] : List Value) ∧ M_2 w_10)) ∧
  ∀ d_5 : Env, ∀  (w_12 : World), M_2 w_12 →
  Calls Try.prog 24 #[.slice A17 (na0 : Int).toNat c17, .int .i64 0] w_12 fun e_6 w_13 =>
  ∃ (A72 : Option Addr) (n72 c72 : Nat),
  e_6 = .returned (.slice A72 n72 c72) ∧
  ∃ I_3 : Bool → Int → World → Nat → Prop,
  (∃ n, I_3 b7_3 0 w_13 n) ∧
  ∀ d_6 : Env, ∀ (b7_4 : Bool) (x14 : Int) (w_14 : World) (r_3 : Nat), I_3 b7_4 x14 w_14 r_3 →
  sel (decide ((x14 : Int) < ((na2 : Int) : Int))) (
  sel b7_4 (
  (0 : Int) ≤ x14 ∧ x14 < (na2 : Int) ∧
  needPtr Aa2 fun b86 o86 =>
  ∃ (x87_0 : Int),
  w_14.cell? ⟨b86, o86 + x14.toNat * 4, none⟩ = some (.int .i64 x87_0) ∧
  ∃ (x87_1 : Int),
  w_14.cell? ⟨b86, o86 + x14.toNat * 4 + 1, none⟩ = some (.int .i64 x87_1) ∧
  ∃ (x87_2 : Int),
  w_14.cell? ⟨b86, o86 + x14.toNat * 4 + 1 + 1, none⟩ = some (.int .i64 x87_2) ∧
  ∃ (x87_3 : Int),
  w_14.cell? ⟨b86, o86 + x14.toNat * 4 + 1 + 1 + 1, none⟩ = some (.int .i8 x87_3) ∧
  Calls Try.prog 25 #[.slice A17 (na0 : Int).toNat c17, .slice A72 n72 c72, .agg #[.int .i64 x87_0, .int .i64 x87_1, .int .i64 x87_2, .int .i8 x87_3]] w_14 fun e_7 w_15 =>
  ∃ (b88 : Bool),
  e_7 = .returned (.bool b88) ∧
  let i81 : Int := IntKind.i64.wrap (x14 + 1);
  ([.slice Aa2 na2 ca2, .slice A17 (na0 : Int).toNat c17, .slice A72 n72 c72] : List Value) = ([.slice Aa2 na2 ca2, .slice A17 (na0 : Int).toNat c17, .slice A72 n72 c72] : List Value) ∧ ∃ m, m < r_3 ∧ I_3 b88 i81 w_15 m) (
  R (.bool b7_4) w_14)) (
  R (.bool b7_4) w_14)
theorem f5.eq (Aa0 : Option Addr) (na0 ca0 : Nat) (Aa1 : Option Addr) (na1 ca1 : Nat) (Aa2 : Option Addr) (na2 ca2 : Nat) (w : World) (R : Value → World → Prop) : f5.VC Aa0 na0 ca0 Aa1 na1 ca1 Aa2 na2 ca2 w R = funV Try.prog Try.f5 f5.AL f5.AC #[.slice Aa0 na0 ca0, .slice Aa1 na1 ca1, .slice Aa2 na2 ca2] w R := by kernel_rfl
theorem f5.calls {Aa0 : Option Addr} {na0 ca0 : Nat} {Aa1 : Option Addr} {na1 ca1 : Nat} {Aa2 : Option Addr} {na2 ca2 : Nat} {w : World} {R : Value → World → Prop} (h : f5.VC Aa0 na0 ca0 Aa1 na1 ca1 Aa2 na2 ca2 w R) : Calls Try.prog 5 #[.slice Aa0 na0 ca0, .slice Aa1 na1 ca1, .slice Aa2 na2 ca2] w fun e w' => ∃ v, e = .returned v ∧ R v w' :=
  funV_sound (fn := Try.f5) (AL := f5.AL) (AC := f5.AC) W18.mixed (by kernel_rfl) (by rw [← f5.eq Aa0 na0 ca0 Aa1 na1 ca1 Aa2 na2 ca2]; exact h)

end Go.Proofs.Ytjmlfknogjaemaa
/- Page: copied; the law PageAsked, the walk. -/
set_option linter.unusedVariables false
set_option linter.unusedSimpArgs false
set_option maxRecDepth 10000
namespace Go.Proofs.Ytjmlfknogjaemaa
open Go Go.Proofs.Ytjmlfknogjaemaa.Vc
namespace PG
open Vc.PG NI
/-- The marks behind a list. -/
def marksL (k : Nat) : List Int := (List.range k).map fun (i : Nat) => -7000 - (i : Int)
theorem marksL_succ (k : Nat) : marksL (k + 1) = marksL k ++ [-7000 - (k : Int)] := by
  unfold marksL
  rw [List.range_succ, List.map_append]; rfl
theorem marksL_len (k : Nat) : (marksL k).length = k := by simp [marksL]
theorem copiedC {S : List Nat} {w0 w : World} {L : List Chunk} (h : St S w0 w L) {A : Option Addr} {n c : Nat} {W : List Int} (hW : InW w A n W) (hn : n ≤ 3000000) (k : Nat) (hk : k ≤ 1000) :
    Calls Try.prog 24 #[.slice A n c, .int .i64 (k : Int)] w fun e w' => ∃ X : Sl, e = .returned X.v ∧ St S w0 w' (ints X.v (W ++ marksL k) :: L) := by
  refine Calls.mono (f24.calls (R := fun v w' => ∃ X : Sl, v = X.v ∧ St S w0 w' (ints X.v (W ++ marksL k) :: L)) ?_) ?_
  · dsimp only [f24.VC]
    have hl := hW.1
    obtain ⟨ti, i1, i2, i3, i4⟩ := info3
    obtain ⟨A1, n1, c1, w1, r1, hS1⟩ := St.appMany (ty := 26) 0 (enc := encN) (fun _ => rfl) under26 i1 i2 i3 rfl (by omega) (h.nil 3 1) 0 (l := []) rfl hW.1 hW.2 (c2 := c) (by simp; omega)
    refine ⟨A1, n1, c1, w1, r1, fun A5 n5 c5 x w' r => ∃ i : Nat, x = (i : Int) ∧ i + r = k ∧ St S w0 w' (ints (.slice A5 n5 c5) (W ++ marksL i) :: L), ⟨k, 0, rfl, by omega, by simpa [marksL] using hS1⟩, ?_⟩
    rintro d A5 n5 c5 x w2 r ⟨i, rfl, hir, hS⟩
    refine sel_of (fun hd => ?_) (fun hd => ?_)
    · have hi : i < k := by have := of_decide_eq_true hd; omega
      have hm := marksL_len i
      obtain ⟨A6, n6, c6, w3, r3, hS3⟩ := appI hS 0 rfl (-7000 - (i : Int)) (by simp [hm]; omega)
      rw [i64_id (x := -7000 - (i : Int)) (by omega) (by omega), inc i k (by omega) (by omega)]
      refine ⟨A6, n6, c6, w3, r3, rfl, r - 1, by omega, i + 1, rfl, by omega, ?_⟩
      rw [marksL_succ, ← List.append_assoc]
      exact hS3
    · have hi : i = k := by have := of_decide_eq_false hd; omega
      subst hi
      exact ⟨(A5, n5, c5), rfl, hS⟩
  · rintro e w' ⟨v, rfl, X, rfl, h⟩; exact ⟨X, rfl, h⟩
theorem InW.take {w : World} {A : Option Addr} {n : Nat} {W : List Int} (h : InW w A n W) {q : Nat} (hq : q ≤ n) : InW w A q (W.take q) := by
  have hl := h.1
  refine ⟨by simp; omega, fun hn => ?_⟩
  obtain ⟨b, o, rfl, h2⟩ := h.2 (by omega)
  refine ⟨b, o, rfl, fun i hi => ?_⟩
  rw [h2 i (by omega)]
  simp [List.getD_eq_getElem?_getD, hi]
/-- Questions that are read. -/
def encK (x : Int × Int × Int × Int) : List Value := [.int .i64 x.1, .int .i64 x.2.1, .int .i64 x.2.2.1, .int .i8 x.2.2.2]
def InK (w : World) (A : Option Addr) (n : Nat) (l : List (Int × Int × Int × Int)) : Prop := InR w 4 A n (l.map encK)
theorem InK.fr {w w' : World} {A : Option Addr} {n : Nat} {l : List (Int × Int × Int × Int)} (h : InK w A n l) (hf : Fr [] w w') : InK w' A n l :=
  InR.fr (S := []) h (fun r hr => by obtain ⟨x, _, rfl⟩ := List.mem_map.1 hr; rfl) hf
theorem InK.cells {w : World} {A : Option Addr} {n : Nat} {l : List (Int × Int × Int × Int)} (h : InK w A n l) {i : Nat} (hi : i < n) : ∃ (b o : Nat) (x : Int × Int × Int × Int), A = some ⟨b, o, none⟩ ∧ w.cell? ⟨b, o + i * 4, none⟩ = some (.int .i64 x.1) ∧ w.cell? ⟨b, o + i * 4 + 1, none⟩ = some (.int .i64 x.2.1) ∧ w.cell? ⟨b, o + i * 4 + 1 + 1, none⟩ = some (.int .i64 x.2.2.1) ∧ w.cell? ⟨b, o + i * 4 + 1 + 1 + 1, none⟩ = some (.int .i8 x.2.2.2) := by
  have hl := h.1
  rw [List.length_map] at hl
  obtain ⟨b, o, rfl, h2⟩ := h.2 (by omega)
  have hil : i < l.length := by omega
  have e : (l.map encK).getD i [] = encK l[i] := by simp [List.getD_eq_getElem?_getD, hil]
  have h3 := h2 i hi
  rw [e] at h3
  exact ⟨b, o, l[i], rfl, h3 0 (by decide), h3 1 (by decide), h3 2 (by decide), h3 3 (by decide)⟩
end PG
end Go.Proofs.Ytjmlfknogjaemaa
/- The plain statements of some functions, printed by vcgen.py. -/
set_option maxRecDepth 100000
set_option linter.unusedVariables false
namespace Go.Proofs.Ytjmlfknogjaemaa
open Go Go.Proofs.Ytjmlfknogjaemaa.Vc
theorem W19.mixed : Try.prog.follows .mixedOrders = true := by kernel_rfl
/-- gatehouse/gatehouselaw12.sameIndex -/
def f19.AL : Nat → Option Ann := fun r => match r with | 4 => some ⟨[(5, .int .i64)], [0, 1]⟩ | _ => none
def f19.AC : Nat → Option Ann := fun _ => none
def f19.VC (a0 : Nat) (a1 : Nat) (w : World) (R : Value → World → Prop) : Prop :=
  (Calls Try.prog 30 #[.pointer (some ⟨a0, 0, none⟩)] w.drew fun e_1 w_1 =>
  ∃ (x9 : Int),
  e_1 = .returned (.int .i64 x9) ∧
  ∃ (A13 : Option Addr) (n13 c13 : Nat),
  w_1.cell? ⟨a1, 0, none⟩ = some (.slice A13 n13 c13) ∧
  sel ((x9 : Int) != ((n13 : Int) : Int)) (
  R (.bool false) w_1) (
  ∃ I : Int → World → Nat → Prop,
  (∃ n, I 0 w_1 n) ∧
  ∀ d : Env, ∀ (x5 : Int) (w_2 : World) (r : Nat), I x5 w_2 r →
  ∃ (A20 : Option Addr) (n20 c20 : Nat),
  w_2.cell? ⟨a1, 0, none⟩ = some (.slice A20 n20 c20) ∧
  sel (decide ((x5 : Int) < ((n20 : Int) : Int))) (
  let i28 : Int := IntKind.i64.wrap (x5 + 1);
  Calls Try.prog 53 #[.pointer (some ⟨a0, 0, none⟩), .int .i64 i28] w_2 fun e_2 w_3 =>
  ∃ (s29_0 : ByteArray) (b29_1 : Bool),
  e_2 = .returned (.tuple #[.string s29_0, .bool b29_1]) ∧
  sel (!b29_1) (
  R (.bool false) w_3) (
  ∃ (A39 : Option Addr) (n39 c39 : Nat),
  w_3.cell? ⟨a1, 0, none⟩ = some (.slice A39 n39 c39) ∧
  (0 : Int) ≤ x5 ∧ x5 < (n39 : Int) ∧
  needPtr A39 fun b41 o41 =>
  ∃ (s42 : ByteArray),
  w_3.cell? ⟨b41, o41 + x5.toNat * 1, none⟩ = some (.string s42) ∧
  sel (!(decide (s29_0 = s42))) (
  R (.bool false) w_3) (
  let i24 : Int := IntKind.i64.wrap (x5 + 1);
  ([.pointer (some ⟨a0, 0, none⟩), .pointer (some ⟨a1, 0, none⟩)] : List Value) = ([.pointer (some ⟨a0, 0, none⟩), .pointer (some ⟨a1, 0, none⟩)] : List Value) ∧ ∃ m, m < r ∧ I i24 w_3 m))) (
  R (.bool true) w_2))) ∧
  (∃ (A13_1 : Option Addr) (n13_1 c13_1 : Nat),
  w.cell? ⟨a1, 0, none⟩ = some (.slice A13_1 n13_1 c13_1) ∧
  Calls Try.prog 30 #[.pointer (some ⟨a0, 0, none⟩)] w.drew fun e_3 w_4 =>
  ∃ (x9_1 : Int),
  e_3 = .returned (.int .i64 x9_1) ∧
  sel ((x9_1 : Int) != ((n13_1 : Int) : Int)) (
  R (.bool false) w_4) (
  ∃ I_1 : Int → World → Nat → Prop,
  (∃ n, I_1 0 w_4 n) ∧
  ∀ d_1 : Env, ∀ (x5_1 : Int) (w_5 : World) (r_1 : Nat), I_1 x5_1 w_5 r_1 →
  ∃ (A20_1 : Option Addr) (n20_1 c20_1 : Nat),
  w_5.cell? ⟨a1, 0, none⟩ = some (.slice A20_1 n20_1 c20_1) ∧
  sel (decide ((x5_1 : Int) < ((n20_1 : Int) : Int))) (
  let i28_1 : Int := IntKind.i64.wrap (x5_1 + 1);
  Calls Try.prog 53 #[.pointer (some ⟨a0, 0, none⟩), .int .i64 i28_1] w_5 fun e_4 w_6 =>
  ∃ (s29_0_1 : ByteArray) (b29_1_1 : Bool),
  e_4 = .returned (.tuple #[.string s29_0_1, .bool b29_1_1]) ∧
  sel (!b29_1_1) (
  R (.bool false) w_6) (
  ∃ (A39_1 : Option Addr) (n39_1 c39_1 : Nat),
  w_6.cell? ⟨a1, 0, none⟩ = some (.slice A39_1 n39_1 c39_1) ∧
  (0 : Int) ≤ x5_1 ∧ x5_1 < (n39_1 : Int) ∧
  needPtr A39_1 fun b41_1 o41_1 =>
  ∃ (s42_1 : ByteArray),
  w_6.cell? ⟨b41_1, o41_1 + x5_1.toNat * 1, none⟩ = some (.string s42_1) ∧
  sel (!(decide (s29_0_1 = s42_1))) (
  R (.bool false) w_6) (
  let i24_1 : Int := IntKind.i64.wrap (x5_1 + 1);
  ([.pointer (some ⟨a0, 0, none⟩), .pointer (some ⟨a1, 0, none⟩)] : List Value) = ([.pointer (some ⟨a0, 0, none⟩), .pointer (some ⟨a1, 0, none⟩)] : List Value) ∧ ∃ m, m < r_1 ∧ I_1 i24_1 w_6 m))) (
  R (.bool true) w_5))) ∧ True
theorem f19.eq (a0 : Nat) (a1 : Nat) (w : World) (R : Value → World → Prop) : f19.VC a0 a1 w R = funV Try.prog Try.f19 f19.AL f19.AC #[.pointer (some ⟨a0, 0, none⟩), .pointer (some ⟨a1, 0, none⟩)] w R := by kernel_rfl
theorem f19.calls {a0 : Nat} {a1 : Nat} {w : World} {R : Value → World → Prop} (h : f19.VC a0 a1 w R) : Calls Try.prog 19 #[.pointer (some ⟨a0, 0, none⟩), .pointer (some ⟨a1, 0, none⟩)] w fun e w' => ∃ v, e = .returned v ∧ R v w' :=
  funV_sound (fn := Try.f19) (AL := f19.AL) (AC := f19.AC) W19.mixed (by kernel_rfl) (by rw [← f19.eq a0 a1]; exact h)

/-- gatehouse/gatehouseref11.Same -/
def f22.AL : Nat → Option Ann := fun r => match r with | 4 => some ⟨[(5, .int .i64)], [2, 3]⟩ | _ => none
def f22.AC : Nat → Option Ann := fun _ => none
def f22.VC (Aa0_0 : Option Addr) (na0_0 ca0_0 : Nat) (Aa0_1 : Option Addr) (na0_1 ca0_1 : Nat) (Aa0_2 : Option Addr) (na0_2 ca0_2 : Nat) (Aa0_3 : Option Addr) (na0_3 ca0_3 : Nat) (Aa0_4 : Option Addr) (na0_4 ca0_4 : Nat) (Aa0_5 : Option Addr) (na0_5 ca0_5 : Nat) (Aa1_0 : Option Addr) (na1_0 ca1_0 : Nat) (Aa1_1 : Option Addr) (na1_1 ca1_1 : Nat) (Aa1_2 : Option Addr) (na1_2 ca1_2 : Nat) (Aa1_3 : Option Addr) (na1_3 ca1_3 : Nat) (Aa1_4 : Option Addr) (na1_4 ca1_4 : Nat) (Aa1_5 : Option Addr) (na1_5 ca1_5 : Nat) (w : World) (R : Value → World → Prop) : Prop :=
  let w_1 : World := World.alloc w (.cells #[.slice Aa0_0 na0_0 ca0_0, .slice Aa0_1 na0_1 ca0_1, .slice Aa0_2 na0_2 ca0_2, .slice Aa0_3 na0_3 ca0_3, .slice Aa0_4 na0_4 ca0_4, .slice Aa0_5 na0_5 ca0_5] 29);
  let w_2 : World := World.alloc w_1 (.cells #[.slice Aa1_0 na1_0 ca1_0, .slice Aa1_1 na1_1 ca1_1, .slice Aa1_2 na1_2 ca1_2, .slice Aa1_3 na1_3 ca1_3, .slice Aa1_4 na1_4 ca1_4, .slice Aa1_5 na1_5 ca1_5] 29);
  ∃ (A8 : Option Addr) (n8 c8 : Nat),
  w_2.cell? ⟨w.heap.size, 0, none⟩ = some (.slice A8 n8 c8) ∧
  ∃ (A10 : Option Addr) (n10 c10 : Nat),
  w_2.cell? ⟨w_1.heap.size, 0, none⟩ = some (.slice A10 n10 c10) ∧
  Calls Try.prog 54 #[.slice A8 n8 c8, .slice A10 n10 c10] w_2 fun e_1 w_3 =>
  ∃ (b11 : Bool),
  e_1 = .returned (.bool b11) ∧
  sel (!b11) (
  R (.bool false) w_3) (
  ∃ (A15 : Option Addr) (n15 c15 : Nat),
  w_3.cell? ⟨w.heap.size, 1, none⟩ = some (.slice A15 n15 c15) ∧
  ∃ (A17 : Option Addr) (n17 c17 : Nat),
  w_3.cell? ⟨w_1.heap.size, 1, none⟩ = some (.slice A17 n17 c17) ∧
  Calls Try.prog 54 #[.slice A15 n15 c15, .slice A17 n17 c17] w_3 fun e_2 w_4 =>
  ∃ (b18 : Bool),
  e_2 = .returned (.bool b18) ∧
  sel (!b18) (
  R (.bool false) w_4) (
  ∃ (A23 : Option Addr) (n23 c23 : Nat),
  w_4.cell? ⟨w.heap.size, 2, none⟩ = some (.slice A23 n23 c23) ∧
  ∃ (A25 : Option Addr) (n25 c25 : Nat),
  w_4.cell? ⟨w_1.heap.size, 2, none⟩ = some (.slice A25 n25 c25) ∧
  Calls Try.prog 54 #[.slice A23 n23 c23, .slice A25 n25 c25] w_4 fun e_3 w_5 =>
  ∃ (b26 : Bool),
  e_3 = .returned (.bool b26) ∧
  sel (!b26) (
  R (.bool false) w_5) (
  ∃ (A31 : Option Addr) (n31 c31 : Nat),
  w_5.cell? ⟨w.heap.size, 3, none⟩ = some (.slice A31 n31 c31) ∧
  ∃ (A33 : Option Addr) (n33 c33 : Nat),
  w_5.cell? ⟨w_1.heap.size, 3, none⟩ = some (.slice A33 n33 c33) ∧
  Calls Try.prog 55 #[.slice A31 n31 c31, .slice A33 n33 c33] w_5 fun e_4 w_6 =>
  ∃ (b34 : Bool),
  e_4 = .returned (.bool b34) ∧
  sel (!b34) (
  R (.bool false) w_6) (
  ∃ (A39 : Option Addr) (n39 c39 : Nat),
  w_6.cell? ⟨w.heap.size, 4, none⟩ = some (.slice A39 n39 c39) ∧
  ∃ (A41 : Option Addr) (n41 c41 : Nat),
  w_6.cell? ⟨w_1.heap.size, 4, none⟩ = some (.slice A41 n41 c41) ∧
  Calls Try.prog 55 #[.slice A39 n39 c39, .slice A41 n41 c41] w_6 fun e_5 w_7 =>
  ∃ (b42 : Bool),
  e_5 = .returned (.bool b42) ∧
  sel (!b42) (
  R (.bool false) w_7) (
  ∃ (A47 : Option Addr) (n47 c47 : Nat),
  w_7.cell? ⟨w.heap.size, 5, none⟩ = some (.slice A47 n47 c47) ∧
  ∃ (A50 : Option Addr) (n50 c50 : Nat),
  w_7.cell? ⟨w_1.heap.size, 5, none⟩ = some (.slice A50 n50 c50) ∧
  sel (((n47 : Int) : Int) != ((n50 : Int) : Int)) (
  R (.bool false) w_7) (
  ∃ I : Int → World → Nat → Prop,
  (∃ n, I 0 w_7 n) ∧
  ∀ d : Env, ∀ (x5 : Int) (w_8 : World) (r : Nat), I x5 w_8 r →
  ∃ (A56 : Option Addr) (n56 c56 : Nat),
  w_8.cell? ⟨w.heap.size, 5, none⟩ = some (.slice A56 n56 c56) ∧
  sel (decide ((x5 : Int) < ((n56 : Int) : Int))) (
  ∃ (A62 : Option Addr) (n62 c62 : Nat),
  w_8.cell? ⟨w.heap.size, 5, none⟩ = some (.slice A62 n62 c62) ∧
  (0 : Int) ≤ x5 ∧ x5 < (n62 : Int) ∧
  needPtr A62 fun b64 o64 =>
  ∃ (A65 : Option Addr) (n65 c65 : Nat),
  w_8.cell? ⟨b64, o64 + x5.toNat * 1, none⟩ = some (.slice A65 n65 c65) ∧
  ∃ (A67 : Option Addr) (n67 c67 : Nat),
  w_8.cell? ⟨w_1.heap.size, 5, none⟩ = some (.slice A67 n67 c67) ∧
  (0 : Int) ≤ x5 ∧ x5 < (n67 : Int) ∧
  needPtr A67 fun b69 o69 =>
  ∃ (A70 : Option Addr) (n70 c70 : Nat),
  w_8.cell? ⟨b69, o69 + x5.toNat * 1, none⟩ = some (.slice A70 n70 c70) ∧
  Calls Try.prog 56 #[.slice A65 n65 c65, .slice A70 n70 c70] w_8.drew fun e_6 w_9 =>
  ∃ (b71 : Bool),
  e_6 = .returned (.bool b71) ∧
  sel (!b71) (
  R (.bool false) w_9) (
  let i60 : Int := IntKind.i64.wrap (x5 + 1);
  ([.pointer (some ⟨w.heap.size, 0, none⟩), .pointer (some ⟨w_1.heap.size, 0, none⟩)] : List Value) = ([.pointer (some ⟨w.heap.size, 0, none⟩), .pointer (some ⟨w_1.heap.size, 0, none⟩)] : List Value) ∧ ∃ m, m < r ∧ I i60 w_9 m)) (
  R (.bool true) w_8)))))))
theorem f22.eq (Aa0_0 : Option Addr) (na0_0 ca0_0 : Nat) (Aa0_1 : Option Addr) (na0_1 ca0_1 : Nat) (Aa0_2 : Option Addr) (na0_2 ca0_2 : Nat) (Aa0_3 : Option Addr) (na0_3 ca0_3 : Nat) (Aa0_4 : Option Addr) (na0_4 ca0_4 : Nat) (Aa0_5 : Option Addr) (na0_5 ca0_5 : Nat) (Aa1_0 : Option Addr) (na1_0 ca1_0 : Nat) (Aa1_1 : Option Addr) (na1_1 ca1_1 : Nat) (Aa1_2 : Option Addr) (na1_2 ca1_2 : Nat) (Aa1_3 : Option Addr) (na1_3 ca1_3 : Nat) (Aa1_4 : Option Addr) (na1_4 ca1_4 : Nat) (Aa1_5 : Option Addr) (na1_5 ca1_5 : Nat) (w : World) (R : Value → World → Prop) : f22.VC Aa0_0 na0_0 ca0_0 Aa0_1 na0_1 ca0_1 Aa0_2 na0_2 ca0_2 Aa0_3 na0_3 ca0_3 Aa0_4 na0_4 ca0_4 Aa0_5 na0_5 ca0_5 Aa1_0 na1_0 ca1_0 Aa1_1 na1_1 ca1_1 Aa1_2 na1_2 ca1_2 Aa1_3 na1_3 ca1_3 Aa1_4 na1_4 ca1_4 Aa1_5 na1_5 ca1_5 w R = funV Try.prog Try.f22 f22.AL f22.AC #[.agg #[.slice Aa0_0 na0_0 ca0_0, .slice Aa0_1 na0_1 ca0_1, .slice Aa0_2 na0_2 ca0_2, .slice Aa0_3 na0_3 ca0_3, .slice Aa0_4 na0_4 ca0_4, .slice Aa0_5 na0_5 ca0_5], .agg #[.slice Aa1_0 na1_0 ca1_0, .slice Aa1_1 na1_1 ca1_1, .slice Aa1_2 na1_2 ca1_2, .slice Aa1_3 na1_3 ca1_3, .slice Aa1_4 na1_4 ca1_4, .slice Aa1_5 na1_5 ca1_5]] w R := by kernel_rfl
theorem f22.calls {Aa0_0 : Option Addr} {na0_0 ca0_0 : Nat} {Aa0_1 : Option Addr} {na0_1 ca0_1 : Nat} {Aa0_2 : Option Addr} {na0_2 ca0_2 : Nat} {Aa0_3 : Option Addr} {na0_3 ca0_3 : Nat} {Aa0_4 : Option Addr} {na0_4 ca0_4 : Nat} {Aa0_5 : Option Addr} {na0_5 ca0_5 : Nat} {Aa1_0 : Option Addr} {na1_0 ca1_0 : Nat} {Aa1_1 : Option Addr} {na1_1 ca1_1 : Nat} {Aa1_2 : Option Addr} {na1_2 ca1_2 : Nat} {Aa1_3 : Option Addr} {na1_3 ca1_3 : Nat} {Aa1_4 : Option Addr} {na1_4 ca1_4 : Nat} {Aa1_5 : Option Addr} {na1_5 ca1_5 : Nat} {w : World} {R : Value → World → Prop} (h : f22.VC Aa0_0 na0_0 ca0_0 Aa0_1 na0_1 ca0_1 Aa0_2 na0_2 ca0_2 Aa0_3 na0_3 ca0_3 Aa0_4 na0_4 ca0_4 Aa0_5 na0_5 ca0_5 Aa1_0 na1_0 ca1_0 Aa1_1 na1_1 ca1_1 Aa1_2 na1_2 ca1_2 Aa1_3 na1_3 ca1_3 Aa1_4 na1_4 ca1_4 Aa1_5 na1_5 ca1_5 w R) : Calls Try.prog 22 #[.agg #[.slice Aa0_0 na0_0 ca0_0, .slice Aa0_1 na0_1 ca0_1, .slice Aa0_2 na0_2 ca0_2, .slice Aa0_3 na0_3 ca0_3, .slice Aa0_4 na0_4 ca0_4, .slice Aa0_5 na0_5 ca0_5], .agg #[.slice Aa1_0 na1_0 ca1_0, .slice Aa1_1 na1_1 ca1_1, .slice Aa1_2 na1_2 ca1_2, .slice Aa1_3 na1_3 ca1_3, .slice Aa1_4 na1_4 ca1_4, .slice Aa1_5 na1_5 ca1_5]] w fun e w' => ∃ v, e = .returned v ∧ R v w' :=
  funV_sound (fn := Try.f22) (AL := f22.AL) (AC := f22.AC) W19.mixed (by kernel_rfl) (by rw [← f22.eq Aa0_0 na0_0 ca0_0 Aa0_1 na0_1 ca0_1 Aa0_2 na0_2 ca0_2 Aa0_3 na0_3 ca0_3 Aa0_4 na0_4 ca0_4 Aa0_5 na0_5 ca0_5 Aa1_0 na1_0 ca1_0 Aa1_1 na1_1 ca1_1 Aa1_2 na1_2 ca1_2 Aa1_3 na1_3 ca1_3 Aa1_4 na1_4 ca1_4 Aa1_5 na1_5 ca1_5]; exact h)

/-- gatehouse/gatehouseref11.texts -/
def f54.AL : Nat → Option Ann := fun r => match r with | 4 => some ⟨[(5, .int .i64)], [0, 1]⟩ | _ => none
def f54.AC : Nat → Option Ann := fun _ => none
def f54.VC (Aa0 : Option Addr) (na0 ca0 : Nat) (Aa1 : Option Addr) (na1 ca1 : Nat) (w : World) (R : Value → World → Prop) : Prop :=
  sel (((na0 : Int) : Int) != ((na1 : Int) : Int)) (
  R (.bool false) w) (
  ∃ I : Int → World → Nat → Prop,
  (∃ n, I 0 w n) ∧
  ∀ d : Env, ∀ (x5 : Int) (w_1 : World) (r : Nat), I x5 w_1 r →
  sel (decide ((x5 : Int) < ((na0 : Int) : Int))) (
  (0 : Int) ≤ x5 ∧ x5 < (na0 : Int) ∧
  needPtr Aa0 fun b19 o19 =>
  (0 : Int) ≤ x5 ∧ x5 < (na1 : Int) ∧
  needPtr Aa1 fun b23 o23 =>
  ∃ (s20 : ByteArray),
  w_1.cell? ⟨b19, o19 + x5.toNat * 1, none⟩ = some (.string s20) ∧
  ∃ (s24 : ByteArray),
  w_1.cell? ⟨b23, o23 + x5.toNat * 1, none⟩ = some (.string s24) ∧
  sel (!(decide (s20 = s24))) (
  R (.bool false) w_1.drew) (
  let i16 : Int := IntKind.i64.wrap (x5 + 1);
  ([.slice Aa0 na0 ca0, .slice Aa1 na1 ca1] : List Value) = ([.slice Aa0 na0 ca0, .slice Aa1 na1 ca1] : List Value) ∧ ∃ m, m < r ∧ I i16 w_1.drew m)) (
  R (.bool true) w_1))
theorem f54.eq (Aa0 : Option Addr) (na0 ca0 : Nat) (Aa1 : Option Addr) (na1 ca1 : Nat) (w : World) (R : Value → World → Prop) : f54.VC Aa0 na0 ca0 Aa1 na1 ca1 w R = funV Try.prog Try.f54 f54.AL f54.AC #[.slice Aa0 na0 ca0, .slice Aa1 na1 ca1] w R := by kernel_rfl
theorem f54.calls {Aa0 : Option Addr} {na0 ca0 : Nat} {Aa1 : Option Addr} {na1 ca1 : Nat} {w : World} {R : Value → World → Prop} (h : f54.VC Aa0 na0 ca0 Aa1 na1 ca1 w R) : Calls Try.prog 54 #[.slice Aa0 na0 ca0, .slice Aa1 na1 ca1] w fun e w' => ∃ v, e = .returned v ∧ R v w' :=
  funV_sound (fn := Try.f54) (AL := f54.AL) (AC := f54.AC) W19.mixed (by kernel_rfl) (by rw [← f54.eq Aa0 na0 ca0 Aa1 na1 ca1]; exact h)

/-- gatehouse/gatehouseref11.numbers -/
def f55.AL : Nat → Option Ann := fun r => match r with | 4 => some ⟨[(5, .int .i64)], [0, 1]⟩ | _ => none
def f55.AC : Nat → Option Ann := fun _ => none
def f55.VC (Aa0 : Option Addr) (na0 ca0 : Nat) (Aa1 : Option Addr) (na1 ca1 : Nat) (w : World) (R : Value → World → Prop) : Prop :=
  sel (((na0 : Int) : Int) != ((na1 : Int) : Int)) (
  R (.bool false) w) (
  ∃ I : Int → World → Nat → Prop,
  (∃ n, I 0 w n) ∧
  ∀ d : Env, ∀ (x5 : Int) (w_1 : World) (r : Nat), I x5 w_1 r →
  sel (decide ((x5 : Int) < ((na0 : Int) : Int))) (
  (0 : Int) ≤ x5 ∧ x5 < (na0 : Int) ∧
  needPtr Aa0 fun b19 o19 =>
  (0 : Int) ≤ x5 ∧ x5 < (na1 : Int) ∧
  needPtr Aa1 fun b23 o23 =>
  ∃ (x20 : Int),
  w_1.cell? ⟨b19, o19 + x5.toNat * 1, none⟩ = some (.int .i64 x20) ∧
  ∃ (x24 : Int),
  w_1.cell? ⟨b23, o23 + x5.toNat * 1, none⟩ = some (.int .i64 x24) ∧
  sel ((x20 : Int) != (x24 : Int)) (
  R (.bool false) w_1.drew) (
  let i16 : Int := IntKind.i64.wrap (x5 + 1);
  ([.slice Aa0 na0 ca0, .slice Aa1 na1 ca1] : List Value) = ([.slice Aa0 na0 ca0, .slice Aa1 na1 ca1] : List Value) ∧ ∃ m, m < r ∧ I i16 w_1.drew m)) (
  R (.bool true) w_1))
theorem f55.eq (Aa0 : Option Addr) (na0 ca0 : Nat) (Aa1 : Option Addr) (na1 ca1 : Nat) (w : World) (R : Value → World → Prop) : f55.VC Aa0 na0 ca0 Aa1 na1 ca1 w R = funV Try.prog Try.f55 f55.AL f55.AC #[.slice Aa0 na0 ca0, .slice Aa1 na1 ca1] w R := by kernel_rfl
theorem f55.calls {Aa0 : Option Addr} {na0 ca0 : Nat} {Aa1 : Option Addr} {na1 ca1 : Nat} {w : World} {R : Value → World → Prop} (h : f55.VC Aa0 na0 ca0 Aa1 na1 ca1 w R) : Calls Try.prog 55 #[.slice Aa0 na0 ca0, .slice Aa1 na1 ca1] w fun e w' => ∃ v, e = .returned v ∧ R v w' :=
  funV_sound (fn := Try.f55) (AL := f55.AL) (AC := f55.AC) W19.mixed (by kernel_rfl) (by rw [← f55.eq Aa0 na0 ca0 Aa1 na1 ca1]; exact h)

end Go.Proofs.Ytjmlfknogjaemaa
