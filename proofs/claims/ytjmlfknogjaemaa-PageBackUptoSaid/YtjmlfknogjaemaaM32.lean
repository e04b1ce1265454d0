/- Page: awake. -/
import Derived.Test.YtjmlfknogjaemaaM31
import Derived.Test.YtjmlfknogjaemaaM4
import Derived.Test.YtjmlfknogjaemaaProg
import Derived.KernelRfl
import Derived.Test.YtjmlfknogjaemaaM7
set_option linter.unusedVariables false
set_option linter.unusedSimpArgs false
set_option maxRecDepth 10000
namespace Go.Proofs.Ytjmlfknogjaemaa
open Go Go.Proofs.Ytjmlfknogjaemaa.Vc
namespace PG
open Vc.PG NI
theorem exW_le : ∀ i, exW.getD i 0 ≤ 9223372036854775807 := by
  intro i
  by_cases hi : i < 21
  · have : ∀ i : Fin 21, exW.getD i 0 ≤ 9223372036854775807 := by decide
    exact this ⟨i, hi⟩
  · rw [List.getD_eq_getElem?_getD, List.getElem?_eq_none (by simp [exW]; omega)]; decide
theorem awake (w : World) : Calls Try.prog 10 #[] w fun e w' => e = .returned (.bool true) ∧ Fr [] w w' := by
  refine Calls.mono (f10.calls (R := fun v w' => v = .bool true ∧ Fr [] w w') ?_) ?_
  · dsimp only [f10.VC]
    refine Calls.mono (NI.new (St.start w)) ?_
    rintro _ w1 ⟨x, rfl, hS1⟩
    refine ⟨_, rfl, sel_of (fun h => by cases h) (fun _ => ?_)⟩
    refine Calls.mono (smallC hS1) ?_
    rintro _ w2 ⟨v, rfl, hv, hS2⟩
    have hG2 : InG w2 v exG := hS2.says 0 rfl
    have hsz := sizeC hG2 ⟨by omega, by omega, by omega⟩
    rw [ex_size] at hsz
    refine ⟨_, _, _, _, _, _, _, _, _, _, _, _, _, _, _, _, _, _, rfl, ?_⟩
    refine Calls.mono (hS2.step0 hsz) ?_
    rintro _ w3 ⟨rfl, hS3⟩
    refine ⟨_, rfl, sel_of (fun h => by simp at h) (fun _ => ?_)⟩
    refine Calls.mono (smallC hS3) ?_
    rintro _ w4 ⟨u, rfl, hu, hS4⟩
    refine ⟨_, _, _, _, _, _, _, _, _, _, _, _, _, _, _, _, _, _, rfl, ?_⟩
    obtain ⟨F, hF, hG, hgr⟩ := hS4.graftW 2 rfl
    obtain ⟨G, hG4, hd⟩ := hG 0 _ (by decide) rfl
    have hlay := layC (St.start1 hF) (v := u) (g := exG) (fun w' hf => Chunk.keep_says (Chunk.fr _ hG4 hf hd)) (by simp) ⟨by omega, by omega, by omega⟩ 5
    rw [ex_lay] at hlay
    refine Calls.mono hlay ?_
    rintro _ w5 ⟨A, n, c, rfl, hS5⟩
    have hS6 := hgr (hS5.swap 0 1 rfl rfl)
    have hS6 : St [] w w5 [ints (.slice A n c) exW, gC u exG, gC v exG, idxC x exL] := hS6
    clear hS5 hlay hgr hG hF hG4
    refine ⟨_, _, _, _, rfl, sel_of (fun h => by cases h) (fun _ => ?_)⟩
    have hS7 := hS6.alloc (exW.map encN).toArray 3
    have hW7 : InW (w5.alloc (.cells (exW.map encN).toArray 3)) (some ⟨w5.heap.size, 0, none⟩) 21 exW := by
      obtain ⟨F, hF, _⟩ := hS7.at 0 rfl
      have := Chunk.ls_says 0 (ls_of_blk (l := exW) (enc := encN) (by decide) hF)
      exact ⟨this.1, this.2.2⟩
    have hn : n = 21 := hS6.lsLen 0 rfl
    subst hn
    refine Calls.mono (hS7.step0 (sameC (St.inI hS7 1 rfl) hW7 (by decide))) ?_
    rintro _ w7 ⟨rfl, hS8⟩
    refine ⟨_, rfl, sel_of (fun h => by simp at h) (fun _ => ?_)⟩
    have d1 := decC (St.inI hS8 1 rfl) (c := c) (by decide) 2 3 1
    rw [ex_dec1] at d1
    refine Calls.mono (hS8.step0 d1) ?_
    rintro _ w8 ⟨rfl, hS9⟩
    refine ⟨_, _, rfl, ?_⟩
    have d2 := decC (St.inI hS9 1 rfl) (c := c) (by decide) 2 3 2
    rw [ex_dec2] at d2
    refine Calls.mono (hS9.step0 d2) ?_
    rintro _ w9 ⟨rfl, hS10⟩
    refine ⟨_, _, rfl, ?_⟩
    have hrd := readC (St.inI hS10 1 rfl) (c := c) (idxAt hS10 4 rfl) (by decide) (by decide) exW_le
    refine Calls.mono hrd ?_
    obtain ⟨q1, q2, q3⟩ := ex_read
    rintro _ w10 ⟨_, rfl, g, rfl, hS11⟩
    rw [q1, q2]
    have hg : InG w10 g (readP exW exL).2.1 := hS11.says 0 rfl
    have hgs : g.s.2.1 = 1 := by rw [hg.s.1.1, q3]
    have hS12 := hS10.gone hS11
    have hS13 := hS12.alloc #[.slice none 0 0, .slice none 0 0, .slice none 0 0, .slice none 0 0, .slice none 0 0, .slice none 0 0] 29
    have hS14 := hS13.over 0 rfl [g.a.v, g.s.v, g.o.v, g.f.v, g.n.v, g.m.v] rfl
    refine ⟨_, _, _, _, _, _, _, _, _, _, _, _, _, _, _, _, _, _, _, _, rfl, (hS13.blk 0 rfl).can (by decide), ?_⟩
    refine sel_of (fun _ => sel_of (fun _ => sel_of (fun _ => sel_of (fun _ => sel_of (fun _ => sel_of (fun _ => ?_) (fun h => by simp at h)) (fun h => by simp at h)) (fun h => by simp at h)) (fun h => by simp at h)) (fun h => by simp at h)) (fun h => by simp at h)
    refine ⟨_, _, _, (hS14.blk 0 rfl).cell rfl, sel_of (fun _ => ?_) (fun h => by rw [hgs] at h; simp at h)⟩
    have hh := hashP (setCs (World.alloc w10 (.cells #[.slice none 0 0, .slice none 0 0, .slice none 0 0, .slice none 0 0, .slice none 0 0, .slice none 0 0] 29)) w10.heap.size 0 [g.a.v, g.s.v, g.o.v, g.f.v, g.n.v, g.m.v]) 9 8 (by decide)
    rw [ex_hash] at hh
    refine Calls.mono (hS14.step0 hh) ?_
    rintro _ w13 ⟨rfl, hS15⟩
    exact ⟨_, rfl, rfl, hS15.frame⟩
  · rintro e w' ⟨v, rfl, rfl, h⟩; exact ⟨rfl, h⟩
end PG
end Go.Proofs.Ytjmlfknogjaemaa
/- The plain statements of some functions, printed by vcgen.py. -/
set_option maxRecDepth 100000
set_option linter.unusedVariables false
namespace Go.Proofs.Ytjmlfknogjaemaa
open Go Go.Proofs.Ytjmlfknogjaemaa.Vc
theorem W18.mixed : Try.prog.follows .mixedOrders = true := by kernel_rfl
/-- gatehouse/gatehouselaw12.PageAsked -/
def f5.AL : Nat → Option Ann := fun r => match r with | 5 => some ⟨[(7, .bool), (10, .int .i64)], [0, 1, 2, 8, 9]⟩ | 8 => some ⟨[(7, .bool), (11, .int .i64)], [0, 1, 2, 8, 9, 10]⟩ | 13 => some ⟨[(12, .int .i64)], [1, 2, 7, 9]⟩ | 18 => some ⟨[(7, .bool), (14, .int .i64)], [2, 9, 13]⟩ | _ => none
def f5.AC : Nat → Option Ann := fun r => match r with | 11 => some ⟨[(7, .bool)], [0, 1, 2, 8, 9]⟩ | 12 => some ⟨[(7, .bool)], [1, 2, 9]⟩ | 16 => some ⟨[], [2, 7, 9]⟩ | _ => none
def f5.VC (Aa0 : Option Addr) (na0 ca0 : Nat) (Aa1 : Option Addr) (na1 ca1 : Nat) (Aa2 : Option Addr) (na2 ca2 : Nat) (w : World) (R : Value → World → Prop) : Prop :=
  Calls Try.prog 10 #[] w fun e_1 w_1 =>
  ∃ (b15 : Bool),
  e_1 = .returned (.bool b15) ∧
  Calls Try.prog 24 #[.slice Aa0 na0 ca0, .int .i64 40] w_1 fun e_2 w_2 =>
  ∃ (A17 : Option Addr) (n17 c17 : Nat),
  e_2 = .returned (.slice A17 n17 c17) ∧
  (0 : Int) ≤ (na0 : Int) ∧ (na0 : Int) ≤ (c17 : Int) ∧
  ∃ M : Bool → World → Prop,
  (∃ I : Bool → Int → World → Nat → Prop,
    (∃ n, I b15 0 w_2 n) ∧
    ∀ d : Env, ∀ (b7 : Bool) (x10 : Int) (w_3 : World) (r : Nat), I b7 x10 w_3 r →
    sel (decide ((x10 : Int) < (2 : Int))) (
      sel b7 (
        ∃ I_1 : Bool → Int → World → Nat → Prop,
        (∃ n, I_1 b7 0 w_3 n) ∧
        ∀ d_1 : Env, ∀ (b7_1 : Bool) (x11 : Int) (w_4 : World) (r_1 : Nat), I_1 b7_1 x11 w_4 r_1 →
        sel (decide ((x11 : Int) < ((na2 : Int) : Int))) (
          sel b7_1 (
            (0 : Int) ≤ x11 ∧ x11 < (na2 : Int) ∧
            needPtr Aa2 fun b42 o42 =>
            ∃ (x43_0 : Int),
            w_4.cell? ⟨b42, o42 + x11.toNat * 4, none⟩ = some (.int .i64 x43_0) ∧
            ∃ (x43_1 : Int),
            w_4.cell? ⟨b42, o42 + x11.toNat * 4 + 1, none⟩ = some (.int .i64 x43_1) ∧
            ∃ (x43_2 : Int),
            w_4.cell? ⟨b42, o42 + x11.toNat * 4 + 1 + 1, none⟩ = some (.int .i64 x43_2) ∧
            ∃ (x43_3 : Int),
            w_4.cell? ⟨b42, o42 + x11.toNat * 4 + 1 + 1 + 1, none⟩ = some (.int .i8 x43_3) ∧
            Calls Try.prog 25 #[.slice A17 (na0 : Int).toNat c17, .slice Aa0 na0 ca0, .agg #[.int .i64 x43_0, .int .i64 x43_1, .int .i64 x43_2, .int .i8 x43_3]] w_4 fun e_3 w_5 =>
            ∃ (b44 : Bool),
            e_3 = .returned (.bool b44) ∧
            let i37 : Int := IntKind.i64.wrap (x11 + 1);
            ([.slice Aa0 na0 ca0, .slice Aa1 na1 ca1, .slice Aa2 na2 ca2, .slice A17 n17 c17, .slice A17 (na0 : Int).toNat c17, .int .i64 x10] : List Value) = ([.slice Aa0 na0 ca0, .slice Aa1 na1 ca1, .slice Aa2 na2 ca2, .slice A17 n17 c17, .slice A17 (na0 : Int).toNat c17, .int .i64 x10] : List Value) ∧ ∃ m, m < r_1 ∧ I_1 b44 i37 w_5 m) (
            let i28 : Int := IntKind.i64.wrap (x10 + 1);
            ([.slice Aa0 na0 ca0, .slice Aa1 na1 ca1, .slice Aa2 na2 ca2, .slice A17 n17 c17, .slice A17 (na0 : Int).toNat c17] : List Value) = ([.slice Aa0 na0 ca0, .slice Aa1 na1 ca1, .slice Aa2 na2 ca2, .slice A17 n17 c17, .slice A17 (na0 : Int).toNat c17] : List Value) ∧ ∃ m, m < r ∧ I b7_1 i28 w_4 m)) (
          let i28_1 : Int := IntKind.i64.wrap (x10 + 1);
          ([.slice Aa0 na0 ca0, .slice Aa1 na1 ca1, .slice Aa2 na2 ca2, .slice A17 n17 c17, .slice A17 (na0 : Int).toNat c17] : List Value) = ([.slice Aa0 na0 ca0, .slice Aa1 na1 ca1, .slice Aa2 na2 ca2, .slice A17 n17 c17, .slice A17 (na0 : Int).toNat c17] : List Value) ∧ ∃ m, m < r ∧ I b7_1 i28_1 w_4 m)) (
        ([.slice Aa0 na0 ca0, .slice Aa1 na1 ca1, .slice Aa2 na2 ca2, .slice A17 n17 c17, .slice A17 (na0 : Int).toNat c17] : List Value) = ([.slice Aa0 na0 ca0, .slice Aa1 na1 ca1, .slice Aa2 na2 ca2, .slice A17 n17 c17, .slice A17 (na0 : Int).toNat c17] : List Value) ∧ M b7 w_3)) (
      ([.slice Aa0 na0 ca0, .slice Aa1 na1 ca1, .slice Aa2 na2 ca2, .slice A17 n17 c17, .slice A17 (na0 : Int).toNat c17] : List Value) = ([.slice Aa0 na0 ca0, .slice Aa1 na1 ca1, .slice Aa2 na2 ca2, .slice A17 n17 c17, .slice A17 (na0 : Int).toNat c17] : List Value) ∧ M b7 w_3)) ∧
  ∀ d_2 : Env, ∀ (b7_2 : Bool) (w_6 : World), M b7_2 w_6 →
  ∃ M_1 : Bool → World → Prop,
  (sel b7_2 (
      Calls Try.prog 24 #[.slice Aa0 na0 ca0, .int .i64 40] w_6 fun e_4 w_7 =>
      ∃ (A49 : Option Addr) (n49 c49 : Nat),
      e_4 = .returned (.slice A49 n49 c49) ∧
      Calls Try.prog 18 #[.slice A17 n17 c17, .slice A49 n49 c49] w_7 fun e_5 w_8 =>
      ∃ (b50 : Bool),
      e_5 = .returned (.bool b50) ∧
      ([.slice Aa1 na1 ca1, .slice Aa2 na2 ca2, .slice A17 (na0 : Int).toNat c17] : List Value) = ([.slice Aa1 na1 ca1, .slice Aa2 na2 ca2, .slice A17 (na0 : Int).toNat c17] : List Value) ∧ M_1 b50 w_8) (
      ([.slice Aa1 na1 ca1, .slice Aa2 na2 ca2, .slice A17 (na0 : Int).toNat c17] : List Value) = ([.slice Aa1 na1 ca1, .slice Aa2 na2 ca2, .slice A17 (na0 : Int).toNat c17] : List Value) ∧ M_1 false w_6)) ∧
  ∀ d_3 : Env, ∀ (b7_3 : Bool) (w_9 : World), M_1 b7_3 w_9 →
  ∃ M_2 : World → Prop,
  (∃ I_2 : Int → World → Nat → Prop,
    (∃ n, I_2 0 w_9 n) ∧
    ∀ d_4 : Env, ∀ (x12 : Int) (w_10 : World) (r_2 : Nat), I_2 x12 w_10 r_2 →
    sel (decide ((x12 : Int) < (((na0 : Int).toNat : Int) : Int))) (
      sel (decide ((x12 : Int) < ((na1 : Int) : Int))) (
        (0 : Int) ≤ x12 ∧ x12 < (na1 : Int) ∧
        needPtr Aa1 fun b68 o68 =>
        ∃ (x69 : Int),
        w_10.cell? ⟨b68, o68 + x12.toNat * 1, none⟩ = some (.int .i64 x69) ∧
        (0 : Int) ≤ x12 ∧ x12 < ((na0 : Int).toNat : Int) ∧
        needPtr A17 fun b70 o70 =>
        canStore w_10 b70 (o70 + x12.toNat * 1) 1 ∧
        let w_11 : World := setCs w_10 b70 (o70 + x12.toNat * 1) [.int .i64 x69];
        let i63 : Int := IntKind.i64.wrap (x12 + 1);
        ([.slice Aa1 na1 ca1, .slice Aa2 na2 ca2, .bool b7_3, .slice A17 (na0 : Int).toNat c17] : List Value) = ([.slice Aa1 na1 ca1, .slice Aa2 na2 ca2, .bool b7_3, .slice A17 (na0 : Int).toNat c17] : List Value) ∧ ∃ m, m < r_2 ∧ I_2 i63 w_11 m) (
        ([.slice Aa2 na2 ca2, .bool b7_3, .slice A17 (na0 : Int).toNat c17] : List Value) = ([.slice Aa2 na2 ca2, .bool b7_3, .slice A17 (na0 : Int).toNat c17] : List Value) ∧ M_2 w_10)) (
      ([.slice Aa2 na2 ca2, .bool b7_3, .slice A17 (na0 : Int).toNat c17] : List Value) = ([.slice Aa2 na2 ca2, .bool b7_3, .slice A17 (na0 : Int).toNat c17] : List Value) ∧ M_2 w_10)) ∧
  ∀ d_5 : Env, ∀  (w_12 : World), M_2 w_12 →
  Calls Try.prog 24 #[.slice A17 (na0 : Int).toNat c17, .int .i64 0] w_12 fun e_6 w_13 =>
  ∃ (A72 : Option Addr) (n72 c72 : Nat),
  e_6 = .returned (.slice A72 n72 c72) ∧
  ∃ I_3 : Bool → Int → World → Nat → Prop,
  (∃ n, I_3 b7_3 0 w_13 n) ∧
  ∀ d_6 : Env, ∀ (b7_4 : Bool) (x14 : Int) (w_14 : World) (r_3 : Nat), I_3 b7_4 x14 w_14 r_3 →
  sel (decide ((x14 : Int) < ((na2 : Int) : Int))) (
    sel b7_4 (
      (0 : Int) ≤ x14 ∧ x14 < (na2 : Int) ∧
      needPtr Aa2 fun b86 o86 =>
      ∃ (x87_0 : Int),
      w_14.cell? ⟨b86, o86 + x14.toNat * 4, none⟩ = some (.int .i64 x87_0) ∧
      ∃ (x87_1 : Int),
      w_14.cell? ⟨b86, o86 + x14.toNat * 4 + 1, none⟩ = some (.int .i64 x87_1) ∧
      ∃ (x87_2 : Int),
      w_14.cell? ⟨b86, o86 + x14.toNat * 4 + 1 + 1, none⟩ = some (.int .i64 x87_2) ∧
      ∃ (x87_3 : Int),
      w_14.cell? ⟨b86, o86 + x14.toNat * 4 + 1 + 1 + 1, none⟩ = some (.int .i8 x87_3) ∧
      Calls Try.prog 25 #[.slice A17 (na0 : Int).toNat c17, .slice A72 n72 c72, .agg #[.int .i64 x87_0, .int .i64 x87_1, .int .i64 x87_2, .int .i8 x87_3]] w_14 fun e_7 w_15 =>
      ∃ (b88 : Bool),
      e_7 = .returned (.bool b88) ∧
      let i81 : Int := IntKind.i64.wrap (x14 + 1);
      ([.slice Aa2 na2 ca2, .slice A17 (na0 : Int).toNat c17, .slice A72 n72 c72] : List Value) = ([.slice Aa2 na2 ca2, .slice A17 (na0 : Int).toNat c17, .slice A72 n72 c72] : List Value) ∧ ∃ m, m < r_3 ∧ I_3 b88 i81 w_15 m) (
      R (.bool b7_4) w_14)) (
    R (.bool b7_4) w_14)
theorem f5.eq (Aa0 : Option Addr) (na0 ca0 : Nat) (Aa1 : Option Addr) (na1 ca1 : Nat) (Aa2 : Option Addr) (na2 ca2 : Nat) (w : World) (R : Value → World → Prop) : f5.VC Aa0 na0 ca0 Aa1 na1 ca1 Aa2 na2 ca2 w R = funV Try.prog Try.f5 f5.AL f5.AC #[.slice Aa0 na0 ca0, .slice Aa1 na1 ca1, .slice Aa2 na2 ca2] w R := by kernel_rfl
theorem f5.calls {Aa0 : Option Addr} {na0 ca0 : Nat} {Aa1 : Option Addr} {na1 ca1 : Nat} {Aa2 : Option Addr} {na2 ca2 : Nat} {w : World} {R : Value → World → Prop} (h : f5.VC Aa0 na0 ca0 Aa1 na1 ca1 Aa2 na2 ca2 w R) : Calls Try.prog 5 #[.slice Aa0 na0 ca0, .slice Aa1 na1 ca1, .slice Aa2 na2 ca2] w fun e w' => ∃ v, e = .returned v ∧ R v w' :=
  funV_sound (fn := Try.f5) (AL := f5.AL) (AC := f5.AC) W18.mixed (by kernel_rfl) (by rw [← f5.eq Aa0 na0 ca0 Aa1 na1 ca1 Aa2 na2 ca2]; exact h)

end Go.Proofs.Ytjmlfknogjaemaa
/- Page: copied; the law PageAsked, the walk. -/
set_option linter.unusedVariables false
set_option linter.unusedSimpArgs false
set_option maxRecDepth 10000
namespace Go.Proofs.Ytjmlfknogjaemaa
open Go Go.Proofs.Ytjmlfknogjaemaa.Vc
namespace PG
open Vc.PG NI
/-- The marks behind a list. -/
def marksL (k : Nat) : List Int := (List.range k).map fun (i : Nat) => -7000 - (i : Int)
theorem marksL_succ (k : Nat) : marksL (k + 1) = marksL k ++ [-7000 - (k : Int)] := by
  unfold marksL
  rw [List.range_succ, List.map_append]; rfl
theorem marksL_len (k : Nat) : (marksL k).length = k := by simp [marksL]
theorem copiedC {S : List Nat} {w0 w : World} {L : List Chunk} (h : St S w0 w L) {A : Option Addr} {n c : Nat} {W : List Int} (hW : InW w A n W) (hn : n ≤ 3000000) (k : Nat) (hk : k ≤ 1000) :
    Calls Try.prog 24 #[.slice A n c, .int .i64 (k : Int)] w fun e w' => ∃ X : Sl, e = .returned X.v ∧ St S w0 w' (ints X.v (W ++ marksL k) :: L) := by
  refine Calls.mono (f24.calls (R := fun v w' => ∃ X : Sl, v = X.v ∧ St S w0 w' (ints X.v (W ++ marksL k) :: L)) ?_) ?_
  · dsimp only [f24.VC]
    have hl := hW.1
    obtain ⟨ti, i1, i2, i3, i4⟩ := info3
    obtain ⟨A1, n1, c1, w1, r1, hS1⟩ := St.appMany (ty := 26) 0 (enc := encN) (fun _ => rfl) under26 i1 i2 i3 rfl (by omega) (h.nil 3 1) 0 (l := []) rfl hW.1 hW.2 (c2 := c) (by simp; omega)
    refine ⟨A1, n1, c1, w1, r1, fun A5 n5 c5 x w' r => ∃ i : Nat, x = (i : Int) ∧ i + r = k ∧ St S w0 w' (ints (.slice A5 n5 c5) (W ++ marksL i) :: L), ⟨k, 0, rfl, by omega, by simpa [marksL] using hS1⟩, ?_⟩
    rintro d A5 n5 c5 x w2 r ⟨i, rfl, hir, hS⟩
    refine sel_of (fun hd => ?_) (fun hd => ?_)
    · have hi : i < k := by have := of_decide_eq_true hd; omega
      have hm := marksL_len i
      obtain ⟨A6, n6, c6, w3, r3, hS3⟩ := appI hS 0 rfl (-7000 - (i : Int)) (by simp [hm]; omega)
      rw [i64_id (x := -7000 - (i : Int)) (by omega) (by omega), inc i k (by omega) (by omega)]
      refine ⟨A6, n6, c6, w3, r3, rfl, r - 1, by omega, i + 1, rfl, by omega, ?_⟩
      rw [marksL_succ, ← List.append_assoc]
      exact hS3
    · have hi : i = k := by have := of_decide_eq_false hd; omega
      subst hi
      exact ⟨(A5, n5, c5), rfl, hS⟩
  · rintro e w' ⟨v, rfl, X, rfl, h⟩; exact ⟨X, rfl, h⟩
theorem InW.take {w : World} {A : Option Addr} {n : Nat} {W : List Int} (h : InW w A n W) {q : Nat} (hq : q ≤ n) : InW w A q (W.take q) := by
  have hl := h.1
  refine ⟨by simp; omega, fun hn => ?_⟩
  obtain ⟨b, o, rfl, h2⟩ := h.2 (by omega)
  refine ⟨b, o, rfl, fun i hi => ?_⟩
  rw [h2 i (by omega)]
  simp [List.getD_eq_getElem?_getD, hi]
/-- Questions that are read. -/
def encK (x : Int × Int × Int × Int) : List Value := [.int .i64 x.1, .int .i64 x.2.1, .int .i64 x.2.2.1, .int .i8 x.2.2.2]
def InK (w : World) (A : Option Addr) (n : Nat) (l : List (Int × Int × Int × Int)) : Prop := InR w 4 A n (l.map encK)
theorem InK.fr {w w' : World} {A : Option Addr} {n : Nat} {l : List (Int × Int × Int × Int)} (h : InK w A n l) (hf : Fr [] w w') : InK w' A n l :=
  InR.fr (S := []) h (fun r hr => by obtain ⟨x, _, rfl⟩ := List.mem_map.1 hr; rfl) hf
theorem InK.cells {w : World} {A : Option Addr} {n : Nat} {l : List (Int × Int × Int × Int)} (h : InK w A n l) {i : Nat} (hi : i < n) : ∃ (b o : Nat) (x : Int × Int × Int × Int), A = some ⟨b, o, none⟩ ∧ w.cell? ⟨b, o + i * 4, none⟩ = some (.int .i64 x.1) ∧ w.cell? ⟨b, o + i * 4 + 1, none⟩ = some (.int .i64 x.2.1) ∧ w.cell? ⟨b, o + i * 4 + 1 + 1, none⟩ = some (.int .i64 x.2.2.1) ∧ w.cell? ⟨b, o + i * 4 + 1 + 1 + 1, none⟩ = some (.int .i8 x.2.2.2) := by
  have hl := h.1
  rw [List.length_map] at hl
  obtain ⟨b, o, rfl, h2⟩ := h.2 (by omega)
  have hil : i < l.length := by omega
  have e : (l.map encK).getD i [] = encK l[i] := by simp [List.getD_eq_getElem?_getD, hil]
  have h3 := h2 i hi
  rw [e] at h3
  exact ⟨b, o, l[i], rfl, h3 0 (by decide), h3 1 (by decide), h3 2 (by decide), h3 3 (by decide)⟩
/-- The type of a question. -/
abbrev askTy : Ty := .pair (.int .i64) (.pair (.int .i64) (.pair (.int .i64) (.pair (.int .i8) .unit)))
theorem inK {w : World} {A : Option Addr} {n c : Nat} {l : List (Den askTy)} {F : List Nat} (h : In w (.sl askTy) [.slice A n c] l F) : InK w A n (l.map fun d => (d.1, d.2.1, d.2.2.1, d.2.2.2.1)) := by
  have := In.recs (by decide) h
  unfold InK
  rw [List.map_map]
  exact this
theorem lawAsked {w : World} {A B C : Option Addr} {n m k c d f : Nat} {W V : List Int} {Q : List (Int × Int × Int × Int)} (hW : InW w A n W) (hV : InW w B m V) (hQ : InK w C k Q) (hn : n ≤ 1100000) (hm : m ≤ 1100000) (hk : k ≤ 1100000) :
    Calls Try.prog 5 #[.slice A n c, .slice B m d, .slice C k f] w fun e w' => e = .returned (.bool true) ∧ Fr [] w w' := by
  refine Calls.mono (f5.calls (R := fun v w' => v = .bool true ∧ Fr [] w w') ?_) ?_
  · dsimp only [f5.VC]
    have hl := hW.1
    refine Calls.mono (awake w) ?_
    rintro _ w1 ⟨rfl, f1⟩
    refine ⟨_, rfl, Calls.mono (copiedC (k := 40) ((St.start w).go f1) (hW.fr f1) (by omega) (by decide)) ?_⟩
    rintro _ w2 ⟨⟨A17, n17, c17⟩, rfl, hS2⟩
    have hm40 := marksL_len 40
    have g17 : n17 = (W ++ marksL 40).length := hS2.lsLen 0 rfl
    have hcap : n17 ≤ c17 := by
      obtain ⟨F, hF, _⟩ := hS2.at 0 rfl
      exact (Chunk.ls_says 0 hF).2.1
    rw [List.length_append, hm40] at g17
    rw [Int.toNat_natCast]
    have htake : (W ++ marksL 40).take n = W := by rw [hl, List.take_left]
    refine ⟨A17, n17, c17, rfl, by omega, by omega, ?_⟩
    refine ⟨fun b w' => b = true ∧ St [] w w' [ints (.slice A17 n17 c17) (W ++ marksL 40)], ?_, ?_⟩
    · refine ⟨fun b x w' r => b = true ∧ ∃ i : Nat, x = (i : Int) ∧ i + r = 2 ∧ St [] w w' [ints (.slice A17 n17 c17) (W ++ marksL 40)], ⟨2, rfl, 0, rfl, by omega, hS2⟩, ?_⟩
      rintro dd b x w3 r ⟨rfl, i, rfl, hir, hS⟩
      refine sel_of (fun hd => ?_) (fun hd => ⟨rfl, rfl, hS⟩)
      have hi : i < 2 := by have := of_decide_eq_true hd; omega
      refine sel_of (fun _ => ?_) (fun h => by cases h)
      refine ⟨fun b x w' r => b = true ∧ ∃ j : Nat, x = (j : Int) ∧ j + r = k ∧ St [] w w' [ints (.slice A17 n17 c17) (W ++ marksL 40)], ⟨k, rfl, 0, rfl, by omega, hS⟩, ?_⟩
      clear hS
      rintro dd b x w4 r1 ⟨rfl, j, rfl, hjr, hS⟩
      rw [inc i 100 (by omega) (by omega)]
      refine sel_of (fun hd => ?_) (fun hd => ⟨rfl, r - 1, by omega, rfl, i + 1, rfl, by omega, hS⟩)
      have hj : j < k := by have := of_decide_eq_true hd; omega
      refine sel_of (fun _ => ?_) (fun h => by cases h)
      obtain ⟨b, o, q, rfl, q1, q2, q3, q4⟩ := (hQ.fr hS.frame).cells hj
      have hI := (St.inI hS 0 rfl).take (q := n) (by omega)
      rw [htake] at hI
      refine ⟨by omega, by omega, needPtr_of rfl ⟨_, by rw [Int.toNat_natCast]; exact q1, _, by rw [Int.toNat_natCast]; exact q2, _, by rw [Int.toNat_natCast]; exact q3, _, by rw [Int.toNat_natCast]; exact q4, ?_⟩⟩
      refine Calls.mono (hS.step0 (askedC hI (hW.fr hS.frame) (by omega) _ _ _ _)) ?_
      rintro _ w5 ⟨rfl, hS⟩
      rw [inc j k (by omega) (by omega)]
      exact ⟨_, rfl, rfl, r1 - 1, by omega, rfl, j + 1, rfl, by omega, hS⟩
    · rintro dd b w3 ⟨rfl, hS⟩
      refine ⟨fun b w' => b = true ∧ St [] w w' [ints (.slice A17 n17 c17) (W ++ marksL 40)], ?_, ?_⟩
      · refine sel_of (fun _ => ?_) (fun h => by cases h)
        refine Calls.mono (copiedC (k := 40) hS (hW.fr hS.frame) (by omega) (by decide)) ?_
        rintro _ w4 ⟨X, rfl, hS4⟩
        refine ⟨_, _, _, rfl, ?_⟩
        refine Calls.mono (hS4.step0 (sameC (St.inI hS4 1 rfl) (St.inI hS4 0 rfl) (show n17 ≤ 1000000000 by omega))) ?_
        rintro _ w5 ⟨rfl, hS5⟩
        exact ⟨_, rfl, rfl, by simp, hS5.tail⟩
      · rintro dd b w4 ⟨rfl, hS⟩
        refine ⟨fun w' => ∃ L' : List Int, L'.length = n17 ∧ St [] w w' [ints (.slice A17 n17 c17) L'], ?_, ?_⟩
        · refine ⟨fun x w' r => ∃ (i : Nat) (L' : List Int), x = (i : Int) ∧ i + r = n ∧ L'.length = n17 ∧ St [] w w' [ints (.slice A17 n17 c17) L'], ⟨n, 0, _, rfl, by omega, by rw [List.length_append, hm40]; omega, hS⟩, ?_⟩
          clear hS
          rintro dd x w5 r ⟨i, L', rfl, hir, hL, hS⟩
          refine sel_of (fun hd => ?_) (fun hd => ⟨rfl, L', hL, hS⟩)
          refine sel_of (fun hd2 => ?_) (fun hd => ⟨rfl, L', hL, hS⟩)
          have hi : i < n := by have := of_decide_eq_true hd; omega
          have hi2 : i < m := by have := of_decide_eq_true hd2; omega
          obtain ⟨b, o, rfl, hc⟩ := (hV.fr hS.frame).2 (by omega)
          obtain ⟨g, rfl, hcan, hS6⟩ := hS.lsSet 0 rfl (k := i) (by omega) (V.getD i 0)
          rw [inc i n (by omega) (by omega)]
          refine ⟨by omega, by omega, needPtr_of rfl ⟨_, by rw [Int.toNat_natCast, Nat.mul_one]; exact hc i hi2, by omega, by omega, needPtr_of rfl ?_⟩⟩
          rw [Int.toNat_natCast, Nat.mul_one, Nat.zero_add]
          exact ⟨hcan, rfl, r - 1, by omega, i + 1, L'.set i (V.getD i 0), rfl, by omega, by simpa using hL, hS6⟩
        · clear hS
          rintro dd w5 ⟨L', hL, hS⟩
          have hI := (St.inI hS 0 rfl).take (q := n) (by omega)
          refine Calls.mono (copiedC (k := 0) hS hI (c := c17) (by omega) (by decide)) ?_
          rintro _ w6 ⟨X, rfl, hS6⟩
          have hS6 : St [] w w6 [ints X.v (L'.take n), ints (.slice A17 n17 c17) L'] := by simpa [marksL] using hS6
          refine ⟨_, _, _, rfl, fun b x w' r => b = true ∧ ∃ j : Nat, x = (j : Int) ∧ j + r = k ∧ St [] w w' [ints X.v (L'.take n), ints (.slice A17 n17 c17) L'], ⟨k, rfl, 0, rfl, by omega, hS6⟩, ?_⟩
          clear hS6 hS hI
          rintro dd b x w7 r ⟨rfl, j, rfl, hjr, hS⟩
          refine sel_of (fun hd => ?_) (fun hd => ⟨rfl, hS.frame⟩)
          have hj : j < k := by have := of_decide_eq_true hd; omega
          refine sel_of (fun _ => ?_) (fun h => by cases h)
          obtain ⟨b, o, q, rfl, q1, q2, q3, q4⟩ := (hQ.fr hS.frame).cells hj
          have hI := (St.inI hS 1 rfl).take (q := n) (by omega)
          refine ⟨by omega, by omega, needPtr_of rfl ⟨_, by rw [Int.toNat_natCast]; exact q1, _, by rw [Int.toNat_natCast]; exact q2, _, by rw [Int.toNat_natCast]; exact q3, _, by rw [Int.toNat_natCast]; exact q4, ?_⟩⟩
          refine Calls.mono (hS.step0 (askedC hI (St.inI hS 0 rfl) (by omega) _ _ _ _)) ?_
          rintro _ w8 ⟨rfl, hS⟩
          rw [inc j k (by omega) (by omega)]
          exact ⟨_, rfl, rfl, r - 1, by omega, rfl, j + 1, rfl, by omega, hS⟩
  · rintro e w' ⟨v, rfl, rfl, h⟩; exact ⟨rfl, h⟩
end PG
end Go.Proofs.Ytjmlfknogjaemaa
