/- The plain statements of some functions, printed by vcgen.py. -/
import Derived.Test.YtjmlfknogjaemaaM4
import Derived.Test.YtjmlfknogjaemaaProg
import Derived.KernelRfl
import Derived.Test.YtjmlfknogjaemaaM20
set_option maxRecDepth 100000
set_option linter.unusedVariables false
namespace Go.Proofs.Ytjmlfknogjaemaa
open Go Go.Proofs.Ytjmlfknogjaemaa.Vc
theorem W10.mixed : Try.prog.follows .mixedOrders = true := by kernel_rfl
/-- gatehouse/page.Lay$1 -/
def f49.AL : Nat → Option Ann := fun r => match r with | 1 => some ⟨[(15, .int .i64)], [1, 2, 3, 4, 5, 13, 14]⟩ | 5 => some ⟨[(12, .int .i64)], [1, 2, 3, 4, 5, 9, 11, 13, 14, 15]⟩ | _ => none
def f49.AC : Nat → Option Ann := fun _ => none
def f49.VC (Aa0 : Option Addr) (na0 ca0 : Nat) (xa1 : Int) (a2 : Nat) (cap2 : Array Value) (a3 : Nat) (a4 : Nat) (a5 : Nat) (w : World) (R : Value → World → Prop) : Prop :=
  ∃ I : Int → World → Nat → Prop,
  (∃ n, I 0 w n) ∧
  ∀ d : Env, ∀ (x15 : Int) (w_1 : World) (r : Nat), I x15 w_1 r →
  sel (decide ((x15 : Int) < ((na0 : Int) : Int))) (
    (0 : Int) ≤ x15 ∧ x15 < (na0 : Int) ∧
    needPtr Aa0 fun b18 o18 =>
    ∃ (s19 : ByteArray),
    w_1.cell? ⟨b18, o18 + x15.toNat * 1, none⟩ = some (.string s19) ∧
    ∃ (p20 : Option Addr),
    w_1.cell? ⟨a3, 0, none⟩ = some (.pointer p20) ∧
    Calls Try.prog 32 #[.pointer p20, .string s19] w_1 fun e_1 w_2 =>
    ∃ (x22 : Int),
    e_1 = .returned (.int .i64 x22) ∧
    (0 : Int) ≤ 2 ∧
    let i23 : Int := shlI .i64 x22 2;
    let i25 : Int := bitsI .or .i64 i23 xa1;
    ∃ (x27 : Int),
    w_2.cell? ⟨a4, 0, none⟩ = some (.int .i64 x27) ∧
    Calls Try.prog 11 #[.int .i64 i25, .int .i64 x27] w_2 fun e_2 w_3 =>
    ∃ (x28 : Int),
    e_2 = .returned (.int .i64 x28) ∧
    ∃ I_1 : Int → World → Nat → Prop,
    (∃ n, I_1 x28 w_3 n) ∧
    ∀ d_1 : Env, ∀ (x12 : Int) (w_4 : World) (r_1 : Nat), I_1 x12 w_4 r_1 →
    ∃ (A29 : Option Addr) (n29 c29 : Nat),
    w_4.cell? ⟨a5, 0, none⟩ = some (.slice A29 n29 c29) ∧
    let i31 : Int := IntKind.i64.wrap (2 * x12);
    let i32 : Int := IntKind.i64.wrap (4 + i31);
    (0 : Int) ≤ i32 ∧ i32 < (n29 : Int) ∧
    needPtr A29 fun b33 o33 =>
    ∃ (x34 : Int),
    w_4.cell? ⟨b33, o33 + i32.toNat * 1, none⟩ = some (.int .i64 x34) ∧
    sel ((x34 : Int) != (0 : Int)) (
      let i37 : Int := IntKind.i64.wrap (x12 + 1);
      ∃ (x38 : Int),
      w_4.cell? ⟨a4, 0, none⟩ = some (.int .i64 x38) ∧
      let i39 : Int := IntKind.i64.wrap (x38 - 1);
      let i40 : Int := bitsI .and .i64 i37 i39;
      ([.int .i64 xa1, .func (.func a2) #[] cap2, .pointer (some ⟨a3, 0, none⟩), .pointer (some ⟨a4, 0, none⟩), .pointer (some ⟨a5, 0, none⟩), .int .i64 x15, .int .i64 i25, .slice Aa0 na0 ca0, .int .i64 (na0 : Int), .int .i64 x15] : List Value) = ([.int .i64 xa1, .func (.func a2) #[] cap2, .pointer (some ⟨a3, 0, none⟩), .pointer (some ⟨a4, 0, none⟩), .pointer (some ⟨a5, 0, none⟩), .int .i64 x15, .int .i64 i25, .slice Aa0 na0 ca0, .int .i64 (na0 : Int), .int .i64 x15] : List Value) ∧ ∃ m, m < r_1 ∧ I_1 i40 w_4 m) (
      let i43 : Int := IntKind.i64.wrap (2 * x12);
      let i44 : Int := IntKind.i64.wrap (4 + i43);
      let i47 : Int := IntKind.i64.wrap (2 * x12);
      let i48 : Int := IntKind.i64.wrap (4 + i47);
      let i49 : Int := IntKind.i64.wrap (i48 + 1);
      (∃ (A41 : Option Addr) (n41 c41 : Nat),
        w_4.cell? ⟨a5, 0, none⟩ = some (.slice A41 n41 c41) ∧
        (∃ (A45 : Option Addr) (n45 c45 : Nat),
          w_4.cell? ⟨a5, 0, none⟩ = some (.slice A45 n45 c45) ∧
          callT Try.prog (.func (.func a2) #[] cap2) #[.int .i64 x15] w_4.drew fun e_3 w_5 =>
          ∃ (x53 : Int),
          e_3 = .returned (.int .i64 x53) ∧
          (0 : Int) ≤ i44 ∧ i44 < (n41 : Int) ∧
          needPtr A41 fun b54 o54 =>
          canStore w_5 b54 (o54 + i44.toNat * 1) 1 ∧
          let w_6 : World := setCs w_5 b54 (o54 + i44.toNat * 1) [.int .i64 i25];
          (0 : Int) ≤ i49 ∧ i49 < (n45 : Int) ∧
          needPtr A45 fun b55 o55 =>
          canStore w_6 b55 (o55 + i49.toNat * 1) 1 ∧
          let w_7 : World := setCs w_6 b55 (o55 + i49.toNat * 1) [.int .i64 x53];
          let i56 : Int := IntKind.i64.wrap (x15 + 1);
          ([.int .i64 xa1, .func (.func a2) #[] cap2, .pointer (some ⟨a3, 0, none⟩), .pointer (some ⟨a4, 0, none⟩), .pointer (some ⟨a5, 0, none⟩), .slice Aa0 na0 ca0, .int .i64 (na0 : Int)] : List Value) = ([.int .i64 xa1, .func (.func a2) #[] cap2, .pointer (some ⟨a3, 0, none⟩), .pointer (some ⟨a4, 0, none⟩), .pointer (some ⟨a5, 0, none⟩), .slice Aa0 na0 ca0, .int .i64 (na0 : Int)] : List Value) ∧ ∃ m, m < r ∧ I i56 w_7 m) ∧
        (callT Try.prog (.func (.func a2) #[] cap2) #[.int .i64 x15] w_4.drew fun e_4 w_8 =>
          ∃ (x53_1 : Int),
          e_4 = .returned (.int .i64 x53_1) ∧
          (0 : Int) ≤ i44 ∧ i44 < (n41 : Int) ∧
          needPtr A41 fun b54_1 o54_1 =>
          (∃ (A45_1 : Option Addr) (n45_1 c45_1 : Nat),
            w_8.cell? ⟨a5, 0, none⟩ = some (.slice A45_1 n45_1 c45_1) ∧
            canStore w_8 b54_1 (o54_1 + i44.toNat * 1) 1 ∧
            let w_9 : World := setCs w_8 b54_1 (o54_1 + i44.toNat * 1) [.int .i64 i25];
            (0 : Int) ≤ i49 ∧ i49 < (n45_1 : Int) ∧
            needPtr A45_1 fun b55_1 o55_1 =>
            canStore w_9 b55_1 (o55_1 + i49.toNat * 1) 1 ∧
            let w_10 : World := setCs w_9 b55_1 (o55_1 + i49.toNat * 1) [.int .i64 x53_1];
            let i56_1 : Int := IntKind.i64.wrap (x15 + 1);
            ([.int .i64 xa1, .func (.func a2) #[] cap2, .pointer (some ⟨a3, 0, none⟩), .pointer (some ⟨a4, 0, none⟩), .pointer (some ⟨a5, 0, none⟩), .slice Aa0 na0 ca0, .int .i64 (na0 : Int)] : List Value) = ([.int .i64 xa1, .func (.func a2) #[] cap2, .pointer (some ⟨a3, 0, none⟩), .pointer (some ⟨a4, 0, none⟩), .pointer (some ⟨a5, 0, none⟩), .slice Aa0 na0 ca0, .int .i64 (na0 : Int)] : List Value) ∧ ∃ m, m < r ∧ I i56_1 w_10 m) ∧
          (canStore w_8 b54_1 (o54_1 + i44.toNat * 1) 1 ∧
            let w_11 : World := setCs w_8 b54_1 (o54_1 + i44.toNat * 1) [.int .i64 i25];
            ∃ (A45_2 : Option Addr) (n45_2 c45_2 : Nat),
            w_11.cell? ⟨a5, 0, none⟩ = some (.slice A45_2 n45_2 c45_2) ∧
            (0 : Int) ≤ i49 ∧ i49 < (n45_2 : Int) ∧
            needPtr A45_2 fun b55_2 o55_2 =>
            canStore w_11 b55_2 (o55_2 + i49.toNat * 1) 1 ∧
            let w_12 : World := setCs w_11 b55_2 (o55_2 + i49.toNat * 1) [.int .i64 x53_1];
            let i56_2 : Int := IntKind.i64.wrap (x15 + 1);
            ([.int .i64 xa1, .func (.func a2) #[] cap2, .pointer (some ⟨a3, 0, none⟩), .pointer (some ⟨a4, 0, none⟩), .pointer (some ⟨a5, 0, none⟩), .slice Aa0 na0 ca0, .int .i64 (na0 : Int)] : List Value) = ([.int .i64 xa1, .func (.func a2) #[] cap2, .pointer (some ⟨a3, 0, none⟩), .pointer (some ⟨a4, 0, none⟩), .pointer (some ⟨a5, 0, none⟩), .slice Aa0 na0 ca0, .int .i64 (na0 : Int)] : List Value) ∧ ∃ m, m < r ∧ I i56_2 w_12 m) ∧ True) ∧ True) ∧
      (∃ (A45_3 : Option Addr) (n45_3 c45_3 : Nat),
        w_4.cell? ⟨a5, 0, none⟩ = some (.slice A45_3 n45_3 c45_3) ∧
        (∃ (A41_1 : Option Addr) (n41_1 c41_1 : Nat),
          w_4.cell? ⟨a5, 0, none⟩ = some (.slice A41_1 n41_1 c41_1) ∧
          callT Try.prog (.func (.func a2) #[] cap2) #[.int .i64 x15] w_4.drew fun e_5 w_13 =>
          ∃ (x53_2 : Int),
          e_5 = .returned (.int .i64 x53_2) ∧
          (0 : Int) ≤ i44 ∧ i44 < (n41_1 : Int) ∧
          needPtr A41_1 fun b54_2 o54_2 =>
          canStore w_13 b54_2 (o54_2 + i44.toNat * 1) 1 ∧
          let w_14 : World := setCs w_13 b54_2 (o54_2 + i44.toNat * 1) [.int .i64 i25];
          (0 : Int) ≤ i49 ∧ i49 < (n45_3 : Int) ∧
          needPtr A45_3 fun b55_3 o55_3 =>
          canStore w_14 b55_3 (o55_3 + i49.toNat * 1) 1 ∧
          let w_15 : World := setCs w_14 b55_3 (o55_3 + i49.toNat * 1) [.int .i64 x53_2];
          let i56_3 : Int := IntKind.i64.wrap (x15 + 1);
          ([.int .i64 xa1, .func (.func a2) #[] cap2, .pointer (some ⟨a3, 0, none⟩), .pointer (some ⟨a4, 0, none⟩), .pointer (some ⟨a5, 0, none⟩), .slice Aa0 na0 ca0, .int .i64 (na0 : Int)] : List Value) = ([.int .i64 xa1, .func (.func a2) #[] cap2, .pointer (some ⟨a3, 0, none⟩), .pointer (some ⟨a4, 0, none⟩), .pointer (some ⟨a5, 0, none⟩), .slice Aa0 na0 ca0, .int .i64 (na0 : Int)] : List Value) ∧ ∃ m, m < r ∧ I i56_3 w_15 m) ∧
        (callT Try.prog (.func (.func a2) #[] cap2) #[.int .i64 x15] w_4.drew fun e_6 w_16 =>
          ∃ (x53_3 : Int),
          e_6 = .returned (.int .i64 x53_3) ∧
          ∃ (A41_2 : Option Addr) (n41_2 c41_2 : Nat),
          w_16.cell? ⟨a5, 0, none⟩ = some (.slice A41_2 n41_2 c41_2) ∧
          (0 : Int) ≤ i44 ∧ i44 < (n41_2 : Int) ∧
          needPtr A41_2 fun b54_3 o54_3 =>
          canStore w_16 b54_3 (o54_3 + i44.toNat * 1) 1 ∧
          let w_17 : World := setCs w_16 b54_3 (o54_3 + i44.toNat * 1) [.int .i64 i25];
          (0 : Int) ≤ i49 ∧ i49 < (n45_3 : Int) ∧
          needPtr A45_3 fun b55_4 o55_4 =>
          canStore w_17 b55_4 (o55_4 + i49.toNat * 1) 1 ∧
          let w_18 : World := setCs w_17 b55_4 (o55_4 + i49.toNat * 1) [.int .i64 x53_3];
          let i56_4 : Int := IntKind.i64.wrap (x15 + 1);
          ([.int .i64 xa1, .func (.func a2) #[] cap2, .pointer (some ⟨a3, 0, none⟩), .pointer (some ⟨a4, 0, none⟩), .pointer (some ⟨a5, 0, none⟩), .slice Aa0 na0 ca0, .int .i64 (na0 : Int)] : List Value) = ([.int .i64 xa1, .func (.func a2) #[] cap2, .pointer (some ⟨a3, 0, none⟩), .pointer (some ⟨a4, 0, none⟩), .pointer (some ⟨a5, 0, none⟩), .slice Aa0 na0 ca0, .int .i64 (na0 : Int)] : List Value) ∧ ∃ m, m < r ∧ I i56_4 w_18 m) ∧ True) ∧
      (callT Try.prog (.func (.func a2) #[] cap2) #[.int .i64 x15] w_4.drew fun e_7 w_19 =>
        ∃ (x53_4 : Int),
        e_7 = .returned (.int .i64 x53_4) ∧
        ∃ (A41_3 : Option Addr) (n41_3 c41_3 : Nat),
        w_19.cell? ⟨a5, 0, none⟩ = some (.slice A41_3 n41_3 c41_3) ∧
        (0 : Int) ≤ i44 ∧ i44 < (n41_3 : Int) ∧
        needPtr A41_3 fun b54_4 o54_4 =>
        (∃ (A45_4 : Option Addr) (n45_4 c45_4 : Nat),
          w_19.cell? ⟨a5, 0, none⟩ = some (.slice A45_4 n45_4 c45_4) ∧
          canStore w_19 b54_4 (o54_4 + i44.toNat * 1) 1 ∧
          let w_20 : World := setCs w_19 b54_4 (o54_4 + i44.toNat * 1) [.int .i64 i25];
          (0 : Int) ≤ i49 ∧ i49 < (n45_4 : Int) ∧
          needPtr A45_4 fun b55_5 o55_5 =>
          canStore w_20 b55_5 (o55_5 + i49.toNat * 1) 1 ∧
          let w_21 : World := setCs w_20 b55_5 (o55_5 + i49.toNat * 1) [.int .i64 x53_4];
          let i56_5 : Int := IntKind.i64.wrap (x15 + 1);
          ([.int .i64 xa1, .func (.func a2) #[] cap2, .pointer (some ⟨a3, 0, none⟩), .pointer (some ⟨a4, 0, none⟩), .pointer (some ⟨a5, 0, none⟩), .slice Aa0 na0 ca0, .int .i64 (na0 : Int)] : List Value) = ([.int .i64 xa1, .func (.func a2) #[] cap2, .pointer (some ⟨a3, 0, none⟩), .pointer (some ⟨a4, 0, none⟩), .pointer (some ⟨a5, 0, none⟩), .slice Aa0 na0 ca0, .int .i64 (na0 : Int)] : List Value) ∧ ∃ m, m < r ∧ I i56_5 w_21 m) ∧
        (canStore w_19 b54_4 (o54_4 + i44.toNat * 1) 1 ∧
          let w_22 : World := setCs w_19 b54_4 (o54_4 + i44.toNat * 1) [.int .i64 i25];
          ∃ (A45_5 : Option Addr) (n45_5 c45_5 : Nat),
          w_22.cell? ⟨a5, 0, none⟩ = some (.slice A45_5 n45_5 c45_5) ∧
          (0 : Int) ≤ i49 ∧ i49 < (n45_5 : Int) ∧
          needPtr A45_5 fun b55_6 o55_6 =>
          canStore w_22 b55_6 (o55_6 + i49.toNat * 1) 1 ∧
          let w_23 : World := setCs w_22 b55_6 (o55_6 + i49.toNat * 1) [.int .i64 x53_4];
          let i56_6 : Int := IntKind.i64.wrap (x15 + 1);
          ([.int .i64 xa1, .func (.func a2) #[] cap2, .pointer (some ⟨a3, 0, none⟩), .pointer (some ⟨a4, 0, none⟩), .pointer (some ⟨a5, 0, none⟩), .slice Aa0 na0 ca0, .int .i64 (na0 : Int)] : List Value) = ([.int .i64 xa1, .func (.func a2) #[] cap2, .pointer (some ⟨a3, 0, none⟩), .pointer (some ⟨a4, 0, none⟩), .pointer (some ⟨a5, 0, none⟩), .slice Aa0 na0 ca0, .int .i64 (na0 : Int)] : List Value) ∧ ∃ m, m < r ∧ I i56_6 w_23 m) ∧ True) ∧ True)) (
    R (.tuple #[]) w_1)
theorem f49.eq (Aa0 : Option Addr) (na0 ca0 : Nat) (xa1 : Int) (a2 : Nat) (cap2 : Array Value) (a3 : Nat) (a4 : Nat) (a5 : Nat) (w : World) (R : Value → World → Prop) : f49.VC Aa0 na0 ca0 xa1 a2 cap2 a3 a4 a5 w R = funV Try.prog Try.f49 f49.AL f49.AC #[.slice Aa0 na0 ca0, .int .i64 xa1, .func (.func a2) #[] cap2, .pointer (some ⟨a3, 0, none⟩), .pointer (some ⟨a4, 0, none⟩), .pointer (some ⟨a5, 0, none⟩)] w R := by kernel_rfl
theorem f49.calls {Aa0 : Option Addr} {na0 ca0 : Nat} {xa1 : Int} {a2 : Nat} {cap2 : Array Value} {a3 : Nat} {a4 : Nat} {a5 : Nat} {w : World} {R : Value → World → Prop} (h : f49.VC Aa0 na0 ca0 xa1 a2 cap2 a3 a4 a5 w R) : Calls Try.prog 49 #[.slice Aa0 na0 ca0, .int .i64 xa1, .func (.func a2) #[] cap2, .pointer (some ⟨a3, 0, none⟩), .pointer (some ⟨a4, 0, none⟩), .pointer (some ⟨a5, 0, none⟩)] w fun e w' => ∃ v, e = .returned v ∧ R v w' :=
  funV_sound (fn := Try.f49) (AL := f49.AL) (AC := f49.AC) W10.mixed (by kernel_rfl) (by rw [← f49.eq Aa0 na0 ca0 xa1 a2 cap2 a3 a4 a5]; exact h)

end Go.Proofs.Ytjmlfknogjaemaa
/- Page: a key is put into a table: the document's and the program's. -/
set_option linter.unusedVariables false
set_option linter.unusedSimpArgs false
set_option maxRecDepth 10000
namespace Go.Proofs.Ytjmlfknogjaemaa
open Go Go.Proofs.Ytjmlfknogjaemaa.Vc
namespace PG
open Vc.PG NI
abbrev ints (v : Value) (l : List Int) : Chunk := Chunk.ls encN 3 v l
abbrev tabB (t : Nat) (K N : Sl) : Chunk := Chunk.blk t #[K.v, N.v] 89
theorem map_fst (Z : List Pz) (i : Nat) (hi : i < Z.length) : (Z.map (·.1)).getD i 0 = (Z.getD i pz0).1 := by
  simp [List.getD_eq_getElem?_getD, hi]
theorem put_fst (Z : List Pz) (k n : Int) : (Z.map (·.1)).set (placeZ Z k) k = (putZ Z k n).map (·.1) := by
  unfold putZ; rw [List.map_set]
theorem put_snd (Z : List Pz) (k n : Int) : (Z.map (·.2)).set (placeZ Z k) n = (putZ Z k n).map (·.2) := by
  unfold putZ; rw [List.map_set]
/-- A search for an empty place goes on. -/
theorem free_step {Z : List Pz} (h : fullN Z < Z.length) {f j r : Nat} (hjr : j + r = Z.length) (hno : ∀ n, n < j → (Z.getD ((f + n) % Z.length) pz0).1 ≠ 0) : 0 < r := by
  obtain ⟨n, hn, he⟩ := empty_of h f
  rcases Nat.eq_zero_or_pos r with h0 | h0
  · exact absurd he (hno n (by omega))
  · exact h0
theorem putR {S : List Nat} {w0 w : World} {L : List Chunk} {t : Nat} {K N : Sl} {Z : List Pz} (h : St S w0 w (tabB t K N :: ints K.v (Z.map (·.1)) :: ints N.v (Z.map (·.2)) :: L)) (hf : fullN Z < Z.length) (hz : Z.length ≤ 4096) (key num : Int) :
    Calls Try.prog 45 #[.pointer (some ⟨t, 0, none⟩), .int .i64 key, .int .i64 num] w fun e w' => e = .returned (.tuple #[]) ∧ St S w0 w' (tabB t K N :: ints K.v ((putZ Z key num).map (·.1)) :: ints N.v ((putZ Z key num).map (·.2)) :: L) := by
  refine Calls.mono (f45.calls (R := fun v w' => v = .tuple #[] ∧ St S w0 w' (tabB t K N :: ints K.v ((putZ Z key num).map (·.1)) :: ints N.v ((putZ Z key num).map (·.2)) :: L)) ?_) ?_
  · dsimp only [f45.VC]
    have hK := h.lsLen 1 rfl
    have hN := h.lsLen 2 rfl
    rw [List.length_map] at hK hN
    refine ⟨_, _, _, (h.blk 0 rfl).cell rfl, ?_⟩
    rw [hK]
    refine Calls.mono (hashR w key Z.length (by omega)) ?_
    rintro _ w1 ⟨rfl, hf1⟩
    have hS := h.go hf1
    have hfl := kfirst_lt key (t := Z.length) (by omega)
    have hfe := kfirst_eq key (t := Z.length)
    have hp : placeZ Z key = freeAt Z (kfirst key Z.length) 0 Z.length := rfl
    obtain ⟨hp1, hp2⟩ := place_empty hf key
    rw [← hfe]
    generalize kfirst key Z.length = f at *
    refine ⟨_, rfl, fun x w' r => w' = w1 ∧ ∃ j : Nat, x = (((f + j) % Z.length : Nat) : Int) ∧ j + r = Z.length ∧ freeAt Z f j r = placeZ Z key ∧ ∀ n, n < j → (Z.getD ((f + n) % Z.length) pz0).1 ≠ 0, ⟨Z.length, rfl, 0, by rw [Nat.add_zero, Nat.mod_eq_of_lt hfl], by omega, hp.symm, fun n hn => by omega⟩, ?_⟩
    rintro d x w2 r ⟨rfl, j, rfl, hjr, hgo, hno⟩
    have hr := free_step hf hjr hno
    obtain ⟨r, rfl⟩ : ∃ r', r = r' + 1 := ⟨r - 1, by omega⟩
    have hm : (f + j) % Z.length < Z.length := Nat.mod_lt _ (by omega)
    rw [freeAt] at hgo
    obtain ⟨g, hg, hc⟩ := hS.lsGet 0 1 rfl (by omega)
    have hcc := hc _ (show (f + j) % Z.length < K.2.1 by omega)
    rw [map_fst _ _ hm] at hcc
    rw [step_mod f j Z.length (by omega) (by omega) hfl]
    refine ⟨_, _, _, (hS.blk 0 rfl).cell rfl, by omega, by omega, needPtr_of hg ⟨_, by rw [Nat.mul_one, Int.toNat_natCast, Nat.zero_add]; exact hcc, sel_of (fun hd => ?_) (fun hd => ?_)⟩⟩
    · have hd : (Z.getD ((f + j) % Z.length) pz0).1 ≠ 0 := bne_iff_ne.1 hd
      rw [if_neg hd] at hgo
      refine ⟨by omega, rfl, r, by omega, rfl, j + 1, rfl, by omega, hgo, fun n hn => ?_⟩
      rcases Nat.lt_or_ge n j with h1 | h1
      · exact hno n h1
      · have : n = j := by omega
        subst this; exact hd
    · have hd : (Z.getD ((f + j) % Z.length) pz0).1 = 0 := bne_eq_false_iff_eq.1 hd
      rw [if_pos hd] at hgo
      rw [hgo] at hm ⊢
      obtain ⟨g1, hg1, hc1, hS1⟩ := hS.lsSet 1 rfl (k := placeZ Z key) (by simpa using hm) key
      have hS1 : St S w0 _ (tabB t K N :: ints K.v ((Z.map (·.1)).set (placeZ Z key) key) :: ints N.v (Z.map (·.2)) :: L) := hS1
      obtain ⟨g2, hg2, hc2, hS2⟩ := hS1.lsSet 2 rfl (k := placeZ Z key) (by simpa using hm) num
      have hS2 : St S w0 _ (tabB t K N :: ints K.v ((Z.map (·.1)).set (placeZ Z key) key) :: ints N.v ((Z.map (·.2)).set (placeZ Z key) num) :: L) := hS2
      rw [put_fst Z key num, put_snd] at hS2
      have e0 : 0 + ((placeZ Z key : Nat) : Int).toNat * 1 = placeZ Z key := by simp
      refine ⟨_, _, _, (hS.blk 0 rfl).cell rfl, by omega, by omega, needPtr_of hg1 ?_⟩
      rw [e0]
      refine ⟨hc1, _, _, _, (hS1.blk 0 rfl).cell rfl, by omega, by omega, needPtr_of hg2 ?_⟩
      rw [e0]
      exact ⟨hc2, rfl, hS2⟩
  · rintro e w' ⟨v, rfl, rfl, h⟩; exact ⟨rfl, h⟩
theorem num_le (l : List ByteArray) (s : ByteArray) : IX.num l s ≤ l.length := by
  unfold IX.num
  cases hx : l.findIdx? (fun x => decide (x = s)) with
  | none => simp
  | some j =>
    obtain ⟨hj, _⟩ := List.findIdx?_eq_some_iff_getElem.mp hx
    exact hj
theorem ofN_le {l : List ByteArray} (h : l.length ≤ 1048576) (s : ByteArray) : IX.ofN l s ≤ 1048576 := by
  have := num_le l s
  unfold IX.ofN
  split
  · split
    · omega
    · omega
  · omega
theorem ens_take {l : List ByteArray} {k : Int} {n : List Int} (hl : l.length = n.length) {i : Nat} (hi : i < l.length) : (ensOf l k n).take (i + 1) = (ensOf l k n).take i ++ [(l.getD i ByteArray.empty, k, n.getD i 0)] := by
  have h1 : i < (ensOf l k n).length := by simp [ensOf]; omega
  rw [List.take_succ_eq_append_getElem h1]
  congr 2
  simp [ensOf, List.getD_eq_getElem?_getD, hi, show i < n.length by omega]
theorem layGo_snoc (es : List En) (e : En) (s : List ByteArray × List Pz) : layGo (es ++ [e]) s = layStep (layGo es s) e := by
  simp [layGo, List.foldl_append]
abbrev pgK (a5 a4 a3 x : Nat) (P : Sl) (t : Nat) (W : List Int) (l : List ByteArray) (L : List Chunk) : List Chunk :=
  Chunk.blk a5 #[P.v] 26 :: ints P.v W :: Chunk.blk a4 #[.int .i64 (t : Int)] 3 :: Chunk.blk a3 #[.pointer (some ⟨x, 0, none⟩)] 30 :: idxC x l :: L
theorem putC {S : List Nat} {w0 w : World} {L : List Chunk} {a5 a4 a3 x t f n c : Nat} {cap : Array Value} {P : Sl} {hd : List Int} {Z : List Pz} {l names : List ByteArray} {nums : List Int} {k : Nat} {A : Option Addr}
    (h : St S w0 w (pgK a5 a4 a3 x P t (pageZ hd Z) l L)) (hhd : hd.length = 4) (hZ : Z.length = t) (hp : powB (t : Int) = true) (ht : t ≤ 512) (hfull : fullN Z + names.length < t) (hl : l.length ≤ 1048576) (hk : 1 ≤ k ∧ k < 4)
    (hT : ∀ w', Fr S w0 w' → InX w' A n names) (hnl : names.length = nums.length)
    (hnum : ∀ w' l' W' i, St S w0 w' (pgK a5 a4 a3 x P t W' l' L) → i < n → callT Try.prog (.func (.func f) #[] cap) #[.int .i64 (i : Int)] w' fun e w'' => e = .returned (.int .i64 (nums.getD i 0)) ∧ w'' = w') :
    Calls Try.prog 49 #[.slice A n c, .int .i64 (k : Int), .func (.func f) #[] cap, .pointer (some ⟨a3, 0, none⟩), .pointer (some ⟨a4, 0, none⟩), .pointer (some ⟨a5, 0, none⟩)] w fun e w' => e = .returned (.tuple #[]) ∧
      St S w0 w' (pgK a5 a4 a3 x P t (pageZ hd (layGo (ensOf names k nums) (l, Z)).2) (layGo (ensOf names k nums) (l, Z)).1 L) := by
  refine Calls.mono (f49.calls (R := fun v w' => v = .tuple #[] ∧ St S w0 w' (pgK a5 a4 a3 x P t (pageZ hd (layGo (ensOf names k nums) (l, Z)).2) (layGo (ensOf names k nums) (l, Z)).1 L)) ?_) ?_
  · dsimp only [f49.VC]
    have hn := (hT w h.frame).1
    refine ⟨fun y w' r => ∃ i : Nat, y = (i : Int) ∧ i + r = n ∧ ∃ li Zi, layGo ((ensOf names k nums).take i) (l, Z) = (li, Zi) ∧ St S w0 w' (pgK a5 a4 a3 x P t (pageZ hd Zi) li L) ∧ Zi.length = t ∧ fullN Zi = fullN Z + i ∧ li.length ≤ 1048576, ⟨n, 0, rfl, by omega, l, Z, rfl, h, hZ, rfl, hl⟩, ?_⟩
    rintro d y w1 r ⟨i, rfl, hir, li, Zi, hgo, hS, hZi, hfi, hli⟩
    refine sel_of (fun hd' => ?_) (fun hd' => ?_)
    · have hi : i < n := by have := of_decide_eq_true hd'; omega
      have hst := layGo_snoc ((ensOf names k nums).take i) (names.getD i ByteArray.empty, (k : Int), nums.getD i 0) (l, Z)
      rw [← ens_take hnl (by omega), hgo] at hst
      refine ⟨by omega, by omega, InX.need (hT w1 hS.frame) rfl hi ?_⟩
      generalize names.getD i ByteArray.empty = s at *
      refine ⟨_, (hS.blk 3 rfl).cell rfl, ?_⟩
      refine Calls.mono (NI.of hS 4 rfl hli s) ?_
      rintro _ w2 ⟨rfl, hS⟩
      have hS : St S w0 w2 (pgK a5 a4 a3 x P t (pageZ hd Zi) (IX.of li s) L) := hS
      have hof := ofN_le hli s
      have hkey := key_or hof hk.2
      refine ⟨_, rfl, by omega, ?_⟩
      rw [hkey]
      unfold layStep at hst
      dsimp only at hst
      have hkz : ((IX.ofN li s * 4 + k : Nat) : Int) = (IX.ofN li s : Int) * 4 + (k : Int) := by omega
      rw [← hkz] at hst
      have hk0 : ((IX.ofN li s * 4 + k : Nat) : Int) ≠ 0 := by omega
      generalize ((IX.ofN li s * 4 + k : Nat) : Int) = key at *
      refine ⟨_, (hS.blk 2 rfl).cell rfl, ?_⟩
      refine Calls.mono (hashP w2 key t (by omega)) ?_
      rintro _ w3 ⟨rfl, hf3⟩
      have hS := hS.go hf3
      have hfl := kfirst_lt key (t := t) (by omega)
      have hfe := kfirst_eq key (t := t)
      have hfz : fullN Zi < Zi.length := by omega
      have hpl : placeZ Zi key = freeAt Zi (kfirst key t) 0 t := by unfold placeZ; rw [hZi]
      obtain ⟨hp1, hp2⟩ := place_empty hfz key
      rw [← hfe]
      generalize kfirst key t = ff at *
      have hPn := hS.lsLen 1 rfl
      rw [pageZ_len hhd, hZi] at hPn
      refine ⟨_, rfl, fun y w' r => w' = w3 ∧ ∃ j : Nat, y = (((ff + j) % t : Nat) : Int) ∧ j + r = t ∧ freeAt Zi ff j r = placeZ Zi key ∧ ∀ n, n < j → (Zi.getD ((ff + n) % t) pz0).1 ≠ 0, ⟨t, rfl, 0, by rw [Nat.add_zero, Nat.mod_eq_of_lt hfl], by omega, hpl.symm, fun n hn => by omega⟩, ?_⟩
      rintro d y w4 q ⟨rfl, j, rfl, hjq, hgo2, hno⟩
      have hq := free_step hfz (f := ff) (j := j) (r := q) (by omega) (by rw [hZi]; exact hno)
      obtain ⟨q, rfl⟩ : ∃ q', q = q' + 1 := ⟨q - 1, by omega⟩
      have hm : (ff + j) % t < t := Nat.mod_lt _ (by omega)
      rw [freeAt, hZi] at hgo2
      obtain ⟨g, hg, hc⟩ := hS.lsGet 0 1 rfl (by omega)
      have hcc := hc _ (show 4 + 2 * ((ff + j) % t) < P.2.1 by omega)
      rw [pageZ_fst hhd (by omega)] at hcc
      have e1 : IntKind.i64.wrap (4 + IntKind.i64.wrap (2 * (((ff + j) % t : Nat) : Int))) = ((4 + 2 * ((ff + j) % t) : Nat) : Int) := by rw [i64_id (x := 2 * _) (by omega) (by omega), i64_id (by omega) (by omega)]; omega
      have e2 : IntKind.i64.wrap (((4 + 2 * ((ff + j) % t) : Nat) : Int) + 1) = ((4 + 2 * ((ff + j) % t) + 1 : Nat) : Int) := by rw [i64_id (by omega) (by omega)]; omega
      rw [e1, e2]
      refine ⟨_, _, _, (hS.blk 0 rfl).cell rfl, by omega, by omega, needPtr_of hg ⟨_, by rw [Nat.mul_one, Int.toNat_natCast, Nat.zero_add]; exact hcc, sel_of (fun hd2 => ?_) (fun hd2 => ?_)⟩⟩
      · have hd2 : (Zi.getD ((ff + j) % t) pz0).1 ≠ 0 := bne_iff_ne.1 hd2
        rw [if_neg hd2] at hgo2
        have e3 : bitsI .and .i64 (IntKind.i64.wrap ((((ff + j) % t : Nat) : Int) + 1)) (IntKind.i64.wrap ((t : Int) - 1)) = (((ff + (j + 1)) % t : Nat) : Int) := by
          rw [i64_id (x := (((ff + j) % t : Nat) : Int) + 1) (by omega) (by omega), i64_id (x := (t : Int) - 1) (by omega) (by omega)]
          have := and_pow (t := t) (a := (ff + j) % t + 1) hp ht (by omega)
          rw [show (((ff + j) % t : Nat) : Int) + 1 = (((ff + j) % t + 1 : Nat) : Int) by omega, this]
          congr 1
          rw [show ff + (j + 1) = ff + j + 1 by omega, Nat.add_mod (ff + j) 1 t, Nat.add_mod ((ff + j) % t) 1 t, Nat.mod_mod]
        refine ⟨_, (hS.blk 2 rfl).cell rfl, ?_⟩
        rw [e3]
        refine ⟨rfl, q, by omega, rfl, j + 1, rfl, by omega, hgo2, fun n hn => ?_⟩
        rcases Nat.lt_or_ge n j with h1 | h1
        · exact hno n h1
        · have : n = j := by omega
          subst this; exact hd2
      · have hd2 : (Zi.getD ((ff + j) % t) pz0).1 = 0 := bne_eq_false_iff_eq.1 hd2
        rw [if_pos hd2] at hgo2
        rw [hgo2] at hm ⊢
        have hfull2 := putZ_full hfz hk0 (nums.getD i 0)
        have hcall := hnum w4.drew _ _ i hS.drew hi
        have hSd := hS.drew
        obtain ⟨g1, hg1, hc1, hS1⟩ := hSd.lsSet 1 rfl (k := 4 + 2 * placeZ Zi key) (by rw [pageZ_len hhd]; omega) key
        obtain ⟨g2, hg2, hc2, hS2⟩ := hS1.lsSet 1 rfl (k := 4 + 2 * placeZ Zi key + 1) (by rw [List.length_set, pageZ_len hhd]; omega) (nums.getD i 0)
        rw [hg1] at hg2
        injection hg2 with hg2
        injection hg2 with hg2 _ _
        subst hg2
        have hS2 : St S w0 (setCs (setCs w4.drew g1 (4 + 2 * placeZ Zi key) [encN key]) g1 (4 + 2 * placeZ Zi key + 1) [encN (nums.getD i 0)]) (pgK a5 a4 a3 x P t (((pageZ hd Zi).set (4 + 2 * placeZ Zi key) key).set (4 + 2 * placeZ Zi key + 1) (nums.getD i 0)) (IX.of li s) L) := hS2
        rw [show ((pageZ hd Zi).set (4 + 2 * placeZ Zi key) key).set (4 + 2 * placeZ Zi key + 1) (nums.getD i 0) = pageZ hd (putZ Zi key (nums.getD i 0)) from pageZ_set hhd Zi (placeZ Zi key) (key, nums.getD i 0)] at hS2
        have e3 : 0 + ((4 + 2 * placeZ Zi key : Nat) : Int).toNat * 1 = 4 + 2 * placeZ Zi key := by rw [Int.toNat_natCast]; omega
        have e4 : 0 + ((4 + 2 * placeZ Zi key + 1 : Nat) : Int).toNat * 1 = 4 + 2 * placeZ Zi key + 1 := by rw [Int.toNat_natCast]; omega
        have e5 := inc i 1000000 (by omega) (by omega)
        have b1 : (0 : Int) ≤ ((4 + 2 * placeZ Zi key : Nat) : Int) := by omega
        have b2 : ((4 + 2 * placeZ Zi key : Nat) : Int) < (P.2.1 : Int) := by omega
        have b3 : (0 : Int) ≤ ((4 + 2 * placeZ Zi key + 1 : Nat) : Int) := by omega
        have b4 : ((4 + 2 * placeZ Zi key + 1 : Nat) : Int) < (P.2.1 : Int) := by omega
        have hfin : ∃ m, m < r ∧ ∃ i' : Nat, IntKind.i64.wrap ((i : Int) + 1) = (i' : Int) ∧ i' + m = n ∧ ∃ li' Zi', layGo ((ensOf names k nums).take i') (l, Z) = (li', Zi') ∧ St S w0 (setCs (setCs w4.drew g1 (4 + 2 * placeZ Zi key) [encN key]) g1 (4 + 2 * placeZ Zi key + 1) [encN (nums.getD i 0)]) (pgK a5 a4 a3 x P t (pageZ hd Zi') li' L) ∧ Zi'.length = t ∧ fullN Zi' = fullN Z + i' ∧ li'.length ≤ 1048576 :=
          ⟨r - 1, by omega, i + 1, e5, by omega, _, _, hst, hS2, by rw [putZ_len, hZi], by omega, of_le hli s⟩
        have hloadP : w4.cell? ⟨a5, 0, none⟩ = some P.v := (hS.blk 0 rfl).cell rfl
        have hloadD : w4.drew.cell? ⟨a5, 0, none⟩ = some P.v := (hSd.blk 0 rfl).cell rfl
        have hload1 : (setCs w4.drew g1 (4 + 2 * placeZ Zi key) [encN key]).cell? ⟨a5, 0, none⟩ = some P.v := (hS1.blk 0 rfl).cell rfl
        repeat' (first
          | exact trivial
          | exact ⟨rfl, hfin⟩
          | refine ⟨_, _, _, hloadP, ?_⟩
          | refine ⟨_, _, _, hloadD, ?_⟩
          | refine ⟨_, _, _, hload1, ?_⟩
          | (refine callT_mono hcall ?_
             rintro _ _ ⟨rfl, rfl⟩
             refine ⟨_, rfl, ?_⟩)
          | refine ⟨b1, b2, needPtr_of hg1 ?_⟩
          | refine ⟨b3, b4, needPtr_of hg1 ?_⟩
          | (rw [e3]; refine ⟨hc1, ?_⟩)
          | (rw [e4]; refine ⟨hc2, ?_⟩)
          | refine And.intro ?_ ?_
          | fail)
    · have hi : i = n := by have := of_decide_eq_false hd'; omega
      rw [List.take_of_length_le (by simp [ensOf]; omega)] at hgo
      rw [hgo]
      exact ⟨rfl, hS⟩
  · rintro e w' ⟨v, rfl, rfl, h⟩; exact ⟨rfl, h⟩
end PG
end Go.Proofs.Ytjmlfknogjaemaa
