/- Page: awake. -/
import Derived.Test.YtjmlfknogjaemaaM27
import Derived.Test.YtjmlfknogjaemaaM4
import Derived.Test.YtjmlfknogjaemaaProg
import Derived.KernelRfl
import Derived.Test.YtjmlfknogjaemaaM6
set_option linter.unusedVariables false
set_option linter.unusedSimpArgs false
set_option maxRecDepth 10000
namespace Go.Proofs.Ytjmlfknogjaemaa
open Go Go.Proofs.Ytjmlfknogjaemaa.Vc
namespace PG
open Vc.PG NI
theorem exW_le : ∀ i, exW.getD i 0 ≤ 9223372036854775807 := by
  intro i
  by_cases hi : i < 21
  · have : ∀ i : Fin 21, exW.getD i 0 ≤ 9223372036854775807 := by decide
    exact this ⟨i, hi⟩
  · rw [List.getD_eq_getElem?_getD, List.getElem?_eq_none (by simp [exW]; omega)]; decide
theorem awake (w : World) : Calls Try.prog 10 #[] w fun e w' => e = .returned (.bool true) ∧ Fr [] w w' := by
  refine Calls.mono (f10.calls (R := fun v w' => v = .bool true ∧ Fr [] w w') ?_) ?_
  · dsimp only [f10.VC]
    refine Calls.mono (NI.new (St.start w)) ?_
    rintro _ w1 ⟨x, rfl, hS1⟩
    refine ⟨_, rfl, sel_of (fun h => by cases h) (fun _ => ?_)⟩
    refine Calls.mono (smallC hS1) ?_
    rintro _ w2 ⟨v, rfl, hv, hS2⟩
    have hG2 : InG w2 v exG := hS2.says 0 rfl
    have hsz := sizeC hG2 ⟨by omega, by omega, by omega⟩
    rw [ex_size] at hsz
    refine ⟨_, _, _, _, _, _, _, _, _, _, _, _, _, _, _, _, _, _, rfl, ?_⟩
    refine Calls.mono (hS2.step0 hsz) ?_
    rintro _ w3 ⟨rfl, hS3⟩
    refine ⟨_, rfl, sel_of (fun h => by simp at h) (fun _ => ?_)⟩
    refine Calls.mono (smallC hS3) ?_
    rintro _ w4 ⟨u, rfl, hu, hS4⟩
    refine ⟨_, _, _, _, _, _, _, _, _, _, _, _, _, _, _, _, _, _, rfl, ?_⟩
    obtain ⟨F, hF, hG, hgr⟩ := hS4.graftW 2 rfl
    obtain ⟨G, hG4, hd⟩ := hG 0 _ (by decide) rfl
    have hlay := layC (St.start1 hF) (v := u) (g := exG) (fun w' hf => Chunk.keep_says (Chunk.fr _ hG4 hf hd)) (by simp) ⟨by omega, by omega, by omega⟩ 5
    rw [ex_lay] at hlay
    refine Calls.mono hlay ?_
    rintro _ w5 ⟨A, n, c, rfl, hS5⟩
    have hS6 := hgr (hS5.swap 0 1 rfl rfl)
    have hS6 : St [] w w5 [ints (.slice A n c) exW, gC u exG, gC v exG, idxC x exL] := hS6
    clear hS5 hlay hgr hG hF hG4
    refine ⟨_, _, _, _, rfl, sel_of (fun h => by cases h) (fun _ => ?_)⟩
    have hS7 := hS6.alloc (exW.map encN).toArray 3
    have hW7 : InW (w5.alloc (.cells (exW.map encN).toArray 3)) (some ⟨w5.heap.size, 0, none⟩) 21 exW := by
      obtain ⟨F, hF, _⟩ := hS7.at 0 rfl
      have := Chunk.ls_says 0 (ls_of_blk (l := exW) (enc := encN) (by decide) hF)
      exact ⟨this.1, this.2.2⟩
    have hn : n = 21 := hS6.lsLen 0 rfl
    subst hn
    refine Calls.mono (hS7.step0 (sameC (St.inI hS7 1 rfl) hW7 (by decide))) ?_
    rintro _ w7 ⟨rfl, hS8⟩
    refine ⟨_, rfl, sel_of (fun h => by simp at h) (fun _ => ?_)⟩
    have d1 := decC (St.inI hS8 1 rfl) (c := c) (by decide) 2 3 1
    rw [ex_dec1] at d1
    refine Calls.mono (hS8.step0 d1) ?_
    rintro _ w8 ⟨rfl, hS9⟩
    refine ⟨_, _, rfl, ?_⟩
    have d2 := decC (St.inI hS9 1 rfl) (c := c) (by decide) 2 3 2
    rw [ex_dec2] at d2
    refine Calls.mono (hS9.step0 d2) ?_
    rintro _ w9 ⟨rfl, hS10⟩
    refine ⟨_, _, rfl, ?_⟩
    have hrd := readC (St.inI hS10 1 rfl) (c := c) (idxAt hS10 4 rfl) (by decide) (by decide) exW_le
    refine Calls.mono hrd ?_
    obtain ⟨q1, q2, q3⟩ := ex_read
    rintro _ w10 ⟨_, rfl, g, rfl, hS11⟩
    rw [q1, q2]
    have hg : InG w10 g (readP exW exL).2.1 := hS11.says 0 rfl
    have hgs : g.s.2.1 = 1 := by rw [hg.s.1.1, q3]
    have hS12 := hS10.gone hS11
    have hS13 := hS12.alloc #[.slice none 0 0, .slice none 0 0, .slice none 0 0, .slice none 0 0, .slice none 0 0, .slice none 0 0] 29
    have hS14 := hS13.over 0 rfl [g.a.v, g.s.v, g.o.v, g.f.v, g.n.v, g.m.v] rfl
    refine ⟨_, _, _, _, _, _, _, _, _, _, _, _, _, _, _, _, _, _, _, _, rfl, (hS13.blk 0 rfl).can (by decide), ?_⟩
    refine sel_of (fun _ => sel_of (fun _ => sel_of (fun _ => sel_of (fun _ => sel_of (fun _ => sel_of (fun _ => ?_) (fun h => by simp at h)) (fun h => by simp at h)) (fun h => by simp at h)) (fun h => by simp at h)) (fun h => by simp at h)) (fun h => by simp at h)
    refine ⟨_, _, _, (hS14.blk 0 rfl).cell rfl, sel_of (fun _ => ?_) (fun h => by rw [hgs] at h; simp at h)⟩
    have hh := hashP (setCs (World.alloc w10 (.cells #[.slice none 0 0, .slice none 0 0, .slice none 0 0, .slice none 0 0, .slice none 0 0, .slice none 0 0] 29)) w10.heap.size 0 [g.a.v, g.s.v, g.o.v, g.f.v, g.n.v, g.m.v]) 9 8 (by decide)
    rw [ex_hash] at hh
    refine Calls.mono (hS14.step0 hh) ?_
    rintro _ w13 ⟨rfl, hS15⟩
    exact ⟨_, rfl, rfl, hS15.frame⟩
  · rintro e w' ⟨v, rfl, rfl, h⟩; exact ⟨rfl, h⟩
end PG
end Go.Proofs.Ytjmlfknogjaemaa
/- The plain statements of some functions, printed by vcgen.py. -/
set_option maxRecDepth 100000
set_option linter.unusedVariables false
namespace Go.Proofs.Ytjmlfknogjaemaa
open Go Go.Proofs.Ytjmlfknogjaemaa.Vc
/-- gatehouse/gatehouselaw12.PageAsked -/
def f5.AL : Nat → Option Ann := fun r => match r with | 5 => some ⟨[(7, .bool), (10, .int .i64)], [0, 1, 2, 8, 9]⟩ | 8 => some ⟨[(7, .bool), (11, .int .i64)], [0, 1, 2, 8, 9, 10]⟩ | 13 => some ⟨[(12, .int .i64)], [1, 2, 7, 9]⟩ | 18 => some ⟨[(7, .bool), (14, .int .i64)], [2, 9, 13]⟩ | _ => none
def f5.AC : Nat → Option Ann := fun r => match r with | 11 => some ⟨[(7, .bool)], [0, 1, 2, 8, 9]⟩ | 12 => some ⟨[(7, .bool)], [1, 2, 9]⟩ | 16 => some ⟨[], [2, 7, 9]⟩ | _ => none
end Go.Proofs.Ytjmlfknogjaemaa
/- Page: copied; the law PageAsked, the walk. -/
set_option linter.unusedVariables false
set_option linter.unusedSimpArgs false
set_option maxRecDepth 10000
namespace Go.Proofs.Ytjmlfknogjaemaa
open Go Go.Proofs.Ytjmlfknogjaemaa.Vc
namespace PG
open Vc.PG NI
/-- The marks behind a list. -/
def marksL (k : Nat) : List Int := (List.range k).map fun (i : Nat) => -7000 - (i : Int)
theorem marksL_succ (k : Nat) : marksL (k + 1) = marksL k ++ [-7000 - (k : Int)] := by
  unfold marksL
  rw [List.range_succ, List.map_append]; rfl
theorem marksL_len (k : Nat) : (marksL k).length = k := by simp [marksL]
theorem copiedC {S : List Nat} {w0 w : World} {L : List Chunk} (h : St S w0 w L) {A : Option Addr} {n c : Nat} {W : List Int} (hW : InW w A n W) (hn : n ≤ 3000000) (k : Nat) (hk : k ≤ 1000) :
    Calls Try.prog 24 #[.slice A n c, .int .i64 (k : Int)] w fun e w' => ∃ X : Sl, e = .returned X.v ∧ St S w0 w' (ints X.v (W ++ marksL k) :: L) := by
  refine Calls.mono (f24.calls (R := fun v w' => ∃ X : Sl, v = X.v ∧ St S w0 w' (ints X.v (W ++ marksL k) :: L)) ?_) ?_
  · dsimp only [f24.VC]
    have hl := hW.1
    obtain ⟨ti, i1, i2, i3, i4⟩ := info3
    obtain ⟨A1, n1, c1, w1, r1, hS1⟩ := St.appMany (ty := 26) 0 (enc := encN) (fun _ => rfl) under26 i1 i2 i3 rfl (by omega) (h.nil 3 1) 0 (l := []) rfl hW.1 hW.2 (c2 := c) (by simp; omega)
    refine ⟨A1, n1, c1, w1, r1, fun A5 n5 c5 x w' r => ∃ i : Nat, x = (i : Int) ∧ i + r = k ∧ St S w0 w' (ints (.slice A5 n5 c5) (W ++ marksL i) :: L), ⟨k, 0, rfl, by omega, by simpa [marksL] using hS1⟩, ?_⟩
    rintro d A5 n5 c5 x w2 r ⟨i, rfl, hir, hS⟩
    refine sel_of (fun hd => ?_) (fun hd => ?_)
    · have hi : i < k := by have := of_decide_eq_true hd; omega
      have hm := marksL_len i
      obtain ⟨A6, n6, c6, w3, r3, hS3⟩ := appI hS 0 rfl (-7000 - (i : Int)) (by simp [hm]; omega)
      rw [i64_id (x := -7000 - (i : Int)) (by omega) (by omega), inc i k (by omega) (by omega)]
      refine ⟨A6, n6, c6, w3, r3, rfl, r - 1, by omega, i + 1, rfl, by omega, ?_⟩
      rw [marksL_succ, ← List.append_assoc]
      exact hS3
    · have hi : i = k := by have := of_decide_eq_false hd; omega
      subst hi
      exact ⟨(A5, n5, c5), rfl, hS⟩
  · rintro e w' ⟨v, rfl, X, rfl, h⟩; exact ⟨X, rfl, h⟩
/-- Questions that are read. -/
def encK (x : Int × Int × Int × Int) : List Value := [.int .i64 x.1, .int .i64 x.2.1, .int .i64 x.2.2.1, .int .i8 x.2.2.2]
def InK (w : World) (A : Option Addr) (n : Nat) (l : List (Int × Int × Int × Int)) : Prop := InR w 4 A n (l.map encK)
theorem InK.fr {w w' : World} {A : Option Addr} {n : Nat} {l : List (Int × Int × Int × Int)} (h : InK w A n l) (hf : Fr [] w w') : InK w' A n l :=
  InR.fr (S := []) h (fun r hr => by obtain ⟨x, _, rfl⟩ := List.mem_map.1 hr; rfl) hf
end PG
end Go.Proofs.Ytjmlfknogjaemaa
/- The plain statements of some functions, printed by vcgen.py. -/
set_option maxRecDepth 100000
set_option linter.unusedVariables false
namespace Go.Proofs.Ytjmlfknogjaemaa
open Go Go.Proofs.Ytjmlfknogjaemaa.Vc
/-- gatehouse/gatehouselaw12.sameIndex -/
def f19.AL : Nat → Option Ann := fun r => match r with | 4 => some ⟨[(5, .int .i64)], [0, 1]⟩ | _ => none
def f19.AC : Nat → Option Ann := fun _ => none
/-- gatehouse/gatehouseref11.Same -/
def f22.AL : Nat → Option Ann := fun r => match r with | 4 => some ⟨[(5, .int .i64)], [2, 3]⟩ | _ => none
def f22.AC : Nat → Option Ann := fun _ => none
/-- gatehouse/gatehouseref11.texts -/
def f54.AL : Nat → Option Ann := fun r => match r with | 4 => some ⟨[(5, .int .i64)], [0, 1]⟩ | _ => none
def f54.AC : Nat → Option Ann := fun _ => none
/-- gatehouse/gatehouseref11.numbers -/
def f55.AL : Nat → Option Ann := fun r => match r with | 4 => some ⟨[(5, .int .i64)], [0, 1]⟩ | _ => none
def f55.AC : Nat → Option Ann := fun _ => none
end Go.Proofs.Ytjmlfknogjaemaa
/- Page: graphs and indexes that are alike. -/
set_option linter.unusedVariables false
set_option linter.unusedSimpArgs false
set_option maxRecDepth 10000
namespace Go.Proofs.Ytjmlfknogjaemaa
open Go Go.Proofs.Ytjmlfknogjaemaa.Vc
namespace PG
open Vc.PG NI
end PG
end Go.Proofs.Ytjmlfknogjaemaa
/- The plain statements of some functions, printed by vcgen.py. -/
set_option maxRecDepth 100000
set_option linter.unusedVariables false
namespace Go.Proofs.Ytjmlfknogjaemaa
open Go Go.Proofs.Ytjmlfknogjaemaa.Vc
theorem W22.mixed : Try.prog.follows .mixedOrders = true := by kernel_rfl
/-- gatehouse/gatehouselaw12.twin -/
def f15.AL : Nat → Option Ann := fun r => match r with | 3 => some ⟨[(4, .int .i64)], [1, 2, 3]⟩ | _ => none
def f15.AC : Nat → Option Ann := fun r => match r with | 2 => some ⟨[(3, .blk)], [1, 2]⟩ | 1000001 => some ⟨[], []⟩ | _ => none
def f15.VC (Aa0_0 : Option Addr) (na0_0 ca0_0 : Nat) (Aa0_1 : Option Addr) (na0_1 ca0_1 : Nat) (Aa0_2 : Option Addr) (na0_2 ca0_2 : Nat) (Aa0_3 : Option Addr) (na0_3 ca0_3 : Nat) (Aa0_4 : Option Addr) (na0_4 ca0_4 : Nat) (Aa0_5 : Option Addr) (na0_5 ca0_5 : Nat) (w : World) (R : Value → World → Prop) : Prop :=
  let w_1 : World := World.alloc w (.cells #[.slice Aa0_0 na0_0 ca0_0, .slice Aa0_1 na0_1 ca0_1, .slice Aa0_2 na0_2 ca0_2, .slice Aa0_3 na0_3 ca0_3, .slice Aa0_4 na0_4 ca0_4, .slice Aa0_5 na0_5 ca0_5] 29);
  let w_2 : World := World.alloc w_1 (.cells #[.slice none 0 0, .slice none 0 0, .slice none 0 0, .slice none 0 0, .slice none 0 0, .slice none 0 0] 29);
  ∃ M : Nat → Nat → World → Prop,
  (∃ (A7 : Option Addr) (n7 c7 : Nat),
  w_2.cell? ⟨w.heap.size, 0, none⟩ = some (.slice A7 n7 c7) ∧
  ∃ (A10 : Option Addr) (n10 c10 : Nat),
  w_2.cell? ⟨w.heap.size, 1, none⟩ = some (.slice A10 n10 c10) ∧
  ∃ (A13 : Option Addr) (n13 c13 : Nat),
  w_2.cell? ⟨w.heap.size, 2, none⟩ = some (.slice A13 n13 c13) ∧
  ∃ (A16 : Option Addr) (n16 c16 : Nat),
  w_2.cell? ⟨w.heap.size, 3, none⟩ = some (.slice A16 n16 c16) ∧
  ∃ (A19 : Option Addr) (n19 c19 : Nat),
  w_2.cell? ⟨w.heap.size, 4, none⟩ = some (.slice A19 n19 c19) ∧
  (Calls Try.prog 40 #[.slice A7 n7 c7] w_2.drew fun e_1 w_3 =>
  ∃ (A8 : Option Addr) (n8 c8 : Nat),
  e_1 = .returned (.slice A8 n8 c8) ∧
  (w_3.cell? ⟨w.heap.size, 4, none⟩ = some (.slice A19 n19 c19) ∧ w_3.cell? ⟨w.heap.size, 3, none⟩ = some (.slice A16 n16 c16) ∧ w_3.cell? ⟨w.heap.size, 2, none⟩ = some (.slice A13 n13 c13) ∧ w_3.cell? ⟨w.heap.size, 1, none⟩ = some (.slice A10 n10 c10) ∧ w_3.cell? ⟨w.heap.size, 0, none⟩ = some (.slice A7 n7 c7) ∧ True) ∧
  (Calls Try.prog 40 #[.slice A10 n10 c10] w_3 fun e_2 w_4 =>
  ∃ (A11 : Option Addr) (n11 c11 : Nat),
  e_2 = .returned (.slice A11 n11 c11) ∧
  (w_4.cell? ⟨w.heap.size, 4, none⟩ = some (.slice A19 n19 c19) ∧ w_4.cell? ⟨w.heap.size, 3, none⟩ = some (.slice A16 n16 c16) ∧ w_4.cell? ⟨w.heap.size, 2, none⟩ = some (.slice A13 n13 c13) ∧ w_4.cell? ⟨w.heap.size, 1, none⟩ = some (.slice A10 n10 c10) ∧ w_4.cell? ⟨w.heap.size, 0, none⟩ = some (.slice A7 n7 c7) ∧ True) ∧
  (Calls Try.prog 40 #[.slice A13 n13 c13] w_4 fun e_3 w_5 =>
  ∃ (A14 : Option Addr) (n14 c14 : Nat),
  e_3 = .returned (.slice A14 n14 c14) ∧
  (w_5.cell? ⟨w.heap.size, 4, none⟩ = some (.slice A19 n19 c19) ∧ w_5.cell? ⟨w.heap.size, 3, none⟩ = some (.slice A16 n16 c16) ∧ w_5.cell? ⟨w.heap.size, 2, none⟩ = some (.slice A13 n13 c13) ∧ w_5.cell? ⟨w.heap.size, 1, none⟩ = some (.slice A10 n10 c10) ∧ w_5.cell? ⟨w.heap.size, 0, none⟩ = some (.slice A7 n7 c7) ∧ True) ∧
  (Calls Try.prog 24 #[.slice A16 n16 c16, .int .i64 0] w_5 fun e_4 w_6 =>
  ∃ (A17 : Option Addr) (n17 c17 : Nat),
  e_4 = .returned (.slice A17 n17 c17) ∧
  (w_6.cell? ⟨w.heap.size, 4, none⟩ = some (.slice A19 n19 c19) ∧ w_6.cell? ⟨w.heap.size, 3, none⟩ = some (.slice A16 n16 c16) ∧ w_6.cell? ⟨w.heap.size, 2, none⟩ = some (.slice A13 n13 c13) ∧ w_6.cell? ⟨w.heap.size, 1, none⟩ = some (.slice A10 n10 c10) ∧ w_6.cell? ⟨w.heap.size, 0, none⟩ = some (.slice A7 n7 c7) ∧ True) ∧
  (Calls Try.prog 24 #[.slice A19 n19 c19, .int .i64 0] w_6 fun e_5 w_7 =>
  ∃ (A20 : Option Addr) (n20 c20 : Nat),
  e_5 = .returned (.slice A20 n20 c20) ∧
  (w_7.cell? ⟨w.heap.size, 4, none⟩ = some (.slice A19 n19 c19) ∧ w_7.cell? ⟨w.heap.size, 3, none⟩ = some (.slice A16 n16 c16) ∧ w_7.cell? ⟨w.heap.size, 2, none⟩ = some (.slice A13 n13 c13) ∧ w_7.cell? ⟨w.heap.size, 1, none⟩ = some (.slice A10 n10 c10) ∧ w_7.cell? ⟨w.heap.size, 0, none⟩ = some (.slice A7 n7 c7) ∧ True) ∧
  let w_8 : World := World.alloc w_7 (.cells #[.slice none 0 0, .slice none 0 0, .slice none 0 0, .slice none 0 0, .slice none 0 0, .slice none 0 0] 29);
  (w_8.cell? ⟨w.heap.size, 4, none⟩ = some (.slice A19 n19 c19) ∧ w_8.cell? ⟨w.heap.size, 3, none⟩ = some (.slice A16 n16 c16) ∧ w_8.cell? ⟨w.heap.size, 2, none⟩ = some (.slice A13 n13 c13) ∧ w_8.cell? ⟨w.heap.size, 1, none⟩ = some (.slice A10 n10 c10) ∧ w_8.cell? ⟨w.heap.size, 0, none⟩ = some (.slice A7 n7 c7) ∧ True) ∧
  canStore w_8 w_7.heap.size 0 6 ∧
  let w_9 : World := setCs w_8 w_7.heap.size 0 [.slice A8 n8 c8, .slice A11 n11 c11, .slice A14 n14 c14, .slice A17 n17 c17, .slice A20 n20 c20, .slice none 0 0];
  (w_9.cell? ⟨w.heap.size, 4, none⟩ = some (.slice A19 n19 c19) ∧ w_9.cell? ⟨w.heap.size, 3, none⟩ = some (.slice A16 n16 c16) ∧ w_9.cell? ⟨w.heap.size, 2, none⟩ = some (.slice A13 n13 c13) ∧ w_9.cell? ⟨w.heap.size, 1, none⟩ = some (.slice A10 n10 c10) ∧ w_9.cell? ⟨w.heap.size, 0, none⟩ = some (.slice A7 n7 c7) ∧ True) ∧
  ([.pointer (some ⟨w.heap.size, 0, none⟩), .pointer (some ⟨w_1.heap.size, 0, none⟩)] : List Value) = ([.pointer (some ⟨w.heap.size, 0, none⟩), .pointer (some ⟨w_1.heap.size, 0, none⟩)] : List Value) ∧ M w_7.heap.size 0 w_9) ∧
  (let w_10 : World := World.alloc w_6 (.cells #[.slice none 0 0, .slice none 0 0, .slice none 0 0, .slice none 0 0, .slice none 0 0, .slice none 0 0] 29);
  (w_10.cell? ⟨w.heap.size, 4, none⟩ = some (.slice A19 n19 c19) ∧ w_10.cell? ⟨w.heap.size, 3, none⟩ = some (.slice A16 n16 c16) ∧ w_10.cell? ⟨w.heap.size, 2, none⟩ = some (.slice A13 n13 c13) ∧ w_10.cell? ⟨w.heap.size, 1, none⟩ = some (.slice A10 n10 c10) ∧ w_10.cell? ⟨w.heap.size, 0, none⟩ = some (.slice A7 n7 c7) ∧ True) ∧
  Calls Try.prog 24 #[.slice A19 n19 c19, .int .i64 0] w_10 fun e_6 w_11 =>
  ∃ (A20_1 : Option Addr) (n20_1 c20_1 : Nat),
  e_6 = .returned (.slice A20_1 n20_1 c20_1) ∧
  (w_11.cell? ⟨w.heap.size, 4, none⟩ = some (.slice A19 n19 c19) ∧ w_11.cell? ⟨w.heap.size, 3, none⟩ = some (.slice A16 n16 c16) ∧ w_11.cell? ⟨w.heap.size, 2, none⟩ = some (.slice A13 n13 c13) ∧ w_11.cell? ⟨w.heap.size, 1, none⟩ = some (.slice A10 n10 c10) ∧ w_11.cell? ⟨w.heap.size, 0, none⟩ = some (.slice A7 n7 c7) ∧ True) ∧
  canStore w_11 w_6.heap.size 0 6 ∧
  let w_12 : World := setCs w_11 w_6.heap.size 0 [.slice A8 n8 c8, .slice A11 n11 c11, .slice A14 n14 c14, .slice A17 n17 c17, .slice A20_1 n20_1 c20_1, .slice none 0 0];
  (w_12.cell? ⟨w.heap.size, 4, none⟩ = some (.slice A19 n19 c19) ∧ w_12.cell? ⟨w.heap.size, 3, none⟩ = some (.slice A16 n16 c16) ∧ w_12.cell? ⟨w.heap.size, 2, none⟩ = some (.slice A13 n13 c13) ∧ w_12.cell? ⟨w.heap.size, 1, none⟩ = some (.slice A10 n10 c10) ∧ w_12.cell? ⟨w.heap.size, 0, none⟩ = some (.slice A7 n7 c7) ∧ True) ∧
  ([.pointer (some ⟨w.heap.size, 0, none⟩), .pointer (some ⟨w_1.heap.size, 0, none⟩)] : List Value) = ([.pointer (some ⟨w.heap.size, 0, none⟩), .pointer (some ⟨w_1.heap.size, 0, none⟩)] : List Value) ∧ M w_6.heap.size 0 w_12) ∧ True) ∧
  (let w_13 : World := World.alloc w_5 (.cells #[.slice none 0 0, .slice none 0 0, .slice none 0 0, .slice none 0 0, .slice none 0 0, .slice none 0 0] 29);
  (w_13.cell? ⟨w.heap.size, 4, none⟩ = some (.slice A19 n19 c19) ∧ w_13.cell? ⟨w.heap.size, 3, none⟩ = some (.slice A16 n16 c16) ∧ w_13.cell? ⟨w.heap.size, 2, none⟩ = some (.slice A13 n13 c13) ∧ w_13.cell? ⟨w.heap.size, 1, none⟩ = some (.slice A10 n10 c10) ∧ w_13.cell? ⟨w.heap.size, 0, none⟩ = some (.slice A7 n7 c7) ∧ True) ∧
  Calls Try.prog 24 #[.slice A16 n16 c16, .int .i64 0] w_13 fun e_7 w_14 =>
  ∃ (A17_1 : Option Addr) (n17_1 c17_1 : Nat),
  e_7 = .returned (.slice A17_1 n17_1 c17_1) ∧
  (w_14.cell? ⟨w.heap.size, 4, none⟩ = some (.slice A19 n19 c19) ∧ w_14.cell? ⟨w.heap.size, 3, none⟩ = some (.slice A16 n16 c16) ∧ w_14.cell? ⟨w.heap.size, 2, none⟩ = some (.slice A13 n13 c13) ∧ w_14.cell? ⟨w.heap.size, 1, none⟩ = some (.slice A10 n10 c10) ∧ w_14.cell? ⟨w.heap.size, 0, none⟩ = some (.slice A7 n7 c7) ∧ True) ∧
  Calls Try.prog 24 #[.slice A19 n19 c19, .int .i64 0] w_14 fun e_8 w_15 =>
  ∃ (A20_2 : Option Addr) (n20_2 c20_2 : Nat),
  e_8 = .returned (.slice A20_2 n20_2 c20_2) ∧
  (w_15.cell? ⟨w.heap.size, 4, none⟩ = some (.slice A19 n19 c19) ∧ w_15.cell? ⟨w.heap.size, 3, none⟩ = some (.slice A16 n16 c16) ∧ w_15.cell? ⟨w.heap.size, 2, none⟩ = some (.slice A13 n13 c13) ∧ w_15.cell? ⟨w.heap.size, 1, none⟩ = some (.slice A10 n10 c10) ∧ w_15.cell? ⟨w.heap.size, 0, none⟩ = some (.slice A7 n7 c7) ∧ True) ∧
  canStore w_15 w_5.heap.size 0 6 ∧
  let w_16 : World := setCs w_15 w_5.heap.size 0 [.slice A8 n8 c8, .slice A11 n11 c11, .slice A14 n14 c14, .slice A17_1 n17_1 c17_1, .slice A20_2 n20_2 c20_2, .slice none 0 0];
  (w_16.cell? ⟨w.heap.size, 4, none⟩ = some (.slice A19 n19 c19) ∧ w_16.cell? ⟨w.heap.size, 3, none⟩ = some (.slice A16 n16 c16) ∧ w_16.cell? ⟨w.heap.size, 2, none⟩ = some (.slice A13 n13 c13) ∧ w_16.cell? ⟨w.heap.size, 1, none⟩ = some (.slice A10 n10 c10) ∧ w_16.cell? ⟨w.heap.size, 0, none⟩ = some (.slice A7 n7 c7) ∧ True) ∧
  ([.pointer (some ⟨w.heap.size, 0, none⟩), .pointer (some ⟨w_1.heap.size, 0, none⟩)] : List Value) = ([.pointer (some ⟨w.heap.size, 0, none⟩), .pointer (some ⟨w_1.heap.size, 0, none⟩)] : List Value) ∧ M w_5.heap.size 0 w_16) ∧ True) ∧
  (let w_17 : World := World.alloc w_4 (.cells #[.slice none 0 0, .slice none 0 0, .slice none 0 0, .slice none 0 0, .slice none 0 0, .slice none 0 0] 29);
  (w_17.cell? ⟨w.heap.size, 4, none⟩ = some (.slice A19 n19 c19) ∧ w_17.cell? ⟨w.heap.size, 3, none⟩ = some (.slice A16 n16 c16) ∧ w_17.cell? ⟨w.heap.size, 2, none⟩ = some (.slice A13 n13 c13) ∧ w_17.cell? ⟨w.heap.size, 1, none⟩ = some (.slice A10 n10 c10) ∧ w_17.cell? ⟨w.heap.size, 0, none⟩ = some (.slice A7 n7 c7) ∧ True) ∧
  Calls Try.prog 40 #[.slice A13 n13 c13] w_17 fun e_9 w_18 =>
  ∃ (A14_1 : Option Addr) (n14_1 c14_1 : Nat),
  e_9 = .returned (.slice A14_1 n14_1 c14_1) ∧
  (w_18.cell? ⟨w.heap.size, 4, none⟩ = some (.slice A19 n19 c19) ∧ w_18.cell? ⟨w.heap.size, 3, none⟩ = some (.slice A16 n16 c16) ∧ w_18.cell? ⟨w.heap.size, 2, none⟩ = some (.slice A13 n13 c13) ∧ w_18.cell? ⟨w.heap.size, 1, none⟩ = some (.slice A10 n10 c10) ∧ w_18.cell? ⟨w.heap.size, 0, none⟩ = some (.slice A7 n7 c7) ∧ True) ∧
  Calls Try.prog 24 #[.slice A16 n16 c16, .int .i64 0] w_18 fun e_10 w_19 =>
  ∃ (A17_2 : Option Addr) (n17_2 c17_2 : Nat),
  e_10 = .returned (.slice A17_2 n17_2 c17_2) ∧
  (w_19.cell? ⟨w.heap.size, 4, none⟩ = some (.slice A19 n19 c19) ∧ w_19.cell? ⟨w.heap.size, 3, none⟩ = some (.slice A16 n16 c16) ∧ w_19.cell? ⟨w.heap.size, 2, none⟩ = some (.slice A13 n13 c13) ∧ w_19.cell? ⟨w.heap.size, 1, none⟩ = some (.slice A10 n10 c10) ∧ w_19.cell? ⟨w.heap.size, 0, none⟩ = some (.slice A7 n7 c7) ∧ True) ∧
  Calls Try.prog 24 #[.slice A19 n19 c19, .int .i64 0] w_19 fun e_11 w_20 =>
  ∃ (A20_3 : Option Addr) (n20_3 c20_3 : Nat),
  e_11 = .returned (.slice A20_3 n20_3 c20_3) ∧
  (w_20.cell? ⟨w.heap.size, 4, none⟩ = some (.slice A19 n19 c19) ∧ w_20.cell? ⟨w.heap.size, 3, none⟩ = some (.slice A16 n16 c16) ∧ w_20.cell? ⟨w.heap.size, 2, none⟩ = some (.slice A13 n13 c13) ∧ w_20.cell? ⟨w.heap.size, 1, none⟩ = some (.slice A10 n10 c10) ∧ w_20.cell? ⟨w.heap.size, 0, none⟩ = some (.slice A7 n7 c7) ∧ True) ∧
  canStore w_20 w_4.heap.size 0 6 ∧
  let w_21 : World := setCs w_20 w_4.heap.size 0 [.slice A8 n8 c8, .slice A11 n11 c11, .slice A14_1 n14_1 c14_1, .slice A17_2 n17_2 c17_2, .slice A20_3 n20_3 c20_3, .slice none 0 0];
  (w_21.cell? ⟨w.heap.size, 4, none⟩ = some (.slice A19 n19 c19) ∧ w_21.cell? ⟨w.heap.size, 3, none⟩ = some (.slice A16 n16 c16) ∧ w_21.cell? ⟨w.heap.size, 2, none⟩ = some (.slice A13 n13 c13) ∧ w_21.cell? ⟨w.heap.size, 1, none⟩ = some (.slice A10 n10 c10) ∧ w_21.cell? ⟨w.heap.size, 0, none⟩ = some (.slice A7 n7 c7) ∧ True) ∧
  ([.pointer (some ⟨w.heap.size, 0, none⟩), .pointer (some ⟨w_1.heap.size, 0, none⟩)] : List Value) = ([.pointer (some ⟨w.heap.size, 0, none⟩), .pointer (some ⟨w_1.heap.size, 0, none⟩)] : List Value) ∧ M w_4.heap.size 0 w_21) ∧ True) ∧
  (let w_22 : World := World.alloc w_3 (.cells #[.slice none 0 0, .slice none 0 0, .slice none 0 0, .slice none 0 0, .slice none 0 0, .slice none 0 0] 29);
  (w_22.cell? ⟨w.heap.size, 4, none⟩ = some (.slice A19 n19 c19) ∧ w_22.cell? ⟨w.heap.size, 3, none⟩ = some (.slice A16 n16 c16) ∧ w_22.cell? ⟨w.heap.size, 2, none⟩ = some (.slice A13 n13 c13) ∧ w_22.cell? ⟨w.heap.size, 1, none⟩ = some (.slice A10 n10 c10) ∧ w_22.cell? ⟨w.heap.size, 0, none⟩ = some (.slice A7 n7 c7) ∧ True) ∧
  Calls Try.prog 40 #[.slice A10 n10 c10] w_22 fun e_12 w_23 =>
  ∃ (A11_1 : Option Addr) (n11_1 c11_1 : Nat),
  e_12 = .returned (.slice A11_1 n11_1 c11_1) ∧
  (w_23.cell? ⟨w.heap.size, 4, none⟩ = some (.slice A19 n19 c19) ∧ w_23.cell? ⟨w.heap.size, 3, none⟩ = some (.slice A16 n16 c16) ∧ w_23.cell? ⟨w.heap.size, 2, none⟩ = some (.slice A13 n13 c13) ∧ w_23.cell? ⟨w.heap.size, 1, none⟩ = some (.slice A10 n10 c10) ∧ w_23.cell? ⟨w.heap.size, 0, none⟩ = some (.slice A7 n7 c7) ∧ True) ∧
  Calls Try.prog 40 #[.slice A13 n13 c13] w_23 fun e_13 w_24 =>
  ∃ (A14_2 : Option Addr) (n14_2 c14_2 : Nat),
  e_13 = .returned (.slice A14_2 n14_2 c14_2) ∧
  (w_24.cell? ⟨w.heap.size, 4, none⟩ = some (.slice A19 n19 c19) ∧ w_24.cell? ⟨w.heap.size, 3, none⟩ = some (.slice A16 n16 c16) ∧ w_24.cell? ⟨w.heap.size, 2, none⟩ = some (.slice A13 n13 c13) ∧ w_24.cell? ⟨w.heap.size, 1, none⟩ = some (.slice A10 n10 c10) ∧ w_24.cell? ⟨w.heap.size, 0, none⟩ = some (.slice A7 n7 c7) ∧ True) ∧
  Calls Try.prog 24 #[.slice A16 n16 c16, .int .i64 0] w_24 fun e_14 w_25 =>
  ∃ (A17_3 : Option Addr) (n17_3 c17_3 : Nat),
  e_14 = .returned (.slice A17_3 n17_3 c17_3) ∧
  (w_25.cell? ⟨w.heap.size, 4, none⟩ = some (.slice A19 n19 c19) ∧ w_25.cell? ⟨w.heap.size, 3, none⟩ = some (.slice A16 n16 c16) ∧ w_25.cell? ⟨w.heap.size, 2, none⟩ = some (.slice A13 n13 c13) ∧ w_25.cell? ⟨w.heap.size, 1, none⟩ = some (.slice A10 n10 c10) ∧ w_25.cell? ⟨w.heap.size, 0, none⟩ = some (.slice A7 n7 c7) ∧ True) ∧
  Calls Try.prog 24 #[.slice A19 n19 c19, .int .i64 0] w_25 fun e_15 w_26 =>
  ∃ (A20_4 : Option Addr) (n20_4 c20_4 : Nat),
  e_15 = .returned (.slice A20_4 n20_4 c20_4) ∧
  (w_26.cell? ⟨w.heap.size, 4, none⟩ = some (.slice A19 n19 c19) ∧ w_26.cell? ⟨w.heap.size, 3, none⟩ = some (.slice A16 n16 c16) ∧ w_26.cell? ⟨w.heap.size, 2, none⟩ = some (.slice A13 n13 c13) ∧ w_26.cell? ⟨w.heap.size, 1, none⟩ = some (.slice A10 n10 c10) ∧ w_26.cell? ⟨w.heap.size, 0, none⟩ = some (.slice A7 n7 c7) ∧ True) ∧
  canStore w_26 w_3.heap.size 0 6 ∧
  let w_27 : World := setCs w_26 w_3.heap.size 0 [.slice A8 n8 c8, .slice A11_1 n11_1 c11_1, .slice A14_2 n14_2 c14_2, .slice A17_3 n17_3 c17_3, .slice A20_4 n20_4 c20_4, .slice none 0 0];
  (w_27.cell? ⟨w.heap.size, 4, none⟩ = some (.slice A19 n19 c19) ∧ w_27.cell? ⟨w.heap.size, 3, none⟩ = some (.slice A16 n16 c16) ∧ w_27.cell? ⟨w.heap.size, 2, none⟩ = some (.slice A13 n13 c13) ∧ w_27.cell? ⟨w.heap.size, 1, none⟩ = some (.slice A10 n10 c10) ∧ w_27.cell? ⟨w.heap.size, 0, none⟩ = some (.slice A7 n7 c7) ∧ True) ∧
  ([.pointer (some ⟨w.heap.size, 0, none⟩), .pointer (some ⟨w_1.heap.size, 0, none⟩)] : List Value) = ([.pointer (some ⟨w.heap.size, 0, none⟩), .pointer (some ⟨w_1.heap.size, 0, none⟩)] : List Value) ∧ M w_3.heap.size 0 w_27) ∧ True) ∧
  (let w_28 : World := World.alloc w_2.drew (.cells #[.slice none 0 0, .slice none 0 0, .slice none 0 0, .slice none 0 0, .slice none 0 0, .slice none 0 0] 29);
  (w_28.cell? ⟨w.heap.size, 4, none⟩ = some (.slice A19 n19 c19) ∧ w_28.cell? ⟨w.heap.size, 3, none⟩ = some (.slice A16 n16 c16) ∧ w_28.cell? ⟨w.heap.size, 2, none⟩ = some (.slice A13 n13 c13) ∧ w_28.cell? ⟨w.heap.size, 1, none⟩ = some (.slice A10 n10 c10) ∧ w_28.cell? ⟨w.heap.size, 0, none⟩ = some (.slice A7 n7 c7) ∧ True) ∧
  Calls Try.prog 40 #[.slice A7 n7 c7] w_28 fun e_16 w_29 =>
  ∃ (A8_1 : Option Addr) (n8_1 c8_1 : Nat),
  e_16 = .returned (.slice A8_1 n8_1 c8_1) ∧
  (w_29.cell? ⟨w.heap.size, 4, none⟩ = some (.slice A19 n19 c19) ∧ w_29.cell? ⟨w.heap.size, 3, none⟩ = some (.slice A16 n16 c16) ∧ w_29.cell? ⟨w.heap.size, 2, none⟩ = some (.slice A13 n13 c13) ∧ w_29.cell? ⟨w.heap.size, 1, none⟩ = some (.slice A10 n10 c10) ∧ w_29.cell? ⟨w.heap.size, 0, none⟩ = some (.slice A7 n7 c7) ∧ True) ∧
  Calls Try.prog 40 #[.slice A10 n10 c10] w_29 fun e_17 w_30 =>
  ∃ (A11_2 : Option Addr) (n11_2 c11_2 : Nat),
  e_17 = .returned (.slice A11_2 n11_2 c11_2) ∧
  (w_30.cell? ⟨w.heap.size, 4, none⟩ = some (.slice A19 n19 c19) ∧ w_30.cell? ⟨w.heap.size, 3, none⟩ = some (.slice A16 n16 c16) ∧ w_30.cell? ⟨w.heap.size, 2, none⟩ = some (.slice A13 n13 c13) ∧ w_30.cell? ⟨w.heap.size, 1, none⟩ = some (.slice A10 n10 c10) ∧ w_30.cell? ⟨w.heap.size, 0, none⟩ = some (.slice A7 n7 c7) ∧ True) ∧
  Calls Try.prog 40 #[.slice A13 n13 c13] w_30 fun e_18 w_31 =>
  ∃ (A14_3 : Option Addr) (n14_3 c14_3 : Nat),
  e_18 = .returned (.slice A14_3 n14_3 c14_3) ∧
  (w_31.cell? ⟨w.heap.size, 4, none⟩ = some (.slice A19 n19 c19) ∧ w_31.cell? ⟨w.heap.size, 3, none⟩ = some (.slice A16 n16 c16) ∧ w_31.cell? ⟨w.heap.size, 2, none⟩ = some (.slice A13 n13 c13) ∧ w_31.cell? ⟨w.heap.size, 1, none⟩ = some (.slice A10 n10 c10) ∧ w_31.cell? ⟨w.heap.size, 0, none⟩ = some (.slice A7 n7 c7) ∧ True) ∧
  Calls Try.prog 24 #[.slice A16 n16 c16, .int .i64 0] w_31 fun e_19 w_32 =>
  ∃ (A17_4 : Option Addr) (n17_4 c17_4 : Nat),
  e_19 = .returned (.slice A17_4 n17_4 c17_4) ∧
  (w_32.cell? ⟨w.heap.size, 4, none⟩ = some (.slice A19 n19 c19) ∧ w_32.cell? ⟨w.heap.size, 3, none⟩ = some (.slice A16 n16 c16) ∧ w_32.cell? ⟨w.heap.size, 2, none⟩ = some (.slice A13 n13 c13) ∧ w_32.cell? ⟨w.heap.size, 1, none⟩ = some (.slice A10 n10 c10) ∧ w_32.cell? ⟨w.heap.size, 0, none⟩ = some (.slice A7 n7 c7) ∧ True) ∧
  Calls Try.prog 24 #[.slice A19 n19 c19, .int .i64 0] w_32 fun e_20 w_33 =>
  ∃ (A20_5 : Option Addr) (n20_5 c20_5 : Nat),
  e_20 = .returned (.slice A20_5 n20_5 c20_5) ∧
  (w_33.cell? ⟨w.heap.size, 4, none⟩ = some (.slice A19 n19 c19) ∧ w_33.cell? ⟨w.heap.size, 3, none⟩ = some (.slice A16 n16 c16) ∧ w_33.cell? ⟨w.heap.size, 2, none⟩ = some (.slice A13 n13 c13) ∧ w_33.cell? ⟨w.heap.size, 1, none⟩ = some (.slice A10 n10 c10) ∧ w_33.cell? ⟨w.heap.size, 0, none⟩ = some (.slice A7 n7 c7) ∧ True) ∧
  canStore w_33 w_2.heap.size 0 6 ∧
  let w_34 : World := setCs w_33 w_2.heap.size 0 [.slice A8_1 n8_1 c8_1, .slice A11_2 n11_2 c11_2, .slice A14_3 n14_3 c14_3, .slice A17_4 n17_4 c17_4, .slice A20_5 n20_5 c20_5, .slice none 0 0];
  (w_34.cell? ⟨w.heap.size, 4, none⟩ = some (.slice A19 n19 c19) ∧ w_34.cell? ⟨w.heap.size, 3, none⟩ = some (.slice A16 n16 c16) ∧ w_34.cell? ⟨w.heap.size, 2, none⟩ = some (.slice A13 n13 c13) ∧ w_34.cell? ⟨w.heap.size, 1, none⟩ = some (.slice A10 n10 c10) ∧ w_34.cell? ⟨w.heap.size, 0, none⟩ = some (.slice A7 n7 c7) ∧ True) ∧
  ([.pointer (some ⟨w.heap.size, 0, none⟩), .pointer (some ⟨w_1.heap.size, 0, none⟩)] : List Value) = ([.pointer (some ⟨w.heap.size, 0, none⟩), .pointer (some ⟨w_1.heap.size, 0, none⟩)] : List Value) ∧ M w_2.heap.size 0 w_34) ∧ True) ∧
  ∀ d : Env, ∀ (b3 o3 : Nat) (w_35 : World), M b3 o3 w_35 →
  ∃ I : Int → World → Nat → Prop,
  (∃ n, I 0 w_35 n) ∧
  ∀ d_1 : Env, ∀ (x4 : Int) (w_36 : World) (r : Nat), I x4 w_36 r →
  ∃ (A24 : Option Addr) (n24 c24 : Nat),
  w_36.cell? ⟨w.heap.size, 5, none⟩ = some (.slice A24 n24 c24) ∧
  sel (decide ((x4 : Int) < ((n24 : Int) : Int))) (
  ∃ (A31 : Option Addr) (n31 c31 : Nat),
  w_36.cell? ⟨w.heap.size, 5, none⟩ = some (.slice A31 n31 c31) ∧
  (0 : Int) ≤ x4 ∧ x4 < (n31 : Int) ∧
  needPtr A31 fun b33 o33 =>
  ∃ (A34 : Option Addr) (n34 c34 : Nat),
  w_36.cell? ⟨b33, o33 + x4.toNat * 1, none⟩ = some (.slice A34 n34 c34) ∧
  ∃ (A35 : Option Addr) (n35 c35 : Nat),
  ∃ w_37 : World, (Builtin.append_ #[82, 82] 82 #[.slice none 0 0, .slice A34 n34 c34]).run Try.prog w_36 = .ok (.slice A35 n35 c35) w_37 ∧
  ∃ (A37 : Option Addr) (n37 c37 : Nat),
  w_37.cell? ⟨b3, o3 + 5, none⟩ = some (.slice A37 n37 c37) ∧
  let w_38 : World := World.alloc w_37 (.cells #[.slice A35 n35 c35] 82);
  ∃ (A40 : Option Addr) (n40 c40 : Nat),
  ∃ w_39 : World, (Builtin.append_ #[27, 27] 27 #[.slice A37 n37 c37, .slice (some ⟨w_37.heap.size, 0, none⟩) 1 1]).run Try.prog w_38 = .ok (.slice A40 n40 c40) w_39 ∧
  canStore w_39 b3 (o3 + 5) 1 ∧
  let w_40 : World := setCs w_39 b3 (o3 + 5) [.slice A40 n40 c40];
  let i28 : Int := IntKind.i64.wrap (x4 + 1);
  ([.pointer (some ⟨w.heap.size, 0, none⟩), .pointer (some ⟨w_1.heap.size, 0, none⟩), .pointer (some ⟨b3, o3, none⟩)] : List Value) = ([.pointer (some ⟨w.heap.size, 0, none⟩), .pointer (some ⟨w_1.heap.size, 0, none⟩), .pointer (some ⟨b3, o3, none⟩)] : List Value) ∧ ∃ m, m < r ∧ I i28 w_40 m) (
  ∃ (A42_0 : Option Addr) (n42_0 c42_0 : Nat),
  w_36.cell? ⟨b3, o3, none⟩ = some (.slice A42_0 n42_0 c42_0) ∧
  ∃ (A42_1 : Option Addr) (n42_1 c42_1 : Nat),
  w_36.cell? ⟨b3, o3 + 1, none⟩ = some (.slice A42_1 n42_1 c42_1) ∧
  ∃ (A42_2 : Option Addr) (n42_2 c42_2 : Nat),
  w_36.cell? ⟨b3, o3 + 1 + 1, none⟩ = some (.slice A42_2 n42_2 c42_2) ∧
  ∃ (A42_3 : Option Addr) (n42_3 c42_3 : Nat),
  w_36.cell? ⟨b3, o3 + 1 + 1 + 1, none⟩ = some (.slice A42_3 n42_3 c42_3) ∧
  ∃ (A42_4 : Option Addr) (n42_4 c42_4 : Nat),
  w_36.cell? ⟨b3, o3 + 1 + 1 + 1 + 1, none⟩ = some (.slice A42_4 n42_4 c42_4) ∧
  ∃ (A42_5 : Option Addr) (n42_5 c42_5 : Nat),
  w_36.cell? ⟨b3, o3 + 1 + 1 + 1 + 1 + 1, none⟩ = some (.slice A42_5 n42_5 c42_5) ∧
  canStore w_36 w_1.heap.size 0 6 ∧
  let w_41 : World := setCs w_36 w_1.heap.size 0 [.slice A42_0 n42_0 c42_0, .slice A42_1 n42_1 c42_1, .slice A42_2 n42_2 c42_2, .slice A42_3 n42_3 c42_3, .slice A42_4 n42_4 c42_4, .slice A42_5 n42_5 c42_5];
  ∃ (A2_0 : Option Addr) (n2_0 c2_0 : Nat),
  w_41.cell? ⟨w_1.heap.size, 0, none⟩ = some (.slice A2_0 n2_0 c2_0) ∧
  ∃ (A2_1 : Option Addr) (n2_1 c2_1 : Nat),
  w_41.cell? ⟨w_1.heap.size, 1, none⟩ = some (.slice A2_1 n2_1 c2_1) ∧
  ∃ (A2_2 : Option Addr) (n2_2 c2_2 : Nat),
  w_41.cell? ⟨w_1.heap.size, 2, none⟩ = some (.slice A2_2 n2_2 c2_2) ∧
  ∃ (A2_3 : Option Addr) (n2_3 c2_3 : Nat),
  w_41.cell? ⟨w_1.heap.size, 3, none⟩ = some (.slice A2_3 n2_3 c2_3) ∧
  ∃ (A2_4 : Option Addr) (n2_4 c2_4 : Nat),
  w_41.cell? ⟨w_1.heap.size, 4, none⟩ = some (.slice A2_4 n2_4 c2_4) ∧
  ∃ (A2_5 : Option Addr) (n2_5 c2_5 : Nat),
  w_41.cell? ⟨w_1.heap.size, 5, none⟩ = some (.slice A2_5 n2_5 c2_5) ∧
  R (.agg #[.slice A2_0 n2_0 c2_0, .slice A2_1 n2_1 c2_1, .slice A2_2 n2_2 c2_2, .slice A2_3 n2_3 c2_3, .slice A2_4 n2_4 c2_4, .slice A2_5 n2_5 c2_5]) w_41)
theorem f15.eq (Aa0_0 : Option Addr) (na0_0 ca0_0 : Nat) (Aa0_1 : Option Addr) (na0_1 ca0_1 : Nat) (Aa0_2 : Option Addr) (na0_2 ca0_2 : Nat) (Aa0_3 : Option Addr) (na0_3 ca0_3 : Nat) (Aa0_4 : Option Addr) (na0_4 ca0_4 : Nat) (Aa0_5 : Option Addr) (na0_5 ca0_5 : Nat) (w : World) (R : Value → World → Prop) : f15.VC Aa0_0 na0_0 ca0_0 Aa0_1 na0_1 ca0_1 Aa0_2 na0_2 ca0_2 Aa0_3 na0_3 ca0_3 Aa0_4 na0_4 ca0_4 Aa0_5 na0_5 ca0_5 w R = funV Try.prog Try.f15 f15.AL f15.AC #[.agg #[.slice Aa0_0 na0_0 ca0_0, .slice Aa0_1 na0_1 ca0_1, .slice Aa0_2 na0_2 ca0_2, .slice Aa0_3 na0_3 ca0_3, .slice Aa0_4 na0_4 ca0_4, .slice Aa0_5 na0_5 ca0_5]] w R := by kernel_rfl
theorem f15.calls {Aa0_0 : Option Addr} {na0_0 ca0_0 : Nat} {Aa0_1 : Option Addr} {na0_1 ca0_1 : Nat} {Aa0_2 : Option Addr} {na0_2 ca0_2 : Nat} {Aa0_3 : Option Addr} {na0_3 ca0_3 : Nat} {Aa0_4 : Option Addr} {na0_4 ca0_4 : Nat} {Aa0_5 : Option Addr} {na0_5 ca0_5 : Nat} {w : World} {R : Value → World → Prop} (h : f15.VC Aa0_0 na0_0 ca0_0 Aa0_1 na0_1 ca0_1 Aa0_2 na0_2 ca0_2 Aa0_3 na0_3 ca0_3 Aa0_4 na0_4 ca0_4 Aa0_5 na0_5 ca0_5 w R) : Calls Try.prog 15 #[.agg #[.slice Aa0_0 na0_0 ca0_0, .slice Aa0_1 na0_1 ca0_1, .slice Aa0_2 na0_2 ca0_2, .slice Aa0_3 na0_3 ca0_3, .slice Aa0_4 na0_4 ca0_4, .slice Aa0_5 na0_5 ca0_5]] w fun e w' => ∃ v, e = .returned v ∧ R v w' :=
  funV_sound (fn := Try.f15) (AL := f15.AL) (AC := f15.AC) W22.mixed (by kernel_rfl) (by rw [← f15.eq Aa0_0 na0_0 ca0_0 Aa0_1 na0_1 ca0_1 Aa0_2 na0_2 ca0_2 Aa0_3 na0_3 ca0_3 Aa0_4 na0_4 ca0_4 Aa0_5 na0_5 ca0_5]; exact h)

/-- gatehouse/gatehouselaw12.texts -/
def f40.AL : Nat → Option Ann := fun _ => none
def f40.AC : Nat → Option Ann := fun _ => none
def f40.VC (Aa0 : Option Addr) (na0 ca0 : Nat) (w : World) (R : Value → World → Prop) : Prop :=
  ∃ (A6 : Option Addr) (n6 c6 : Nat),
  ∃ w_1 : World, (Builtin.append_ #[25, 25] 25 #[.slice none 0 0, .slice Aa0 na0 ca0]).run Try.prog w = .ok (.slice A6 n6 c6) w_1 ∧
  R (.slice A6 n6 c6) w_1
theorem f40.eq (Aa0 : Option Addr) (na0 ca0 : Nat) (w : World) (R : Value → World → Prop) : f40.VC Aa0 na0 ca0 w R = funV Try.prog Try.f40 f40.AL f40.AC #[.slice Aa0 na0 ca0] w R := by kernel_rfl
theorem f40.calls {Aa0 : Option Addr} {na0 ca0 : Nat} {w : World} {R : Value → World → Prop} (h : f40.VC Aa0 na0 ca0 w R) : Calls Try.prog 40 #[.slice Aa0 na0 ca0] w fun e w' => ∃ v, e = .returned v ∧ R v w' :=
  funV_sound (fn := Try.f40) (AL := f40.AL) (AC := f40.AC) W22.mixed (by kernel_rfl) (by rw [← f40.eq Aa0 na0 ca0]; exact h)

end Go.Proofs.Ytjmlfknogjaemaa
