/- The plain statements of some functions, printed by vcgen.py. -/
import Derived.Test.YtjmlfknogjaemaaM4
import Derived.Test.YtjmlfknogjaemaaProg
import Derived.KernelRfl
import Derived.Test.YtjmlfknogjaemaaM11
import Derived.Test.YtjmlfknogjaemaaM8
set_option maxRecDepth 100000
set_option linter.unusedVariables false
namespace Go.Proofs.Ytjmlfknogjaemaa
open Go Go.Proofs.Ytjmlfknogjaemaa.Vc
theorem W2.mixed : Try.prog.follows .mixedOrders = true := by kernel_rfl
/-- gatehouse/gatehouselaw12.index -/
def f13.AL : Nat → Option Ann := fun r => match r with | 4 => some ⟨[(6, .int .i64)], [0, 4, 5]⟩ | _ => none
def f13.AC : Nat → Option Ann := fun _ => none
def f13.VC (Aa0 : Option Addr) (na0 ca0 : Nat) (w : World) (R : Value → World → Prop) : Prop :=
  Calls Try.prog 29 #[] w fun e_1 w_1 =>
  ∃ (p7 : Option Addr),
  e_1 = .returned (.pointer p7) ∧
  let w_2 : World := World.alloc w_1 (.cells #[.slice none 0 0] 81);
  ∃ I : Int → World → Nat → Prop,
  (∃ n, I 0 w_2 n) ∧
  ∀ d : Env, ∀ (x6 : Int) (w_3 : World) (r : Nat), I x6 w_3 r →
  sel (decide ((x6 : Int) < ((na0 : Int) : Int))) (
    sel (!(Option.isNone p7)) (
      (0 : Int) ≤ x6 ∧ x6 < (na0 : Int) ∧
      needPtr Aa0 fun b23 o23 =>
      ∃ (s24 : ByteArray),
      w_3.cell? ⟨b23, o23 + x6.toNat * 1, none⟩ = some (.string s24) ∧
      Calls Try.prog 32 #[.pointer p7, .string s24] w_3 fun e_2 w_4 =>
      ∃ (x25 : Int),
      e_2 = .returned (.int .i64 x25) ∧
      (0 : Int) ≤ x6 ∧ x6 < (na0 : Int) ∧
      needPtr Aa0 fun b29 o29 =>
      ∃ (s30 : ByteArray),
      w_4.cell? ⟨b29, o29 + x6.toNat * 1, none⟩ = some (.string s30) ∧
      Calls Try.prog 39 #[.pointer (some ⟨w_1.heap.size, 0, none⟩), .string s30] w_4 fun e_3 w_5 =>
      ∃ (x31 : Int),
      e_3 = .returned (.int .i64 x31) ∧
      let i19 : Int := IntKind.i64.wrap (x6 + 1);
      ([.slice Aa0 na0 ca0, .pointer p7, .pointer (some ⟨w_1.heap.size, 0, none⟩)] : List Value) = ([.slice Aa0 na0 ca0, .pointer p7, .pointer (some ⟨w_1.heap.size, 0, none⟩)] : List Value) ∧ ∃ m, m < r ∧ I i19 w_5 m) (
      R (.tuple #[.pointer p7, .pointer (some ⟨w_1.heap.size, 0, none⟩)]) w_3)) (
    R (.tuple #[.pointer p7, .pointer (some ⟨w_1.heap.size, 0, none⟩)]) w_3)
theorem f13.eq (Aa0 : Option Addr) (na0 ca0 : Nat) (w : World) (R : Value → World → Prop) : f13.VC Aa0 na0 ca0 w R = funV Try.prog Try.f13 f13.AL f13.AC #[.slice Aa0 na0 ca0] w R := by kernel_rfl
theorem f13.calls {Aa0 : Option Addr} {na0 ca0 : Nat} {w : World} {R : Value → World → Prop} (h : f13.VC Aa0 na0 ca0 w R) : Calls Try.prog 13 #[.slice Aa0 na0 ca0] w fun e w' => ∃ v, e = .returned v ∧ R v w' :=
  funV_sound (fn := Try.f13) (AL := f13.AL) (AC := f13.AC) W2.mixed (by kernel_rfl) (by rw [← f13.eq Aa0 na0 ca0]; exact h)

end Go.Proofs.Ytjmlfknogjaemaa
/- Page: the law's 'index': an index that was asked for some names, and the document's. -/
set_option linter.unusedVariables false
set_option linter.unusedSimpArgs false
set_option maxRecDepth 10000
namespace Go.Proofs.Ytjmlfknogjaemaa
open Go Go.Proofs.Ytjmlfknogjaemaa.Vc
namespace NI
def InX (w : World) (A : Option Addr) (n : Nat) (l : List ByteArray) : Prop := n = l.length ∧ (0 < n → ∃ b o, A = some ⟨b, o, none⟩ ∧ ∀ i, i < n → w.cell? ⟨b, o + i, none⟩ = some (.string (l.getD i ByteArray.empty)))
theorem InX.fr {w w' : World} {A : Option Addr} {n : Nat} {l : List ByteArray} (h : InX w A n l) (hf : Fr [] w w') : InX w' A n l := by
  refine ⟨h.1, fun hn => ?_⟩
  obtain ⟨b, o, rfl, h2⟩ := h.2 hn
  exact ⟨b, o, rfl, fun i hi => hf.cell (h2 i hi)⟩
theorem of_len (l : List ByteArray) (s : ByteArray) : (IX.of l s).length ≤ l.length + 1 := by
  unfold IX.of
  split
  · split
    · omega
    · simp
  · omega
theorem of_le {l : List ByteArray} (h : l.length ≤ 1048576) (s : ByteArray) : (IX.of l s).length ≤ 1048576 := by
  unfold IX.of
  split
  · split
    · exact h
    · simp; omega
  · exact h
/-- Asked for all of a list. -/
def all (l known : List ByteArray) : List ByteArray := known.foldl IX.of l
theorem all_le : ∀ (known l : List ByteArray), l.length ≤ 1048576 → (all l known).length ≤ 1048576
  | [], l, h => h
  | s :: known, l, h => all_le known (IX.of l s) (of_le h s)
theorem all_take (known : List ByteArray) {i : Nat} (hi : i < known.length) : all [] (known.take (i + 1)) = IX.of (all [] (known.take i)) (known.getD i ByteArray.empty) := by
  unfold all
  rw [List.take_succ_eq_append_getElem hi, List.foldl_append]
  simp [List.getD_eq_getElem?_getD, hi]
theorem index {w : World} {A : Option Addr} {n c : Nat} {known : List ByteArray} (h : InX w A n known) (hn : n ≤ 1500000) :
    Calls Try.prog 13 #[.slice A n c] w fun e w' => ∃ x y, e = .returned (.tuple #[.pointer (some ⟨x, 0, none⟩), .pointer (some ⟨y, 0, none⟩)]) ∧ St [] w w' [refI 81 y (all [] known), idxC x (all [] known)] := by
  refine Calls.mono (f13.calls (R := fun v w' => ∃ x y, v = .tuple #[.pointer (some ⟨x, 0, none⟩), .pointer (some ⟨y, 0, none⟩)] ∧ St [] w w' [refI 81 y (all [] known), idxC x (all [] known)]) ?_) ?_
  · dsimp only [f13.VC]
    have hl := h.1
    refine Calls.mono (new (St.start w)) ?_
    rintro _ w1 ⟨x, rfl, hS1⟩
    refine ⟨_, rfl, ?_⟩
    have hS2 := closeX (T := 81) (x := w1.heap.size) (l := []) (K := [idxC x []]) (none, 0, 0) ((hS1.nil 9 1).alloc #[.slice none 0 0] 81)
    generalize World.alloc w1 (.cells #[.slice none 0 0] 81) = w2 at *
    generalize w1.heap.size = y at *
    refine ⟨fun z w' r => ∃ i : Nat, z = (i : Int) ∧ i + r = n ∧ St [] w w' [refI 81 y (all [] (known.take i)), idxC x (all [] (known.take i))], ⟨n, 0, rfl, by omega, by simpa [all] using hS2⟩, ?_⟩
    rintro d z w3 r ⟨i, rfl, hir, hS⟩
    refine sel_of (fun hd => sel_true rfl ?_) (fun hd => ?_)
    · have hi : i < n := by have := of_decide_eq_true hd; omega
      have hi1 : IntKind.i64.wrap ((i : Int) + 1) = ((i + 1 : Nat) : Int) := by rw [i64_id (by omega) (by omega)]; omega
      obtain ⟨b, o, rfl, hc⟩ := h.2 (by omega)
      have hck := hc i hi
      rw [show o + i = o + (i : Int).toNat * 1 by simp] at hck
      have hle := all_le (known.take i) [] (by simp)
      refine ⟨by omega, by omega, needPtr_of rfl ⟨_, hS.frame.cell hck, ?_⟩⟩
      refine Calls.mono (of hS 1 rfl hle _) ?_
      rintro _ w4 ⟨rfl, hS4⟩
      refine ⟨_, rfl, by omega, by omega, needPtr_of rfl ⟨_, hS4.frame.cell hck, ?_⟩⟩
      refine Calls.mono (rOf hS4 0 rfl hle _) ?_
      rintro _ w5 ⟨rfl, hS5⟩
      refine ⟨_, rfl, ?_⟩
      rw [hi1]
      refine ⟨rfl, r - 1, by omega, i + 1, rfl, by omega, ?_⟩
      rw [all_take known (by omega)]
      exact hS5
    · have hi : i = known.length := by have := of_decide_eq_false hd; omega
      rw [hi, List.take_length] at hS
      exact ⟨x, y, rfl, hS⟩
  · rintro e w' ⟨v, rfl, x, y, rfl, h⟩; exact ⟨x, y, rfl, h⟩
end NI
end Go.Proofs.Ytjmlfknogjaemaa
/- Page: graphs as plain lists; when they are valid. -/
set_option linter.unusedVariables false
set_option linter.unusedSimpArgs false
set_option maxRecDepth 10000
namespace Go.Proofs.Ytjmlfknogjaemaa.Vc
open Go
namespace PG
abbrev Gd := List ByteArray × List ByteArray × List ByteArray × List Int × List Int × List (List Int) × Unit
def gA (g : Gd) : List ByteArray := g.1
def gS (g : Gd) : List ByteArray := g.2.1
def gO (g : Gd) : List ByteArray := g.2.2.1
def gF (g : Gd) : List Int := g.2.2.2.1
def gN (g : Gd) : List Int := g.2.2.2.2.1
def gM (g : Gd) : List (List Int) := g.2.2.2.2.2.1
/-- The greatest number of a list of classes that are numbered as they come. -/
def great : List Int → Nat → Option Nat
  | [], n => some n
  | x :: l, n => if x < 1 ∨ (n : Int) + 1 < x then none else great l (max n x.toNat)
theorem great_le : ∀ (l : List Int) (n m : Nat), great l n = some m → m ≤ n + l.length
  | [], n, m, h => by simp [great] at h; omega
  | x :: l, n, m, h => by
    rw [great] at h
    split at h
    · cases h
    · rename_i hx
      have := great_le l _ m h
      simp only [List.length_cons]
      omega
theorem great_ge : ∀ (l : List Int) (n m : Nat), great l n = some m → n ≤ m ∧ ∀ x ∈ l, 1 ≤ x ∧ x ≤ m
  | [], n, m, h => by simp [great] at h; simp [h]
  | x :: l, n, m, h => by
    rw [great] at h
    split at h
    · cases h
    · rename_i hx
      have := great_ge l _ m h
      refine ⟨by omega, fun y hy => ?_⟩
      rcases List.mem_cons.1 hy with rfl | hy
      · omega
      · exact this.2 y hy
def col (M : List (List Int)) (y : Nat) : List Int := M.map fun r => r.getD y 0
def shapedB (M : List (List Int)) (n m b : Nat) : Bool := decide (M.length = n) && M.all fun r => decide (r.length = m) && r.all fun x => decide (x < 2 ^ b)
def validP (g : Gd) : Bool :=
  decide ((gA g).length ≤ 16 ∧ (gS g).length ≤ 64 ∧ (gO g).length ≤ 64 ∧ (gF g).length = (gS g).length ∧ (gN g).length = (gO g).length) &&
  decide ((gA g).Nodup ∧ (gS g).Nodup ∧ (gO g).Nodup) &&
  match great (gF g) 0, great (gN g) 0 with
  | some n, some m => shapedB (gM g) n m (gA g).length && decide ((gM g).Nodup) && decide (((List.range m).map (col (gM g))).Nodup)
  | _, _ => false
theorem nodup_getD {α : Type} (d : α) (l : List α) : l.Nodup ↔ ∀ a b, a < b → b < l.length → l.getD a d ≠ l.getD b d := by
  rw [List.Nodup, List.pairwise_iff_getElem]
  constructor
  · intro h a b hab hb
    have := h a b (by omega) hb hab
    simpa [List.getD_eq_getElem?_getD, hb, show a < l.length by omega] using this
  · intro h i j hi hj hij
    have := h i j hij hj
    simpa [List.getD_eq_getElem?_getD, hi, hj] using this
theorem drop_cons {α : Type} (d : α) (l : List α) (i : Nat) (hi : i < l.length) : l.drop i = l.getD i d :: l.drop (i + 1) := by
  rw [List.drop_eq_getElem_cons hi]; simp [List.getD_eq_getElem?_getD, hi]
theorem mem_getD {α : Type} (d : α) (l : List α) (x : α) : x ∈ l ↔ ∃ i, i < l.length ∧ l.getD i d = x := by
  rw [List.mem_iff_getElem]
  constructor
  · rintro ⟨i, hi, rfl⟩; exact ⟨i, hi, by simp [List.getD_eq_getElem?_getD, hi]⟩
  · rintro ⟨i, hi, h⟩; exact ⟨i, hi, by simpa [List.getD_eq_getElem?_getD, hi] using h⟩
theorem ext_getD {α : Type} (d : α) (a b : List α) : a = b ↔ a.length = b.length ∧ ∀ i, i < a.length → a.getD i d = b.getD i d := by
  constructor
  · rintro rfl; exact ⟨rfl, fun _ _ => rfl⟩
  · rintro ⟨h1, h2⟩
    refine List.ext_getElem h1 fun i hi hj => ?_
    have := h2 i hi
    simpa [List.getD_eq_getElem?_getD, hi, hj] using this
/-- The first place of a thing; -1: it has none. -/
def idxI {α : Type} [DecidableEq α] (l : List α) (s : α) : Int := match l.findIdx? (fun x => decide (x = s)) with | some j => (j : Int) | none => -1
theorem idxI_some {α : Type} [DecidableEq α] (d : α) {l : List α} {s : α} {j : Nat} (hj : j < l.length) (hno : ∀ q, q < j → l.getD q d ≠ s) (h : l.getD j d = s) : idxI l s = (j : Int) := by
  have : l.findIdx? (fun x => decide (x = s)) = some j := by
    rw [List.findIdx?_eq_some_iff_getElem]
    refine ⟨hj, ?_, fun q hq => ?_⟩
    · rw [List.getD_eq_getElem?_getD, List.getElem?_eq_getElem hj] at h
      simpa using h
    · have := hno q hq
      rw [List.getD_eq_getElem?_getD, List.getElem?_eq_getElem (by omega)] at this
      simpa using this
  unfold idxI
  rw [this]
theorem idxI_none {α : Type} [DecidableEq α] (d : α) {l : List α} {s : α} (hno : ∀ q, q < l.length → l.getD q d ≠ s) : idxI l s = -1 := by
  have : l.findIdx? (fun x => decide (x = s)) = none := by
    rw [List.findIdx?_eq_none_iff]
    intro x hx
    obtain ⟨q, hq, rfl⟩ := List.mem_iff_getElem.1 hx
    have := hno q hq
    rw [List.getD_eq_getElem?_getD, List.getElem?_eq_getElem hq] at this
    simpa using this
  unfold idxI
  rw [this]
/-- Does a list have a thing? -/
def memB {α : Type} [DecidableEq α] (l : List α) (s : α) : Bool := l.any fun x => decide (x = s)
theorem memB_iff {α : Type} [DecidableEq α] (l : List α) (s : α) : memB l s = true ↔ s ∈ l := by
  unfold memB
  rw [List.any_eq_true]
  constructor
  · rintro ⟨x, hx, he⟩
    have : x = s := by simpa using he
    rw [← this]; exact hx
  · intro h; exact ⟨s, h, by simp⟩
theorem idxI_mem {α : Type} [DecidableEq α] (l : List α) (s : α) : decide (0 ≤ idxI l s) = memB l s := by
  rw [Bool.eq_iff_iff, memB_iff, decide_eq_true_iff]
  unfold idxI
  cases h : l.findIdx? (fun x => decide (x = s)) with
  | none =>
    rw [List.findIdx?_eq_none_iff] at h
    have : s ∉ l := fun hs => by have := h s hs; simp at this
    simp [this]
  | some j =>
    obtain ⟨hj, he, _⟩ := List.findIdx?_eq_some_iff_getElem.mp h
    have hs : s ∈ l := by
      have : l[j] = s := by simpa using he
      rw [← this]; exact List.getElem_mem hj
    simp [hs]
end PG
end Go.Proofs.Ytjmlfknogjaemaa.Vc
/- The plain statements of some functions, printed by vcgen.py. -/
set_option maxRecDepth 100000
set_option linter.unusedVariables false
namespace Go.Proofs.Ytjmlfknogjaemaa
open Go Go.Proofs.Ytjmlfknogjaemaa.Vc
theorem W5.mixed : Try.prog.follows .mixedOrders = true := by kernel_rfl
/-- gatehouse/gatehouseref11.twice -/
def f69.AL : Nat → Option Ann := fun r => match r with | 2 => some ⟨[(3, .int .i64)], [0]⟩ | 5 => some ⟨[(4, .int .i64)], [0, 3]⟩ | _ => none
def f69.AC : Nat → Option Ann := fun _ => none
def f69.VC (Aa0 : Option Addr) (na0 ca0 : Nat) (w : World) (R : Value → World → Prop) : Prop :=
  ∃ I : Int → World → Nat → Prop,
  (∃ n, I 0 w n) ∧
  ∀ d : Env, ∀ (x3 : Int) (w_1 : World) (r : Nat), I x3 w_1 r →
  sel (decide ((x3 : Int) < ((na0 : Int) : Int))) (
    ∃ I_1 : Int → World → Nat → Prop,
    (∃ n, I_1 0 w_1 n) ∧
    ∀ d_1 : Env, ∀ (x4 : Int) (w_2 : World) (r_1 : Nat), I_1 x4 w_2 r_1 →
    sel (decide ((x4 : Int) < (x3 : Int))) (
      (0 : Int) ≤ x4 ∧ x4 < (na0 : Int) ∧
      needPtr Aa0 fun b18 o18 =>
      (0 : Int) ≤ x3 ∧ x3 < (na0 : Int) ∧
      needPtr Aa0 fun b22 o22 =>
      ∃ (s19 : ByteArray),
      w_2.cell? ⟨b18, o18 + x4.toNat * 1, none⟩ = some (.string s19) ∧
      ∃ (s23 : ByteArray),
      w_2.cell? ⟨b22, o22 + x3.toNat * 1, none⟩ = some (.string s23) ∧
      sel (decide (s19 = s23)) (
        R (.bool true) w_2.drew) (
        let i15 : Int := IntKind.i64.wrap (x4 + 1);
        ([.slice Aa0 na0 ca0, .int .i64 x3] : List Value) = ([.slice Aa0 na0 ca0, .int .i64 x3] : List Value) ∧ ∃ m, m < r_1 ∧ I_1 i15 w_2.drew m)) (
      let i10 : Int := IntKind.i64.wrap (x3 + 1);
      ([.slice Aa0 na0 ca0] : List Value) = ([.slice Aa0 na0 ca0] : List Value) ∧ ∃ m, m < r ∧ I i10 w_2 m)) (
    R (.bool false) w_1)
theorem f69.eq (Aa0 : Option Addr) (na0 ca0 : Nat) (w : World) (R : Value → World → Prop) : f69.VC Aa0 na0 ca0 w R = funV Try.prog Try.f69 f69.AL f69.AC #[.slice Aa0 na0 ca0] w R := by kernel_rfl
theorem f69.calls {Aa0 : Option Addr} {na0 ca0 : Nat} {w : World} {R : Value → World → Prop} (h : f69.VC Aa0 na0 ca0 w R) : Calls Try.prog 69 #[.slice Aa0 na0 ca0] w fun e w' => ∃ v, e = .returned v ∧ R v w' :=
  funV_sound (fn := Try.f69) (AL := f69.AL) (AC := f69.AC) W5.mixed (by kernel_rfl) (by rw [← f69.eq Aa0 na0 ca0]; exact h)

/-- gatehouse/gatehouseref11.Greatest -/
def f42.AL : Nat → Option Ann := fun r => match r with | 3 => some ⟨[(4, .int .i64), (5, .int .i64)], [0]⟩ | _ => none
def f42.AC : Nat → Option Ann := fun _ => none
def f42.VC (Aa0 : Option Addr) (na0 ca0 : Nat) (w : World) (R : Value → World → Prop) : Prop :=
  ∃ I : Int → Int → World → Nat → Prop,
  (∃ n, I 0 0 w n) ∧
  ∀ d : Env, ∀ (x4 : Int) (x5 : Int) (w_1 : World) (r : Nat), I x4 x5 w_1 r →
  sel (decide ((x5 : Int) < ((na0 : Int) : Int))) (
    (0 : Int) ≤ x5 ∧ x5 < (na0 : Int) ∧
    needPtr Aa0 fun b14 o14 =>
    ∃ (x15 : Int),
    w_1.cell? ⟨b14, o14 + x5.toNat * 1, none⟩ = some (.int .i64 x15) ∧
    sel (decide ((x15 : Int) < (1 : Int))) (
      R (.tuple #[.int .i64 0, .bool false]) w_1) (
      (0 : Int) ≤ x5 ∧ x5 < (na0 : Int) ∧
      needPtr Aa0 fun b20 o20 =>
      ∃ (x21 : Int),
      w_1.cell? ⟨b20, o20 + x5.toNat * 1, none⟩ = some (.int .i64 x21) ∧
      let i23 : Int := IntKind.i64.wrap (x4 + 1);
      sel (decide ((i23 : Int) < (x21 : Int))) (
        R (.tuple #[.int .i64 0, .bool false]) w_1) (
        (0 : Int) ≤ x5 ∧ x5 < (na0 : Int) ∧
        needPtr Aa0 fun b28 o28 =>
        ∃ (x29 : Int),
        w_1.cell? ⟨b28, o28 + x5.toNat * 1, none⟩ = some (.int .i64 x29) ∧
        sel (decide ((x4 : Int) < (x29 : Int))) (
          (0 : Int) ≤ x5 ∧ x5 < (na0 : Int) ∧
          needPtr Aa0 fun b34 o34 =>
          ∃ (x35 : Int),
          w_1.cell? ⟨b34, o34 + x5.toNat * 1, none⟩ = some (.int .i64 x35) ∧
          let i11 : Int := IntKind.i64.wrap (x5 + 1);
          ([.slice Aa0 na0 ca0] : List Value) = ([.slice Aa0 na0 ca0] : List Value) ∧ ∃ m, m < r ∧ I x35 i11 w_1 m) (
          let i11_1 : Int := IntKind.i64.wrap (x5 + 1);
          ([.slice Aa0 na0 ca0] : List Value) = ([.slice Aa0 na0 ca0] : List Value) ∧ ∃ m, m < r ∧ I x4 i11_1 w_1 m)))) (
    R (.tuple #[.int .i64 x4, .bool true]) w_1)
theorem f42.eq (Aa0 : Option Addr) (na0 ca0 : Nat) (w : World) (R : Value → World → Prop) : f42.VC Aa0 na0 ca0 w R = funV Try.prog Try.f42 f42.AL f42.AC #[.slice Aa0 na0 ca0] w R := by kernel_rfl
theorem f42.calls {Aa0 : Option Addr} {na0 ca0 : Nat} {w : World} {R : Value → World → Prop} (h : f42.VC Aa0 na0 ca0 w R) : Calls Try.prog 42 #[.slice Aa0 na0 ca0] w fun e w' => ∃ v, e = .returned v ∧ R v w' :=
  funV_sound (fn := Try.f42) (AL := f42.AL) (AC := f42.AC) W5.mixed (by kernel_rfl) (by rw [← f42.eq Aa0 na0 ca0]; exact h)

/-- gatehouse/gatehouseref11.shaped -/
def f70.AL : Nat → Option Ann := fun r => match r with | 5 => some ⟨[(7, .int .i64), (8, .int .i64)], [1, 2, 3]⟩ | 9 => some ⟨[(9, .int .i64)], [1, 2, 3, 7]⟩ | 14 => some ⟨[(10, .int .i64)], [1, 2, 3, 7, 9]⟩ | _ => none
def f70.AC : Nat → Option Ann := fun _ => none
def f70.VC (Aa0_0 : Option Addr) (na0_0 ca0_0 : Nat) (Aa0_1 : Option Addr) (na0_1 ca0_1 : Nat) (Aa0_2 : Option Addr) (na0_2 ca0_2 : Nat) (Aa0_3 : Option Addr) (na0_3 ca0_3 : Nat) (Aa0_4 : Option Addr) (na0_4 ca0_4 : Nat) (Aa0_5 : Option Addr) (na0_5 ca0_5 : Nat) (xa1 : Int) (xa2 : Int) (w : World) (R : Value → World → Prop) : Prop :=
  let w_1 : World := World.alloc w (.cells #[.slice Aa0_0 na0_0 ca0_0, .slice Aa0_1 na0_1 ca0_1, .slice Aa0_2 na0_2 ca0_2, .slice Aa0_3 na0_3 ca0_3, .slice Aa0_4 na0_4 ca0_4, .slice Aa0_5 na0_5 ca0_5] 29);
  ∃ (A12 : Option Addr) (n12 c12 : Nat),
  w_1.cell? ⟨w.heap.size, 5, none⟩ = some (.slice A12 n12 c12) ∧
  sel (((n12 : Int) : Int) != (xa1 : Int)) (
    R (.bool false) w_1) (
    ∃ I : Int → Int → World → Nat → Prop,
    (∃ n, I 1 0 w_1 n) ∧
    ∀ d : Env, ∀ (x7 : Int) (x8 : Int) (w_2 : World) (r : Nat), I x7 x8 w_2 r →
    ∃ (A18 : Option Addr) (n18 c18 : Nat),
    w_2.cell? ⟨w.heap.size, 0, none⟩ = some (.slice A18 n18 c18) ∧
    sel (decide ((x8 : Int) < ((n18 : Int) : Int))) (
      let i24 : Int := IntKind.i64.wrap (2 * x7);
      let i22 : Int := IntKind.i64.wrap (x8 + 1);
      ([.int .i64 xa1, .int .i64 xa2, .pointer (some ⟨w.heap.size, 0, none⟩)] : List Value) = ([.int .i64 xa1, .int .i64 xa2, .pointer (some ⟨w.heap.size, 0, none⟩)] : List Value) ∧ ∃ m, m < r ∧ I i24 i22 w_2 m) (
      ∃ I_1 : Int → World → Nat → Prop,
      (∃ n, I_1 0 w_2 n) ∧
      ∀ d_1 : Env, ∀ (x9 : Int) (w_3 : World) (r_1 : Nat), I_1 x9 w_3 r_1 →
      sel (decide ((x9 : Int) < (xa1 : Int))) (
        ∃ (A31 : Option Addr) (n31 c31 : Nat),
        w_3.cell? ⟨w.heap.size, 5, none⟩ = some (.slice A31 n31 c31) ∧
        (0 : Int) ≤ x9 ∧ x9 < (n31 : Int) ∧
        needPtr A31 fun b33 o33 =>
        ∃ (A34 : Option Addr) (n34 c34 : Nat),
        w_3.cell? ⟨b33, o33 + x9.toNat * 1, none⟩ = some (.slice A34 n34 c34) ∧
        sel (((n34 : Int) : Int) != (xa2 : Int)) (
          R (.bool false) w_3) (
          ∃ I_2 : Int → World → Nat → Prop,
          (∃ n, I_2 0 w_3 n) ∧
          ∀ d_2 : Env, ∀ (x10 : Int) (w_4 : World) (r_2 : Nat), I_2 x10 w_4 r_2 →
          sel (decide ((x10 : Int) < (xa2 : Int))) (
            ∃ (A44 : Option Addr) (n44 c44 : Nat),
            w_4.cell? ⟨w.heap.size, 5, none⟩ = some (.slice A44 n44 c44) ∧
            (0 : Int) ≤ x9 ∧ x9 < (n44 : Int) ∧
            needPtr A44 fun b46 o46 =>
            ∃ (A47 : Option Addr) (n47 c47 : Nat),
            w_4.cell? ⟨b46, o46 + x9.toNat * 1, none⟩ = some (.slice A47 n47 c47) ∧
            (0 : Int) ≤ x10 ∧ x10 < (n47 : Int) ∧
            needPtr A47 fun b49 o49 =>
            ∃ (x50 : Int),
            w_4.cell? ⟨b49, o49 + x10.toNat * 1, none⟩ = some (.int .u16 x50) ∧
            let i51 : Int := IntKind.i64.wrap x50;
            sel (decide ((x7 : Int) ≤ (i51 : Int))) (
              R (.bool false) w_4) (
              let i42 : Int := IntKind.i64.wrap (x10 + 1);
              ([.int .i64 xa1, .int .i64 xa2, .pointer (some ⟨w.heap.size, 0, none⟩), .int .i64 x7, .int .i64 x9] : List Value) = ([.int .i64 xa1, .int .i64 xa2, .pointer (some ⟨w.heap.size, 0, none⟩), .int .i64 x7, .int .i64 x9] : List Value) ∧ ∃ m, m < r_2 ∧ I_2 i42 w_4 m)) (
            let i29 : Int := IntKind.i64.wrap (x9 + 1);
            ([.int .i64 xa1, .int .i64 xa2, .pointer (some ⟨w.heap.size, 0, none⟩), .int .i64 x7] : List Value) = ([.int .i64 xa1, .int .i64 xa2, .pointer (some ⟨w.heap.size, 0, none⟩), .int .i64 x7] : List Value) ∧ ∃ m, m < r_1 ∧ I_1 i29 w_4 m))) (
        R (.bool true) w_3)))
theorem f70.eq (Aa0_0 : Option Addr) (na0_0 ca0_0 : Nat) (Aa0_1 : Option Addr) (na0_1 ca0_1 : Nat) (Aa0_2 : Option Addr) (na0_2 ca0_2 : Nat) (Aa0_3 : Option Addr) (na0_3 ca0_3 : Nat) (Aa0_4 : Option Addr) (na0_4 ca0_4 : Nat) (Aa0_5 : Option Addr) (na0_5 ca0_5 : Nat) (xa1 : Int) (xa2 : Int) (w : World) (R : Value → World → Prop) : f70.VC Aa0_0 na0_0 ca0_0 Aa0_1 na0_1 ca0_1 Aa0_2 na0_2 ca0_2 Aa0_3 na0_3 ca0_3 Aa0_4 na0_4 ca0_4 Aa0_5 na0_5 ca0_5 xa1 xa2 w R = funV Try.prog Try.f70 f70.AL f70.AC #[.agg #[.slice Aa0_0 na0_0 ca0_0, .slice Aa0_1 na0_1 ca0_1, .slice Aa0_2 na0_2 ca0_2, .slice Aa0_3 na0_3 ca0_3, .slice Aa0_4 na0_4 ca0_4, .slice Aa0_5 na0_5 ca0_5], .int .i64 xa1, .int .i64 xa2] w R := by kernel_rfl
theorem f70.calls {Aa0_0 : Option Addr} {na0_0 ca0_0 : Nat} {Aa0_1 : Option Addr} {na0_1 ca0_1 : Nat} {Aa0_2 : Option Addr} {na0_2 ca0_2 : Nat} {Aa0_3 : Option Addr} {na0_3 ca0_3 : Nat} {Aa0_4 : Option Addr} {na0_4 ca0_4 : Nat} {Aa0_5 : Option Addr} {na0_5 ca0_5 : Nat} {xa1 : Int} {xa2 : Int} {w : World} {R : Value → World → Prop} (h : f70.VC Aa0_0 na0_0 ca0_0 Aa0_1 na0_1 ca0_1 Aa0_2 na0_2 ca0_2 Aa0_3 na0_3 ca0_3 Aa0_4 na0_4 ca0_4 Aa0_5 na0_5 ca0_5 xa1 xa2 w R) : Calls Try.prog 70 #[.agg #[.slice Aa0_0 na0_0 ca0_0, .slice Aa0_1 na0_1 ca0_1, .slice Aa0_2 na0_2 ca0_2, .slice Aa0_3 na0_3 ca0_3, .slice Aa0_4 na0_4 ca0_4, .slice Aa0_5 na0_5 ca0_5], .int .i64 xa1, .int .i64 xa2] w fun e w' => ∃ v, e = .returned v ∧ R v w' :=
  funV_sound (fn := Try.f70) (AL := f70.AL) (AC := f70.AC) W5.mixed (by kernel_rfl) (by rw [← f70.eq Aa0_0 na0_0 ca0_0 Aa0_1 na0_1 ca0_1 Aa0_2 na0_2 ca0_2 Aa0_3 na0_3 ca0_3 Aa0_4 na0_4 ca0_4 Aa0_5 na0_5 ca0_5 xa1 xa2]; exact h)

/-- gatehouse/gatehouseref11.column -/
def f71.AL : Nat → Option Ann := fun r => match r with | 3 => some ⟨[(5, .slice), (6, .int .i64)], [0, 1]⟩ | _ => none
def f71.AC : Nat → Option Ann := fun _ => none
def f71.VC (Aa0 : Option Addr) (na0 ca0 : Nat) (xa1 : Int) (w : World) (R : Value → World → Prop) : Prop :=
  ∃ I : Option Addr → Nat → Nat → Int → World → Nat → Prop,
  (∃ n, I none 0 0 0 w n) ∧
  ∀ d : Env, ∀ (A5 : Option Addr) (n5 c5 : Nat) (x6 : Int) (w_1 : World) (r : Nat), I A5 n5 c5 x6 w_1 r →
  sel (decide ((x6 : Int) < ((na0 : Int) : Int))) (
    (0 : Int) ≤ x6 ∧ x6 < (na0 : Int) ∧
    needPtr Aa0 fun b16 o16 =>
    ∃ (A17 : Option Addr) (n17 c17 : Nat),
    w_1.cell? ⟨b16, o16 + x6.toNat * 1, none⟩ = some (.slice A17 n17 c17) ∧
    (0 : Int) ≤ xa1 ∧ xa1 < (n17 : Int) ∧
    needPtr A17 fun b19 o19 =>
    ∃ (x20 : Int),
    w_1.cell? ⟨b19, o19 + xa1.toNat * 1, none⟩ = some (.int .u16 x20) ∧
    let w_2 : World := World.alloc w_1 (.cells #[.int .u16 x20] 79);
    ∃ (A22 : Option Addr) (n22 c22 : Nat),
    ∃ w_3 : World, (Builtin.append_ #[82, 82] 82 #[.slice A5 n5 c5, .slice (some ⟨w_1.heap.size, 0, none⟩) 1 1]).run Try.prog w_2 = .ok (.slice A22 n22 c22) w_3 ∧
    let i12 : Int := IntKind.i64.wrap (x6 + 1);
    ([.slice Aa0 na0 ca0, .int .i64 xa1] : List Value) = ([.slice Aa0 na0 ca0, .int .i64 xa1] : List Value) ∧ ∃ m, m < r ∧ I A22 n22 c22 i12 w_3 m) (
    R (.slice A5 n5 c5) w_1)
theorem f71.eq (Aa0 : Option Addr) (na0 ca0 : Nat) (xa1 : Int) (w : World) (R : Value → World → Prop) : f71.VC Aa0 na0 ca0 xa1 w R = funV Try.prog Try.f71 f71.AL f71.AC #[.slice Aa0 na0 ca0, .int .i64 xa1] w R := by kernel_rfl
theorem f71.calls {Aa0 : Option Addr} {na0 ca0 : Nat} {xa1 : Int} {w : World} {R : Value → World → Prop} (h : f71.VC Aa0 na0 ca0 xa1 w R) : Calls Try.prog 71 #[.slice Aa0 na0 ca0, .int .i64 xa1] w fun e w' => ∃ v, e = .returned v ∧ R v w' :=
  funV_sound (fn := Try.f71) (AL := f71.AL) (AC := f71.AC) W5.mixed (by kernel_rfl) (by rw [← f71.eq Aa0 na0 ca0 xa1]; exact h)

/-- gatehouse/gatehouseref11.equal -/
def f56.AL : Nat → Option Ann := fun r => match r with | 4 => some ⟨[(5, .int .i64)], [0, 1]⟩ | _ => none
def f56.AC : Nat → Option Ann := fun _ => none
def f56.VC (Aa0 : Option Addr) (na0 ca0 : Nat) (Aa1 : Option Addr) (na1 ca1 : Nat) (w : World) (R : Value → World → Prop) : Prop :=
  sel (((na0 : Int) : Int) != ((na1 : Int) : Int)) (
    R (.bool false) w) (
    ∃ I : Int → World → Nat → Prop,
    (∃ n, I 0 w n) ∧
    ∀ d : Env, ∀ (x5 : Int) (w_1 : World) (r : Nat), I x5 w_1 r →
    sel (decide ((x5 : Int) < ((na0 : Int) : Int))) (
      (0 : Int) ≤ x5 ∧ x5 < (na0 : Int) ∧
      needPtr Aa0 fun b19 o19 =>
      (0 : Int) ≤ x5 ∧ x5 < (na1 : Int) ∧
      needPtr Aa1 fun b23 o23 =>
      ∃ (x20 : Int),
      w_1.cell? ⟨b19, o19 + x5.toNat * 1, none⟩ = some (.int .u16 x20) ∧
      ∃ (x24 : Int),
      w_1.cell? ⟨b23, o23 + x5.toNat * 1, none⟩ = some (.int .u16 x24) ∧
      sel ((x20 : Int) != (x24 : Int)) (
        R (.bool false) w_1.drew) (
        let i16 : Int := IntKind.i64.wrap (x5 + 1);
        ([.slice Aa0 na0 ca0, .slice Aa1 na1 ca1] : List Value) = ([.slice Aa0 na0 ca0, .slice Aa1 na1 ca1] : List Value) ∧ ∃ m, m < r ∧ I i16 w_1.drew m)) (
      R (.bool true) w_1))
theorem f56.eq (Aa0 : Option Addr) (na0 ca0 : Nat) (Aa1 : Option Addr) (na1 ca1 : Nat) (w : World) (R : Value → World → Prop) : f56.VC Aa0 na0 ca0 Aa1 na1 ca1 w R = funV Try.prog Try.f56 f56.AL f56.AC #[.slice Aa0 na0 ca0, .slice Aa1 na1 ca1] w R := by kernel_rfl
theorem f56.calls {Aa0 : Option Addr} {na0 ca0 : Nat} {Aa1 : Option Addr} {na1 ca1 : Nat} {w : World} {R : Value → World → Prop} (h : f56.VC Aa0 na0 ca0 Aa1 na1 ca1 w R) : Calls Try.prog 56 #[.slice Aa0 na0 ca0, .slice Aa1 na1 ca1] w fun e w' => ∃ v, e = .returned v ∧ R v w' :=
  funV_sound (fn := Try.f56) (AL := f56.AL) (AC := f56.AC) W5.mixed (by kernel_rfl) (by rw [← f56.eq Aa0 na0 ca0 Aa1 na1 ca1]; exact h)

/-- gatehouse/graph.once -/
def f72.AL : Nat → Option Ann := fun r => match r with | 2 => some ⟨[(7, .int .i64)], [0, 5, 6]⟩ | _ => none
def f72.AC : Nat → Option Ann := fun _ => none
def f72.VC (Aa0 : Option Addr) (na0 ca0 : Nat) (w : World) (R : Value → World → Prop) : Prop :=
  ∃ I : Int → World → Nat → Prop,
  (∃ n, I 0 w n) ∧
  ∀ d : Env, ∀ (x7 : Int) (w_1 : World) (r : Nat), I x7 w_1 r →
  sel (decide ((x7 : Int) < ((na0 : Int) : Int))) (
    (0 : Int) ≤ x7 ∧ x7 < (na0 : Int) ∧
    needPtr Aa0 fun b10 o10 =>
    ∃ (s11 : ByteArray),
    w_1.cell? ⟨b10, o10 + x7.toNat * 1, none⟩ = some (.string s11) ∧
    (0 : Int) ≤ x7 ∧ x7 ≤ (ca0 : Int) ∧
    Calls Try.prog 95 #[.slice Aa0 x7.toNat ca0, .string s11] w_1 fun e_1 w_2 =>
    ∃ (b16 : Bool),
    e_1 = .returned (.bool b16) ∧
    sel b16 (
      R (.bool false) w_2) (
      let i17 : Int := IntKind.i64.wrap (x7 + 1);
      ([.slice Aa0 na0 ca0, .slice Aa0 na0 ca0, .int .i64 (na0 : Int)] : List Value) = ([.slice Aa0 na0 ca0, .slice Aa0 na0 ca0, .int .i64 (na0 : Int)] : List Value) ∧ ∃ m, m < r ∧ I i17 w_2 m)) (
    R (.bool true) w_1)
theorem f72.eq (Aa0 : Option Addr) (na0 ca0 : Nat) (w : World) (R : Value → World → Prop) : f72.VC Aa0 na0 ca0 w R = funV Try.prog Try.f72 f72.AL f72.AC #[.slice Aa0 na0 ca0] w R := by kernel_rfl
theorem f72.calls {Aa0 : Option Addr} {na0 ca0 : Nat} {w : World} {R : Value → World → Prop} (h : f72.VC Aa0 na0 ca0 w R) : Calls Try.prog 72 #[.slice Aa0 na0 ca0] w fun e w' => ∃ v, e = .returned v ∧ R v w' :=
  funV_sound (fn := Try.f72) (AL := f72.AL) (AC := f72.AC) W5.mixed (by kernel_rfl) (by rw [← f72.eq Aa0 na0 ca0]; exact h)

/-- gatehouse/graph.counted -/
def f73.AL : Nat → Option Ann := fun r => match r with | 3 => some ⟨[(4, .int .i64), (9, .int .i64)], [7, 8]⟩ | _ => none
def f73.AC : Nat → Option Ann := fun _ => none
def f73.VC (Aa0 : Option Addr) (na0 ca0 : Nat) (w : World) (R : Value → World → Prop) : Prop :=
  ∃ I : Int → Int → World → Nat → Prop,
  (∃ n, I 0 0 w n) ∧
  ∀ d : Env, ∀ (x4 : Int) (x9 : Int) (w_1 : World) (r : Nat), I x4 x9 w_1 r →
  sel (decide ((x9 : Int) < ((na0 : Int) : Int))) (
    (0 : Int) ≤ x9 ∧ x9 < (na0 : Int) ∧
    needPtr Aa0 fun b11 o11 =>
    ∃ (x12 : Int),
    w_1.cell? ⟨b11, o11 + x9.toNat * 1, none⟩ = some (.int .i64 x12) ∧
    sel (decide ((x12 : Int) < (1 : Int))) (
      R (.tuple #[.int .i64 0, .bool false]) w_1) (
      let i18 : Int := IntKind.i64.wrap (x4 + 1);
      sel (decide ((i18 : Int) < (x12 : Int))) (
        R (.tuple #[.int .i64 0, .bool false]) w_1) (
        ∃ (x23 : Int),
        ∃ w_2 : World, (Builtin.max_ #[3, 3] 3 #[.int .i64 x4, .int .i64 x12]).run Try.prog w_1 = .ok (.int .i64 x23) w_2 ∧
        let i24 : Int := IntKind.i64.wrap (x9 + 1);
        ([.slice Aa0 na0 ca0, .int .i64 (na0 : Int)] : List Value) = ([.slice Aa0 na0 ca0, .int .i64 (na0 : Int)] : List Value) ∧ ∃ m, m < r ∧ I x23 i24 w_2 m))) (
    R (.tuple #[.int .i64 x4, .bool true]) w_1)
theorem f73.eq (Aa0 : Option Addr) (na0 ca0 : Nat) (w : World) (R : Value → World → Prop) : f73.VC Aa0 na0 ca0 w R = funV Try.prog Try.f73 f73.AL f73.AC #[.slice Aa0 na0 ca0] w R := by kernel_rfl
theorem f73.calls {Aa0 : Option Addr} {na0 ca0 : Nat} {w : World} {R : Value → World → Prop} (h : f73.VC Aa0 na0 ca0 w R) : Calls Try.prog 73 #[.slice Aa0 na0 ca0] w fun e w' => ∃ v, e = .returned v ∧ R v w' :=
  funV_sound (fn := Try.f73) (AL := f73.AL) (AC := f73.AC) W5.mixed (by kernel_rfl) (by rw [← f73.eq Aa0 na0 ca0]; exact h)

/-- slices.Contains[[]string,string] -/
def f95.AL : Nat → Option Ann := fun _ => none
def f95.AC : Nat → Option Ann := fun _ => none
def f95.VC (Aa0 : Option Addr) (na0 ca0 : Nat) (sa1 : ByteArray) (w : World) (R : Value → World → Prop) : Prop :=
  Calls Try.prog 79 #[.slice Aa0 na0 ca0, .string sa1] w fun e_1 w_1 =>
  ∃ (x7 : Int),
  e_1 = .returned (.int .i64 x7) ∧
  R (.bool (decide ((0 : Int) ≤ (x7 : Int)))) w_1
theorem f95.eq (Aa0 : Option Addr) (na0 ca0 : Nat) (sa1 : ByteArray) (w : World) (R : Value → World → Prop) : f95.VC Aa0 na0 ca0 sa1 w R = funV Try.prog Try.f95 f95.AL f95.AC #[.slice Aa0 na0 ca0, .string sa1] w R := by kernel_rfl
theorem f95.calls {Aa0 : Option Addr} {na0 ca0 : Nat} {sa1 : ByteArray} {w : World} {R : Value → World → Prop} (h : f95.VC Aa0 na0 ca0 sa1 w R) : Calls Try.prog 95 #[.slice Aa0 na0 ca0, .string sa1] w fun e w' => ∃ v, e = .returned v ∧ R v w' :=
  funV_sound (fn := Try.f95) (AL := f95.AL) (AC := f95.AC) W5.mixed (by kernel_rfl) (by rw [← f95.eq Aa0 na0 ca0 sa1]; exact h)

/-- slices.Index[[]string,string] -/
def f79.AL : Nat → Option Ann := fun r => match r with | 2 => some ⟨[(8, .int .i64)], [0, 1, 7]⟩ | _ => none
def f79.AC : Nat → Option Ann := fun _ => none
def f79.VC (Aa0 : Option Addr) (na0 ca0 : Nat) (sa1 : ByteArray) (w : World) (R : Value → World → Prop) : Prop :=
  ∃ I : Int → World → Nat → Prop,
  (∃ n, I 0 w n) ∧
  ∀ d : Env, ∀ (x8 : Int) (w_1 : World) (r : Nat), I x8 w_1 r →
  sel (decide ((x8 : Int) < ((na0 : Int) : Int))) (
    (0 : Int) ≤ x8 ∧ x8 < (na0 : Int) ∧
    needPtr Aa0 fun b14 o14 =>
    ∃ (s15 : ByteArray),
    w_1.cell? ⟨b14, o14 + x8.toNat * 1, none⟩ = some (.string s15) ∧
    sel (decide (sa1 = s15)) (
      R (.int .i64 x8) w_1) (
      let i18 : Int := IntKind.i64.wrap (x8 + 1);
      ([.slice Aa0 na0 ca0, .string sa1, .int .i64 (na0 : Int)] : List Value) = ([.slice Aa0 na0 ca0, .string sa1, .int .i64 (na0 : Int)] : List Value) ∧ ∃ m, m < r ∧ I i18 w_1 m)) (
    R (.int .i64 (-1)) w_1)
theorem f79.eq (Aa0 : Option Addr) (na0 ca0 : Nat) (sa1 : ByteArray) (w : World) (R : Value → World → Prop) : f79.VC Aa0 na0 ca0 sa1 w R = funV Try.prog Try.f79 f79.AL f79.AC #[.slice Aa0 na0 ca0, .string sa1] w R := by kernel_rfl
theorem f79.calls {Aa0 : Option Addr} {na0 ca0 : Nat} {sa1 : ByteArray} {w : World} {R : Value → World → Prop} (h : f79.VC Aa0 na0 ca0 sa1 w R) : Calls Try.prog 79 #[.slice Aa0 na0 ca0, .string sa1] w fun e w' => ∃ v, e = .returned v ∧ R v w' :=
  funV_sound (fn := Try.f79) (AL := f79.AL) (AC := f79.AC) W5.mixed (by kernel_rfl) (by rw [← f79.eq Aa0 na0 ca0 sa1]; exact h)

/-- slices.Max[[]int,int] -/
def f82.AL : Nat → Option Ann := fun r => match r with | 5 => some ⟨[(3, .int .i64), (4, .int .i64)], [0]⟩ | _ => none
def f82.AC : Nat → Option Ann := fun _ => none
def f82.VC (Aa0 : Option Addr) (na0 ca0 : Nat) (w : World) (R : Value → World → Prop) : Prop :=
  sel (decide (((na0 : Int) : Int) < (1 : Int))) (
    False) (
    (0 : Int) ≤ 0 ∧ 0 < (na0 : Int) ∧
    needPtr Aa0 fun b10 o10 =>
    ∃ (x11 : Int),
    w.cell? ⟨b10, o10, none⟩ = some (.int .i64 x11) ∧
    ∃ I : Int → Int → World → Nat → Prop,
    (∃ n, I x11 1 w n) ∧
    ∀ d : Env, ∀ (x3 : Int) (x4 : Int) (w_1 : World) (r : Nat), I x3 x4 w_1 r →
    sel (decide ((x4 : Int) < ((na0 : Int) : Int))) (
      (0 : Int) ≤ x4 ∧ x4 < (na0 : Int) ∧
      needPtr Aa0 fun b21 o21 =>
      ∃ (x22 : Int),
      w_1.cell? ⟨b21, o21 + x4.toNat * 1, none⟩ = some (.int .i64 x22) ∧
      ∃ (x23 : Int),
      ∃ w_2 : World, (Builtin.max_ #[3, 3] 3 #[.int .i64 x3, .int .i64 x22]).run Try.prog w_1 = .ok (.int .i64 x23) w_2 ∧
      let i17 : Int := IntKind.i64.wrap (x4 + 1);
      ([.slice Aa0 na0 ca0] : List Value) = ([.slice Aa0 na0 ca0] : List Value) ∧ ∃ m, m < r ∧ I x23 i17 w_2 m) (
      R (.int .i64 x3) w_1))
theorem f82.eq (Aa0 : Option Addr) (na0 ca0 : Nat) (w : World) (R : Value → World → Prop) : f82.VC Aa0 na0 ca0 w R = funV Try.prog Try.f82 f82.AL f82.AC #[.slice Aa0 na0 ca0] w R := by kernel_rfl
theorem f82.calls {Aa0 : Option Addr} {na0 ca0 : Nat} {w : World} {R : Value → World → Prop} (h : f82.VC Aa0 na0 ca0 w R) : Calls Try.prog 82 #[.slice Aa0 na0 ca0] w fun e w' => ∃ v, e = .returned v ∧ R v w' :=
  funV_sound (fn := Try.f82) (AL := f82.AL) (AC := f82.AC) W5.mixed (by kernel_rfl) (by rw [← f82.eq Aa0 na0 ca0]; exact h)

end Go.Proofs.Ytjmlfknogjaemaa
