/- The plain statements of some functions, printed by vcgen.py. -/
import Derived.Test.YtjmlfknogjaemaaM4
import Derived.Test.YtjmlfknogjaemaaProg
import Derived.KernelRfl
import Derived.Test.YtjmlfknogjaemaaM7
import Derived.Test.YtjmlfknogjaemaaM8
set_option maxRecDepth 100000
set_option linter.unusedVariables false
namespace Go.Proofs.Ytjmlfknogjaemaa
open Go Go.Proofs.Ytjmlfknogjaemaa.Vc
theorem W1.mixed : Try.prog.follows .mixedOrders = true := by kernel_rfl
/-- (*gatehouse/names.Index[string]).Of -/
def f32.AL : Nat → Option Ann := fun _ => none
def f32.AC : Nat → Option Ann := fun _ => none
def f32.VC (a0 : Nat) (sa1 : ByteArray) (w : World) (R : Value → World → Prop) : Prop :=
  ∃ (m11 : Option Nat),
  w.cell? ⟨a0, 0, none⟩ = some (.map m11) ∧
  ∃ (x13_0 : Int) (b13_1 : Bool),
  ∃ w_1 : World, (Instr.lookup 120 (.map m11) (.string sa1) true).run Try.prog w = .ok (.tuple #[.int .i64 x13_0, .bool b13_1]) w_1 ∧
  sel b13_1 (
  R (.int .i64 x13_0) w_1) (
  ∃ (A21 : Option Addr) (n21 c21 : Nat),
  w_1.cell? ⟨a0, 1, none⟩ = some (.slice A21 n21 c21) ∧
  sel (decide ((1048576 : Int) ≤ ((n21 : Int) : Int))) (
  R (.int .i64 0) w_1) (
  ∃ (A28 : Option Addr) (n28 c28 : Nat),
  w_1.cell? ⟨a0, 1, none⟩ = some (.slice A28 n28 c28) ∧
  let w_2 : World := World.alloc w_1 (.cells #[.string sa1] 9);
  ∃ (A31 : Option Addr) (n31 c31 : Nat),
  ∃ w_3 : World, (Builtin.append_ #[25, 25] 25 #[.slice A28 n28 c28, .slice (some ⟨w_1.heap.size, 0, none⟩) 1 1]).run Try.prog w_2 = .ok (.slice A31 n31 c31) w_3 ∧
  canStore w_3 a0 1 1 ∧
  let w_4 : World := setCs w_3 a0 1 [.slice A31 n31 c31];
  ∃ (m37 : Option Nat),
  w_4.cell? ⟨a0, 0, none⟩ = some (.map m37) ∧
  ∃ (A42 : Option Addr) (n42 c42 : Nat),
  w_4.cell? ⟨a0, 1, none⟩ = some (.slice A42 n42 c42) ∧
  ∃ w_5 : World, (Instr.mapUpdate 120 (.map m37) (.string sa1) (.int .i64 (n42 : Int))).run Try.prog w_4.drew = .ok () w_5 ∧
  ∃ (A47 : Option Addr) (n47 c47 : Nat),
  w_5.cell? ⟨a0, 1, none⟩ = some (.slice A47 n47 c47) ∧
  R (.int .i64 (n47 : Int)) w_5))
theorem f32.eq (a0 : Nat) (sa1 : ByteArray) (w : World) (R : Value → World → Prop) : f32.VC a0 sa1 w R = funV Try.prog Try.f32 f32.AL f32.AC #[.pointer (some ⟨a0, 0, none⟩), .string sa1] w R := by kernel_rfl
theorem f32.calls {a0 : Nat} {sa1 : ByteArray} {w : World} {R : Value → World → Prop} (h : f32.VC a0 sa1 w R) : Calls Try.prog 32 #[.pointer (some ⟨a0, 0, none⟩), .string sa1] w fun e w' => ∃ v, e = .returned v ∧ R v w' :=
  funV_sound (fn := Try.f32) (AL := f32.AL) (AC := f32.AC) W1.mixed (by kernel_rfl) (by rw [← f32.eq a0 sa1]; exact h)

/-- (*gatehouse/gatehouseref01.Index).Of -/
def f39.AL : Nat → Option Ann := fun _ => none
def f39.AC : Nat → Option Ann := fun _ => none
def f39.VC (a0 : Nat) (sa1 : ByteArray) (w : World) (R : Value → World → Prop) : Prop :=
  Calls Try.prog 80 #[.pointer (some ⟨a0, 0, none⟩), .string sa1] w fun e_1 w_1 =>
  ∃ (x10_0 : Int) (b10_1 : Bool),
  e_1 = .returned (.tuple #[.int .i64 x10_0, .bool b10_1]) ∧
  sel b10_1 (
  R (.int .i64 x10_0) w_1) (
  ∃ (A18 : Option Addr) (n18 c18 : Nat),
  w_1.cell? ⟨a0, 0, none⟩ = some (.slice A18 n18 c18) ∧
  sel (decide ((1048576 : Int) ≤ ((n18 : Int) : Int))) (
  R (.int .i64 0) w_1) (
  ∃ (A25 : Option Addr) (n25 c25 : Nat),
  w_1.cell? ⟨a0, 0, none⟩ = some (.slice A25 n25 c25) ∧
  let w_2 : World := World.alloc w_1 (.cells #[.string sa1] 9);
  ∃ (A28 : Option Addr) (n28 c28 : Nat),
  ∃ w_3 : World, (Builtin.append_ #[25, 25] 25 #[.slice A25 n25 c25, .slice (some ⟨w_1.heap.size, 0, none⟩) 1 1]).run Try.prog w_2 = .ok (.slice A28 n28 c28) w_3 ∧
  canStore w_3 a0 0 1 ∧
  let w_4 : World := setCs w_3 a0 0 [.slice A28 n28 c28];
  ∃ (A34 : Option Addr) (n34 c34 : Nat),
  w_4.cell? ⟨a0, 0, none⟩ = some (.slice A34 n34 c34) ∧
  R (.int .i64 (n34 : Int)) w_4))
theorem f39.eq (a0 : Nat) (sa1 : ByteArray) (w : World) (R : Value → World → Prop) : f39.VC a0 sa1 w R = funV Try.prog Try.f39 f39.AL f39.AC #[.pointer (some ⟨a0, 0, none⟩), .string sa1] w R := by kernel_rfl
theorem f39.calls {a0 : Nat} {sa1 : ByteArray} {w : World} {R : Value → World → Prop} (h : f39.VC a0 sa1 w R) : Calls Try.prog 39 #[.pointer (some ⟨a0, 0, none⟩), .string sa1] w fun e w' => ∃ v, e = .returned v ∧ R v w' :=
  funV_sound (fn := Try.f39) (AL := f39.AL) (AC := f39.AC) W1.mixed (by kernel_rfl) (by rw [← f39.eq a0 sa1]; exact h)

end Go.Proofs.Ytjmlfknogjaemaa
/- Page: the index of texts: its contracts. -/
set_option linter.unusedVariables false
set_option linter.unusedSimpArgs false
set_option maxRecDepth 10000
namespace Go.Proofs.Ytjmlfknogjaemaa
open Go Go.Proofs.Ytjmlfknogjaemaa.Vc
namespace NI
abbrev encS (s : ByteArray) : Value := .string s
abbrev encN (n : Int) : Value := .int .i64 n
abbrev txC (v : Value) (l : List ByteArray) : Chunk := Chunk.sl 9 1 v (l.map fun s => [Value.string s])
abbrev mpC (r : Nat) (l : List ByteArray) : Chunk := Chunk.map encS encN r (IX.pairs l)
abbrev xB (x : Nat) (y : Nat × Option Addr × Nat × Nat) : Chunk := Chunk.blk x #[.map (some y.1), .slice y.2.1 y.2.2.1 y.2.2.2] 122
/-- An index at x that knows the things l. -/
def idxC (x : Nat) (l : List ByteArray) : Chunk :=
  Chunk.ex fun y : Nat × Option Addr × Nat × Nat => Chunk.star (xB x y) (Chunk.star (mpC y.1 l) (txC (.slice y.2.1 y.2.2.1 y.2.2.2) l))
section
variable {S : List Nat} {w0 w : World} {K : List Chunk} {x : Nat} {l : List ByteArray}
theorem openI (h : St S w0 w (idxC x l :: K)) : ∃ y : Nat × Option Addr × Nat × Nat, St S w0 w (xB x y :: mpC y.1 l :: txC (.slice y.2.1 y.2.2.1 y.2.2.2) l :: K) := by
  obtain ⟨y, h1⟩ := h.unex 0 rfl
  have h2 := St.split h1
  have h3 := St.split (h2.perm (List.Perm.swap _ _ _))
  exact ⟨y, h3.perm (((List.Perm.swap _ _ _).cons _).trans (List.Perm.swap _ _ _))⟩
theorem closeI (y : Nat × Option Addr × Nat × Nat) (h : St S w0 w (xB x y :: mpC y.1 l :: txC (.slice y.2.1 y.2.2.1 y.2.2.2) l :: K)) : St S w0 w (idxC x l :: K) := by
  have h2 := St.join (h.perm ((List.Perm.swap _ _ _).trans ((List.Perm.swap _ _ _).cons _)))
  have h3 := St.join (h2.perm (List.Perm.swap _ _ _))
  exact h3.as 0 rfl (idxC x l) (fun F hF => ⟨y, hF⟩)
theorem new (h : St S w0 w K) : Calls Try.prog 29 #[] w fun e w' => ∃ x, e = .returned (.pointer (some ⟨x, 0, none⟩)) ∧ St S w0 w' (idxC x [] :: K) := by
  refine Calls.mono (f29.calls (R := fun v w' => ∃ x, v = .pointer (some ⟨x, 0, none⟩) ∧ St S w0 w' (idxC x [] :: K)) ?_) ?_
  · dsimp only [f29.VC]
    have h1 := (h.nil 9 1).mapNew (encK := encS) (encV := encN)
    have h2 := h1.alloc #[.map (some w.heap.size), .slice none 0 0] 122
    exact ⟨_, rfl, closeI (w.heap.size, none, 0, 0) h2⟩
  · rintro e w' ⟨v, rfl, x, rfl, h⟩; exact ⟨x, rfl, h⟩
end
theorem under120 : Try.prog.underlying 120 = some (.map 9 3) := by kernel_rfl
theorem under9 : Try.prog.underlying 9 = some .string := by kernel_rfl
theorem info3 : ∃ i, Try.prog.info? 3 = some i ∧ i.zero = some (.int .i64 0) ∧ i.size = 1 ∧ i.bytes = 8 := ⟨Try.prog.types[3]!, by kernel_rfl, by kernel_rfl, by kernel_rfl, by kernel_rfl⟩
theorem info9 : ∃ i, Try.prog.info? 9 = some i ∧ i.zero = some (.string ⟨#[]⟩) ∧ i.size = 1 ∧ i.bytes = 16 := ⟨Try.prog.types[9]!, by kernel_rfl, by kernel_rfl, by kernel_rfl, by kernel_rfl⟩
theorem under25 : Try.prog.underlying 25 = some (.slice 9) := by kernel_rfl
theorem keyS : GM.KeyLaw Try.prog 9 encS := GM.KeyLaw.text under9
/-- A lookup in an index's map. -/
theorem lookI {w : World} {mp : Nat} {l : List ByteArray} (h : GM.MapIs encS encN w mp (IX.pairs l)) (s : ByteArray) :
    (Instr.lookup 120 (.map (some mp)) (.string s) true).run Try.prog w = .ok (.tuple #[.int .i64 (IX.num l s : Int), .bool (decide (IX.num l s ≠ 0))]) w := by
  obtain ⟨ti, i1, i2, i3, i4⟩ := info3
  have h1 := GM.look (d := (0 : Int)) under120 keyS i1 i2 h s true
  rw [(IX.get_pairs l s).1, (IX.get_pairs l s).2] at h1
  exact h1
section
variable {S : List Nat} {w0 w : World} {K : List Chunk} {x : Nat} {l : List ByteArray}
end
section
variable {S : List Nat} {w0 w : World} {K : List Chunk} {x : Nat} {l : List ByteArray}
theorem of_ {F : List Nat} (hI : St F w w [idxC x l]) (hl : l.length ≤ 1048576) (s : ByteArray) : Calls Try.prog 32 #[.pointer (some ⟨x, 0, none⟩), .string s] w fun e w' => e = .returned (.int .i64 (IX.ofN l s : Int)) ∧ St F w w' [idxC x (IX.of l s)] := by
  refine Calls.mono (f32.calls (R := fun v w' => v = .int .i64 (IX.ofN l s : Int) ∧ St F w w' [idxC x (IX.of l s)]) ?_) ?_
  · dsimp only [f32.VC]
    obtain ⟨y, hS⟩ := openI hI
    have hn := hS.slLen 2 rfl
    rw [List.length_map] at hn
    refine ⟨_, (hS.blk 0 rfl).cell rfl, _, _, _, lookI (hS.mapIs 1 rfl) s, sel_of (fun h0 => ?_) (fun h0 => ?_)⟩
    · have h0 : IX.num l s ≠ 0 := of_decide_eq_true h0
      have e1 : IX.ofN l s = IX.num l s := by unfold IX.ofN; rw [if_neg h0]
      have e2 : IX.of l s = l := by unfold IX.of; rw [if_neg h0]
      rw [e1, e2]
      exact ⟨rfl, hI⟩
    · have h0 : IX.num l s = 0 := by simpa using h0
      refine ⟨_, _, _, (hS.blk 0 rfl).cell rfl, sel_of (fun hb => ?_) (fun hb => ?_)⟩
      · have hb : 1048576 ≤ l.length := by have := of_decide_eq_true hb; omega
        have e1 : IX.ofN l s = 0 := by unfold IX.ofN; rw [if_pos h0, if_pos hb]
        have e2 : IX.of l s = l := by unfold IX.of; rw [if_pos h0, if_pos hb]
        rw [e1, e2]
        exact ⟨rfl, hI⟩
      · have hb : ¬ l.length ≥ 1048576 := by have := of_decide_eq_false hb; omega
        have e1 : IX.ofN l s = l.length + 1 := by unfold IX.ofN; rw [if_pos h0, if_neg hb]
        have e2 : IX.of l s = l ++ [s] := by unfold IX.of; rw [if_pos h0, if_neg hb]
        rw [e1, e2]
        have hS2 := hS.alloc #[.string s] 9
        obtain ⟨ti, i1, i2, i3, i4⟩ := info9
        obtain ⟨g', cap', w3, hrun, hS3⟩ := hS2.append (P := Try.prog) (ty := 25) (r := [.string s]) 3 under25 i1 i2 i3 rfl (by decide) rfl (hS2.blk 0 rfl) rfl rfl (by intro u hu; simp at hu; subst hu; rfl) (by rw [i4]; simp; omega) (by simp [maxLen]; omega)
        have el : (l.map fun s => [Value.string s]).length = l.length := by simp
        rw [el] at hrun
        have hS3 : St F w w3 [xB x y, mpC y.1 l, txC (.slice (some ⟨g', 0, none⟩) (l.length + 1) cap') (l ++ [s])] := by
          have := hS3.tail
          rw [el, show (l.map fun s => [Value.string s]) ++ [[Value.string s]] = (l ++ [s]).map (fun s => [Value.string s]) by simp] at this
          exact this
        refine ⟨_, _, _, (hS.blk 0 rfl).cell rfl, _, _, _, _, hrun, (hS3.blk 0 rfl).can (by simp), ?_⟩
        have hS4 := hS3.set 0 rfl 1 [.slice (some ⟨g', 0, none⟩) (l.length + 1) cap']
        generalize setCs w3 x 1 [.slice (some ⟨g', 0, none⟩) (l.length + 1) cap'] = w4 at *
        have hS4 : St F w w4 [xB x (y.1, some ⟨g', 0, none⟩, l.length + 1, cap'), mpC y.1 l, txC (.slice (some ⟨g', 0, none⟩) (l.length + 1) cap') (l ++ [s])] := hS4
        obtain ⟨w5, hup, hS5⟩ := hS4.drew.mapUpd 1 rfl under120 keyS s (((l.length + 1 : Nat) : Int))
        rw [IX.put_pairs l s h0] at hS5
        exact ⟨_, (hS4.blk 0 rfl).cell rfl, _, _, _, (hS4.blk 0 rfl).cell rfl, _, hup, _, _, _, (hS5.blk 0 rfl).cell rfl, rfl, closeI (y.1, some ⟨g', 0, none⟩, l.length + 1, cap') hS5⟩
  · rintro e w' ⟨v, rfl, rfl, h⟩; exact ⟨rfl, h⟩
theorem of (h : St S w0 w K) (i : Nat) (hi : K[i]? = some (idxC x l)) (hl : l.length ≤ 1048576) (s : ByteArray) : Calls Try.prog 32 #[.pointer (some ⟨x, 0, none⟩), .string s] w fun e w' => e = .returned (.int .i64 (IX.ofN l s : Int)) ∧ St S w0 w' (K.set i (idxC x (IX.of l s))) :=
  h.use i hi (fun F hF => of_ hF hl s)
end
section
variable {S : List Nat} {w0 w : World} {K : List Chunk} {x : Nat} {l : List ByteArray}
/-- The thing that has a number. -/
def thing (l : List ByteArray) (n : Int) : ByteArray × Bool := if n < 1 ∨ (l.length : Int) < n then (⟨#[]⟩, false) else (l.getD (n - 1).toNat ⟨#[]⟩, true)
end
end NI
end Go.Proofs.Ytjmlfknogjaemaa
/- Page: the document's index of texts: its contracts. -/
set_option linter.unusedVariables false
set_option linter.unusedSimpArgs false
set_option maxRecDepth 10000
namespace Go.Proofs.Ytjmlfknogjaemaa
open Go Go.Proofs.Ytjmlfknogjaemaa.Vc
namespace NI
abbrev rB (T : TypeId) (x : Nat) (y : Option Addr × Nat × Nat) : Chunk := Chunk.blk x #[.slice y.1 y.2.1 y.2.2] T
/-- The document's index at x that knows the things l. -/
def refI (T : TypeId) (x : Nat) (l : List ByteArray) : Chunk :=
  Chunk.ex fun y : Option Addr × Nat × Nat => Chunk.star (rB T x y) (txC (.slice y.1 y.2.1 y.2.2) l)
section
variable {S : List Nat} {w0 w : World} {K : List Chunk} {x : Nat} {l : List ByteArray} {T : TypeId}
theorem openX (h : St S w0 w (refI T x l :: K)) : ∃ y : Option Addr × Nat × Nat, St S w0 w (rB T x y :: txC (.slice y.1 y.2.1 y.2.2) l :: K) := by
  obtain ⟨y, h1⟩ := h.unex 0 rfl
  exact ⟨y, St.split h1⟩
theorem closeX (y : Option Addr × Nat × Nat) (h : St S w0 w (rB T x y :: txC (.slice y.1 y.2.1 y.2.2) l :: K)) : St S w0 w (refI T x l :: K) :=
  (St.join h).as 0 rfl (refI T x l) (fun F hF => ⟨y, hF⟩)
theorem textAt {A : Option Addr} {n c : Nat} (h : St S w0 w K) (i : Nat) (hi : K[i]? = some (txC (.slice A n c) l)) {q : Nat} (hq : q < l.length) : n = l.length ∧ ∃ g, A = some ⟨g, 0, none⟩ ∧ w.cell? ⟨g, 0 + q * 1, none⟩ = some (.string (l.getD q ⟨#[]⟩)) := by
  have hn := h.slLen i hi
  rw [List.length_map] at hn
  obtain ⟨g, hg, hc⟩ := h.slGet i hi (by simp; omega)
  have := hc q 0 (.string (l.getD q ⟨#[]⟩)) (by simpa using hq) (by decide) (by simp [List.getD_eq_getElem?_getD, hq])
  exact ⟨hn, g, hg, by rw [show 0 + q * 1 = q * 1 + 0 by omega]; exact this⟩
theorem num_from {l : List ByteArray} {s : ByteArray} {j : Nat} (hj : j < l.length) (hno : ∀ q, q < j → l.getD q ⟨#[]⟩ ≠ s) (h : l.getD j ⟨#[]⟩ = s) : IX.num l s = j + 1 := by
  have : l.findIdx? (fun x => decide (x = s)) = some j := by
    rw [List.findIdx?_eq_some_iff_getElem]
    refine ⟨hj, ?_, fun q hq => ?_⟩
    · rw [List.getD_eq_getElem?_getD, List.getElem?_eq_getElem hj] at h
      simpa using h
    · have := hno q hq
      rw [List.getD_eq_getElem?_getD, List.getElem?_eq_getElem (by omega)] at this
      simpa using this
  unfold IX.num
  rw [this]
theorem num_no {l : List ByteArray} {s : ByteArray} (hno : ∀ q, q < l.length → l.getD q ⟨#[]⟩ ≠ s) : IX.num l s = 0 := by
  have : l.findIdx? (fun x => decide (x = s)) = none := by
    rw [List.findIdx?_eq_none_iff]
    intro x hx
    obtain ⟨q, hq, rfl⟩ := List.mem_iff_getElem.1 hx
    have := hno q hq
    rw [List.getD_eq_getElem?_getD, List.getElem?_eq_getElem hq] at this
    simpa using this
  unfold IX.num
  rw [this]
theorem rFind (h : St S w0 w K) (i : Nat) (hi : K[i]? = some (refI T x l)) (hl : l.length ≤ 1048576) (s : ByteArray) : Calls Try.prog 80 #[.pointer (some ⟨x, 0, none⟩), .string s] w fun e w' => e = .returned (.tuple #[.int .i64 (IX.num l s : Int), .bool (decide (IX.num l s ≠ 0))]) ∧ St S w0 w' K := by
  obtain ⟨F, hF, _⟩ := h.at i hi
  obtain ⟨y, hS⟩ := openX (St.start1 hF)
  have hn := hS.slLen 1 rfl
  rw [List.length_map] at hn
  refine Calls.mono (f80.calls (R := fun v w' => v = .tuple #[.int .i64 (IX.num l s : Int), .bool (decide (IX.num l s ≠ 0))] ∧ w' = w) ?_) ?_
  · dsimp only [f80.VC]
    refine ⟨fun x6 w' r => w' = w ∧ ∃ j : Nat, x6 = (j : Int) ∧ j + r = l.length ∧ ∀ q, q < j → l.getD q ⟨#[]⟩ ≠ s, ⟨l.length, rfl, 0, rfl, by omega, fun q hq => by omega⟩, ?_⟩
    rintro d x6 w1 r ⟨rfl, j, rfl, hjr, hno⟩
    refine ⟨_, _, _, (hS.blk 0 rfl).cell rfl, sel_of (fun hd => ?_) (fun hd => ?_)⟩
    · have hj : j < l.length := by have := of_decide_eq_true hd; omega
      have hj1 : IntKind.i64.wrap ((j : Int) + 1) = ((j + 1 : Nat) : Int) := by rw [i64_id (by omega) (by omega)]; omega
      obtain ⟨_, g, hg, hc⟩ := textAt hS 1 rfl hj
      rw [hj1]
      refine ⟨_, _, _, (hS.blk 0 rfl).cell rfl, by omega, by omega, needPtr_of hg ⟨_, by rw [Int.toNat_natCast]; exact hc, sel_of (fun hs => ?_) (fun hs => ?_)⟩⟩
      · have hs : l.getD j ⟨#[]⟩ = s := of_decide_eq_true hs
        rw [num_from hj hno hs]
        exact ⟨by simp, rfl⟩
      · have hs : l.getD j ⟨#[]⟩ ≠ s := of_decide_eq_false hs
        refine ⟨rfl, r - 1, by omega, rfl, j + 1, rfl, by omega, fun q hq => ?_⟩
        rcases Nat.lt_or_ge q j with h1 | h1
        · exact hno q h1
        · have : q = j := by omega
          subst this; exact hs
    · have hj : j = l.length := by have := of_decide_eq_false hd; omega
      rw [num_no (fun q hq => hno q (by omega))]
      exact ⟨by simp, rfl⟩
  · rintro e w' ⟨v, rfl, rfl, rfl⟩; exact ⟨rfl, h⟩
end
section
variable {S : List Nat} {w0 w : World} {K : List Chunk} {x : Nat} {l : List ByteArray} {T : TypeId}
theorem rOf_ {F : List Nat} (hI : St F w w [refI T x l]) (hl : l.length ≤ 1048576) (s : ByteArray) : Calls Try.prog 39 #[.pointer (some ⟨x, 0, none⟩), .string s] w fun e w' => e = .returned (.int .i64 (IX.ofN l s : Int)) ∧ St F w w' [refI T x (IX.of l s)] := by
  refine Calls.mono (f39.calls (R := fun v w' => v = .int .i64 (IX.ofN l s : Int) ∧ St F w w' [refI T x (IX.of l s)]) ?_) ?_
  · dsimp only [f39.VC]
    refine Calls.mono (rFind hI 0 rfl hl s) ?_
    rintro _ w1 ⟨rfl, hI⟩
    obtain ⟨y, hS⟩ := openX hI
    have hn := hS.slLen 1 rfl
    rw [List.length_map] at hn
    refine ⟨_, _, rfl, sel_of (fun h0 => ?_) (fun h0 => ?_)⟩
    · have h0 : IX.num l s ≠ 0 := of_decide_eq_true h0
      have e1 : IX.ofN l s = IX.num l s := by unfold IX.ofN; rw [if_neg h0]
      have e2 : IX.of l s = l := by unfold IX.of; rw [if_neg h0]
      rw [e1, e2]
      exact ⟨rfl, hI⟩
    · have h0 : IX.num l s = 0 := by simpa using h0
      refine ⟨_, _, _, (hS.blk 0 rfl).cell rfl, sel_of (fun hb => ?_) (fun hb => ?_)⟩
      · have hb : 1048576 ≤ l.length := by have := of_decide_eq_true hb; omega
        have e1 : IX.ofN l s = 0 := by unfold IX.ofN; rw [if_pos h0, if_pos hb]
        have e2 : IX.of l s = l := by unfold IX.of; rw [if_pos h0, if_pos hb]
        rw [e1, e2]
        exact ⟨rfl, hI⟩
      · have hb : ¬ l.length ≥ 1048576 := by have := of_decide_eq_false hb; omega
        have e1 : IX.ofN l s = l.length + 1 := by unfold IX.ofN; rw [if_pos h0, if_neg hb]
        have e2 : IX.of l s = l ++ [s] := by unfold IX.of; rw [if_pos h0, if_neg hb]
        rw [e1, e2]
        have hS2 := hS.alloc #[.string s] 9
        obtain ⟨ti, i1, i2, i3, i4⟩ := info9
        obtain ⟨g', cap', w3, hrun, hS3⟩ := hS2.append (P := Try.prog) (ty := 25) (r := [.string s]) 2 under25 i1 i2 i3 rfl (by decide) rfl (hS2.blk 0 rfl) rfl rfl (by intro u hu; simp at hu; subst hu; rfl) (by rw [i4]; simp; omega) (by simp [maxLen]; omega)
        have el : (l.map fun s => [Value.string s]).length = l.length := by simp
        rw [el] at hrun
        have hS3 : St F w w3 [rB T x y, txC (.slice (some ⟨g', 0, none⟩) (l.length + 1) cap') (l ++ [s])] := by
          have := hS3.tail
          rw [el, show (l.map fun s => [Value.string s]) ++ [[Value.string s]] = (l ++ [s]).map (fun s => [Value.string s]) by simp] at this
          exact this
        have hS4 := hS3.set 0 rfl 0 [.slice (some ⟨g', 0, none⟩) (l.length + 1) cap']
        refine ⟨_, _, _, (hS.blk 0 rfl).cell rfl, _, _, _, _, hrun, (hS3.blk 0 rfl).can (by simp), _, _, _, (hS4.blk 0 rfl).cell rfl, rfl, closeX (some ⟨g', 0, none⟩, l.length + 1, cap') hS4⟩
  · rintro e w' ⟨v, rfl, rfl, h⟩; exact ⟨rfl, h⟩
theorem rOf (h : St S w0 w K) (i : Nat) (hi : K[i]? = some (refI T x l)) (hl : l.length ≤ 1048576) (s : ByteArray) : Calls Try.prog 39 #[.pointer (some ⟨x, 0, none⟩), .string s] w fun e w' => e = .returned (.int .i64 (IX.ofN l s : Int)) ∧ St S w0 w' (K.set i (refI T x (IX.of l s))) :=
  h.use i hi (fun F hF => rOf_ hF hl s)
end
end NI
end Go.Proofs.Ytjmlfknogjaemaa
/- The plain statements of some functions, printed by vcgen.py. -/
set_option maxRecDepth 100000
set_option linter.unusedVariables false
namespace Go.Proofs.Ytjmlfknogjaemaa
open Go Go.Proofs.Ytjmlfknogjaemaa.Vc
theorem W2.mixed : Try.prog.follows .mixedOrders = true := by kernel_rfl
/-- gatehouse/gatehouselaw12.index -/
def f13.AL : Nat → Option Ann := fun r => match r with | 4 => some ⟨[(6, .int .i64)], [0, 4, 5]⟩ | _ => none
def f13.AC : Nat → Option Ann := fun _ => none
def f13.VC (Aa0 : Option Addr) (na0 ca0 : Nat) (w : World) (R : Value → World → Prop) : Prop :=
  Calls Try.prog 29 #[] w fun e_1 w_1 =>
  ∃ (p7 : Option Addr),
  e_1 = .returned (.pointer p7) ∧
  let w_2 : World := World.alloc w_1 (.cells #[.slice none 0 0] 81);
  ∃ I : Int → World → Nat → Prop,
  (∃ n, I 0 w_2 n) ∧
  ∀ d : Env, ∀ (x6 : Int) (w_3 : World) (r : Nat), I x6 w_3 r →
  sel (decide ((x6 : Int) < ((na0 : Int) : Int))) (
  sel (!(Option.isNone p7)) (
  (0 : Int) ≤ x6 ∧ x6 < (na0 : Int) ∧
  needPtr Aa0 fun b23 o23 =>
  ∃ (s24 : ByteArray),
  w_3.cell? ⟨b23, o23 + x6.toNat * 1, none⟩ = some (.string s24) ∧
  Calls Try.prog 32 #[.pointer p7, .string s24] w_3 fun e_2 w_4 =>
  ∃ (x25 : Int),
  e_2 = .returned (.int .i64 x25) ∧
  (0 : Int) ≤ x6 ∧ x6 < (na0 : Int) ∧
  needPtr Aa0 fun b29 o29 =>
  ∃ (s30 : ByteArray),
  w_4.cell? ⟨b29, o29 + x6.toNat * 1, none⟩ = some (.string s30) ∧
  Calls Try.prog 39 #[.pointer (some ⟨w_1.heap.size, 0, none⟩), .string s30] w_4 fun e_3 w_5 =>
  ∃ (x31 : Int),
  e_3 = .returned (.int .i64 x31) ∧
  let i19 : Int := IntKind.i64.wrap (x6 + 1);
  ([.slice Aa0 na0 ca0, .pointer p7, .pointer (some ⟨w_1.heap.size, 0, none⟩)] : List Value) = ([.slice Aa0 na0 ca0, .pointer p7, .pointer (some ⟨w_1.heap.size, 0, none⟩)] : List Value) ∧ ∃ m, m < r ∧ I i19 w_5 m) (
  R (.tuple #[.pointer p7, .pointer (some ⟨w_1.heap.size, 0, none⟩)]) w_3)) (
  R (.tuple #[.pointer p7, .pointer (some ⟨w_1.heap.size, 0, none⟩)]) w_3)
theorem f13.eq (Aa0 : Option Addr) (na0 ca0 : Nat) (w : World) (R : Value → World → Prop) : f13.VC Aa0 na0 ca0 w R = funV Try.prog Try.f13 f13.AL f13.AC #[.slice Aa0 na0 ca0] w R := by kernel_rfl
theorem f13.calls {Aa0 : Option Addr} {na0 ca0 : Nat} {w : World} {R : Value → World → Prop} (h : f13.VC Aa0 na0 ca0 w R) : Calls Try.prog 13 #[.slice Aa0 na0 ca0] w fun e w' => ∃ v, e = .returned v ∧ R v w' :=
  funV_sound (fn := Try.f13) (AL := f13.AL) (AC := f13.AC) W2.mixed (by kernel_rfl) (by rw [← f13.eq Aa0 na0 ca0]; exact h)

end Go.Proofs.Ytjmlfknogjaemaa
/- Page: the law's 'index': an index that was asked for some names, and the document's. -/
set_option linter.unusedVariables false
set_option linter.unusedSimpArgs false
set_option maxRecDepth 10000
namespace Go.Proofs.Ytjmlfknogjaemaa
open Go Go.Proofs.Ytjmlfknogjaemaa.Vc
namespace NI
def InX (w : World) (A : Option Addr) (n : Nat) (l : List ByteArray) : Prop := n = l.length ∧ (0 < n → ∃ b o, A = some ⟨b, o, none⟩ ∧ ∀ i, i < n → w.cell? ⟨b, o + i, none⟩ = some (.string (l.getD i ByteArray.empty)))
theorem InX.fr {w w' : World} {A : Option Addr} {n : Nat} {l : List ByteArray} (h : InX w A n l) (hf : Fr [] w w') : InX w' A n l := by
  refine ⟨h.1, fun hn => ?_⟩
  obtain ⟨b, o, rfl, h2⟩ := h.2 hn
  exact ⟨b, o, rfl, fun i hi => hf.cell (h2 i hi)⟩
theorem of_le {l : List ByteArray} (h : l.length ≤ 1048576) (s : ByteArray) : (IX.of l s).length ≤ 1048576 := by
  unfold IX.of
  split
  · split
    · exact h
    · simp; omega
  · exact h
/-- Asked for all of a list. -/
def all (l known : List ByteArray) : List ByteArray := known.foldl IX.of l
theorem all_le : ∀ (known l : List ByteArray), l.length ≤ 1048576 → (all l known).length ≤ 1048576
  | [], l, h => h
  | s :: known, l, h => all_le known (IX.of l s) (of_le h s)
theorem all_take (known : List ByteArray) {i : Nat} (hi : i < known.length) : all [] (known.take (i + 1)) = IX.of (all [] (known.take i)) (known.getD i ByteArray.empty) := by
  unfold all
  rw [List.take_succ_eq_append_getElem hi, List.foldl_append]
  simp [List.getD_eq_getElem?_getD, hi]
theorem index {w : World} {A : Option Addr} {n c : Nat} {known : List ByteArray} (h : InX w A n known) (hn : n ≤ 1500000) :
    Calls Try.prog 13 #[.slice A n c] w fun e w' => ∃ x y, e = .returned (.tuple #[.pointer (some ⟨x, 0, none⟩), .pointer (some ⟨y, 0, none⟩)]) ∧ St [] w w' [refI 81 y (all [] known), idxC x (all [] known)] := by
  refine Calls.mono (f13.calls (R := fun v w' => ∃ x y, v = .tuple #[.pointer (some ⟨x, 0, none⟩), .pointer (some ⟨y, 0, none⟩)] ∧ St [] w w' [refI 81 y (all [] known), idxC x (all [] known)]) ?_) ?_
  · dsimp only [f13.VC]
    have hl := h.1
    refine Calls.mono (new (St.start w)) ?_
    rintro _ w1 ⟨x, rfl, hS1⟩
    refine ⟨_, rfl, ?_⟩
    have hS2 := closeX (T := 81) (x := w1.heap.size) (l := []) (K := [idxC x []]) (none, 0, 0) ((hS1.nil 9 1).alloc #[.slice none 0 0] 81)
    generalize World.alloc w1 (.cells #[.slice none 0 0] 81) = w2 at *
    generalize w1.heap.size = y at *
    refine ⟨fun z w' r => ∃ i : Nat, z = (i : Int) ∧ i + r = n ∧ St [] w w' [refI 81 y (all [] (known.take i)), idxC x (all [] (known.take i))], ⟨n, 0, rfl, by omega, by simpa [all] using hS2⟩, ?_⟩
    rintro d z w3 r ⟨i, rfl, hir, hS⟩
    refine sel_of (fun hd => sel_true rfl ?_) (fun hd => ?_)
    · have hi : i < n := by have := of_decide_eq_true hd; omega
      have hi1 : IntKind.i64.wrap ((i : Int) + 1) = ((i + 1 : Nat) : Int) := by rw [i64_id (by omega) (by omega)]; omega
      obtain ⟨b, o, rfl, hc⟩ := h.2 (by omega)
      have hck := hc i hi
      rw [show o + i = o + (i : Int).toNat * 1 by simp] at hck
      have hle := all_le (known.take i) [] (by simp)
      refine ⟨by omega, by omega, needPtr_of rfl ⟨_, hS.frame.cell hck, ?_⟩⟩
      refine Calls.mono (of hS 1 rfl hle _) ?_
      rintro _ w4 ⟨rfl, hS4⟩
      refine ⟨_, rfl, by omega, by omega, needPtr_of rfl ⟨_, hS4.frame.cell hck, ?_⟩⟩
      refine Calls.mono (rOf hS4 0 rfl hle _) ?_
      rintro _ w5 ⟨rfl, hS5⟩
      refine ⟨_, rfl, ?_⟩
      rw [hi1]
      refine ⟨rfl, r - 1, by omega, i + 1, rfl, by omega, ?_⟩
      rw [all_take known (by omega)]
      exact hS5
    · have hi : i = known.length := by have := of_decide_eq_false hd; omega
      rw [hi, List.take_length] at hS
      exact ⟨x, y, rfl, hS⟩
  · rintro e w' ⟨v, rfl, x, y, rfl, h⟩; exact ⟨x, y, rfl, h⟩
end NI
end Go.Proofs.Ytjmlfknogjaemaa
/- Page: graphs as plain lists; when they are valid. -/
set_option linter.unusedVariables false
set_option linter.unusedSimpArgs false
set_option maxRecDepth 10000
namespace Go.Proofs.Ytjmlfknogjaemaa.Vc
open Go
namespace PG
abbrev Gd := List ByteArray × List ByteArray × List ByteArray × List Int × List Int × List (List Int) × Unit
def gA (g : Gd) : List ByteArray := g.1
def gS (g : Gd) : List ByteArray := g.2.1
def gO (g : Gd) : List ByteArray := g.2.2.1
def gF (g : Gd) : List Int := g.2.2.2.1
def gN (g : Gd) : List Int := g.2.2.2.2.1
def gM (g : Gd) : List (List Int) := g.2.2.2.2.2.1
/-- The greatest number of a list of classes that are numbered as they come. -/
def great : List Int → Nat → Option Nat
  | [], n => some n
  | x :: l, n => if x < 1 ∨ (n : Int) + 1 < x then none else great l (max n x.toNat)
theorem great_le : ∀ (l : List Int) (n m : Nat), great l n = some m → m ≤ n + l.length
  | [], n, m, h => by simp [great] at h; omega
  | x :: l, n, m, h => by
    rw [great] at h
    split at h
    · cases h
    · rename_i hx
      have := great_le l _ m h
      simp only [List.length_cons]
      omega
theorem great_ge : ∀ (l : List Int) (n m : Nat), great l n = some m → n ≤ m ∧ ∀ x ∈ l, 1 ≤ x ∧ x ≤ m
  | [], n, m, h => by simp [great] at h; simp [h]
  | x :: l, n, m, h => by
    rw [great] at h
    split at h
    · cases h
    · rename_i hx
      have := great_ge l _ m h
      refine ⟨by omega, fun y hy => ?_⟩
      rcases List.mem_cons.1 hy with rfl | hy
      · omega
      · exact this.2 y hy
def col (M : List (List Int)) (y : Nat) : List Int := M.map fun r => r.getD y 0
def shapedB (M : List (List Int)) (n m b : Nat) : Bool := decide (M.length = n) && M.all fun r => decide (r.length = m) && r.all fun x => decide (x < 2 ^ b)
def validP (g : Gd) : Bool :=
  decide ((gA g).length ≤ 16 ∧ (gS g).length ≤ 64 ∧ (gO g).length ≤ 64 ∧ (gF g).length = (gS g).length ∧ (gN g).length = (gO g).length) &&
  decide ((gA g).Nodup ∧ (gS g).Nodup ∧ (gO g).Nodup) &&
  match great (gF g) 0, great (gN g) 0 with
  | some n, some m => shapedB (gM g) n m (gA g).length && decide ((gM g).Nodup) && decide (((List.range m).map (col (gM g))).Nodup)
  | _, _ => false
theorem nodup_getD {α : Type} (d : α) (l : List α) : l.Nodup ↔ ∀ a b, a < b → b < l.length → l.getD a d ≠ l.getD b d := by
  rw [List.Nodup, List.pairwise_iff_getElem]
  constructor
  · intro h a b hab hb
    have := h a b (by omega) hb hab
    simpa [List.getD_eq_getElem?_getD, hb, show a < l.length by omega] using this
  · intro h i j hi hj hij
    have := h i j hij hj
    simpa [List.getD_eq_getElem?_getD, hi, hj] using this
theorem drop_cons {α : Type} (d : α) (l : List α) (i : Nat) (hi : i < l.length) : l.drop i = l.getD i d :: l.drop (i + 1) := by
  rw [List.drop_eq_getElem_cons hi]; simp [List.getD_eq_getElem?_getD, hi]
theorem mem_getD {α : Type} (d : α) (l : List α) (x : α) : x ∈ l ↔ ∃ i, i < l.length ∧ l.getD i d = x := by
  rw [List.mem_iff_getElem]
  constructor
  · rintro ⟨i, hi, rfl⟩; exact ⟨i, hi, by simp [List.getD_eq_getElem?_getD, hi]⟩
  · rintro ⟨i, hi, h⟩; exact ⟨i, hi, by simpa [List.getD_eq_getElem?_getD, hi] using h⟩
theorem ext_getD {α : Type} (d : α) (a b : List α) : a = b ↔ a.length = b.length ∧ ∀ i, i < a.length → a.getD i d = b.getD i d := by
  constructor
  · rintro rfl; exact ⟨rfl, fun _ _ => rfl⟩
  · rintro ⟨h1, h2⟩
    refine List.ext_getElem h1 fun i hi hj => ?_
    have := h2 i hi
    simpa [List.getD_eq_getElem?_getD, hi, hj] using this
/-- The first place of a thing; -1: it has none. -/
def idxI {α : Type} [DecidableEq α] (l : List α) (s : α) : Int := match l.findIdx? (fun x => decide (x = s)) with | some j => (j : Int) | none => -1
theorem idxI_some {α : Type} [DecidableEq α] (d : α) {l : List α} {s : α} {j : Nat} (hj : j < l.length) (hno : ∀ q, q < j → l.getD q d ≠ s) (h : l.getD j d = s) : idxI l s = (j : Int) := by
  have : l.findIdx? (fun x => decide (x = s)) = some j := by
    rw [List.findIdx?_eq_some_iff_getElem]
    refine ⟨hj, ?_, fun q hq => ?_⟩
    · rw [List.getD_eq_getElem?_getD, List.getElem?_eq_getElem hj] at h
      simpa using h
    · have := hno q hq
      rw [List.getD_eq_getElem?_getD, List.getElem?_eq_getElem (by omega)] at this
      simpa using this
  unfold idxI
  rw [this]
theorem idxI_none {α : Type} [DecidableEq α] (d : α) {l : List α} {s : α} (hno : ∀ q, q < l.length → l.getD q d ≠ s) : idxI l s = -1 := by
  have : l.findIdx? (fun x => decide (x = s)) = none := by
    rw [List.findIdx?_eq_none_iff]
    intro x hx
    obtain ⟨q, hq, rfl⟩ := List.mem_iff_getElem.1 hx
    have := hno q hq
    rw [List.getD_eq_getElem?_getD, List.getElem?_eq_getElem hq] at this
    simpa using this
  unfold idxI
  rw [this]
/-- Does a list have a thing? -/
def memB {α : Type} [DecidableEq α] (l : List α) (s : α) : Bool := l.any fun x => decide (x = s)
theorem memB_iff {α : Type} [DecidableEq α] (l : List α) (s : α) : memB l s = true ↔ s ∈ l := by
  unfold memB
  rw [List.any_eq_true]
  constructor
  · rintro ⟨x, hx, he⟩
    have : x = s := by simpa using he
    rw [← this]; exact hx
  · intro h; exact ⟨s, h, by simp⟩
theorem idxI_mem {α : Type} [DecidableEq α] (l : List α) (s : α) : decide (0 ≤ idxI l s) = memB l s := by
  rw [Bool.eq_iff_iff, memB_iff, decide_eq_true_iff]
  unfold idxI
  cases h : l.findIdx? (fun x => decide (x = s)) with
  | none =>
    rw [List.findIdx?_eq_none_iff] at h
    have : s ∉ l := fun hs => by have := h s hs; simp at this
    simp [this]
  | some j =>
    obtain ⟨hj, he, _⟩ := List.findIdx?_eq_some_iff_getElem.mp h
    have hs : s ∈ l := by
      have : l[j] = s := by simpa using he
      rw [← this]; exact List.getElem_mem hj
    simp [hs]
end PG
end Go.Proofs.Ytjmlfknogjaemaa.Vc
