/- Maps as owned pieces of memory. -/
import Derived.Test.YtjmlfknogjaemaaM7
import Derived.Test.YtjmlfknogjaemaaM4
import Derived.Test.YtjmlfknogjaemaaProg
import Derived.KernelRfl
set_option linter.unusedVariables false
set_option linter.unusedSimpArgs false
namespace Go.Proofs.Ytjmlfknogjaemaa.Vc
open Go
section
variable {K V : Type} [DecidableEq K]
def Chunk.map (encK : K → Value) (encV : V → Value) (r : Nat) (l : List (K × V)) : Chunk where
  holds w F := F = [r] ∧ GM.MapIs encK encV w r l
  fr h hf hS := ⟨h.1, h.2.fr hf (hS r (by simp [h.1]))⟩
  lt h x hx := by
    rw [h.1] at hx
    simp at hx
    subst hx
    exact h.2.lt
variable {encK : K → Value} {encV : V → Value} {S : List Nat} {w0 w : World} {L : List Chunk} {P : Program} {t kt et : TypeId} {r : Nat} {l : List (K × V)}
theorem St.mapNew (h : St S w0 w L) : St S w0 (World.alloc w (.map #[] 0)) (Chunk.map encK encV w.heap.size [] :: L) :=
  h.new (Fr.refl [] w).allocM ⟨rfl, GM.MapIs.new w⟩ (by simp)
theorem St.mapIs (h : St S w0 w L) (i : Nat) (hi : L[i]? = some (Chunk.map encK encV r l)) : GM.MapIs encK encV w r l := by
  obtain ⟨F, h1, _⟩ := h.at i hi
  exact h1.2
theorem St.mapUpd (h : St S w0 w L) (i : Nat) (hi : L[i]? = some (Chunk.map encK encV r l)) (ht : P.underlying t = some (.map kt et)) (hk : GM.KeyLaw P kt encK) (k : K) (v : V) :
    ∃ w', (Instr.mapUpdate t (.map (some r)) (encK k) (encV v)).run P w = .ok () w' ∧ St S w0 w' (L.set i (Chunk.map encK encV r (GM.put l k v))) := by
  obtain ⟨F, h1, _, h3⟩ := h.at i hi
  obtain ⟨w', q1, q2, q3⟩ := GM.upd ht hk h1.2 k v
  exact ⟨w', q1, h3 (F' := F) (by rw [h1.1]; exact q3) ⟨h1.1, q2⟩ (fun x hx => .inl hx)⟩
end
end Go.Proofs.Ytjmlfknogjaemaa.Vc
/- An index of texts, as a plain list; a map of texts to their numbers says the same. -/
set_option linter.unusedVariables false
set_option linter.unusedSimpArgs false
namespace Go.Proofs.Ytjmlfknogjaemaa.Vc
open Go
namespace IX
/-- The place of a thing, from 1 on; 0: it has none. -/
def num (l : List ByteArray) (s : ByteArray) : Nat := match l.findIdx? (fun x => decide (x = s)) with | some j => j + 1 | none => 0
/-- What asking for a thing's number does. -/
def of (l : List ByteArray) (s : ByteArray) : List ByteArray := if num l s = 0 then (if l.length ≥ 1048576 then l else l ++ [s]) else l
def ofN (l : List ByteArray) (s : ByteArray) : Nat := if num l s = 0 then (if l.length ≥ 1048576 then 0 else l.length + 1) else num l s
/-- The map that belongs to a list of things. -/
def pairs (l : List ByteArray) : List (ByteArray × Int) := l.zipIdx.map fun p => (p.1, ((p.2 + 1 : Nat) : Int))
theorem pairs_length (l : List ByteArray) : (pairs l).length = l.length := by simp [pairs]
theorem pairs_keys (l : List ByteArray) : (pairs l).map (·.1) = l := by
  unfold pairs
  rw [List.map_map]
  have : ((fun p : ByteArray × Int => p.1) ∘ fun p : ByteArray × Nat => (p.1, ((p.2 + 1 : Nat) : Int))) = Prod.fst := rfl
  rw [this]
  simp
theorem pairs_snoc (l : List ByteArray) (s : ByteArray) : pairs (l ++ [s]) = pairs l ++ [(s, ((l.length + 1 : Nat) : Int))] := by
  simp [pairs, List.zipIdx_append]
theorem pairs_vals (l : List ByteArray) {j : Nat} (hj : j < l.length) (d : Int) : ((pairs l).map (·.2)).getD j d = ((j + 1 : Nat) : Int) := by
  simp [pairs, List.getD_eq_getElem?_getD, hj]
theorem get_pairs (l : List ByteArray) (s : ByteArray) : GM.get 0 (pairs l) s = (num l s : Int) ∧ GM.has (pairs l) s = decide (num l s ≠ 0) := by
  unfold GM.get GM.has GM.idx num
  rw [pairs_keys]
  cases hx : l.findIdx? (fun x => decide (x = s)) with
  | none => simp
  | some j =>
    obtain ⟨hj, _⟩ := List.findIdx?_eq_some_iff_getElem.mp hx
    simp only [Option.isSome_some]
    refine ⟨pairs_vals l hj 0, ?_⟩
    simp
theorem put_pairs (l : List ByteArray) (s : ByteArray) (h : num l s = 0) : GM.put (pairs l) s ((l.length + 1 : Nat) : Int) = pairs (l ++ [s]) := by
  have hi : GM.idx (pairs l) s = none := by
    unfold GM.idx
    rw [pairs_keys]
    unfold num at h
    cases hx : l.findIdx? (fun x => decide (x = s)) with
    | none => rfl
    | some j => rw [hx] at h; simp at h
  unfold GM.put
  rw [hi, pairs_snoc]
end IX
end Go.Proofs.Ytjmlfknogjaemaa.Vc
/- The plain statements of some functions, printed by vcgen.py. -/
set_option maxRecDepth 100000
set_option linter.unusedVariables false
namespace Go.Proofs.Ytjmlfknogjaemaa
open Go Go.Proofs.Ytjmlfknogjaemaa.Vc
theorem W0.mixed : Try.prog.follows .mixedOrders = true := by kernel_rfl
/-- gatehouse/page.Hash -/
def f11.AL : Nat → Option Ann := fun _ => none
def f11.AC : Nat → Option Ann := fun _ => none
def f11.VC (xa0 : Int) (xa1 : Int) (w : World) (R : Value → World → Prop) : Prop :=
  sel (decide ((xa1 : Int) < (1 : Int))) (
    R (.int .i64 0) w) (
    let i8 : Int := IntKind.i64.wrap (xa0 * 40503);
    let i9 : Int := IntKind.u16.wrap i8;
    let i10 : Int := IntKind.i64.wrap i9;
    xa1 ≠ (0 : Int) ∧
    let i12 : Int := Int.tmod i10 xa1;
    R (.int .i64 i12) w)
theorem f11.eq (xa0 : Int) (xa1 : Int) (w : World) (R : Value → World → Prop) : f11.VC xa0 xa1 w R = funV Try.prog Try.f11 f11.AL f11.AC #[.int .i64 xa0, .int .i64 xa1] w R := by kernel_rfl
theorem f11.calls {xa0 : Int} {xa1 : Int} {w : World} {R : Value → World → Prop} (h : f11.VC xa0 xa1 w R) : Calls Try.prog 11 #[.int .i64 xa0, .int .i64 xa1] w fun e w' => ∃ v, e = .returned v ∧ R v w' :=
  funV_sound (fn := Try.f11) (AL := f11.AL) (AC := f11.AC) W0.mixed (by kernel_rfl) (by rw [← f11.eq xa0 xa1]; exact h)

/-- gatehouse/gatehouseref12.Hash -/
def f12.AL : Nat → Option Ann := fun _ => none
def f12.AC : Nat → Option Ann := fun _ => none
def f12.VC (xa0 : Int) (xa1 : Int) (w : World) (R : Value → World → Prop) : Prop :=
  sel (decide ((xa1 : Int) < (1 : Int))) (
    R (.int .i64 0) w) (
    let i9 : Int := IntKind.i64.wrap (xa0 * 40503);
    65536 ≠ (0 : Int) ∧
    let i10 : Int := Int.tmod i9 65536;
    sel (decide ((i10 : Int) < (0 : Int))) (
      let i14 : Int := IntKind.i64.wrap (i10 + 65536);
      xa1 ≠ (0 : Int) ∧
      let i17 : Int := Int.tmod i14 xa1;
      R (.int .i64 i17) w) (
      xa1 ≠ (0 : Int) ∧
      let i17_1 : Int := Int.tmod i10 xa1;
      R (.int .i64 i17_1) w))
theorem f12.eq (xa0 : Int) (xa1 : Int) (w : World) (R : Value → World → Prop) : f12.VC xa0 xa1 w R = funV Try.prog Try.f12 f12.AL f12.AC #[.int .i64 xa0, .int .i64 xa1] w R := by kernel_rfl
theorem f12.calls {xa0 : Int} {xa1 : Int} {w : World} {R : Value → World → Prop} (h : f12.VC xa0 xa1 w R) : Calls Try.prog 12 #[.int .i64 xa0, .int .i64 xa1] w fun e w' => ∃ v, e = .returned v ∧ R v w' :=
  funV_sound (fn := Try.f12) (AL := f12.AL) (AC := f12.AC) W0.mixed (by kernel_rfl) (by rw [← f12.eq xa0 xa1]; exact h)

/-- gatehouse/gatehouselaw12.sameInts -/
def f18.AL : Nat → Option Ann := fun r => match r with | 4 => some ⟨[(5, .int .i64)], [0, 1]⟩ | _ => none
def f18.AC : Nat → Option Ann := fun _ => none
def f18.VC (Aa0 : Option Addr) (na0 ca0 : Nat) (Aa1 : Option Addr) (na1 ca1 : Nat) (w : World) (R : Value → World → Prop) : Prop :=
  sel (((na0 : Int) : Int) != ((na1 : Int) : Int)) (
    R (.bool false) w) (
    ∃ I : Int → World → Nat → Prop,
    (∃ n, I 0 w n) ∧
    ∀ d : Env, ∀ (x5 : Int) (w_1 : World) (r : Nat), I x5 w_1 r →
    sel (decide ((x5 : Int) < ((na0 : Int) : Int))) (
      (0 : Int) ≤ x5 ∧ x5 < (na0 : Int) ∧
      needPtr Aa0 fun b19 o19 =>
      (0 : Int) ≤ x5 ∧ x5 < (na1 : Int) ∧
      needPtr Aa1 fun b23 o23 =>
      ∃ (x20 : Int),
      w_1.cell? ⟨b19, o19 + x5.toNat * 1, none⟩ = some (.int .i64 x20) ∧
      ∃ (x24 : Int),
      w_1.cell? ⟨b23, o23 + x5.toNat * 1, none⟩ = some (.int .i64 x24) ∧
      sel ((x20 : Int) != (x24 : Int)) (
        R (.bool false) w_1.drew) (
        let i16 : Int := IntKind.i64.wrap (x5 + 1);
        ([.slice Aa0 na0 ca0, .slice Aa1 na1 ca1] : List Value) = ([.slice Aa0 na0 ca0, .slice Aa1 na1 ca1] : List Value) ∧ ∃ m, m < r ∧ I i16 w_1.drew m)) (
      R (.bool true) w_1))
theorem f18.eq (Aa0 : Option Addr) (na0 ca0 : Nat) (Aa1 : Option Addr) (na1 ca1 : Nat) (w : World) (R : Value → World → Prop) : f18.VC Aa0 na0 ca0 Aa1 na1 ca1 w R = funV Try.prog Try.f18 f18.AL f18.AC #[.slice Aa0 na0 ca0, .slice Aa1 na1 ca1] w R := by kernel_rfl
theorem f18.calls {Aa0 : Option Addr} {na0 ca0 : Nat} {Aa1 : Option Addr} {na1 ca1 : Nat} {w : World} {R : Value → World → Prop} (h : f18.VC Aa0 na0 ca0 Aa1 na1 ca1 w R) : Calls Try.prog 18 #[.slice Aa0 na0 ca0, .slice Aa1 na1 ca1] w fun e w' => ∃ v, e = .returned v ∧ R v w' :=
  funV_sound (fn := Try.f18) (AL := f18.AL) (AC := f18.AC) W0.mixed (by kernel_rfl) (by rw [← f18.eq Aa0 na0 ca0 Aa1 na1 ca1]; exact h)

/-- gatehouse/gatehouselaw12.copied -/
def f24.AL : Nat → Option Ann := fun r => match r with | 4 => some ⟨[(5, .slice), (6, .int .i64)], [1]⟩ | _ => none
def f24.AC : Nat → Option Ann := fun _ => none
def f24.VC (Aa0 : Option Addr) (na0 ca0 : Nat) (xa1 : Int) (w : World) (R : Value → World → Prop) : Prop :=
  ∃ (A9 : Option Addr) (n9 c9 : Nat),
  ∃ w_1 : World, (Builtin.append_ #[26, 26] 26 #[.slice none 0 0, .slice Aa0 na0 ca0]).run Try.prog w = .ok (.slice A9 n9 c9) w_1 ∧
  ∃ I : Option Addr → Nat → Nat → Int → World → Nat → Prop,
  (∃ n, I A9 n9 c9 0 w_1 n) ∧
  ∀ d : Env, ∀ (A5 : Option Addr) (n5 c5 : Nat) (x6 : Int) (w_2 : World) (r : Nat), I A5 n5 c5 x6 w_2 r →
  sel (decide ((x6 : Int) < (xa1 : Int))) (
    let i17 : Int := IntKind.i64.wrap ((-7000) - x6);
    let w_3 : World := World.alloc w_2 (.cells #[.int .i64 i17] 3);
    ∃ (A19 : Option Addr) (n19 c19 : Nat),
    ∃ w_4 : World, (Builtin.append_ #[26, 26] 26 #[.slice A5 n5 c5, .slice (some ⟨w_2.heap.size, 0, none⟩) 1 1]).run Try.prog w_3 = .ok (.slice A19 n19 c19) w_4 ∧
    let i14 : Int := IntKind.i64.wrap (x6 + 1);
    ([.int .i64 xa1] : List Value) = ([.int .i64 xa1] : List Value) ∧ ∃ m, m < r ∧ I A19 n19 c19 i14 w_4 m) (
    R (.slice A5 n5 c5) w_2)
theorem f24.eq (Aa0 : Option Addr) (na0 ca0 : Nat) (xa1 : Int) (w : World) (R : Value → World → Prop) : f24.VC Aa0 na0 ca0 xa1 w R = funV Try.prog Try.f24 f24.AL f24.AC #[.slice Aa0 na0 ca0, .int .i64 xa1] w R := by kernel_rfl
theorem f24.calls {Aa0 : Option Addr} {na0 ca0 : Nat} {xa1 : Int} {w : World} {R : Value → World → Prop} (h : f24.VC Aa0 na0 ca0 xa1 w R) : Calls Try.prog 24 #[.slice Aa0 na0 ca0, .int .i64 xa1] w fun e w' => ∃ v, e = .returned v ∧ R v w' :=
  funV_sound (fn := Try.f24) (AL := f24.AL) (AC := f24.AC) W0.mixed (by kernel_rfl) (by rw [← f24.eq Aa0 na0 ca0 xa1]; exact h)

/-- gatehouse/names.NewIndex[string] -/
def f29.AL : Nat → Option Ann := fun _ => none
def f29.AC : Nat → Option Ann := fun _ => none
def f29.VC  (w : World) (R : Value → World → Prop) : Prop :=
  let w_1 : World := World.alloc w (.map #[] 0);
  let w_2 : World := World.alloc w_1 (.cells #[.map (some w.heap.size), .slice none 0 0] 122);
  R (.pointer (some ⟨w_1.heap.size, 0, none⟩)) w_2
theorem f29.eq  (w : World) (R : Value → World → Prop) : f29.VC  w R = funV Try.prog Try.f29 f29.AL f29.AC #[] w R := by kernel_rfl
theorem f29.calls {w : World} {R : Value → World → Prop} (h : f29.VC  w R) : Calls Try.prog 29 #[] w fun e w' => ∃ v, e = .returned v ∧ R v w' :=
  funV_sound (fn := Try.f29) (AL := f29.AL) (AC := f29.AC) W0.mixed (by kernel_rfl) (by rw [← f29.eq ]; exact h)

/-- (*gatehouse/names.Index[string]).Len -/
def f30.AL : Nat → Option Ann := fun _ => none
def f30.AC : Nat → Option Ann := fun _ => none
def f30.VC (a0 : Nat) (w : World) (R : Value → World → Prop) : Prop :=
  ∃ (A6 : Option Addr) (n6 c6 : Nat),
  w.cell? ⟨a0, 1, none⟩ = some (.slice A6 n6 c6) ∧
  R (.int .i64 (n6 : Int)) w
theorem f30.eq (a0 : Nat) (w : World) (R : Value → World → Prop) : f30.VC a0 w R = funV Try.prog Try.f30 f30.AL f30.AC #[.pointer (some ⟨a0, 0, none⟩)] w R := by kernel_rfl
theorem f30.calls {a0 : Nat} {w : World} {R : Value → World → Prop} (h : f30.VC a0 w R) : Calls Try.prog 30 #[.pointer (some ⟨a0, 0, none⟩)] w fun e w' => ∃ v, e = .returned v ∧ R v w' :=
  funV_sound (fn := Try.f30) (AL := f30.AL) (AC := f30.AC) W0.mixed (by kernel_rfl) (by rw [← f30.eq a0]; exact h)

/-- (*gatehouse/names.Index[string]).At -/
def f53.AL : Nat → Option Ann := fun _ => none
def f53.AC : Nat → Option Ann := fun _ => none
def f53.VC (a0 : Nat) (xa1 : Int) (w : World) (R : Value → World → Prop) : Prop :=
  sel (decide ((xa1 : Int) < (1 : Int))) (
    R (.tuple #[.string ⟨#[]⟩, .bool false]) w) (
    ∃ (A13 : Option Addr) (n13 c13 : Nat),
    w.cell? ⟨a0, 1, none⟩ = some (.slice A13 n13 c13) ∧
    sel (decide (((n13 : Int) : Int) < (xa1 : Int))) (
      R (.tuple #[.string ⟨#[]⟩, .bool false]) w) (
      ∃ (A21 : Option Addr) (n21 c21 : Nat),
      w.cell? ⟨a0, 1, none⟩ = some (.slice A21 n21 c21) ∧
      let i23 : Int := IntKind.i64.wrap (xa1 - 1);
      (0 : Int) ≤ i23 ∧ i23 < (n21 : Int) ∧
      needPtr A21 fun b24 o24 =>
      ∃ (s25 : ByteArray),
      w.cell? ⟨b24, o24 + i23.toNat * 1, none⟩ = some (.string s25) ∧
      R (.tuple #[.string s25, .bool true]) w))
theorem f53.eq (a0 : Nat) (xa1 : Int) (w : World) (R : Value → World → Prop) : f53.VC a0 xa1 w R = funV Try.prog Try.f53 f53.AL f53.AC #[.pointer (some ⟨a0, 0, none⟩), .int .i64 xa1] w R := by kernel_rfl
theorem f53.calls {a0 : Nat} {xa1 : Int} {w : World} {R : Value → World → Prop} (h : f53.VC a0 xa1 w R) : Calls Try.prog 53 #[.pointer (some ⟨a0, 0, none⟩), .int .i64 xa1] w fun e w' => ∃ v, e = .returned v ∧ R v w' :=
  funV_sound (fn := Try.f53) (AL := f53.AL) (AC := f53.AC) W0.mixed (by kernel_rfl) (by rw [← f53.eq a0 xa1]; exact h)

/-- (*gatehouse/gatehouseref01.Index).At -/
def f61.AL : Nat → Option Ann := fun _ => none
def f61.AC : Nat → Option Ann := fun _ => none
def f61.VC (a0 : Nat) (xa1 : Int) (w : World) (R : Value → World → Prop) : Prop :=
  sel (decide ((xa1 : Int) < (1 : Int))) (
    R (.tuple #[.string ⟨#[]⟩, .bool false]) w) (
    ∃ (A13 : Option Addr) (n13 c13 : Nat),
    w.cell? ⟨a0, 0, none⟩ = some (.slice A13 n13 c13) ∧
    sel (decide (((n13 : Int) : Int) < (xa1 : Int))) (
      R (.tuple #[.string ⟨#[]⟩, .bool false]) w) (
      ∃ (A20 : Option Addr) (n20 c20 : Nat),
      w.cell? ⟨a0, 0, none⟩ = some (.slice A20 n20 c20) ∧
      let i22 : Int := IntKind.i64.wrap (xa1 - 1);
      (0 : Int) ≤ i22 ∧ i22 < (n20 : Int) ∧
      needPtr A20 fun b23 o23 =>
      ∃ (s24 : ByteArray),
      w.cell? ⟨b23, o23 + i22.toNat * 1, none⟩ = some (.string s24) ∧
      R (.tuple #[.string s24, .bool true]) w))
theorem f61.eq (a0 : Nat) (xa1 : Int) (w : World) (R : Value → World → Prop) : f61.VC a0 xa1 w R = funV Try.prog Try.f61 f61.AL f61.AC #[.pointer (some ⟨a0, 0, none⟩), .int .i64 xa1] w R := by kernel_rfl
theorem f61.calls {a0 : Nat} {xa1 : Int} {w : World} {R : Value → World → Prop} (h : f61.VC a0 xa1 w R) : Calls Try.prog 61 #[.pointer (some ⟨a0, 0, none⟩), .int .i64 xa1] w fun e w' => ∃ v, e = .returned v ∧ R v w' :=
  funV_sound (fn := Try.f61) (AL := f61.AL) (AC := f61.AC) W0.mixed (by kernel_rfl) (by rw [← f61.eq a0 xa1]; exact h)

/-- (*gatehouse/page.eye).read -/
def f75.AL : Nat → Option Ann := fun _ => none
def f75.AC : Nat → Option Ann := fun _ => none
def f75.VC (a0 : Nat) (xa1 : Int) (w : World) (R : Value → World → Prop) : Prop :=
  sel (decide ((xa1 : Int) < (0 : Int))) (
    R (.tuple #[.int .i64 0, .bool false]) w) (
    ∃ (A13 : Option Addr) (n13 c13 : Nat),
    w.cell? ⟨a0, 0, none⟩ = some (.slice A13 n13 c13) ∧
    sel (decide (((n13 : Int) : Int) ≤ (xa1 : Int))) (
      R (.tuple #[.int .i64 0, .bool false]) w) (
      ∃ (x20 : Int),
      w.cell? ⟨a0, 1, none⟩ = some (.int .i64 x20) ∧
      let i21 : Int := IntKind.i64.wrap (x20 + 1);
      canStore w a0 1 1 ∧
      let w_1 : World := setCs w a0 1 [.int .i64 i21];
      ∃ (A27 : Option Addr) (n27 c27 : Nat),
      w_1.cell? ⟨a0, 0, none⟩ = some (.slice A27 n27 c27) ∧
      (0 : Int) ≤ xa1 ∧ xa1 < (n27 : Int) ∧
      needPtr A27 fun b29 o29 =>
      ∃ (x30 : Int),
      w_1.cell? ⟨b29, o29 + xa1.toNat * 1, none⟩ = some (.int .i64 x30) ∧
      R (.tuple #[.int .i64 x30, .bool true]) w_1))
theorem f75.eq (a0 : Nat) (xa1 : Int) (w : World) (R : Value → World → Prop) : f75.VC a0 xa1 w R = funV Try.prog Try.f75 f75.AL f75.AC #[.pointer (some ⟨a0, 0, none⟩), .int .i64 xa1] w R := by kernel_rfl
theorem f75.calls {a0 : Nat} {xa1 : Int} {w : World} {R : Value → World → Prop} (h : f75.VC a0 xa1 w R) : Calls Try.prog 75 #[.pointer (some ⟨a0, 0, none⟩), .int .i64 xa1] w fun e w' => ∃ v, e = .returned v ∧ R v w' :=
  funV_sound (fn := Try.f75) (AL := f75.AL) (AC := f75.AC) W0.mixed (by kernel_rfl) (by rw [← f75.eq a0 xa1]; exact h)

/-- gatehouse/page.power -/
def f76.AL : Nat → Option Ann := fun _ => none
def f76.AC : Nat → Option Ann := fun _ => none
def f76.VC (xa0 : Int) (w : World) (R : Value → World → Prop) : Prop :=
  sel (decide ((2 : Int) ≤ (xa0 : Int))) (
    sel (decide ((xa0 : Int) ≤ (4096 : Int))) (
      let i12 : Int := IntKind.i64.wrap (xa0 - 1);
      let i13 : Int := bitsI .and .i64 xa0 i12;
      R (.bool ((i13 : Int) == (0 : Int))) w) (
      R (.bool false) w)) (
    R (.bool false) w)
theorem f76.eq (xa0 : Int) (w : World) (R : Value → World → Prop) : f76.VC xa0 w R = funV Try.prog Try.f76 f76.AL f76.AC #[.int .i64 xa0] w R := by kernel_rfl
theorem f76.calls {xa0 : Int} {w : World} {R : Value → World → Prop} (h : f76.VC xa0 w R) : Calls Try.prog 76 #[.int .i64 xa0] w fun e w' => ∃ v, e = .returned v ∧ R v w' :=
  funV_sound (fn := Try.f76) (AL := f76.AL) (AC := f76.AC) W0.mixed (by kernel_rfl) (by rw [← f76.eq xa0]; exact h)

/-- (*gatehouse/gatehouseref01.Index).Find -/
def f80.AL : Nat → Option Ann := fun r => match r with | 2 => some ⟨[(6, .int .i64)], [0, 1]⟩ | _ => none
def f80.AC : Nat → Option Ann := fun _ => none
def f80.VC (a0 : Nat) (sa1 : ByteArray) (w : World) (R : Value → World → Prop) : Prop :=
  ∃ I : Int → World → Nat → Prop,
  (∃ n, I 0 w n) ∧
  ∀ d : Env, ∀ (x6 : Int) (w_1 : World) (r : Nat), I x6 w_1 r →
  ∃ (A11 : Option Addr) (n11 c11 : Nat),
  w_1.cell? ⟨a0, 0, none⟩ = some (.slice A11 n11 c11) ∧
  sel (decide ((x6 : Int) < ((n11 : Int) : Int))) (
    ∃ (A19 : Option Addr) (n19 c19 : Nat),
    w_1.cell? ⟨a0, 0, none⟩ = some (.slice A19 n19 c19) ∧
    (0 : Int) ≤ x6 ∧ x6 < (n19 : Int) ∧
    needPtr A19 fun b21 o21 =>
    ∃ (s22 : ByteArray),
    w_1.cell? ⟨b21, o21 + x6.toNat * 1, none⟩ = some (.string s22) ∧
    sel (decide (s22 = sa1)) (
      let i26 : Int := IntKind.i64.wrap (x6 + 1);
      R (.tuple #[.int .i64 i26, .bool true]) w_1) (
      let i15 : Int := IntKind.i64.wrap (x6 + 1);
      ([.pointer (some ⟨a0, 0, none⟩), .string sa1] : List Value) = ([.pointer (some ⟨a0, 0, none⟩), .string sa1] : List Value) ∧ ∃ m, m < r ∧ I i15 w_1 m)) (
    R (.tuple #[.int .i64 0, .bool false]) w_1)
theorem f80.eq (a0 : Nat) (sa1 : ByteArray) (w : World) (R : Value → World → Prop) : f80.VC a0 sa1 w R = funV Try.prog Try.f80 f80.AL f80.AC #[.pointer (some ⟨a0, 0, none⟩), .string sa1] w R := by kernel_rfl
theorem f80.calls {a0 : Nat} {sa1 : ByteArray} {w : World} {R : Value → World → Prop} (h : f80.VC a0 sa1 w R) : Calls Try.prog 80 #[.pointer (some ⟨a0, 0, none⟩), .string sa1] w fun e w' => ∃ v, e = .returned v ∧ R v w' :=
  funV_sound (fn := Try.f80) (AL := f80.AL) (AC := f80.AC) W0.mixed (by kernel_rfl) (by rw [← f80.eq a0 sa1]; exact h)

/-- (*gatehouse/names.Index[string]).Find -/
def f81.AL : Nat → Option Ann := fun _ => none
def f81.AC : Nat → Option Ann := fun _ => none
def f81.VC (a0 : Nat) (sa1 : ByteArray) (w : World) (R : Value → World → Prop) : Prop :=
  ∃ (m12 : Option Nat),
  w.cell? ⟨a0, 0, none⟩ = some (.map m12) ∧
  ∃ (x14_0 : Int) (b14_1 : Bool),
  ∃ w_1 : World, (Instr.lookup 120 (.map m12) (.string sa1) true).run Try.prog w = .ok (.tuple #[.int .i64 x14_0, .bool b14_1]) w_1 ∧
  R (.tuple #[.int .i64 x14_0, .bool b14_1]) w_1
theorem f81.eq (a0 : Nat) (sa1 : ByteArray) (w : World) (R : Value → World → Prop) : f81.VC a0 sa1 w R = funV Try.prog Try.f81 f81.AL f81.AC #[.pointer (some ⟨a0, 0, none⟩), .string sa1] w R := by kernel_rfl
theorem f81.calls {a0 : Nat} {sa1 : ByteArray} {w : World} {R : Value → World → Prop} (h : f81.VC a0 sa1 w R) : Calls Try.prog 81 #[.pointer (some ⟨a0, 0, none⟩), .string sa1] w fun e w' => ∃ v, e = .returned v ∧ R v w' :=
  funV_sound (fn := Try.f81) (AL := f81.AL) (AC := f81.AC) W0.mixed (by kernel_rfl) (by rw [← f81.eq a0 sa1]; exact h)

/-- (*gatehouse/gatehouseref12.Book).word -/
def f83.AL : Nat → Option Ann := fun _ => none
def f83.AC : Nat → Option Ann := fun _ => none
def f83.VC (a0 : Nat) (xa1 : Int) (w : World) (R : Value → World → Prop) : Prop :=
  ∃ (b8 : Bool),
  w.cell? ⟨a0, 2, none⟩ = some (.bool b8) ∧
  sel b8 (
    canStore w a0 2 1 ∧
    let w_1 : World := setCs w a0 2 [.bool true];
    R (.int .i64 0) w_1) (
    sel (decide ((xa1 : Int) < (0 : Int))) (
      canStore w a0 2 1 ∧
      let w_2 : World := setCs w a0 2 [.bool true];
      R (.int .i64 0) w_2) (
      ∃ (A18 : Option Addr) (n18 c18 : Nat),
      w.cell? ⟨a0, 0, none⟩ = some (.slice A18 n18 c18) ∧
      sel (decide (((n18 : Int) : Int) ≤ (xa1 : Int))) (
        canStore w a0 2 1 ∧
        let w_3 : World := setCs w a0 2 [.bool true];
        R (.int .i64 0) w_3) (
        ∃ (x28 : Int),
        w.cell? ⟨a0, 1, none⟩ = some (.int .i64 x28) ∧
        let i29 : Int := IntKind.i64.wrap (x28 + 1);
        canStore w a0 1 1 ∧
        let w_4 : World := setCs w a0 1 [.int .i64 i29];
        ∃ (A35 : Option Addr) (n35 c35 : Nat),
        w_4.cell? ⟨a0, 0, none⟩ = some (.slice A35 n35 c35) ∧
        (0 : Int) ≤ xa1 ∧ xa1 < (n35 : Int) ∧
        needPtr A35 fun b37 o37 =>
        ∃ (x38 : Int),
        w_4.cell? ⟨b37, o37 + xa1.toNat * 1, none⟩ = some (.int .i64 x38) ∧
        R (.int .i64 x38) w_4)))
theorem f83.eq (a0 : Nat) (xa1 : Int) (w : World) (R : Value → World → Prop) : f83.VC a0 xa1 w R = funV Try.prog Try.f83 f83.AL f83.AC #[.pointer (some ⟨a0, 0, none⟩), .int .i64 xa1] w R := by kernel_rfl
theorem f83.calls {a0 : Nat} {xa1 : Int} {w : World} {R : Value → World → Prop} (h : f83.VC a0 xa1 w R) : Calls Try.prog 83 #[.pointer (some ⟨a0, 0, none⟩), .int .i64 xa1] w fun e w' => ∃ v, e = .returned v ∧ R v w' :=
  funV_sound (fn := Try.f83) (AL := f83.AL) (AC := f83.AC) W0.mixed (by kernel_rfl) (by rw [← f83.eq a0 xa1]; exact h)

/-- gatehouse/gatehouseref12.power -/
def f84.AL : Nat → Option Ann := fun r => match r with | 2 => some ⟨[(3, .int .i64)], [0]⟩ | _ => none
def f84.AC : Nat → Option Ann := fun _ => none
def f84.VC (xa0 : Int) (w : World) (R : Value → World → Prop) : Prop :=
  ∃ I : Int → World → Nat → Prop,
  (∃ n, I 2 w n) ∧
  ∀ d : Env, ∀ (x3 : Int) (w_1 : World) (r : Nat), I x3 w_1 r →
  sel (decide ((x3 : Int) ≤ (4096 : Int))) (
    sel ((x3 : Int) == (xa0 : Int)) (
      R (.bool true) w_1) (
      let i7 : Int := IntKind.i64.wrap (2 * x3);
      ([.int .i64 xa0] : List Value) = ([.int .i64 xa0] : List Value) ∧ ∃ m, m < r ∧ I i7 w_1 m)) (
    R (.bool false) w_1)
theorem f84.eq (xa0 : Int) (w : World) (R : Value → World → Prop) : f84.VC xa0 w R = funV Try.prog Try.f84 f84.AL f84.AC #[.int .i64 xa0] w R := by kernel_rfl
theorem f84.calls {xa0 : Int} {w : World} {R : Value → World → Prop} (h : f84.VC xa0 w R) : Calls Try.prog 84 #[.int .i64 xa0] w fun e w' => ∃ v, e = .returned v ∧ R v w' :=
  funV_sound (fn := Try.f84) (AL := f84.AL) (AC := f84.AC) W0.mixed (by kernel_rfl) (by rw [← f84.eq xa0]; exact h)

end Go.Proofs.Ytjmlfknogjaemaa
/- Page: where the search for a key begins: the program's and the document's. -/
set_option linter.unusedVariables false
set_option linter.unusedSimpArgs false
set_option maxRecDepth 10000
namespace Go.Proofs.Ytjmlfknogjaemaa
open Go Go.Proofs.Ytjmlfknogjaemaa.Vc
namespace PG
open Vc.PG
theorem hashP (w : World) (key size : Int) (hs : size ≤ 9223372036854775807) : Calls Try.prog 11 #[.int .i64 key, .int .i64 size] w fun e w' => e = .returned (.int .i64 (pgHash key size)) ∧ Fr [] w w' := by
  refine Calls.mono (f11.calls (R := fun v w' => v = .int .i64 (pgHash key size) ∧ Fr [] w w') ?_) ?_
  · dsimp only [f11.VC]
    refine sel_of (fun hd => ?_) (fun hd => ?_)
    · have hd : size < 1 := of_decide_eq_true hd
      exact ⟨by unfold pgHash; rw [if_pos hd], Fr.refl _ _⟩
    · have hd : ¬ size < 1 := of_decide_eq_false hd
      refine ⟨by omega, ?_, Fr.refl _ _⟩
      rw [u16_wrap, i64_id (by omega) (by omega), tmod_pos (by omega)]
      unfold pgHash
      rw [if_neg hd]
  · rintro e w' ⟨v, rfl, rfl, h⟩; exact ⟨rfl, h⟩
theorem hashR (w : World) (key size : Int) (hs : size ≤ 9223372036854775807) : Calls Try.prog 12 #[.int .i64 key, .int .i64 size] w fun e w' => e = .returned (.int .i64 (pgHash key size)) ∧ Fr [] w w' := by
  refine Calls.mono (f12.calls (R := fun v w' => v = .int .i64 (pgHash key size) ∧ Fr [] w w') ?_) ?_
  · dsimp only [f12.VC]
    refine sel_of (fun hd => ?_) (fun hd => ?_)
    · have hd : size < 1 := of_decide_eq_true hd
      exact ⟨by unfold pgHash; rw [if_pos hd], Fr.refl _ _⟩
    · have hd : ¬ size < 1 := of_decide_eq_false hd
      have hm := mod16 (IntKind.wrap .i64 (key * 40503))
      generalize hx : IntKind.wrap .i64 (key * 40503) = x at *
      have e : pgHash key size = (x % 65536) % size := by unfold pgHash; rw [if_neg hd, hx]
      refine ⟨by decide, sel_of (fun hl => ?_) (fun hl => ?_)⟩
      · have hl : Int.tmod x 65536 < 0 := of_decide_eq_true hl
        rw [if_pos hl] at hm
        refine ⟨by omega, ?_, Fr.refl _ _⟩
        rw [i64_id (by omega) (by omega), hm, tmod_pos (by omega), e]
      · have hl : ¬ Int.tmod x 65536 < 0 := of_decide_eq_false hl
        rw [if_neg hl] at hm
        refine ⟨by omega, ?_, Fr.refl _ _⟩
        rw [hm, tmod_pos (by omega), e]
  · rintro e w' ⟨v, rfl, rfl, h⟩; exact ⟨rfl, h⟩
end PG
end Go.Proofs.Ytjmlfknogjaemaa
/- Page: words of a page, searched: the plain laws. -/
set_option linter.unusedVariables false
set_option linter.unusedSimpArgs false
set_option maxRecDepth 100000
namespace Go.Proofs.Ytjmlfknogjaemaa.Vc
open Go
namespace PG
theorem wr (n : Int) : IntKind.wrap .i64 n = (n + 9223372036854775808) % 18446744073709551616 - 9223372036854775808 := by
  show (if (decide (n % 18446744073709551616 ≥ 9223372036854775808)) = true then n % 18446744073709551616 - 18446744073709551616 else n % 18446744073709551616) = _
  simp only [decide_eq_true_eq]
  split <;> omega
theorem wr_ex (a : Int) : ∃ k : Int, IntKind.wrap .i64 a = a + k * 18446744073709551616 := by
  rw [wr]
  exact ⟨-((a + 9223372036854775808) / 18446744073709551616), by omega⟩
theorem wr_more (a k : Int) : IntKind.wrap .i64 (a + k * 18446744073709551616) = IntKind.wrap .i64 a := by
  rw [wr, wr]; omega
theorem wr_add (a b : Int) : IntKind.wrap .i64 (IntKind.wrap .i64 a + b) = IntKind.wrap .i64 (a + b) := by
  rw [wr, wr, wr]; omega
theorem wr_add' (a b : Int) : IntKind.wrap .i64 (a + IntKind.wrap .i64 b) = IntKind.wrap .i64 (a + b) := by
  rw [wr, wr, wr]; omega
theorem wr_sub (a b : Int) : IntKind.wrap .i64 (IntKind.wrap .i64 a - b) = IntKind.wrap .i64 (a - b) := by
  rw [wr, wr, wr]; omega
theorem wr_mul (a b : Int) : IntKind.wrap .i64 (IntKind.wrap .i64 a * b) = IntKind.wrap .i64 (a * b) := by
  obtain ⟨k, hk⟩ := wr_ex a
  rw [hk, Int.add_mul, Int.mul_assoc, Int.mul_comm 18446744073709551616 b, ← Int.mul_assoc]
  exact wr_more _ _
theorem wr_range (a : Int) : -9223372036854775808 ≤ IntKind.wrap .i64 a ∧ IntKind.wrap .i64 a < 9223372036854775808 := by
  rw [wr]; omega
theorem bit_one (x : Int) : bitsI .and .i64 x 1 = 0 ∨ bitsI .and .i64 x 1 = 1 := by
  have h : ((BitVec.ofInt 64 x &&& BitVec.ofInt 64 1).toNat) % 2 = (BitVec.ofInt 64 x &&& BitVec.ofInt 64 1).toNat := by
    rw [BitVec.toNat_and]
    have : (BitVec.ofInt 64 1).toNat = 1 := by decide
    rw [this, Nat.and_one_is_mod]
    omega
  show IntKind.wrap .i64 (((BitVec.ofInt 64 x &&& BitVec.ofInt 64 1).toNat : Nat) : Int) = 0 ∨ IntKind.wrap .i64 (((BitVec.ofInt 64 x &&& BitVec.ofInt 64 1).toNat : Nat) : Int) = 1
  rw [wr]
  omega
/-- A power of two from 2 to 4096. -/
def powB (t : Int) : Bool := [2, 4, 8, 16, 32, 64, 128, 256, 512, 1024, 2048, 4096].any (fun p => decide (p = t))
theorem pow_bits : ∀ n : Fin 4097, 2 ≤ n.1 → (bitsI .and .i64 (n.1 : Int) ((n.1 : Int) - 1) == 0) = powB (n.1 : Int) := by decide +kernel
theorem powB_range {t : Int} (h : powB t = true) : 2 ≤ t ∧ t ≤ 4096 := by
  simp [powB] at h
  omega
/-- Is a bit of a number there? -/
def bitB (m z : Int) : Bool := bitsI .and .i64 (shrI .i64 m z) 1 == 1
theorem bitB_ne (m z : Int) : (bitsI .and .i64 (shrI .i64 m z) 1 != 0) = bitB m z := by
  unfold bitB
  rcases bit_one (shrI .i64 m z) with h | h <;> rw [h] <;> rfl
/-- The key of a symbol and a kind. -/
def keyN (s k : Int) : Int := IntKind.wrap .i64 (s * 4 + k)
def kfirst (key : Int) (t : Nat) : Nat := (pgHash key t).toNat
theorem kfirst_lt (key : Int) {t : Nat} (h : 0 < t) : kfirst key t < t := by
  have := pgHash_range key (size := (t : Int))
  unfold kfirst; omega
theorem kfirst_eq (key : Int) {t : Nat} : ((kfirst key t : Nat) : Int) = pgHash key t := by
  have := pgHash_range key (size := (t : Int))
  unfold kfirst; omega
/-- A search in a page's table, from the n-th look on. -/
def lookGo (W : List Int) (t : Nat) (key : Int) (f : Nat) : Nat → Nat → Int × Nat
  | _, 0 => (0, t)
  | n, r + 1 =>
    if W.getD (4 + 2 * ((f + n) % t)) 0 = key then (W.getD (4 + 2 * ((f + n) % t) + 1) 0, n + 1)
    else if W.getD (4 + 2 * ((f + n) % t)) 0 = 0 then (0, n + 1)
    else lookGo W t key f (n + 1) r
/-- How many places a page's table has. -/
def tabP (W : List Int) : Int := if W.length < 4 then 0 else if powB (W.getD 1 0) = true ∧ 4 + 2 * W.getD 1 0 ≤ W.length then W.getD 1 0 else 0
theorem tabP_range (W : List Int) : 0 ≤ tabP W ∧ tabP W ≤ 4096 ∧ (tabP W ≠ 0 → 4 ≤ W.length ∧ 4 + 2 * tabP W ≤ W.length ∧ W.getD 1 0 = tabP W ∧ powB (tabP W) = true ∧ 2 ≤ tabP W) := by
  unfold tabP
  split
  · simp
  · split
    · rename_i h1 h2
      have := powB_range h2.1
      exact ⟨by omega, by omega, fun _ => ⟨by omega, h2.2, rfl, h2.1, by omega⟩⟩
    · simp
def lookP (W : List Int) (s k : Int) : Int × Nat :=
  if tabP W = 0 ∨ k < 1 ∨ 3 < k then (0, 0) else lookGo W (tabP W).toNat (keyN s k) (kfirst (keyN s k) (tabP W).toNat) 0 (tabP W).toNat
/-- The same, word by word: the number, if it is met, and how many words were read. -/
def seekGo (W : List Int) (t : Nat) (key : Int) (f : Nat) : Nat → Nat → Nat → Option Int × Nat
  | _, 0, s => (none, s)
  | n, r + 1, s =>
    if 4 + 2 * ((f + n) % t) < W.length then
      if W.getD (4 + 2 * ((f + n) % t)) 0 = key then
        if 4 + 2 * ((f + n) % t) + 1 < W.length then (some (W.getD (4 + 2 * ((f + n) % t) + 1) 0), s + 2) else (none, s + 1)
      else if W.getD (4 + 2 * ((f + n) % t)) 0 = 0 then (none, s + 1)
      else seekGo W t key f (n + 1) r (s + 1)
    else (none, s)
def seekP (W : List Int) (t : Nat) (key : Int) (s : Nat) : Option Int × Nat := seekGo W t key (kfirst key t) 0 t s
theorem seekGo_le (W : List Int) (t : Nat) (key : Int) (f : Nat) : ∀ r n s, (seekGo W t key f n r s).2 ≤ s + r + 1
  | 0, n, s => by simp [seekGo]
  | r + 1, n, s => by
    have ih := seekGo_le W t key f r (n + 1) (s + 1)
    rw [seekGo]
    split
    · split
      · split
        · dsimp only; omega
        · dsimp only; omega
      · split
        · dsimp only; omega
        · omega
    · dsimp only; omega
theorem seekP_le (W : List Int) (t : Nat) (key : Int) (s : Nat) : (seekP W t key s).2 ≤ s + t + 1 := seekGo_le _ _ _ _ _ _ _
def maskAt (t x y c : Int) : Int := IntKind.wrap .i64 (4 + 2 * t + (x - 1) * c + y - 1)
/-- All three keys met. -/
def decEnd (W : List Int) (t : Nat) (x y z : Int) (n : Nat) : Bool × Nat :=
  if 3 < W.length then
    if 0 ≤ maskAt t x y (W.getD 3 0) ∧ maskAt t x y (W.getD 3 0) < W.length then
      if z < 1 ∨ 16 < z then (false, n + 2)
      else (bitB (W.getD (maskAt t x y (W.getD 3 0)).toNat 0) (z - 1), n + 2)
    else (false, n + 1)
  else (false, n)
/-- .. with so many keys to be sought yet. -/
def decFrom (W : List Int) (t : Nat) (s o a : Int) : Nat → Int → Int → Int → Nat → Bool × Nat
  | 0, x, y, z, n => decEnd W t x y z n
  | 1, x, y, _, n => match seekP W t (keyN a 3) n with
    | (none, m) => (false, m)
    | (some v, m) => decEnd W t x y v m
  | 2, x, _, z, n => match seekP W t (keyN o 2) n with
    | (none, m) => (false, m)
    | (some v, m) => decFrom W t s o a 1 x v z m
  | _ + 3, _, y, z, n => match seekP W t (keyN s 1) n with
    | (none, m) => (false, m)
    | (some v, m) => decFrom W t s o a 2 v y z m
/-- What a page decides, and how many words were read. -/
def decP (W : List Int) (s o a : Int) : Bool × Nat :=
  if 1 < W.length then
    if powB (W.getD 1 0) = true then decFrom W (W.getD 1 0).toNat s o a 3 0 0 0 1
    else (false, 1)
  else (false, 0)
end PG
end Go.Proofs.Ytjmlfknogjaemaa.Vc
/- Page: how many places a table may have: the program's 'power' and the document's. -/
set_option linter.unusedVariables false
set_option linter.unusedSimpArgs false
set_option maxRecDepth 100000
namespace Go.Proofs.Ytjmlfknogjaemaa
open Go Go.Proofs.Ytjmlfknogjaemaa.Vc
namespace PG
open Vc.PG
theorem powP (w : World) (t : Int) : Calls Try.prog 76 #[.int .i64 t] w fun e w' => e = .returned (.bool (powB t)) ∧ w' = w := by
  refine Calls.mono (f76.calls (R := fun v w' => v = .bool (powB t) ∧ w' = w) ?_) ?_
  · dsimp only [f76.VC]
    have no : (t < 2 ∨ 4096 < t) → powB t = false := by
      intro h
      cases hp : powB t with
      | false => rfl
      | true => have := powB_range hp; omega
    refine sel_of (fun h1 => sel_of (fun h2 => ?_) (fun h2 => ?_)) (fun h1 => ?_)
    · have h1 : 2 ≤ t := of_decide_eq_true h1
      have h2 : t ≤ 4096 := of_decide_eq_true h2
      have := pow_bits ⟨t.toNat, by omega⟩ (by show 2 ≤ t.toNat; omega)
      dsimp only at this
      rw [show ((t.toNat : Nat) : Int) = t by omega] at this
      rw [i64_id (by omega) (by omega), this]
      exact ⟨rfl, rfl⟩
    · have h2 : ¬ t ≤ 4096 := of_decide_eq_false h2
      rw [no (by omega)]; exact ⟨rfl, rfl⟩
    · have h1 : ¬ 2 ≤ t := of_decide_eq_false h1
      rw [no (by omega)]; exact ⟨rfl, rfl⟩
  · rintro e w' ⟨v, rfl, rfl, h⟩; exact ⟨rfl, h⟩
theorem powR (w : World) (t : Int) : Calls Try.prog 84 #[.int .i64 t] w fun e w' => e = .returned (.bool (powB t)) ∧ w' = w := by
  refine Calls.mono (f84.calls (R := fun v w' => v = .bool (powB t) ∧ w' = w) ?_) ?_
  · dsimp only [f84.VC]
    refine ⟨fun x w' r => w' = w ∧ ∃ k : Fin 13, x = (2 : Int) ^ (k.1 + 1) ∧ k.1 + r = 12 ∧ ∀ j : Fin 13, j.1 < k.1 → (2 : Int) ^ (j.1 + 1) ≠ t, ⟨12, rfl, 0, rfl, rfl, fun j hj => by simp at hj⟩, ?_⟩
    rintro d x w1 r ⟨rfl, k, rfl, hkr, hno⟩
    have hall : ∀ q : Fin 13, ((2 : Int) ^ (q.1 + 1) ≤ 4096 ↔ q.1 < 12) ∧ IntKind.i64.wrap (2 * (2 : Int) ^ (q.1 + 1)) = (2 : Int) ^ (q.1 + 2) ∧ (q.1 < 12 → powB ((2 : Int) ^ (q.1 + 1)) = true) := by decide +kernel
    obtain ⟨a1, a2, a3⟩ := hall k
    refine sel_of (fun h1 => sel_of (fun h2 => ?_) (fun h2 => ?_)) (fun h1 => ?_)
    · have h1 : (2 : Int) ^ (k.1 + 1) ≤ 4096 := of_decide_eq_true h1
      have h2 : (2 : Int) ^ (k.1 + 1) = t := eq_of_beq h2
      rw [← h2, a3 (a1.1 h1)]
      exact ⟨rfl, rfl⟩
    · have h1 : (2 : Int) ^ (k.1 + 1) ≤ 4096 := of_decide_eq_true h1
      have h2 : (2 : Int) ^ (k.1 + 1) ≠ t := beq_eq_false_iff_ne.1 h2
      have hk := a1.1 h1
      rw [a2]
      refine ⟨rfl, r - 1, by omega, rfl, ⟨k.1 + 1, by omega⟩, rfl, by show k.1 + 1 + (r - 1) = 12; omega, fun j hj => ?_⟩
      have hj : j.1 < k.1 + 1 := hj
      rcases Nat.lt_or_ge j.1 k.1 with h3 | h3
      · exact hno j h3
      · have : j = k := Fin.ext (by omega)
        subst this; exact h2
    · have h1 : ¬ (2 : Int) ^ (k.1 + 1) ≤ 4096 := of_decide_eq_false h1
      have hk : k.1 = 12 := by
        have := k.2
        rcases Nat.lt_or_ge k.1 12 with h | h
        · exact absurd (a1.2 h) h1
        · omega
      have hp : powB t = false := by
        cases hp : powB t with
        | false => rfl
        | true =>
          exfalso
          have hall2 : ∀ j : Fin 13, j.1 < 12 → (2 : Int) ^ (j.1 + 1) ≠ t := fun j hj => hno j (by omega)
          have v0 : (2 : Int) ≠ t := hall2 ⟨0, by decide⟩ (by decide)
          have v1 : (4 : Int) ≠ t := hall2 ⟨1, by decide⟩ (by decide)
          have v2 : (8 : Int) ≠ t := hall2 ⟨2, by decide⟩ (by decide)
          have v3 : (16 : Int) ≠ t := hall2 ⟨3, by decide⟩ (by decide)
          have v4 : (32 : Int) ≠ t := hall2 ⟨4, by decide⟩ (by decide)
          have v5 : (64 : Int) ≠ t := hall2 ⟨5, by decide⟩ (by decide)
          have v6 : (128 : Int) ≠ t := hall2 ⟨6, by decide⟩ (by decide)
          have v7 : (256 : Int) ≠ t := hall2 ⟨7, by decide⟩ (by decide)
          have v8 : (512 : Int) ≠ t := hall2 ⟨8, by decide⟩ (by decide)
          have v9 : (1024 : Int) ≠ t := hall2 ⟨9, by decide⟩ (by decide)
          have v10 : (2048 : Int) ≠ t := hall2 ⟨10, by decide⟩ (by decide)
          have v11 : (4096 : Int) ≠ t := hall2 ⟨11, by decide⟩ (by decide)
          simp [powB] at hp
          omega
      rw [hp]; exact ⟨rfl, rfl⟩
  · rintro e w' ⟨v, rfl, rfl, h⟩; exact ⟨rfl, h⟩
end PG
end Go.Proofs.Ytjmlfknogjaemaa
