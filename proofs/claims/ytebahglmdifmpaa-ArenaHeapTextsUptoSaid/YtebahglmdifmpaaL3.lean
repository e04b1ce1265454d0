/- ArenaHeapTexts: heaps of texts and of pairs beside the document's: the walk. -/
import Derived.Test.YtebahglmdifmpaaL0
import Derived.Test.YtebahglmdifmpaaL5
import Derived.Test.YtebahglmdifmpaaH0
import Derived.Test.YtebahglmdifmpaaR1
import Derived.Test.YtebahglmdifmpaaE0
import Derived.Test.YtebahglmdifmpaaV0
import Derived.Test.YtebahglmdifmpaaV7
import Derived.Test.YtebahglmdifmpaaT1
set_option linter.unusedVariables false
set_option linter.unusedSimpArgs false
set_option maxRecDepth 10000
namespace Go.Proofs.Ytebahglmdifmpaa
open Go Go.Proofs.Ytebahglmdifmpaa.Vc
namespace LT
def size (s : ByteArray) : Int := (s.size : Int)
def fst (p : Int × Int) : Int := p.1
abbrev ltS : ByteArray → ByteArray → Bool := HeapPlain.byRank size
abbrev ltP : Int × Int → Int × Int → Bool := HeapPlain.byRank fst
abbrev LESS (f : Nat) : Value := .func (.func f) #[] #[]
theorem enters13 : entersB Try.prog 13 = true := by kernel_rfl
theorem enters15 : entersB Try.prog 15 = true := by kernel_rfl
theorem less13 : HS.Less ltS (fun _ => True) (LESS 13) := by
  intro w x y _
  refine CM.callT_of enters13 ?_
  refine Calls.mono (f13.calls (sa0 := x) (sa1 := y) (w := w) (R := fun v w' => v = .bool (ltS x y) ∧ Fr [] w w') ⟨rfl, Fr.refl _ _⟩) ?_
  rintro e w' ⟨v, rfl, rfl, h⟩
  exact ⟨rfl, h⟩
theorem less15 : HP.Less ltP (fun _ => True) (LESS 15) := by
  intro w x y _
  refine CM.callT_of enters15 ?_
  refine Calls.mono (f15.calls (xa0_0 := x.1) (xa0_1 := x.2) (xa1_0 := y.1) (xa1_1 := y.2) (w := w) (R := fun v w' => v = .bool (ltP x y) ∧ Fr [] w w') ?_) ?_
  · dsimp only [f15.VC]
    have hS1 := (St.start w).alloc #[.int .i64 x.1, .int .i64 x.2] 30
    have hS2 := hS1.alloc #[.int .i64 y.1, .int .i64 y.2] 30
    exact ⟨by omega, by omega, _, (hS2.blk 1 rfl).cell rfl, by omega, by omega, _, (hS2.blk 0 rfl).cell rfl, rfl, hS2.frame⟩
  · rintro e w' ⟨v, rfl, rfl, h⟩
    exact ⟨rfl, h⟩
abbrev hS_ (a : Nat) (es : List (ByteArray × Int)) (came : Int) : Chunk := Chunk.heap (α := ByteArray) 117 122 2 HS.enc a (LESS 13) es came
abbrev hP (a : Nat) (es : List ((Int × Int) × Int)) (came : Int) : Chunk := Chunk.heap (α := Int × Int) 120 125 3 HP.enc a (LESS 15) es came
section
variable {S : List Nat} {w0 w : World} {L : List Chunk} {a : Nat} {es : List (ByteArray × Int)} {ps : List ((Int × Int) × Int)} {came : Int}
theorem pushS (h : St S w0 w L) (i : Nat) (hi : L[i]? = some (hS_ a es came)) (hn : es.length ≤ 4000000) (hc0 : 0 ≤ came) (hc1 : came ≤ 4611686018427387904) (x : ByteArray) :
    Calls Try.prog 16 #[.pointer (some ⟨a, 0, none⟩), .string x] w fun e w' => e = .returned (.tuple #[]) ∧ St S w0 w' (L.set i (hS_ a (HeapPlain.push HS.d (GC.AH size) es (x, came)) (came + 1))) :=
  h.step1 i hi _ fun F hF => HS.push AR.rests less13 trivial (by simp) hF hn hc0 hc1 x
theorem popS (h : St S w0 w L) (i : Nat) (hi : L[i]? = some (hS_ a es came)) (hn : es.length ≤ 4000000) :
    Calls Try.prog 20 #[.pointer (some ⟨a, 0, none⟩)] w fun e w' => e = .returned (.tuple #[.string (es.getD 0 HS.d).1, .bool (decide (0 < es.length))]) ∧ St S w0 w' (L.set i (hS_ a (HeapPlain.popped HS.d (GC.AH size) es) came)) :=
  h.step1 i hi _ fun F hF => HS.pop AR.rests less13 trivial (by simp) hF hn
theorem lenS (h : St S w0 w L) (i : Nat) (hi : L[i]? = some (hS_ a es came)) :
    Calls Try.prog 23 #[.pointer (some ⟨a, 0, none⟩)] w fun e w' => e = .returned (.int .i64 (es.length : Int)) ∧ St S w0 w' L := by
  obtain ⟨F, h1, _⟩ := h.at i hi
  exact h.step0 (HS.len h1)
theorem pushP (h : St S w0 w L) (i : Nat) (hi : L[i]? = some (hP a ps came)) (hn : ps.length ≤ 4000000) (hc0 : 0 ≤ came) (hc1 : came ≤ 4611686018427387904) (x : Int × Int) :
    Calls Try.prog 18 #[.pointer (some ⟨a, 0, none⟩), .agg #[.int .i64 x.1, .int .i64 x.2]] w fun e w' => e = .returned (.tuple #[]) ∧ St S w0 w' (L.set i (hP a (HeapPlain.push HP.d (GC.AH fst) ps (x, came)) (came + 1))) :=
  h.step1 i hi _ fun F hF => HP.push AR.rests less15 trivial (by simp) hF hn hc0 hc1 x
theorem popP (h : St S w0 w L) (i : Nat) (hi : L[i]? = some (hP a ps came)) (hn : ps.length ≤ 4000000) :
    Calls Try.prog 22 #[.pointer (some ⟨a, 0, none⟩)] w fun e w' => e = .returned (.tuple #[HP.val (ps.getD 0 HP.d).1, .bool (decide (0 < ps.length))]) ∧ St S w0 w' (L.set i (hP a (HeapPlain.popped HP.d (GC.AH fst) ps) came)) :=
  h.step1 i hi _ fun F hF => HP.pop AR.rests less15 trivial (by simp) hF hn
theorem lenP (h : St S w0 w L) (i : Nat) (hi : L[i]? = some (hP a ps came)) :
    Calls Try.prog 24 #[.pointer (some ⟨a, 0, none⟩)] w fun e w' => e = .returned (.int .i64 (ps.length : Int)) ∧ St S w0 w' L := by
  obtain ⟨F, h1, _⟩ := h.at i hi
  exact h.step0 (HP.len h1)
variable {b : Nat} {t : List (Int × Int)}
abbrev refB (b : Nat) (t : List (Int × Int)) : Chunk := RH.refC 34 [] b t
theorem rpush (h : St S w0 w L) (i : Nat) (hi : L[i]? = some (refB b t)) (p q : Int) (ht : t.length ≤ 4000000) :
    Calls Try.prog 17 #[.pointer (some ⟨b, 0, none⟩), .agg #[.int .i64 p, .int .i64 q]] w fun e w' => e = .returned (.tuple #[]) ∧ St S w0 w' (L.set i (refB b (t ++ [(p, q)]))) := by
  have h1 := RH.push h i hi (p, q) ht
  exact h1
theorem rpop (h : St S w0 w L) (i : Nat) (hi : L[i]? = some (refB b t)) (ht : t.length ≤ 4000000) :
    Calls Try.prog 21 #[.pointer (some ⟨b, 0, none⟩)] w fun e w' => e = .returned (.tuple #[.agg #[.int .i64 (t.getD (RH.leastOf t) RH.d).1, .int .i64 (t.getD (RH.leastOf t) RH.d).2], .bool (decide (0 < t.length))]) ∧ St S w0 w' (L.set i (refB b (t.eraseIdx (RH.leastOf t)))) := by
  have h1 := RH.pop h i hi ht
  exact h1
theorem rcell (h : St S w0 w L) (i : Nat) (hi : L[i]? = some (refB b t)) : ∃ A c, w.cell? ⟨b, 0, none⟩ = some (.slice A t.length c) := by
  have h1 := RH.cellS h i hi
  exact h1
end
theorem newStr (w : World) (f : Nat) (cap : Array Value) : Calls Try.prog 12 #[.func (.func f) #[] cap] w fun e w' => e = .returned (.pointer (some ⟨w.heap.size, 0, none⟩)) ∧ HS.At w' [w.heap.size] w.heap.size (.func (.func f) #[] cap) [] 0 ∧ Fr [] w w' := by
  refine Calls.mono (f12.calls (a0 := f) (cap0 := cap) (w := w) (R := fun v w' => v = .pointer (some ⟨w.heap.size, 0, none⟩) ∧ HS.At w' [w.heap.size] w.heap.size (.func (.func f) #[] cap) [] 0 ∧ Fr [] w w') ?_) ?_
  · dsimp only [f12.VC]
    refine ⟨false, fun w' => by kernel_rfl, ?_⟩
    exact ⟨rfl, ⟨_, Blk.new, fun x => rfl, .inl ⟨rfl, rfl, rfl⟩⟩, (Fr.refl _ _).alloc⟩
  · rintro e w' ⟨v, rfl, rfl, h⟩
    exact ⟨rfl, h⟩
theorem newNone (w : World) : Calls Try.prog 12 #[.nilFunc] w fun e w' => e = .returned (.pointer none) ∧ Fr [] w w' := by
  refine Calls.mono (f12n.calls (w := w) (R := fun v w' => v = .pointer none ∧ Fr [] w w') ?_) ?_
  · dsimp only [f12n.VC]
    exact ⟨true, fun w' => by kernel_rfl, rfl, Fr.refl _ _⟩
  · rintro e w' ⟨v, rfl, rfl, h⟩
    exact ⟨rfl, h⟩
def fS (e : ByteArray × Int) : Int × Int := (size e.1, e.2)
def fP (e : (Int × Int) × Int) : Int × Int := e.1
structure Good (l : List ByteArray) (k : Nat) (es : List (ByteArray × Int)) (A : List (ByteArray × Int)) (ps : List ((Int × Int) × Int)) (B : List ((Int × Int) × Int)) : Prop where
  c1 : GC.Coupled size HS.d es k A
  c2 : GC.Coupled fst HP.d ps k B
  mem : ∀ e ∈ A, ∃ i : Nat, e.2 = (i : Int) ∧ i < l.length ∧ e.1 = l.getD i ByteArray.empty
  l1 : A.length ≤ k
  l2 : B.length ≤ k
abbrev allC (a b c d : Nat) (k : Nat) (es A : List (ByteArray × Int)) (ps B : List ((Int × Int) × Int)) : List Chunk := [refB d (B.map fP), refB c (A.map fS), hP b ps k, hS_ a es k]
def Big (w : World) (a b c d : Nat) (l : List ByteArray) (k : Nat) (w' : World) : Prop := ∃ es A ps B, Good l k es A ps B ∧ St [] w w' (allC a b c d k es A ps B)
def J1 (w : World) (a b c d : Nat) (l : List ByteArray) (q : Bool) (x : Int) (w' : World) (r : Nat) : Prop := q = true ∧ ∃ k : Nat, x = (k : Int) ∧ k + r = l.length ∧ Big w a b c d l k w'
def J2 (w : World) (a b c d : Nat) (l : List ByteArray) (k : Nat) (N : Int) (x : Int) (w' : World) (r : Nat) : Prop := ∃ j : Nat, x = (j : Int) ∧ j + r = N.toNat ∧ Big w a b c d l k w'
theorem getD_map {α β : Type} (f : α → β) (l : List α) (n : Nat) (d : α) : (l.map f).getD n (f d) = f (l.getD n d) := by
  simp only [List.getD_eq_getElem?_getD, List.getElem?_map]
  cases l[n]? <;> rfl
theorem texts {w : World} {A0 : Option Addr} {n0 c0 : Nat} {A1 : Option Addr} {n1 c1 : Nat} {l : List ByteArray} {ls : List Int} {F0 : List Nat} (h0 : In w (.sl .str) [.slice A0 n0 c0] l F0) (hw : wt (.sl .str) l ≤ 1048576)
    (h1 : LW.InI w A1 n1 ls) :
    Calls Try.prog 3 #[.slice A0 n0 c0, .slice A1 n1 c1] w fun e w' => e = .returned (.bool true) ∧ Fr [] w w' := by
  refine Calls.mono (f3.calls (R := fun v w' => v = .bool true ∧ Fr [] w w') ?_) ?_
  · dsimp only [f3.VC]
    obtain ⟨hlen, hcs0⟩ := h0.strs
    have hlen1 := h1.1
    have hll := wt_len (e := .str) l
    have hsz : ∀ i, i < l.length → (l.getD i ByteArray.empty).size ≤ 1048576 := by
      intro i hi
      have hm : l.getD i ByteArray.empty ∈ l := by
        rw [List.getD_eq_getElem?_getD, List.getElem?_eq_getElem hi]; exact List.getElem_mem hi
      have := wt_mem (e := .str) hm
      simp only [wt] at this hw
      omega
    refine Calls.mono ((St.start w).step0 (LV.lively _)) ?_
    rintro _ w1 ⟨rfl, hS1⟩
    refine ⟨_, rfl, ?_⟩
    refine Calls.mono (newStr w1 13 _) ?_
    rintro _ w2 ⟨rfl, hH2, hF2⟩
    have hS2 := hS1.new (c := hS_ w1.heap.size [] 0) hF2 hH2 (by simp)
    refine ⟨_, rfl, ?_⟩
    refine Calls.mono (LS.newPair w2 15 _) ?_
    rintro _ w3 ⟨rfl, hH3, hF3⟩
    have hS3 := hS2.new (c := hP w2.heap.size [] 0) hF3 hH3 (by simp)
    refine ⟨_, rfl, ?_⟩
    refine Calls.mono (hS3.step0 (newNone _)) ?_
    rintro _ w4 ⟨rfl, hS4⟩
    refine ⟨_, rfl, sel_false rfl (sel_false rfl (sel_false rfl ?_))⟩
    generalize w1.heap.size = a at *
    generalize w2.heap.size = b at *
    have hS5 := St.join (((hS4.alloc #[.slice none 0 0] 34).nil 38 2).swap 0 1 rfl rfl)
    have hS5 := hS5.as 0 rfl (refB w4.heap.size []) (fun F hF => ⟨_, hF⟩)
    generalize World.alloc w4 (.cells #[.slice none 0 0] 34) = w5 at *
    generalize w4.heap.size = c at *
    have hS6 := St.join (((hS5.alloc #[.slice none 0 0] 34).nil 38 2).swap 0 1 rfl rfl)
    have hS6 := hS6.as 0 rfl (refB w5.heap.size []) (fun F hF => ⟨_, hF⟩)
    generalize World.alloc w5 (.cells #[.slice none 0 0] 34) = w6 at *
    generalize w5.heap.size = d at *
    refine ⟨J1 w a b c d l, ⟨l.length, rfl, 0, rfl, by omega, [], [], [], [], ⟨GC.Coupled.start _ _, GC.Coupled.start _ _, by simp, by simp, by simp⟩, hS6⟩, ?_⟩
    clear hS1 hS2 hS3 hS4 hS5 hS6 hF2 hF3 hH2 hH3
    rintro _ q x11 w7 r ⟨rfl, k, rfl, hkr, es, A, ps, B, hG, hS⟩
    have k0 : (0 : Int) ≤ (k : Int) := by omega
    refine sel_of ?_ (fun _ => ⟨rfl, hS.frame⟩)
    intro hd
    have hk : k < l.length := by rw [hlen] at hd; simpa using hd
    obtain ⟨bb, oo, rfl, hcs⟩ := hcs0 (by omega)
    have k1 : (k : Int) < (n0 : Int) := by omega
    have hk1 : IntKind.i64.wrap ((k : Int) + 1) = ((k + 1 : Nat) : Int) := by rw [i64_id (by omega) (by omega)]; omega
    have hck := hS.frame.cell (hcs k (by omega))
    rw [show oo + k = oo + (k : Int).toNat * 1 by simp] at hck
    have hsk := hsz k hk
    refine ⟨k0, k1, needPtr_of rfl ⟨_, hck, ?_⟩⟩
    generalize ht : l.getD k ByteArray.empty = t at *
    have hneg : IntKind.i64.wrap (0 - (t.size : Int)) = - (t.size : Int) := by rw [i64_id (by omega) (by omega)]; omega
    rw [hneg]
    have e1 := hG.c1.len
    have e2 := hG.c2.len
    have e3 := hG.l1
    have e4 := hG.l2
    refine Calls.mono (pushS hS 3 rfl (by omega) k0 (by omega) t) ?_
    rintro _ w8 ⟨rfl, hS8⟩
    refine ⟨rfl, ?_⟩
    refine Calls.mono (rpush hS8 1 rfl (t.size : Int) (k : Int) (by simp; omega)) ?_
    rintro _ w9 ⟨rfl, hS9⟩
    refine ⟨rfl, ?_⟩
    refine Calls.mono (pushP hS9 2 rfl (by omega) k0 (by omega) (-(t.size : Int), (k : Int))) ?_
    rintro _ w10 ⟨rfl, hS10⟩
    refine ⟨rfl, ?_⟩
    refine Calls.mono (rpush hS10 0 rfl (-(t.size : Int)) (k : Int) (by simp; omega)) ?_
    rintro _ w11 ⟨rfl, hS11⟩
    refine ⟨rfl, ?_⟩
    have hB : Big w a b c d l (k + 1) w11 := by
      refine ⟨_, A ++ [(t, (k : Int))], _, B ++ [((-(t.size : Int), (k : Int)), (k : Int))], ⟨hG.c1.push t, hG.c2.push (-(t.size : Int), (k : Int)), ?_, by simp; omega, by simp; omega⟩, ?_⟩
      · intro e he
        rcases List.mem_append.1 he with he | he
        · exact hG.mem e he
        · simp at he; subst he; exact ⟨k, rfl, hk, ht.symm⟩
      · show St [] w w11 [refB d ((B ++ [((-(t.size : Int), (k : Int)), (k : Int))]).map fP), refB c ((A ++ [(t, (k : Int))]).map fS), _, _]
        rw [List.map_append, List.map_append]
        exact hS11
    clear hS hS8 hS9 hS10 hS11 hG e1 e2 e3 e4
    rw [hk1]
    refine sel_of (fun hd => ?A) (fun _ => ?B)
    case' A =>
      have hk2 : k < ls.length := by rw [hlen1] at hd; simpa using hd
      obtain ⟨bb1, oo1, rfl, hcs1⟩ := h1.2 (by omega)
      have hB' := hB
      obtain ⟨_, _, _, _, _, hS11⟩ := hB'
      have hck1 := hS11.frame.cell (hcs1 k (by omega))
      rw [show oo1 + k = oo1 + (k : Int).toNat * 1 by simp] at hck1
      refine ⟨k0, by omega, needPtr_of rfl ⟨_, hck1, ?_⟩⟩
      refine Calls.mono (LW.at_ w11 (ls.getD k 0) (n := 4) (by decide) (by decide)) ?_
      rintro _ w12 ⟨rfl, hF12⟩
      have hB : Big w a b c d l (k + 1) w12 := by
        obtain ⟨es, A, ps, B, g, hS⟩ := hB
        exact ⟨es, A, ps, B, g, hS.go hF12⟩
      refine ⟨_, rfl, ?_⟩
      have hN4 := (LW.atI_range (ls.getD k 0) (n := 4) (by decide)).2
      generalize LW.atI (ls.getD k 0) 4 = N at *
      refine ⟨J2 w a b c d l (k + 1) N, ⟨N.toNat, 0, rfl, by omega, hB⟩, ?_⟩
      clear hB hS11 hF12
      rintro _ x14 w13 r1 ⟨j, rfl, hjr, es, A, ps, B, hG, hS⟩
      refine sel_of (fun hd => ?loop) (fun _ => sel_true rfl ?_)
    case loop =>
      have hjN : (j : Int) < N := by simpa using hd
      have hj1 : IntKind.i64.wrap ((j : Int) + 1) = ((j + 1 : Nat) : Int) := by
        rw [i64_id (by omega) (by omega)]; omega
      have q1 : r1 - 1 < r1 := by omega
      have q2 : j + 1 + (r1 - 1) = N.toNat := by omega
      have e1 := hG.c1.len
      have e2 := hG.c2.len
      have e3 := hG.l1
      have e4 := hG.l2
      obtain ⟨f1, f2, f3, f4⟩ := hG.c1.first fS (fun _ => rfl)
      obtain ⟨g1, g2, g3, g4⟩ := hG.c2.first fP (fun _ => rfl)
      refine Calls.mono (popS hS 3 rfl (by omega)) ?_
      rintro _ w14 ⟨rfl, hS14⟩
      refine ⟨_, _, rfl, ?_⟩
      refine Calls.mono (rpop hS14 1 rfl (by simp; omega)) ?_
      rintro _ w15 ⟨rfl, hS15⟩
      refine ⟨_, _, _, rfl, ?_⟩
      have hv1 : (A.map fS).getD (RH.leastOf (A.map fS)) RH.d = fS (A.getD (RH.leastOf (A.map fS)) HS.d) := getD_map fS A _ HS.d
      have hv2 : (B.map fP).getD (RH.leastOf (B.map fP)) RH.d = fP (B.getD (RH.leastOf (B.map fP)) HP.d) := getD_map fP B _ HP.d
      rw [hv1, f1]
      have hS15 : St [] w w15 [refB d (B.map fP), refB c ((A.eraseIdx (RH.leastOf (A.map fS))).map fS), hP b ps ((k + 1 : Nat) : Int), hS_ a (HeapPlain.popped HS.d (GC.AH size) es) ((k + 1 : Nat) : Int)] := by
        rw [f3]; exact hS15
      have hmx : 0 < A.length → ∃ i : Nat, (A.getD (RH.leastOf (A.map fS)) HS.d).2 = (i : Int) ∧ i < l.length ∧ (A.getD (RH.leastOf (A.map fS)) HS.d).1 = l.getD i ByteArray.empty := by
        intro h
        have h2 := f4 h
        refine hG.mem _ ?_
        rw [List.getD_eq_getElem?_getD, List.getElem?_eq_getElem h2]
        exact List.getElem_mem h2
      have hA0 : ¬ 0 < A.length → (A.getD (RH.leastOf (A.map fS)) HS.d).1 = ⟨#[]⟩ := by
        intro h
        have : A = [] := List.eq_nil_of_length_eq_zero (by omega)
        subst this; rfl
      have hmem : ∀ e ∈ A.eraseIdx (RH.leastOf (A.map fS)), ∃ i : Nat, e.2 = (i : Int) ∧ i < l.length ∧ e.1 = l.getD i ByteArray.empty := fun e he => hG.mem e (List.mem_of_mem_eraseIdx he)
      have hl1 := List.length_eraseIdx_le A (RH.leastOf (A.map fS))
      have hl2 := List.length_eraseIdx_le B (RH.leastOf (B.map fP))
      have hAl : (A.map fS).length = A.length := by simp
      have hBl : (B.map fP).length = B.length := by simp
      rw [e1, hAl]
      generalize hx : A.getD (RH.leastOf (A.map fS)) HS.d = x at *
      generalize hA' : A.eraseIdx (RH.leastOf (A.map fS)) = A' at *
      have hS16 := hS15.alloc #[.int .i64 0, .int .i64 0] 38
      generalize World.alloc w15 (.cells #[.int .i64 0, .int .i64 0] 38) = w16 at *
      generalize w15.heap.size = t1 at *
      refine ⟨(hS16.blk 0 rfl).can (by simp), ?_⟩
      have hS17 := hS16.over 0 rfl (RH.two (fS x)) rfl
      refine Calls.mono (popP hS17 3 rfl (by omega)) ?_
      rintro _ w18 ⟨rfl, hS18⟩
      rw [g1]
      generalize hy : B.getD (RH.leastOf (B.map fP)) HP.d = y at *
      refine ⟨y.1.1, y.1.2, _, rfl, ?_⟩
      have hS19 := hS18.alloc #[.int .i64 0, .int .i64 0] 30
      generalize World.alloc w18 (.cells #[.int .i64 0, .int .i64 0] 30) = w19 at *
      generalize w18.heap.size = t2 at *
      refine ⟨(hS19.blk 0 rfl).can (by simp), ?_⟩
      have hS20 := hS19.over 0 rfl (RH.two y.1) rfl
      refine Calls.mono (rpop hS20 2 rfl (by omega)) ?_
      rintro _ w21 ⟨rfl, hS21⟩
      rw [hv2]
      refine ⟨y.1.1, y.1.2, _, rfl, ?_⟩
      have hS22 := hS21.alloc #[.int .i64 0, .int .i64 0] 38
      generalize World.alloc w21 (.cells #[.int .i64 0, .int .i64 0] 38) = w22 at *
      generalize w21.heap.size = t3 at *
      refine ⟨(hS22.blk 0 rfl).can (by simp), ?_⟩
      have hS23 := hS22.over 0 rfl (RH.two y.1) rfl
      generalize setCs w22 t3 0 _ = w23 at *
      have hS23 : St [] w w23 [Chunk.blk t3 (RH.two y.1).toArray 38, Chunk.blk t2 (RH.two y.1).toArray 30, Chunk.blk t1 (RH.two (fS x)).toArray 38, refB d ((B.map fP).eraseIdx (RH.leastOf (B.map fP))), refB c (A'.map fS), hP b (HeapPlain.popped HP.d (GC.AH fst) ps) ((k + 1 : Nat) : Int), hS_ a (HeapPlain.popped HS.d (GC.AH size) es) ((k + 1 : Nat) : Int)] := hS23
      rw [← g3] at hS23
      have fin : ∃ m, m < r1 ∧ J2 w a b c d l (k + 1) N ((j + 1 : Nat) : Int) w23 m :=
        ⟨r1 - 1, q1, j + 1, rfl, q2, _, A', _, _, ⟨f2, g2, hmem, Nat.le_trans hl1 e3, Nat.le_trans hl2 e4⟩, hS23.tail.tail.tail⟩
      have hT3 := hS23.blk 0 rfl
      have hT2 := hS23.blk 1 rfl
      have hT1 := hS23.blk 2 rfl
      have hneq : ∀ w', (do eqGuard .neq 30 (.tmp 129) (.tmp 134) (.agg #[.int .i64 y.1.1, .int .i64 y.1.2]) (.agg #[.int .i64 y.1.1, .int .i64 y.1.2]); binOp .neq 30 (.agg #[.int .i64 y.1.1, .int .i64 y.1.2]) (.agg #[.int .i64 y.1.1, .int .i64 y.1.2]) : Sem Value).run Try.prog w' = .ok (.bool false) w' := by
        intro w'
        rw [neq2]; simp
      rw [hj1]
      refine sel_false (by simp) (sel_false (by rw [e2, hBl]; simp) ?_)
      by_cases hA : 0 < A.length
      · obtain ⟨i, i1, i2, i3⟩ := hmx hA
        have hci := hS23.frame.cell (hcs i (by omega))
        rw [show oo + i = oo + (i : Int).toNat * 1 by simp] at hci
        have hi1 : (fS x).2 = (i : Int) := i1
        have hT11 : w23.cell? ⟨t1, 1, none⟩ = some (.int .i64 (i : Int)) := by rw [← hi1]; exact hT1.cell rfl
        refine sel_true (by simpa using hA) ⟨_, hT11, by omega, by omega, needPtr_of rfl ⟨_, hci, sel_false (by rw [i3]; simp) (sel_false (by simpa using hA) ?_)⟩⟩
        exact ⟨_, hT2.cell rfl, _, hT2.cell rfl, _, hT3.cell rfl, _, hT3.cell rfl, false, hneq, sel_false rfl ⟨rfl, fin⟩⟩
      · refine sel_false (by simpa using hA) (sel_true (by simpa using hA) (sel_false (by rw [hA0 hA]; simp) ?_))
        exact ⟨_, hT2.cell rfl, _, hT2.cell rfl, _, hT3.cell rfl, _, hT3.cell rfl, false, hneq, sel_false rfl ⟨rfl, fin⟩⟩
    case' B =>
      refine ⟨J2 w a b c d l (k + 1) 0, ⟨0, 0, rfl, by omega, hB⟩, ?_⟩
      clear hB
      rintro _ x14 w13 r1 ⟨j, rfl, hjr, es, A, ps, B, hG, hS⟩
      refine sel_false (by simp) (sel_true rfl ?_)
    all_goals
      have e1 := hG.c1.len
      have e2 := hG.c2.len
      have fin : ∀ w', St [] w w' (allC a b c d (k + 1) es A ps B) → ∃ m, m < r ∧ J1 w a b c d l (((ps.length : Int)) == (((B.map fP).length : Nat) : Int)) ((k + 1 : Nat) : Int) w' m := by
        intro w' hS'
        exact ⟨r - 1, by omega, by rw [e2]; simp, k + 1, rfl, by omega, es, A, ps, B, hG, hS'⟩
      have hq : ((es.length : Int) == (((A.map fS).length : Nat) : Int)) = true := by rw [e1]; simp
      refine ⟨?_, ?_, trivial⟩
      · refine Calls.mono (lenS hS.drew 3 rfl) ?_
        rintro _ w24 ⟨rfl, hS24⟩
        obtain ⟨A2, c2, hc⟩ := rcell hS24 1 rfl
        refine ⟨_, rfl, _, _, _, hc, sel_true hq ⟨?_, ?_, trivial⟩⟩
        · refine Calls.mono (lenP hS24 2 rfl) ?_
          rintro _ w25 ⟨rfl, hS25⟩
          obtain ⟨A3, c3, hc⟩ := rcell hS25 0 rfl
          exact ⟨_, rfl, _, _, _, hc, rfl, fin _ hS25⟩
        · obtain ⟨A3, c3, hc⟩ := rcell hS24 0 rfl
          refine ⟨_, _, _, hc, ?_⟩
          refine Calls.mono (lenP hS24 2 rfl) ?_
          rintro _ w25 ⟨rfl, hS25⟩
          exact ⟨_, rfl, rfl, fin _ hS25⟩
      · obtain ⟨A2, c2, hc⟩ := rcell hS 1 rfl
        refine ⟨_, _, _, hc, ?_⟩
        refine Calls.mono (lenS hS.drew 3 rfl) ?_
        rintro _ w24 ⟨rfl, hS24⟩
        refine ⟨_, rfl, sel_true hq ⟨?_, ?_, trivial⟩⟩
        · refine Calls.mono (lenP hS24 2 rfl) ?_
          rintro _ w25 ⟨rfl, hS25⟩
          obtain ⟨A3, c3, hc⟩ := rcell hS25 0 rfl
          exact ⟨_, rfl, _, _, _, hc, rfl, fin _ hS25⟩
        · obtain ⟨A3, c3, hc⟩ := rcell hS24 0 rfl
          refine ⟨_, _, _, hc, ?_⟩
          refine Calls.mono (lenP hS24 2 rfl) ?_
          rintro _ w25 ⟨rfl, hS25⟩
          exact ⟨_, rfl, rfl, fin _ hS25⟩
  · rintro e w' ⟨v, rfl, rfl, h⟩
    exact ⟨rfl, h⟩
end LT
end Go.Proofs.Ytebahglmdifmpaa
