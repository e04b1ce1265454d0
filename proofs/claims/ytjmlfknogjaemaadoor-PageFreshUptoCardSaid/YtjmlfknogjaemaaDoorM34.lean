/- PageFresh: lists that are owned are written full, gone on with, and hold what was written (spoilt). Printed by gen_d3.py. -/
import Derived.Test.YtjmlfknogjaemaaDoorM31
import Derived.Test.YtjmlfknogjaemaaDoorM32
import Derived.Test.YtjmlfknogjaemaaDoorM33
set_option linter.unusedVariables false
set_option linter.unusedSimpArgs false
set_option maxRecDepth 10000
namespace Go.Proofs.YtjmlfknogjaemaaDoor
open Go Go.Proofs.YtjmlfknogjaemaaDoor.Vc
namespace PG
open Vc.PG NI
def TT (k : Gd) : Nat → List ByteArray
  | 0 => gA k
  | 1 => gS k
  | _ => gO k
def UU (k : Gd) : Nat → List Int
  | 0 => gF k
  | _ => gN k
def Xs (g : GV) : Nat → Sl
  | 0 => g.a
  | 1 => g.s
  | _ => g.o
def Ys (g : GV) : Nat → Sl
  | 0 => g.f
  | _ => g.n
def up {α : Type} (T : Nat → α) (i : Nat) (t : α) : Nat → α := fun j => match Nat.beq j i with | true => t | false => T j
theorem up_self {α : Type} (T : Nat → α) (i : Nat) {t : α} (ht : t = T i) : up T i t = T := by
  subst ht
  funext j
  unfold up
  split
  · rename_i h; rw [Nat.eq_of_beq_eq_true h]
  · rfl
theorem up_up {α : Type} (T : Nat → α) (i : Nat) (a b : α) : up (up T i a) i b = up T i b := by
  funext j
  unfold up
  cases Nat.beq j i <;> rfl
theorem up_at {α : Type} (T : Nat → α) (i : Nat) (a : α) : up T i a i = a := by unfold up; rw [Nat.beq_refl]
def mix {α : Type} (q : Nat) (A B : Nat → α) : Nat → α := fun j => if j < q then A j else B j
theorem mix_zero {α : Type} (A B : Nat → α) : mix 0 A B = B := by funext j; simp [mix]
theorem mix_at {α : Type} (q : Nat) (A B : Nat → α) : mix q A B q = B q := by simp [mix]
theorem mix_lt {α : Type} {q j : Nat} (A B : Nat → α) (h : j < q) : mix q A B j = A j := by simp [mix, h]
theorem mix_up {α : Type} (q : Nat) (A B : Nat → α) : up (mix q A B) q (A q) = mix (q + 1) A B := by
  funext j
  unfold up mix
  by_cases h : j = q
  · subst h
    rw [Nat.beq_refl]; simp
  · have : Nat.beq j q = false := by
      cases hb : Nat.beq j q with
      | false => rfl
      | true => exact absurd (Nat.eq_of_beq_eq_true hb) h
    rw [this]
    dsimp only
    by_cases h2 : j < q
    · rw [if_pos h2, if_pos (by omega)]
    · rw [if_neg h2, if_neg (by omega)]
/-- A list that is being written full. -/
def half {α : Type} (p : Nat) (t : α) (l : List α) : List α := List.replicate p t ++ l.drop p
theorem half_zero {α : Type} (t : α) (l : List α) : half 0 t l = l := by simp [half]
theorem half_len {α : Type} {p : Nat} (t : α) {l : List α} (h : p ≤ l.length) : (half p t l).length = l.length := by simp [half]; omega
theorem half_set {α : Type} {p : Nat} (t : α) {l : List α} (h : p < l.length) : (half p t l).set p t = half (p + 1) t l := by
  unfold half
  rw [List.drop_eq_getElem_cons h, List.set_append_right _ _ (by simp), List.length_replicate, Nat.sub_self, List.set_cons_zero, List.replicate_succ', List.append_assoc]
  rfl
theorem half_all {α : Type} (t : α) (l : List α) : half l.length t l = List.replicate l.length t := by simp [half]
theorem rep_get {α : Type} {n k : Nat} (t d : α) (h : k < n) : (List.replicate n t).getD k d = t := by simp [List.getD_eq_getElem?_getD, h]
/-- The first q of one list, the rest of another. -/
def mixL {α : Type} (q : Nat) (A B : List α) : List α := A.take q ++ B.drop q
theorem mixL_zero {α : Type} (A B : List α) : mixL 0 A B = B := by simp [mixL]
theorem mixL_len {α : Type} {q : Nat} {A B : List α} (h : A.length = B.length) (hq : q ≤ A.length) : (mixL q A B).length = B.length := by simp [mixL]; omega
theorem mixL_at {α : Type} {q : Nat} {A B : List α} (h : A.length = B.length) (hq : q < A.length) (d : α) : (mixL q A B).getD q d = B.getD q d := by
  unfold mixL
  rw [List.getD_eq_getElem?_getD, List.getElem?_append_right (by simp; omega), List.getD_eq_getElem?_getD]
  simp [Nat.min_eq_left (Nat.le_of_lt hq)]
theorem mixL_set {α : Type} {q : Nat} {A B : List α} (h : A.length = B.length) (hq : q < A.length) (d : α) : (mixL q A B).set q (A.getD q d) = mixL (q + 1) A B := by
  unfold mixL
  rw [List.drop_eq_getElem_cons (show q < B.length by omega), List.set_append_right _ _ (by simp; omega)]
  have e : q - (A.take q).length = 0 := by simp; omega
  have e2 : A.take (q + 1) = A.take q ++ [A[q]] := by rw [List.take_add_one, List.getElem?_eq_getElem hq]; rfl
  have e3 : A.getD q d = A[q] := by rw [List.getD_eq_getElem?_getD, List.getElem?_eq_getElem hq]; rfl
  rw [e, List.set_cons_zero, e2, e3, List.append_assoc]
  rfl
theorem mixL_all {α : Type} {A B : List α} (h : A.length = B.length) : mixL A.length A B = A := by
  unfold mixL
  rw [List.take_length, h, List.drop_length, List.append_nil]
def spL (bg bl bm : Nat) (g : GV) (vals : List Sl) (T : Nat → List ByteArray) (U : Nat → List Int) (M : List (List Int)) (K : List Chunk) : List Chunk :=
  Chunk.blk bm #[g.f.v, g.n.v] 28 :: Chunk.blk bl #[g.a.v, g.s.v, g.o.v] 27 :: Chunk.blk bg g.cells 32 :: txs (Xs g 0).v (T 0) :: txs (Xs g 1).v (T 1) :: txs (Xs g 2).v (T 2) :: ints (Ys g 0).v (U 0) :: ints (Ys g 1).v (U 1) :: Chunk.ls encL 29 g.m.v vals :: (rowsL vals M ++ K)
section
variable {bg bl bm : Nat} {g : GV} {vals : List Sl} {T : Nat → List ByteArray} {U : Nat → List Int} {M : List (List Int)} {K : List Chunk}
theorem spT {q : Nat} (h : q < 3) : (spL bg bl bm g vals T U M K)[q + 3]? = some (txs (Xs g q).v (T q)) := by
  rcases (show q = 0 ∨ q = 1 ∨ q = 2 by omega) with rfl | rfl | rfl <;> rfl
theorem spT_set {q : Nat} (h : q < 3) (t : List ByteArray) : (spL bg bl bm g vals T U M K).set (q + 3) (txs (Xs g q).v t) = spL bg bl bm g vals (up T q t) U M K := by
  rcases (show q = 0 ∨ q = 1 ∨ q = 2 by omega) with rfl | rfl | rfl <;> rfl
theorem spU {q : Nat} (h : q < 2) : (spL bg bl bm g vals T U M K)[q + 6]? = some (ints (Ys g q).v (U q)) := by
  rcases (show q = 0 ∨ q = 1 by omega) with rfl | rfl <;> rfl
theorem spU_set {q : Nat} (h : q < 2) (t : List Int) : (spL bg bl bm g vals T U M K).set (q + 6) (ints (Ys g q).v t) = spL bg bl bm g vals T (up U q t) M K := by
  rcases (show q = 0 ∨ q = 1 by omega) with rfl | rfl <;> rfl
theorem spM (hv : vals.length = M.length) {q : Nat} (h : q < vals.length) : (spL bg bl bm g vals T U M K)[q + 9]? = some (slU (vals.getD q nilS).v (M.getD q [])) := by
  show (rowsL vals M ++ K)[q]? = _
  rw [List.getElem?_append_left (by rw [rowsO_len hv]; exact h)]
  exact rowsO_get hv h
theorem rowsL_set (hv : vals.length = M.length) {q : Nat} (h : q < vals.length) (r : List Int) : (rowsL vals M).set q (slU (vals.getD q nilS).v r) = rowsL vals (M.set q r) := by
  have hv2 : vals.length = (M.set q r).length := by simpa using hv
  refine List.ext_getElem? fun i => ?_
  by_cases hi : i < vals.length
  · rw [rowsO_get hv2 hi]
    by_cases hq : q = i
    · subst hq
      rw [List.getElem?_set_self (by rw [rowsO_len hv]; exact hi)]
      simp [List.getD_eq_getElem?_getD, show q < M.length by omega]
    · rw [List.getElem?_set_ne hq, rowsO_get hv hi]
      simp [List.getD_eq_getElem?_getD, List.getElem?_set_ne hq]
  · rw [List.getElem?_eq_none (by rw [List.length_set, rowsO_len hv]; omega), List.getElem?_eq_none (by rw [rowsO_len hv2]; omega)]
theorem spM_set (hv : vals.length = M.length) {q : Nat} (h : q < vals.length) (r : List Int) : (spL bg bl bm g vals T U M K).set (q + 9) (slU (vals.getD q nilS).v r) = spL bg bl bm g vals T U (M.set q r) K := by
  show _ :: _ :: _ :: _ :: _ :: _ :: _ :: _ :: _ :: ((rowsL vals M ++ K).set q _) = _
  rw [List.set_append_left _ _ (by rw [rowsO_len hv]; exact h), rowsL_set hv h]
  rfl
variable {w0 w : World}
theorem spX (h : St [] w0 w (spL bg bl bm g vals T U M K)) {q : Nat} (hq : q < 3) : w.cell? ⟨bl, 0 + (q : Int).toNat * 1, none⟩ = some (Xs g q).v := by
  have hB := h.blk 1 rfl
  rcases (show q = 0 ∨ q = 1 ∨ q = 2 by omega) with rfl | rfl | rfl
  · exact hB.cell rfl
  · exact hB.cell rfl
  · exact hB.cell rfl
theorem spY (h : St [] w0 w (spL bg bl bm g vals T U M K)) {q : Nat} (hq : q < 2) : w.cell? ⟨bm, 0 + (q : Int).toNat * 1, none⟩ = some (Ys g q).v := by
  have hB := h.blk 0 rfl
  rcases (show q = 0 ∨ q = 1 by omega) with rfl | rfl
  · exact hB.cell rfl
  · exact hB.cell rfl
end
theorem twin_start {S : List Nat} {w0 w : World} {L : List Chunk} (h : St S w0 w L) (i : Nat) {e : TypeId} {s : Nat} {v : Value} {rs : List (List Value)} (hi : L[i]? = some (Chunk.sl e s v rs)) : St S w0 w (L.set i (Chunk.twin e s v rs v rs)) :=
  h.as i hi _ (fun F hF => twin_of hF)
theorem twin_back {S : List Nat} {w0 w : World} {L : List Chunk} (h : St S w0 w L) (i : Nat) {e : TypeId} {s : Nat} {v0 v : Value} {rs0 rs : List (List Value)} (hi : L[i]? = some (Chunk.twin e s v0 rs0 v rs)) : St S w0 w (L.set i (Chunk.sl e s v0 rs0)) := by
  obtain ⟨F, h1, _, h2⟩ := h.at i hi
  rcases h1 with ⟨g, cap, h3, h4, h5, rfl, h6⟩ | ⟨F0, F1, rfl, h3, h4, h5⟩
  · exact h2 (F' := [g]) (Fr.refl _ _) (.inr ⟨g, cap, h3, rfl, by rw [h5]; exact h6.take _⟩) (fun x hx => .inl hx)
  · exact h2 (F' := F0) (Fr.refl _ _) h3 (fun x hx => .inl (by simp [hx]))
theorem set_back {α : Type} {L : List α} {i : Nat} {a b c : α} (h : L[i]? = some a) : ((L.set i b).set i c).set i a = L := by
  rw [List.set_set, List.set_set]
  refine List.ext_getElem? fun j => ?_
  have hi : i < L.length := (List.getElem?_eq_some_iff.1 h).1
  by_cases hj : i = j
  · subst hj; rw [List.getElem?_set_self hi, h]
  · rw [List.getElem?_set_ne hj]
theorem set_one {α : Type} {L : List α} {i : Nat} {a b : α} (h : L[i]? = some a) : (L.set i b).set i a = L := by
  have := set_back (b := b) (c := b) h
  rwa [List.set_set (a := b) (b := b)] at this
theorem twinS {S : List Nat} {w0 w : World} {L : List Chunk} (h : St S w0 w L) (i : Nat) {v0 : Value} {rs0 rs : List (List Value)} {A : Option Addr} {n c : Nat} (hi : L[i]? = some (Chunk.twin 9 1 v0 rs0 (.slice A n c) rs)) (a : ByteArray) (hl : rs.length ≤ 4000000) :
    ∃ A' n' c' w', (Builtin.append_ #[27, 27] 27 #[.slice A n c, .slice (some ⟨w.heap.size, 0, none⟩) 1 1]).run Tryd.prog (World.alloc w (.cells #[.string a] 9)) = .ok (.slice A' n' c') w' ∧ St S w0 w' (L.set i (Chunk.twin 9 1 v0 rs0 (.slice A' n' c') (rs ++ [[.string a]]))) := by
  obtain ⟨ti, z, i1, i2, i3, i4, i5⟩ : ∃ i z, Tryd.prog.info? 9 = some i ∧ i.zero = some z ∧ i.size = 1 ∧ z.cells.size = 1 ∧ i.bytes ≤ 1000 := ⟨Tryd.prog.types[9]!, ((Tryd.prog.types[9]!).zero).get!, by kernel_rfl, by kernel_rfl, by kernel_rfl, by kernel_rfl, of_decide_eq_true (by kernel_rfl)⟩
  have h2 := h.alloc #[.string a] 9
  obtain ⟨g', cap', w', h3, h4⟩ := h2.twinAppend (i + 1) (P := Tryd.prog) (t := 27) (ty := 27) (by kernel_rfl) i1 i2 i3 i4 (by decide) (by simpa using hi) (r := [.string a]) (h2.blk 0 rfl) rfl rfl (by intro u hu; simp at hu; subst hu; rfl)
    (by have := Nat.mul_le_mul (show rs.length + 1 ≤ 4000001 by omega) i5; omega) (by simp [maxLen]; omega)
  exact ⟨_, _, _, w', h3, h4.tail⟩
theorem twinI {S : List Nat} {w0 w : World} {L : List Chunk} (h : St S w0 w L) (i : Nat) {v0 : Value} {rs0 rs : List (List Value)} {A : Option Addr} {n c : Nat} (hi : L[i]? = some (Chunk.twin 3 1 v0 rs0 (.slice A n c) rs)) (a : Int) (hl : rs.length ≤ 4000000) :
    ∃ A' n' c' w', (Builtin.append_ #[28, 28] 28 #[.slice A n c, .slice (some ⟨w.heap.size, 0, none⟩) 1 1]).run Tryd.prog (World.alloc w (.cells #[.int .i64 a] 3)) = .ok (.slice A' n' c') w' ∧ St S w0 w' (L.set i (Chunk.twin 3 1 v0 rs0 (.slice A' n' c') (rs ++ [[.int .i64 a]]))) := by
  obtain ⟨ti, z, i1, i2, i3, i4, i5⟩ : ∃ i z, Tryd.prog.info? 3 = some i ∧ i.zero = some z ∧ i.size = 1 ∧ z.cells.size = 1 ∧ i.bytes ≤ 1000 := ⟨Tryd.prog.types[3]!, ((Tryd.prog.types[3]!).zero).get!, by kernel_rfl, by kernel_rfl, by kernel_rfl, by kernel_rfl, of_decide_eq_true (by kernel_rfl)⟩
  have h2 := h.alloc #[.int .i64 a] 3
  obtain ⟨g', cap', w', h3, h4⟩ := h2.twinAppend (i + 1) (P := Tryd.prog) (t := 28) (ty := 28) (by kernel_rfl) i1 i2 i3 i4 (by decide) (by simpa using hi) (r := [.int .i64 a]) (h2.blk 0 rfl) rfl rfl (by intro u hu; simp at hu; subst hu; rfl)
    (by have := Nat.mul_le_mul (show rs.length + 1 ≤ 4000001 by omega) i5; omega) (by simp [maxLen]; omega)
  exact ⟨_, _, _, w', h3, h4.tail⟩
theorem twinU {S : List Nat} {w0 w : World} {L : List Chunk} (h : St S w0 w L) (i : Nat) {v0 : Value} {rs0 rs : List (List Value)} {A : Option Addr} {n c : Nat} (hi : L[i]? = some (Chunk.twin 59 1 v0 rs0 (.slice A n c) rs)) (a : Int) (hl : rs.length ≤ 4000000) :
    ∃ A' n' c' w', (Builtin.append_ #[29, 29] 29 #[.slice A n c, .slice (some ⟨w.heap.size, 0, none⟩) 1 1]).run Tryd.prog (World.alloc w (.cells #[.int .u16 a] 59)) = .ok (.slice A' n' c') w' ∧ St S w0 w' (L.set i (Chunk.twin 59 1 v0 rs0 (.slice A' n' c') (rs ++ [[.int .u16 a]]))) := by
  obtain ⟨ti, z, i1, i2, i3, i4, i5⟩ : ∃ i z, Tryd.prog.info? 59 = some i ∧ i.zero = some z ∧ i.size = 1 ∧ z.cells.size = 1 ∧ i.bytes ≤ 1000 := ⟨Tryd.prog.types[59]!, ((Tryd.prog.types[59]!).zero).get!, by kernel_rfl, by kernel_rfl, by kernel_rfl, by kernel_rfl, of_decide_eq_true (by kernel_rfl)⟩
  have h2 := h.alloc #[.int .u16 a] 59
  obtain ⟨g', cap', w', h3, h4⟩ := h2.twinAppend (i + 1) (P := Tryd.prog) (t := 29) (ty := 29) (by kernel_rfl) i1 i2 i3 i4 (by decide) (by simpa using hi) (r := [.int .u16 a]) (h2.blk 0 rfl) rfl rfl (by intro u hu; simp at hu; subst hu; rfl)
    (by have := Nat.mul_le_mul (show rs.length + 1 ≤ 4000001 by omega) i5; omega) (by simp [maxLen]; omega)
  exact ⟨_, _, _, w', h3, h4.tail⟩
def itS (q : Nat) : ByteArray := ⟨(Lib.itoa (q : Int)).toArray⟩
def tagS (q : Nat) : ByteArray := ⟨#[35]⟩ ++ itS q
theorem tag_small {q : Nat} (h : q < 3) : (⟨#[35]⟩ : ByteArray).size + (itS q).size ≤ 9223372036854775807 := by
  rcases (show q = 0 ∨ q = 1 ∨ q = 2 by omega) with rfl | rfl | rfl <;> decide +kernel
def tagI (q : Nat) : Int := IntKind.i64.wrap ((-10) - (q : Int))
def tagU (q : Nat) : Int := IntKind.u16.wrap (IntKind.i64.wrap (60000 + (q : Int)))
def fullT (T : Nat → List ByteArray) (q : Nat) : List ByteArray := List.replicate (T q).length (tagS q)
def fullU (U : Nat → List Int) (q : Nat) : List Int := List.replicate (U q).length (tagI q)
def fullM (M : List (List Int)) : List (List Int) := (List.range M.length).map fun q => List.replicate (M.getD q []).length (tagU q)
theorem fullM_len (M : List (List Int)) : (fullM M).length = M.length := by simp [fullM]
theorem fullM_get {M : List (List Int)} {q : Nat} (h : q < M.length) : (fullM M).getD q [] = List.replicate (M.getD q []).length (tagU q) := by
  simp [fullM, List.getD_eq_getElem?_getD, h]
theorem drop_front {S : List Nat} {w0 w : World} : ∀ {A K : List Chunk}, St S w0 w (A ++ K) → St S w0 w K
  | [], _, h => h
  | _ :: A, K, h => drop_front (A := A) (K := K) (Vc.St.tail h)
theorem drop_rows {S : List Nat} {w0 w : World} {vals : List Sl} {M : List (List Int)} {K : List Chunk} (hv : vals.length = M.length) (h : St S w0 w (rowsL vals M ++ K)) : St S w0 w K := drop_front h
theorem spoiltC {w0 w : World} {K : List Chunk} {g : GV} {vals : List Sl} {k : Gd} (hp : Pow10 w0) (h : St [] w0 w (ownG g vals k ++ K)) (hv : vals.length = (gM k).length) (hT : ∀ q, (TT k q).length ≤ 1100000) (hU : ∀ q, (UU k q).length ≤ 1100000) (hM : (gM k).length ≤ 1100000) (hR : ∀ r ∈ gM k, r.length ≤ 1100000) :
    Calls Tryd.prog 18 #[g.v] w fun e w' => e = .returned (.bool true) ∧ St [] w0 w' K := by
  refine Calls.mono (f18.calls (R := fun e w' => e = .bool true ∧ St [] w0 w' K) ?_) ?_
  · dsimp only [f18.VC]
    have hml : (fullM (gM k)).length = (gM k).length := fullM_len _
    have h1 := h.alloc g.cells 32
    have h2 := h1.alloc #[g.a.v, g.s.v, g.o.v] 27
    have h3 := h2.alloc #[g.f.v, g.n.v] 28
    have hB := h1.blk 0 rfl
    have hB2 := h2.blk 1 rfl
    refine ⟨_, _, _, hB.cell rfl, _, _, _, hB.cell rfl, _, _, _, hB.cell rfl, _, _, _, hB2.cell rfl, _, _, _, hB2.cell rfl, ?_⟩
    generalize World.alloc w (.cells g.cells 32) = w1 at *
    generalize w.heap.size = bg at *
    generalize World.alloc w1 (.cells #[g.a.v, g.s.v, g.o.v] 27) = w2 at *
    generalize w1.heap.size = bl at *
    generalize World.alloc w2 (.cells #[g.f.v, g.n.v] 28) = w3 at *
    generalize w2.heap.size = bm at *
    replace h3 : St [] w0 w3 (spL bg bl bm g vals (TT k) (UU k) (gM k) K) := h3
    clear h h1 h2 hB hB2
    refine ⟨fun w' => St [] w0 w' (spL bg bl bm g vals (mix 3 (fullT (TT k)) (TT k)) (UU k) (gM k) K), ⟨fun i w' r => ∃ q : Nat, i = (q : Int) ∧ q + r = 3 ∧ St [] w0 w' (spL bg bl bm g vals (mix q (fullT (TT k)) (TT k)) (UU k) (gM k) K), ⟨3, 0, rfl, rfl, by rw [mix_zero]; exact h3⟩, ?_⟩, ?_⟩
    · clear h3 w3
      rintro d i w3 r ⟨q, rfl, hq, hS⟩
      refine sel_of (fun hd => ?_) (fun hd => ⟨rfl, ?_⟩)
      · have hi : q < 3 := by have := of_decide_eq_true hd; omega
        refine ⟨fun i w' r => ∃ p : Nat, i = (p : Int) ∧ p + r = ((TT k) q).length ∧ St [] w0 w' (spL bg bl bm g vals (up (mix q (fullT (TT k)) (TT k)) q (half p (tagS q) ((TT k) q))) (UU k) (gM k) K), ⟨((TT k) q).length, 0, rfl, by omega, ?_⟩, ?_⟩
        · rw [half_zero, up_self _ _ (mix_at _ _ _).symm]; exact hS
        clear hS w3
        rintro d i w3 r2 ⟨m, rfl, hm, hS⟩
        have hn : (Xs g q).2.1 = ((TT k) q).length := by
          have := hS.lsLen (q + 3) (A := (Xs g q).1) (n := (Xs g q).2.1) (c := (Xs g q).2.2) (spT hi)
          rw [up_at, half_len _ (by omega)] at this
          exact this
        have hlb := hT q
        refine ⟨by omega, by omega, _, _, _, spX hS hi, sel_of (fun hd2 => ?_) (fun hd2 => ?_)⟩
        · have hm2 : m < ((TT k) q).length := by have := of_decide_eq_true hd2; omega
          refine ⟨by omega, by omega, _, _, _, spX hS hi, Calls.mono (hS.drew.step0 (itoaC (hp.fr hS.drew.frame) _ (by omega) (by omega))) ?_⟩
          rintro _ w4 ⟨rfl, hS⟩
          have hS : St [] w0 w4 (spL bg bl bm g vals (up (mix q (fullT (TT k)) (TT k)) q (half m (tagS q) ((TT k) q))) (UU k) (gM k) K) := hS
          obtain ⟨gg, hg, hcan, hS2⟩ := hS.lsSet (q + 3) (A := (Xs g q).1) (n := (Xs g q).2.1) (c := (Xs g q).2.2) (spT hi) (k := m) (by rw [up_at, half_len _ (by omega)]; exact hm2) (tagS q)
          rw [up_at, half_set _ hm2, spT_set hi, up_up] at hS2
          rw [inc m 1100000 (by omega) (by omega)]
          have em : 0 + (m : Int).toNat * 1 = m := by rw [Int.toNat_natCast]; omega
          refine ⟨_, rfl, ⟨spX hS hi, trivial⟩, tag_small hi, by omega, by omega, needPtr_of hg ?_⟩
          rw [em]
          exact ⟨hcan, ⟨spX hS2 hi, trivial⟩, rfl, r2 - 1, by omega, m + 1, rfl, by omega, hS2⟩
        · have hm2 : m = ((TT k) q).length := by have := of_decide_eq_false hd2; omega
          rw [inc q 3 (by omega) (by omega)]
          refine ⟨rfl, r - 1, by omega, q + 1, rfl, by omega, ?_⟩
          rw [hm2, half_all, show List.replicate ((TT k) q).length (tagS q) = (fullT (TT k)) q from rfl, mix_up] at hS
          exact hS
      · have hi : q = 3 := by have := of_decide_eq_false hd; omega
        subst hi
        exact hS
    clear h3 w3
    rintro d w3 h3
    refine ⟨fun w' => St [] w0 w' (spL bg bl bm g vals (mix 3 (fullT (TT k)) (TT k)) (mix 2 (fullU (UU k)) (UU k)) (gM k) K), ⟨fun i w' r => ∃ q : Nat, i = (q : Int) ∧ q + r = 2 ∧ St [] w0 w' (spL bg bl bm g vals (mix 3 (fullT (TT k)) (TT k)) (mix q (fullU (UU k)) (UU k)) (gM k) K), ⟨2, 0, rfl, rfl, by rw [mix_zero]; exact h3⟩, ?_⟩, ?_⟩
    · clear h3 w3
      rintro d i w3 r ⟨q, rfl, hq, hS⟩
      refine sel_of (fun hd => ?_) (fun hd => ⟨rfl, ?_⟩)
      · have hi : q < 2 := by have := of_decide_eq_true hd; omega
        refine ⟨fun i w' r => ∃ p : Nat, i = (p : Int) ∧ p + r = ((UU k) q).length ∧ St [] w0 w' (spL bg bl bm g vals (mix 3 (fullT (TT k)) (TT k)) (up (mix q (fullU (UU k)) (UU k)) q (half p (tagI q) ((UU k) q))) (gM k) K), ⟨((UU k) q).length, 0, rfl, by omega, ?_⟩, ?_⟩
        · rw [half_zero, up_self _ _ (mix_at _ _ _).symm]; exact hS
        clear hS w3
        rintro d i w3 r2 ⟨m, rfl, hm, hS⟩
        have hn : (Ys g q).2.1 = ((UU k) q).length := by
          have := hS.lsLen (q + 6) (A := (Ys g q).1) (n := (Ys g q).2.1) (c := (Ys g q).2.2) (spU hi)
          rw [up_at, half_len _ (by omega)] at this
          exact this
        have hlb := hU q
        refine ⟨by omega, by omega, _, _, _, spY hS hi, sel_of (fun hd2 => ?_) (fun hd2 => ?_)⟩
        · have hm2 : m < ((UU k) q).length := by have := of_decide_eq_true hd2; omega
          obtain ⟨gg, hg, hcan, hS2⟩ := hS.lsSet (q + 6) (A := (Ys g q).1) (n := (Ys g q).2.1) (c := (Ys g q).2.2) (spU hi) (k := m) (by rw [up_at, half_len _ (by omega)]; exact hm2) (tagI q)
          rw [up_at, half_set _ hm2, spU_set hi, up_up] at hS2
          rw [inc m 1100000 (by omega) (by omega)]
          have em : 0 + (m : Int).toNat * 1 = m := by rw [Int.toNat_natCast]; omega
          refine ⟨by omega, by omega, _, _, _, spY hS hi, by omega, by omega, needPtr_of hg ?_⟩
          rw [em]
          exact ⟨hcan, rfl, r2 - 1, by omega, m + 1, rfl, by omega, hS2⟩
        · have hm2 : m = ((UU k) q).length := by have := of_decide_eq_false hd2; omega
          rw [inc q 3 (by omega) (by omega)]
          refine ⟨rfl, r - 1, by omega, q + 1, rfl, by omega, ?_⟩
          rw [hm2, half_all, show List.replicate ((UU k) q).length (tagI q) = (fullU (UU k)) q from rfl, mix_up] at hS
          exact hS
      · have hi : q = 2 := by have := of_decide_eq_false hd; omega
        subst hi
        exact hS
    clear h3 w3
    rintro d w3 h3
    refine ⟨fun w' => St [] w0 w' (spL bg bl bm g vals (mix 3 (fullT (TT k)) (TT k)) (mix 2 (fullU (UU k)) (UU k)) (fullM (gM k)) K), ⟨fun i w' r => ∃ q : Nat, i = (q : Int) ∧ q + r = vals.length ∧ St [] w0 w' (spL bg bl bm g vals (mix 3 (fullT (TT k)) (TT k)) (mix 2 (fullU (UU k)) (UU k)) (mixL q (fullM (gM k)) (gM k)) K), ⟨vals.length, 0, rfl, by omega, by rw [mixL_zero]; exact h3⟩, ?_⟩, ?_⟩
    · clear h3 w3
      rintro d i w3 r ⟨q, rfl, hq, hS⟩
      have hn : g.m.2.1 = vals.length := hS.lsLen 8 (A := g.m.1) (n := g.m.2.1) (c := g.m.2.2) rfl
      have hB := hS.blk 2 rfl
      refine ⟨_, _, _, hB.cell rfl, sel_of (fun hd => ?_) (fun hd => ⟨rfl, ?_⟩)⟩
      · have hi : q < vals.length := by have := of_decide_eq_true hd; omega
        have hmem : (gM k).getD q [] ∈ gM k := (mem_getD [] _ _).2 ⟨q, by omega, rfl⟩
        have hrl := hR _ hmem
        have hA : mixL q (fullM (gM k)) (gM k) = (mixL q (fullM (gM k)) (gM k)).set q (half 0 (tagU q) ((gM k).getD q [])) := by
          rw [half_zero, ← mixL_at hml (by omega) []]
          refine List.ext_getElem? fun j => ?_
          have hlq : q < (mixL q (fullM (gM k)) (gM k)).length := by rw [mixL_len hml (by omega)]; omega
          by_cases hj : q = j
          · subst hj; rw [List.getElem?_set_self hlq]; simp [List.getD_eq_getElem?_getD, hlq]
          · rw [List.getElem?_set_ne hj]
        refine ⟨fun i w' r => ∃ p : Nat, i = (p : Int) ∧ p + r = ((gM k).getD q []).length ∧ St [] w0 w' (spL bg bl bm g vals (mix 3 (fullT (TT k)) (TT k)) (mix 2 (fullU (UU k)) (UU k)) ((mixL q (fullM (gM k)) (gM k)).set q (half p (tagU q) ((gM k).getD q []))) K), ⟨((gM k).getD q []).length, 0, rfl, by omega, by rw [← hA]; exact hS⟩, ?_⟩
        clear hS hB w3
        rintro d i w3 r2 ⟨m, rfl, hm, hS⟩
        have hlq : q < (mixL q (fullM (gM k)) (gM k)).length := by rw [mixL_len hml (by omega)]; omega
        have hvM : vals.length = ((mixL q (fullM (gM k)) (gM k)).set q (half m (tagU q) ((gM k).getD q []))).length := by rw [List.length_set, mixL_len hml (by omega)]; omega
        have hgq : ((mixL q (fullM (gM k)) (gM k)).set q (half m (tagU q) ((gM k).getD q []))).getD q [] = half m (tagU q) ((gM k).getD q []) := by
          simp [List.getD_eq_getElem?_getD, hlq]
        have hB := hS.blk 2 rfl
        obtain ⟨gv, hgv, hcv⟩ := hS.lsGet nilS 8 (A := g.m.1) (n := g.m.2.1) (c := g.m.2.2) rfl (by omega)
        have hcq := hcv q (by omega)
        have ecq : w3.cell? ⟨gv, 0 + (q : Int).toNat * 1, none⟩ = some (vals.getD q nilS).v := by rw [Int.toNat_natCast, Nat.mul_one, Nat.zero_add]; exact hcq
        have hln : (vals.getD q nilS).2.1 = ((gM k).getD q []).length := by
          have := hS.lsLen (q + 9) (A := (vals.getD q nilS).1) (n := (vals.getD q nilS).2.1) (c := (vals.getD q nilS).2.2) (spM hvM hi)
          rw [hgq, half_len _ (by omega)] at this
          exact this
        refine ⟨_, _, _, hB.cell rfl, by omega, by omega, needPtr_of hgv ⟨_, _, _, ecq, sel_of (fun hd2 => ?_) (fun hd2 => ?_)⟩⟩
        · have hm2 : m < ((gM k).getD q []).length := by have := of_decide_eq_true hd2; omega
          obtain ⟨gg, hg, hcan, hS2⟩ := hS.lsSet (q + 9) (A := (vals.getD q nilS).1) (n := (vals.getD q nilS).2.1) (c := (vals.getD q nilS).2.2) (spM hvM hi) (k := m) (by rw [hgq, half_len _ (by omega)]; exact hm2) (tagU q)
          rw [hgq, half_set _ hm2, spM_set hvM hi, List.set_set] at hS2
          rw [inc m 1100000 (by omega) (by omega)]
          have em : 0 + (m : Int).toNat * 1 = m := by rw [Int.toNat_natCast]; omega
          refine ⟨_, _, _, hB.cell rfl, by omega, by omega, needPtr_of hgv ⟨_, _, _, ecq, by omega, by omega, needPtr_of hg ?_⟩⟩
          rw [em]
          exact ⟨hcan, rfl, r2 - 1, by omega, m + 1, rfl, by omega, hS2⟩
        · have hm2 : m = ((gM k).getD q []).length := by have := of_decide_eq_false hd2; omega
          rw [inc q 1100000 (by omega) (by omega)]
          refine ⟨rfl, r - 1, by omega, q + 1, rfl, by omega, ?_⟩
          rw [hm2, half_all, ← fullM_get (by omega), mixL_set hml (by omega)] at hS
          exact hS
      · have hi : q = (fullM (gM k)).length := by have := of_decide_eq_false hd; omega
        rw [hi, mixL_all hml] at hS
        exact hS
    clear h3 w3
    rintro d w3 h3
    have hT1 : ∀ q, q < 3 → ((mix 3 (fullT (TT k)) (TT k)) q) = List.replicate (TT k q).length (tagS q) := fun q hq => mix_lt _ _ hq
    have hU1 : ∀ q, q < 2 → ((mix 2 (fullU (UU k)) (UU k)) q) = List.replicate (UU k q).length (tagI q) := fun q hq => mix_lt _ _ hq
    have hvM : vals.length = (fullM (gM k)).length := by omega
    refine ⟨fun w' => St [] w0 w' (spL bg bl bm g vals (mix 3 (fullT (TT k)) (TT k)) (mix 2 (fullU (UU k)) (UU k)) (fullM (gM k)) K), ⟨fun i w' r => ∃ q : Nat, i = (q : Int) ∧ q + r = 3 ∧ St [] w0 w' (spL bg bl bm g vals (mix 3 (fullT (TT k)) (TT k)) (mix 2 (fullU (UU k)) (UU k)) (fullM (gM k)) K), ⟨3, 0, rfl, rfl, h3⟩, ?_⟩, ?_⟩
    · clear h3 w3
      rintro d i w3 r ⟨q, rfl, hq, hS⟩
      refine sel_of (fun hd => ?_) (fun hd => ⟨rfl, hS⟩)
      have hi : q < 3 := by have := of_decide_eq_true hd; omega
      have hlen : ((mix 3 (fullT (TT k)) (TT k)) q).length ≤ 1100000 := by rw [hT1 q hi, List.length_replicate]; exact hT q
      have hget : (spL bg bl bm g vals (mix 3 (fullT (TT k)) (TT k)) (mix 2 (fullU (UU k)) (UU k)) (fullM (gM k)) K)[q + 3]? = some (txs (Xs g q).v ((mix 3 (fullT (TT k)) (TT k)) q)) := spT hi
      refine ⟨by omega, by omega, _, _, _, spX hS hi, ?_⟩
      refine ⟨fun A n c i w' r => ∃ m : Nat, i = (m : Int) ∧ m + r = 70 ∧ St [] w0 w' ((spL bg bl bm g vals (mix 3 (fullT (TT k)) (TT k)) (mix 2 (fullU (UU k)) (UU k)) (fullM (gM k)) K).set (q + 3) (Chunk.twin 9 1 (Xs g q).v (((mix 3 (fullT (TT k)) (TT k)) q).map fun a => [encS a]) (.slice A n c) ((((mix 3 (fullT (TT k)) (TT k)) q).map fun a => [encS a]) ++ List.replicate m [.string ⟨#[43]⟩]))), ⟨70, 0, rfl, rfl, ?_⟩, ?_⟩
      · rw [List.replicate_zero, List.append_nil]
        exact twin_start hS (q + 3) hget
      clear hS
      rintro d A n c i w4 r2 ⟨m, rfl, hm, hS⟩
      have hlt : q + 3 < (spL bg bl bm g vals (mix 3 (fullT (TT k)) (TT k)) (mix 2 (fullU (UU k)) (UU k)) (fullM (gM k)) K).length := (List.getElem?_eq_some_iff.1 hget).1
      refine sel_of (fun hd2 => ?_) (fun hd2 => ?_)
      · have hm2 : m < 70 := by have := of_decide_eq_true hd2; omega
        obtain ⟨A', n', c', w5, hrun, hS2⟩ := twinS hS (q + 3) (List.getElem?_set_self hlt) ⟨#[43]⟩ (by rw [List.length_append, List.length_map, List.length_replicate]; omega)
        rw [inc m 70 (by omega) (by omega)]
        refine ⟨_, _, _, w5, hrun, rfl, r2 - 1, by omega, m + 1, rfl, by omega, ?_⟩
        rw [List.set_set, List.append_assoc] at hS2
        rw [List.replicate_succ']
        exact hS2
      · rw [inc q 1100000 (by omega) (by omega)]
        have h5 := twin_back hS (q + 3) (List.getElem?_set_self hlt)
        rw [set_one hget] at h5
        exact ⟨rfl, r - 1, by omega, q + 1, rfl, by omega, h5⟩
    clear h3 w3
    rintro d w3 h3
    refine ⟨fun w' => St [] w0 w' (spL bg bl bm g vals (mix 3 (fullT (TT k)) (TT k)) (mix 2 (fullU (UU k)) (UU k)) (fullM (gM k)) K), ⟨fun i w' r => ∃ q : Nat, i = (q : Int) ∧ q + r = 2 ∧ St [] w0 w' (spL bg bl bm g vals (mix 3 (fullT (TT k)) (TT k)) (mix 2 (fullU (UU k)) (UU k)) (fullM (gM k)) K), ⟨2, 0, rfl, rfl, h3⟩, ?_⟩, ?_⟩
    · clear h3 w3
      rintro d i w3 r ⟨q, rfl, hq, hS⟩
      refine sel_of (fun hd => ?_) (fun hd => ⟨rfl, hS⟩)
      have hi : q < 2 := by have := of_decide_eq_true hd; omega
      have hlen : ((mix 2 (fullU (UU k)) (UU k)) q).length ≤ 1100000 := by rw [hU1 q hi, List.length_replicate]; exact hU q
      have hget : (spL bg bl bm g vals (mix 3 (fullT (TT k)) (TT k)) (mix 2 (fullU (UU k)) (UU k)) (fullM (gM k)) K)[q + 6]? = some (ints (Ys g q).v ((mix 2 (fullU (UU k)) (UU k)) q)) := spU hi
      refine ⟨by omega, by omega, _, _, _, spY hS hi, ?_⟩
      refine ⟨fun A n c i w' r => ∃ m : Nat, i = (m : Int) ∧ m + r = 70 ∧ St [] w0 w' ((spL bg bl bm g vals (mix 3 (fullT (TT k)) (TT k)) (mix 2 (fullU (UU k)) (UU k)) (fullM (gM k)) K).set (q + 6) (Chunk.twin 3 1 (Ys g q).v (((mix 2 (fullU (UU k)) (UU k)) q).map fun a => [encI a]) (.slice A n c) ((((mix 2 (fullU (UU k)) (UU k)) q).map fun a => [encI a]) ++ List.replicate m [.int .i64 (-20)]))), ⟨70, 0, rfl, rfl, ?_⟩, ?_⟩
      · rw [List.replicate_zero, List.append_nil]
        exact twin_start hS (q + 6) hget
      clear hS
      rintro d A n c i w4 r2 ⟨m, rfl, hm, hS⟩
      have hlt : q + 6 < (spL bg bl bm g vals (mix 3 (fullT (TT k)) (TT k)) (mix 2 (fullU (UU k)) (UU k)) (fullM (gM k)) K).length := (List.getElem?_eq_some_iff.1 hget).1
      refine sel_of (fun hd2 => ?_) (fun hd2 => ?_)
      · have hm2 : m < 70 := by have := of_decide_eq_true hd2; omega
        obtain ⟨A', n', c', w5, hrun, hS2⟩ := twinI hS (q + 6) (List.getElem?_set_self hlt) (-20) (by rw [List.length_append, List.length_map, List.length_replicate]; omega)
        rw [inc m 70 (by omega) (by omega)]
        refine ⟨_, _, _, w5, hrun, rfl, r2 - 1, by omega, m + 1, rfl, by omega, ?_⟩
        rw [List.set_set, List.append_assoc] at hS2
        rw [List.replicate_succ']
        exact hS2
      · rw [inc q 1100000 (by omega) (by omega)]
        have h5 := twin_back hS (q + 6) (List.getElem?_set_self hlt)
        rw [set_one hget] at h5
        exact ⟨rfl, r - 1, by omega, q + 1, rfl, by omega, h5⟩
    clear h3 w3
    rintro d w3 h3
    refine ⟨fun w' => St [] w0 w' (spL bg bl bm g vals (mix 3 (fullT (TT k)) (TT k)) (mix 2 (fullU (UU k)) (UU k)) (fullM (gM k)) K), ⟨fun i w' r => ∃ q : Nat, i = (q : Int) ∧ q + r = vals.length ∧ St [] w0 w' (spL bg bl bm g vals (mix 3 (fullT (TT k)) (TT k)) (mix 2 (fullU (UU k)) (UU k)) (fullM (gM k)) K), ⟨vals.length, 0, rfl, by omega, h3⟩, ?_⟩, ?_⟩
    · clear h3 w3
      rintro d i w3 r ⟨q, rfl, hq, hS⟩
      have hn : g.m.2.1 = vals.length := hS.lsLen 8 (A := g.m.1) (n := g.m.2.1) (c := g.m.2.2) rfl
      have hB := hS.blk 2 rfl
      refine ⟨_, _, _, hB.cell rfl, sel_of (fun hd => ?_) (fun hd => ⟨rfl, hS⟩)⟩
      have hi : q < vals.length := by have := of_decide_eq_true hd; omega
      have hrl := hR _ ((mem_getD [] _ _).2 ⟨q, by omega, rfl⟩ : (gM k).getD q [] ∈ gM k)
      have hlen : ((fullM (gM k)).getD q []).length ≤ 1100000 := by rw [fullM_get (by omega), List.length_replicate]; exact hrl
      obtain ⟨gv, hgv, hcv⟩ := hS.lsGet nilS 8 (A := g.m.1) (n := g.m.2.1) (c := g.m.2.2) rfl (by omega)
      have hcq := hcv q (by omega)
      have ecq : w3.cell? ⟨gv, 0 + (q : Int).toNat * 1, none⟩ = some (vals.getD q nilS).v := by rw [Int.toNat_natCast, Nat.mul_one, Nat.zero_add]; exact hcq
      have hget : (spL bg bl bm g vals (mix 3 (fullT (TT k)) (TT k)) (mix 2 (fullU (UU k)) (UU k)) (fullM (gM k)) K)[q + 9]? = some (slU (vals.getD q nilS).v ((fullM (gM k)).getD q [])) := spM hvM hi
      refine ⟨_, _, _, hB.cell rfl, by omega, by omega, needPtr_of hgv ⟨_, _, _, ecq, ?_⟩⟩
      refine ⟨fun A n c i w' r => ∃ m : Nat, i = (m : Int) ∧ m + r = 70 ∧ St [] w0 w' ((spL bg bl bm g vals (mix 3 (fullT (TT k)) (TT k)) (mix 2 (fullU (UU k)) (UU k)) (fullM (gM k)) K).set (q + 9) (Chunk.twin 59 1 (vals.getD q nilS).v (((fullM (gM k)).getD q []).map fun a => [encU a]) (.slice A n c) ((((fullM (gM k)).getD q []).map fun a => [encU a]) ++ List.replicate m [.int .u16 50000]))), ⟨70, 0, rfl, rfl, ?_⟩, ?_⟩
      · rw [List.replicate_zero, List.append_nil]
        exact twin_start hS (q + 9) hget
      clear hS
      rintro d A n c i w4 r2 ⟨m, rfl, hm, hS⟩
      have hlt : q + 9 < (spL bg bl bm g vals (mix 3 (fullT (TT k)) (TT k)) (mix 2 (fullU (UU k)) (UU k)) (fullM (gM k)) K).length := (List.getElem?_eq_some_iff.1 hget).1
      refine sel_of (fun hd2 => ?_) (fun hd2 => ?_)
      · have hm2 : m < 70 := by have := of_decide_eq_true hd2; omega
        obtain ⟨A', n', c', w5, hrun, hS2⟩ := twinU hS (q + 9) (List.getElem?_set_self hlt) 50000 (by rw [List.length_append, List.length_map, List.length_replicate]; omega)
        rw [inc m 70 (by omega) (by omega)]
        refine ⟨_, _, _, w5, hrun, rfl, r2 - 1, by omega, m + 1, rfl, by omega, ?_⟩
        rw [List.set_set, List.append_assoc] at hS2
        rw [List.replicate_succ']
        exact hS2
      · rw [inc q 1100000 (by omega) (by omega)]
        have h5 := twin_back hS (q + 9) (List.getElem?_set_self hlt)
        rw [set_one hget] at h5
        exact ⟨rfl, r - 1, by omega, q + 1, rfl, by omega, h5⟩
    clear h3 w3
    rintro d w3 h3
    refine ⟨fun w' => St [] w0 w' (spL bg bl bm g vals (mix 3 (fullT (TT k)) (TT k)) (mix 2 (fullU (UU k)) (UU k)) (fullM (gM k)) K), ⟨fun i w' r => ∃ q : Nat, i = (q : Int) ∧ q + r = 3 ∧ St [] w0 w' (spL bg bl bm g vals (mix 3 (fullT (TT k)) (TT k)) (mix 2 (fullU (UU k)) (UU k)) (fullM (gM k)) K), ⟨3, 0, rfl, rfl, h3⟩, ?_⟩, ?_⟩
    · clear h3 w3
      rintro d i w3 r ⟨q, rfl, hq, hS⟩
      refine sel_of (fun hd => ?_) (fun hd => ⟨rfl, hS⟩)
      have hi : q < 3 := by have := of_decide_eq_true hd; omega
      have hlen : ((mix 3 (fullT (TT k)) (TT k)) q).length ≤ 1100000 := by rw [hT1 q hi, List.length_replicate]; exact hT q
      refine ⟨fun i w' r => ∃ m : Nat, i = (m : Int) ∧ m + r = ((mix 3 (fullT (TT k)) (TT k)) q).length ∧ St [] w0 w' (spL bg bl bm g vals (mix 3 (fullT (TT k)) (TT k)) (mix 2 (fullU (UU k)) (UU k)) (fullM (gM k)) K), ⟨((mix 3 (fullT (TT k)) (TT k)) q).length, 0, rfl, by omega, hS⟩, ?_⟩
      clear hS w3
      rintro d i w3 r2 ⟨m, rfl, hm, hS⟩
      have hn : (Xs g q).2.1 = ((mix 3 (fullT (TT k)) (TT k)) q).length := hS.lsLen (q + 3) (A := (Xs g q).1) (n := (Xs g q).2.1) (c := (Xs g q).2.2) (spT hi)
      refine ⟨by omega, by omega, _, _, _, spX hS hi, sel_of (fun hd2 => ?_) (fun hd2 => ?_)⟩
      · have hm2 : m < ((mix 3 (fullT (TT k)) (TT k)) q).length := by have := of_decide_eq_true hd2; omega
        obtain ⟨gg, hg, hc⟩ := hS.lsGet ByteArray.empty (q + 3) (A := (Xs g q).1) (n := (Xs g q).2.1) (c := (Xs g q).2.2) (spT hi) (by omega)
        have hcm := hc m (by omega)
        have hval : ((mix 3 (fullT (TT k)) (TT k)) q).getD m ByteArray.empty = tagS q := by
          rw [hT1 q hi]
          refine rep_get _ _ ?_
          have := congrArg List.length (hT1 q hi)
          rw [List.length_replicate] at this
          omega
        rw [hval] at hcm
        have ecm : w3.cell? ⟨gg, 0 + (m : Int).toNat * 1, none⟩ = some (encS (tagS q)) := by rw [Int.toNat_natCast, Nat.mul_one, Nat.zero_add]; exact hcm
        rw [inc m 1100000 (by omega) (by omega)]
        refine ⟨by omega, by omega, _, _, _, spX hS hi, by omega, by omega, needPtr_of hg ⟨_, ecm, Calls.mono (hS.drew.step0 (itoaC (hp.fr hS.drew.frame) _ (by omega) (by omega))) ?_⟩⟩
        rintro _ w4 ⟨rfl, hS4⟩
        refine ⟨_, rfl, ⟨?_, spX hS4 hi, trivial⟩, tag_small hi, sel_false (by show (!(decide (tagS q = tagS q))) = false; simp) ⟨rfl, r2 - 1, by omega, m + 1, rfl, by omega, hS4⟩⟩
        obtain ⟨g4, hg4, hc4⟩ := hS4.lsGet ByteArray.empty (q + 3) (A := (Xs g q).1) (n := (Xs g q).2.1) (c := (Xs g q).2.2) (spT hi) (by omega)
        have e4 : gg = g4 := by rw [hg] at hg4; simpa using hg4
        subst e4
        have hcm4 := hc4 m (by omega)
        rw [hval] at hcm4
        rw [Int.toNat_natCast, Nat.mul_one, Nat.zero_add]; exact hcm4
      · rw [inc q 3 (by omega) (by omega)]
        exact ⟨rfl, r - 1, by omega, q + 1, rfl, by omega, hS⟩
    clear h3 w3
    rintro d w3 h3
    refine ⟨fun w' => St [] w0 w' (spL bg bl bm g vals (mix 3 (fullT (TT k)) (TT k)) (mix 2 (fullU (UU k)) (UU k)) (fullM (gM k)) K), ⟨fun i w' r => ∃ q : Nat, i = (q : Int) ∧ q + r = 2 ∧ St [] w0 w' (spL bg bl bm g vals (mix 3 (fullT (TT k)) (TT k)) (mix 2 (fullU (UU k)) (UU k)) (fullM (gM k)) K), ⟨2, 0, rfl, rfl, h3⟩, ?_⟩, ?_⟩
    · clear h3 w3
      rintro d i w3 r ⟨q, rfl, hq, hS⟩
      refine sel_of (fun hd => ?_) (fun hd => ⟨rfl, hS⟩)
      have hi : q < 2 := by have := of_decide_eq_true hd; omega
      have hlen : ((mix 2 (fullU (UU k)) (UU k)) q).length ≤ 1100000 := by rw [hU1 q hi, List.length_replicate]; exact hU q
      refine ⟨fun i w' r => ∃ m : Nat, i = (m : Int) ∧ m + r = ((mix 2 (fullU (UU k)) (UU k)) q).length ∧ St [] w0 w' (spL bg bl bm g vals (mix 3 (fullT (TT k)) (TT k)) (mix 2 (fullU (UU k)) (UU k)) (fullM (gM k)) K), ⟨((mix 2 (fullU (UU k)) (UU k)) q).length, 0, rfl, by omega, hS⟩, ?_⟩
      clear hS w3
      rintro d i w3 r2 ⟨m, rfl, hm, hS⟩
      have hn : (Ys g q).2.1 = ((mix 2 (fullU (UU k)) (UU k)) q).length := hS.lsLen (q + 6) (A := (Ys g q).1) (n := (Ys g q).2.1) (c := (Ys g q).2.2) (spU hi)
      refine ⟨by omega, by omega, _, _, _, spY hS hi, sel_of (fun hd2 => ?_) (fun hd2 => ?_)⟩
      · have hm2 : m < ((mix 2 (fullU (UU k)) (UU k)) q).length := by have := of_decide_eq_true hd2; omega
        obtain ⟨gg, hg, hc⟩ := hS.lsGet 0 (q + 6) (A := (Ys g q).1) (n := (Ys g q).2.1) (c := (Ys g q).2.2) (spU hi) (by omega)
        have hcm := hc m (by omega)
        have hval : ((mix 2 (fullU (UU k)) (UU k)) q).getD m 0 = tagI q := by
          rw [hU1 q hi]
          refine rep_get _ _ ?_
          have := congrArg List.length (hU1 q hi)
          rw [List.length_replicate] at this
          omega
        rw [hval] at hcm
        have ecm : w3.cell? ⟨gg, 0 + (m : Int).toNat * 1, none⟩ = some (encI (tagI q)) := by rw [Int.toNat_natCast, Nat.mul_one, Nat.zero_add]; exact hcm
        rw [inc m 1100000 (by omega) (by omega)]
        exact ⟨by omega, by omega, _, _, _, spY hS hi, by omega, by omega, needPtr_of hg ⟨_, ecm, sel_false (by show (tagI q != tagI q) = false; simp) ⟨rfl, r2 - 1, by omega, m + 1, rfl, by omega, hS⟩⟩⟩
      · rw [inc q 3 (by omega) (by omega)]
        exact ⟨rfl, r - 1, by omega, q + 1, rfl, by omega, hS⟩
    clear h3 w3
    rintro d w3 h3
    refine ⟨fun i w' r => ∃ q : Nat, i = (q : Int) ∧ q + r = vals.length ∧ St [] w0 w' (spL bg bl bm g vals (mix 3 (fullT (TT k)) (TT k)) (mix 2 (fullU (UU k)) (UU k)) (fullM (gM k)) K), ⟨vals.length, 0, rfl, by omega, h3⟩, ?_⟩
    clear h3 w3
    rintro d i w3 r ⟨q, rfl, hq, hS⟩
    have hn : g.m.2.1 = vals.length := hS.lsLen 8 (A := g.m.1) (n := g.m.2.1) (c := g.m.2.2) rfl
    have hB := hS.blk 2 rfl
    refine ⟨_, _, _, hB.cell rfl, sel_of (fun hd => ?_) (fun hd => ⟨rfl, ?_⟩)⟩
    · have hi : q < vals.length := by have := of_decide_eq_true hd; omega
      have hrl := hR _ ((mem_getD [] _ _).2 ⟨q, by omega, rfl⟩ : (gM k).getD q [] ∈ gM k)
      have hfull := fullM_get (M := gM k) (q := q) (by omega)
      have hlen : ((fullM (gM k)).getD q []).length ≤ 1100000 := by rw [hfull, List.length_replicate]; exact hrl
      refine ⟨fun i w' r => ∃ m : Nat, i = (m : Int) ∧ m + r = ((fullM (gM k)).getD q []).length ∧ St [] w0 w' (spL bg bl bm g vals (mix 3 (fullT (TT k)) (TT k)) (mix 2 (fullU (UU k)) (UU k)) (fullM (gM k)) K), ⟨((fullM (gM k)).getD q []).length, 0, rfl, by omega, hS⟩, ?_⟩
      clear hS hB w3
      rintro d i w3 r2 ⟨m, rfl, hm, hS⟩
      have hB := hS.blk 2 rfl
      obtain ⟨gv, hgv, hcv⟩ := hS.lsGet nilS 8 (A := g.m.1) (n := g.m.2.1) (c := g.m.2.2) rfl (by omega)
      have hcq := hcv q (by omega)
      have ecq : w3.cell? ⟨gv, 0 + (q : Int).toNat * 1, none⟩ = some (vals.getD q nilS).v := by rw [Int.toNat_natCast, Nat.mul_one, Nat.zero_add]; exact hcq
      have hln : (vals.getD q nilS).2.1 = ((fullM (gM k)).getD q []).length := hS.lsLen (q + 9) (A := (vals.getD q nilS).1) (n := (vals.getD q nilS).2.1) (c := (vals.getD q nilS).2.2) (spM hvM hi)
      refine ⟨_, _, _, hB.cell rfl, by omega, by omega, needPtr_of hgv ⟨_, _, _, ecq, sel_of (fun hd2 => ?_) (fun hd2 => ?_)⟩⟩
      · have hm2 : m < ((fullM (gM k)).getD q []).length := by have := of_decide_eq_true hd2; omega
        obtain ⟨gg, hg, hc⟩ := hS.lsGet 0 (q + 9) (A := (vals.getD q nilS).1) (n := (vals.getD q nilS).2.1) (c := (vals.getD q nilS).2.2) (spM hvM hi) (by omega)
        have hcm := hc m (by omega)
        have hval : ((fullM (gM k)).getD q []).getD m 0 = tagU q := by
          have := congrArg List.length hfull
          rw [List.length_replicate] at this
          rw [hfull]
          exact rep_get _ _ (by omega)
        rw [hval] at hcm
        have ecm : w3.cell? ⟨gg, 0 + (m : Int).toNat * 1, none⟩ = some (encU (tagU q)) := by rw [Int.toNat_natCast, Nat.mul_one, Nat.zero_add]; exact hcm
        rw [inc m 1100000 (by omega) (by omega)]
        exact ⟨_, _, _, hB.cell rfl, by omega, by omega, needPtr_of hgv ⟨_, _, _, ecq, by omega, by omega, needPtr_of hg ⟨_, ecm, sel_false (by show (tagU q != tagU q) = false; simp) ⟨rfl, r2 - 1, by omega, m + 1, rfl, by omega, hS⟩⟩⟩⟩
      · rw [inc q 1100000 (by omega) (by omega)]
        exact ⟨rfl, r - 1, by omega, q + 1, rfl, by omega, hS⟩
    · have h5 := hS.tail.tail.tail.tail.tail.tail.tail.tail.tail
      exact drop_rows hvM h5
  · rintro e w' ⟨v, rfl, rfl, h⟩; exact ⟨rfl, h⟩
end PG
end Go.Proofs.YtjmlfknogjaemaaDoor
