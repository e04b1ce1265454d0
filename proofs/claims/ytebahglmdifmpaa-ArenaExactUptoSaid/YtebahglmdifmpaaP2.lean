/- ArenaPieces: the law's own functions: out, covers, fits, size, changed. -/
import Derived.Test.YtebahglmdifmpaaA7
import Derived.Test.YtebahglmdifmpaaV8
set_option linter.unusedVariables false
set_option linter.unusedSimpArgs false
set_option maxRecDepth 10000
namespace Go.Proofs.Ytebahglmdifmpaa
open Go Go.Proofs.Ytebahglmdifmpaa.Vc
namespace PA
/-- A list of pieces, to be read. -/
def RdB (w : World) (A : Option Addr) (n : Nat) (L : List B) : Prop :=
  n = L.length ∧ (0 < n → ∃ b o, A = some ⟨b, o, none⟩ ∧ ∀ i, i < n → w.cell? ⟨b, o + i * 3, none⟩ = some (.int .i64 (L.getD i AR.dB).1) ∧ w.cell? ⟨b, o + i * 3 + 1, none⟩ = some (.int .i64 (L.getD i AR.dB).2.1) ∧ w.cell? ⟨b, o + i * 3 + 2, none⟩ = some (.bool (L.getD i AR.dB).2.2))
def RdI (w : World) (A : Option Addr) (n : Nat) (l : List Int) : Prop :=
  n = l.length ∧ (0 < n → ∃ b o, A = some ⟨b, o, none⟩ ∧ ∀ i, i < n → w.cell? ⟨b, o + i * 1, none⟩ = some (.int .i64 (l.getD i 0)))
section
variable {S : List Nat} {w0 w : World} {K : List Chunk}
theorem rdB (h : St S w0 w K) (i : Nat) {A : Option Addr} {n c : Nat} {L : List B} (hi : K[i]? = some (slC (.slice A n c) L)) : RdB w A n L := by
  have hn := h.slLen i hi
  rw [List.length_map] at hn
  refine ⟨hn, fun h0 => ?_⟩
  obtain ⟨g, hg, _⟩ := slCells h i hi (j := 0) (by omega)
  refine ⟨g, 0, hg, fun j hj => ?_⟩
  obtain ⟨g', hg', h1, h2, h3⟩ := slCells h i hi (j := j) (by omega)
  rw [hg] at hg'
  simp only [Option.some.injEq, Addr.mk.injEq] at hg'
  obtain ⟨rfl, _⟩ := hg'
  rw [Int.toNat_natCast] at h1 h2 h3
  exact ⟨h1, h2, h3⟩
theorem rdI (h : St S w0 w K) (i : Nat) {A : Option Addr} {n c : Nat} {l : List Int} (hi : K[i]? = some (intsC (.slice A n c) l)) : RdI w A n l := by
  have hn := h.slLen i hi
  rw [List.length_map] at hn
  refine ⟨hn, fun h0 => ?_⟩
  obtain ⟨g, hg, _⟩ := intCell h i hi (j := 0) (by omega)
  refine ⟨g, 0, hg, fun j hj => ?_⟩
  obtain ⟨g', hg', h1⟩ := intCell h i hi (j := j) (by omega)
  rw [hg] at hg'
  simp only [Option.some.injEq, Addr.mk.injEq] at hg'
  obtain ⟨rfl, _⟩ := hg'
  rw [Int.toNat_natCast] at h1
  exact h1
end
theorem drop_getD {α : Type} (d : α) (L : List α) (i : Nat) (hi : i < L.length) : L.drop i = L.getD i d :: L.drop (i + 1) := by
  rw [List.drop_eq_getElem_cons hi]; simp [List.getD_eq_getElem?_getD, hi]
def outN : List B → Nat
  | [] => 0
  | b :: L => if b.2.2 then outN L else outN L + 1
theorem outN_eq : ∀ L : List B, outN L = (takens L).length
  | [] => rfl
  | b :: L => by
    rw [outN, outN_eq L]
    unfold takens
    cases hb : b.2.2 <;> simp [hb]
theorem outN_le : ∀ L : List B, outN L ≤ L.length
  | [] => by simp [outN]
  | b :: L => by
    have := outN_le L
    rw [outN]; split <;> simp <;> omega
def fitsL (n : Int) : List B → Int
  | [] => -1
  | b :: L => if b.2.2 = true ∧ n ≤ b.2.1 then b.1 else fitsL n L
theorem fitsL_eq (n : Int) : ∀ L : List B, fitsL n L = atOf (takeL n L)
  | [] => rfl
  | b :: L => by
    rw [fitsL, takeL]
    split
    · rfl
    · rw [fitsL_eq n L]; cases takeL n L <;> rfl
def sizeL (x : Int) : List B → Int
  | [] => 0
  | b :: L => if b.2.2 = false ∧ b.1 = x then b.2.1 else sizeL x L
theorem sizeL_eq (x : Int) : ∀ L : List B, sizeL x L = match giveL x L with | none => 0 | some r => r.1
  | [] => rfl
  | b :: L => by
    rw [sizeL, giveL]
    split
    · rfl
    · rw [sizeL_eq x L]; cases giveL x L <;> rfl
theorem outC {w : World} {A : Option Addr} {n c : Nat} {L : List B} (h : RdB w A n L) (hl : L.length ≤ 4000) :
    Calls Try.prog 56 #[.slice A n c] w fun e w' => e = .returned (.int .i64 ((takens L).length : Int)) ∧ Fr [] w w' := by
  refine Calls.mono (f56.calls (R := fun v w' => v = .int .i64 ((takens L).length : Int) ∧ Fr [] w w') ?_) ?_
  · dsimp only [f56.VC]
    rw [← outN_eq]
    refine ⟨fun x3 x4 w1 r => w1 = w ∧ ∃ i k : Nat, x4 = (i : Int) ∧ x3 = (k : Int) ∧ k + outN (L.drop i) = outN L ∧ i + r = n, ⟨n, rfl, 0, 0, rfl, rfl, by simp, by omega⟩, ?_⟩
    rintro d x3 x4 _ r ⟨rfl, i, k, rfl, rfl, hk, hr⟩
    have hn := h.1
    have ho := outN_le L
    refine sel_of (fun hd => ?_) (fun hd => ?_)
    · have hi : i < n := by simpa using hd
      obtain ⟨b, o, rfl, hc⟩ := h.2 (by omega)
      obtain ⟨_, _, c3⟩ := hc i hi
      have hi1 : IntKind.i64.wrap ((i : Int) + 1) = ((i + 1 : Nat) : Int) := by rw [i64_id (by omega) (by omega)]; omega
      have hk1 : IntKind.i64.wrap ((k : Int) + 1) = ((k + 1 : Nat) : Int) := by rw [i64_id (by omega) (by omega)]; omega
      rw [drop_getD AR.dB L i (by omega), outN] at hk
      refine ⟨by omega, by omega, needPtr_of rfl ⟨_, by rw [Int.toNat_natCast]; exact c3, sel_of (fun hb => ?_) (fun hb => ?_)⟩⟩
      · rw [if_neg (by simpa using hb)] at hk
        rw [hi1, hk1]
        exact ⟨rfl, r - 1, by omega, rfl, i + 1, k + 1, rfl, rfl, by omega, by omega⟩
      · rw [if_pos (by simpa using hb)] at hk
        rw [hi1]
        exact ⟨rfl, r - 1, by omega, rfl, i + 1, k, rfl, rfl, by omega, by omega⟩
    · have hi : i = n := by
        have : ¬ (i : Int) < (n : Int) := by simpa using hd
        omega
      rw [List.drop_of_length_le (by omega), outN] at hk
      exact ⟨by rw [← hk]; simp, Fr.refl [] _⟩
  · rintro e w' ⟨v, rfl, rfl, h⟩; exact ⟨rfl, h⟩
theorem fitsC {w : World} {A : Option Addr} {n c : Nat} {L : List B} (h : RdB w A n L) (hl : L.length ≤ 4000) (m : Int) :
    Calls Try.prog 53 #[.slice A n c, .int .i64 m] w fun e w' => e = .returned (.int .i64 (fitsL m L)) ∧ Fr [] w w' := by
  refine Calls.mono (f53.calls (R := fun v w' => v = .int .i64 (fitsL m L) ∧ Fr [] w w') ?_) ?_
  · dsimp only [f53.VC]
    refine ⟨fun x4 w1 r => w1 = w ∧ ∃ i : Nat, x4 = (i : Int) ∧ fitsL m (L.drop i) = fitsL m L ∧ i + r = n, ⟨n, rfl, 0, rfl, by simp, by omega⟩, ?_⟩
    rintro d x4 _ r ⟨rfl, i, rfl, hk, hr⟩
    have hn := h.1
    refine sel_of (fun hd => ?_) (fun hd => ?_)
    · have hi : i < n := by simpa using hd
      obtain ⟨b, o, rfl, hc⟩ := h.2 (by omega)
      obtain ⟨c1, c2, c3⟩ := hc i hi
      have hi1 : IntKind.i64.wrap ((i : Int) + 1) = ((i + 1 : Nat) : Int) := by rw [i64_id (by omega) (by omega)]; omega
      rw [drop_getD AR.dB L i (by omega), fitsL] at hk
      refine ⟨by omega, by omega, needPtr_of rfl ⟨_, by rw [Int.toNat_natCast]; exact c3, sel_of (fun hb => ?_) (fun hb => ?_)⟩⟩
      · refine ⟨by omega, by omega, needPtr_of rfl ⟨_, by rw [Int.toNat_natCast]; exact c2, sel_of (fun hb2 => ?_) (fun hb2 => ?_)⟩⟩
        · rw [if_pos ⟨hb, by simpa using hb2⟩] at hk
          refine ⟨by omega, by omega, needPtr_of rfl ⟨_, by rw [Int.toNat_natCast]; exact c1, by rw [hk], Fr.refl [] _⟩⟩
        · rw [if_neg (by rintro ⟨_, h2⟩; exact of_decide_eq_false hb2 h2)] at hk
          rw [hi1]
          exact ⟨rfl, r - 1, by omega, rfl, i + 1, rfl, hk, by omega⟩
      · rw [if_neg (by rintro ⟨h2, _⟩; rw [h2] at hb; cases hb)] at hk
        rw [hi1]
        exact ⟨rfl, r - 1, by omega, rfl, i + 1, rfl, hk, by omega⟩
    · have hi : i = n := by
        have : ¬ (i : Int) < (n : Int) := by simpa using hd
        omega
      rw [List.drop_of_length_le (by omega), fitsL] at hk
      exact ⟨by rw [← hk], Fr.refl [] _⟩
  · rintro e w' ⟨v, rfl, rfl, h⟩; exact ⟨rfl, h⟩
theorem sizeC {w : World} {A : Option Addr} {n c : Nat} {L : List B} (h : RdB w A n L) (hl : L.length ≤ 4000) (m : Int) :
    Calls Try.prog 54 #[.slice A n c, .int .i64 m] w fun e w' => e = .returned (.int .i64 (sizeL m L)) ∧ Fr [] w w' := by
  refine Calls.mono (f54.calls (R := fun v w' => v = .int .i64 (sizeL m L) ∧ Fr [] w w') ?_) ?_
  · dsimp only [f54.VC]
    refine ⟨fun x4 w1 r => w1 = w ∧ ∃ i : Nat, x4 = (i : Int) ∧ sizeL m (L.drop i) = sizeL m L ∧ i + r = n, ⟨n, rfl, 0, rfl, by simp, by omega⟩, ?_⟩
    rintro d x4 _ r ⟨rfl, i, rfl, hk, hr⟩
    have hn := h.1
    refine sel_of (fun hd => ?_) (fun hd => ?_)
    · have hi : i < n := by simpa using hd
      obtain ⟨b, o, rfl, hc⟩ := h.2 (by omega)
      obtain ⟨c1, c2, c3⟩ := hc i hi
      have hi1 : IntKind.i64.wrap ((i : Int) + 1) = ((i + 1 : Nat) : Int) := by rw [i64_id (by omega) (by omega)]; omega
      rw [drop_getD AR.dB L i (by omega), sizeL] at hk
      refine ⟨by omega, by omega, needPtr_of rfl ⟨_, by rw [Int.toNat_natCast]; exact c3, sel_of (fun hb => ?_) (fun hb => ?_)⟩⟩
      · refine ⟨by omega, by omega, needPtr_of rfl ⟨_, by rw [Int.toNat_natCast]; exact c1, sel_of (fun hb2 => ?_) (fun hb2 => ?_)⟩⟩
        · rw [if_pos ⟨by simpa using hb, by simpa using hb2⟩] at hk
          refine ⟨by omega, by omega, needPtr_of rfl ⟨_, by rw [Int.toNat_natCast]; exact c2, by rw [hk], Fr.refl [] _⟩⟩
        · rw [if_neg (by rintro ⟨_, h2⟩; exact beq_eq_false_iff_ne.1 hb2 h2)] at hk
          rw [hi1]
          exact ⟨rfl, r - 1, by omega, rfl, i + 1, rfl, hk, by omega⟩
      · rw [if_neg (by rintro ⟨h2, _⟩; rw [h2] at hb; cases hb)] at hk
        rw [hi1]
        exact ⟨rfl, r - 1, by omega, rfl, i + 1, rfl, hk, by omega⟩
    · have hi : i = n := by
        have : ¬ (i : Int) < (n : Int) := by simpa using hd
        omega
      rw [List.drop_of_length_le (by omega), sizeL] at hk
      exact ⟨by rw [← hk], Fr.refl [] _⟩
  · rintro e w' ⟨v, rfl, rfl, h⟩; exact ⟨rfl, h⟩
theorem Apart.tail {x : B} : ∀ {L : List B}, Apart (x :: L) → Apart L
  | [], _ => trivial
  | _ :: _, h => h.2
theorem apart_get : ∀ {L : List B} {i : Nat}, Apart L → i + 1 < L.length → ¬ ((L.getD i AR.dB).2.2 = true ∧ (L.getD (i + 1) AR.dB).2.2 = true)
  | x :: y :: L, 0, h, _ => by simpa using h.1
  | x :: L, i + 1, h, hl => by
    have := apart_get (i := i) h.tail (by simp at hl; omega)
    simpa using this
theorem coversC {w : World} {A : Option Addr} {n c : Nat} {L : List B} (h : RdB w A n L) {st e : Int} (ht : Tiled st e L) (ha : Apart L) (h0 : 0 ≤ st) (he : e ≤ 4000) :
    Calls Try.prog 52 #[.slice A n c, .int .i64 st, .int .i64 e] w fun e w' => e = .returned (.bool true) ∧ Fr [] w w' := by
  refine Calls.mono (f52.calls (R := fun v w' => v = .bool true ∧ Fr [] w w') ?_) ?_
  · dsimp only [f52.VC]
    refine ⟨fun x7 x8 w1 r => w1 = w ∧ ∃ i : Nat, x8 = (i : Int) ∧ st ≤ x7 ∧ Tiled x7 e (L.drop i) ∧ i + r = n, ⟨n, rfl, 0, rfl, by omega, by simpa using ht, by omega⟩, ?_⟩
    rintro d x7 x8 w1 r ⟨rfl, i, rfl, hs, hT, hr⟩
    have hn := h.1
    have hLl := ht.len
    refine sel_of (fun hd => ?_) (fun hd => ?_)
    · have hi : i < n := by simpa using hd
      obtain ⟨b, o, rfl, hc⟩ := h.2 (by omega)
      obtain ⟨c1, c2, c3⟩ := hc i hi
      rw [drop_getD AR.dB L i (by omega)] at hT
      obtain ⟨t1, t2, t3⟩ := hT
      have hle := t3.le
      have hi1 : IntKind.i64.wrap ((i : Int) + 1) = ((i + 1 : Nat) : Int) := by rw [i64_id (by omega) (by omega)]; omega
      have he1 : IntKind.i64.wrap (e - x7) = e - x7 := i64_id (by omega) (by omega)
      have hx1 : IntKind.i64.wrap (x7 + (L.getD i AR.dB).2.1) = x7 + (L.getD i AR.dB).2.1 := i64_id (by omega) (by omega)
      refine ⟨by omega, by omega, needPtr_of rfl ⟨_, by rw [Int.toNat_natCast]; exact c1, sel_false (by rw [t1]; simp) ?_⟩⟩
      refine ⟨by omega, by omega, needPtr_of rfl ⟨_, by rw [Int.toNat_natCast]; exact c2, sel_false (decide_eq_false (by omega)) ?_⟩⟩
      refine ⟨by omega, by omega, needPtr_of rfl ⟨_, by rw [Int.toNat_natCast]; exact c2, ?_⟩⟩
      rw [he1, hi1]
      refine sel_false (decide_eq_false (by omega)) ?_
      have fin : ([.slice (some ⟨b, o, none⟩) n c, .int .i64 e] : List Value) = ([.slice (some ⟨b, o, none⟩) n c, .int .i64 e] : List Value) ∧ ∃ m, m < r ∧ (w1 = w1 ∧ ∃ j : Nat, ((i + 1 : Nat) : Int) = (j : Int) ∧ st ≤ x7 + (L.getD i AR.dB).2.1 ∧ Tiled (x7 + (L.getD i AR.dB).2.1) e (L.drop j) ∧ j + m = n) :=
        ⟨rfl, r - 1, by omega, rfl, i + 1, rfl, by omega, t3, by omega⟩
      have step : (0 : Int) ≤ (i : Int) ∧ (i : Int) < (n : Int) ∧ needPtr (some ⟨b, o, none⟩) fun b64 o64 => ∃ (x66 : Int), w1.cell? ⟨b64, o64 + (i : Int).toNat * 3 + 1, none⟩ = some (.int .i64 x66) ∧
          (([.slice (some ⟨b, o, none⟩) n c, .int .i64 e] : List Value) = ([.slice (some ⟨b, o, none⟩) n c, .int .i64 e] : List Value) ∧ ∃ m, m < r ∧ (w1 = w1 ∧ ∃ j : Nat, ((i + 1 : Nat) : Int) = (j : Int) ∧ st ≤ IntKind.i64.wrap (x7 + x66) ∧ Tiled (IntKind.i64.wrap (x7 + x66)) e (L.drop j) ∧ j + m = n)) :=
        ⟨by omega, by omega, needPtr_of rfl ⟨_, by rw [Int.toNat_natCast]; exact c2, by rw [hx1]; exact fin⟩⟩
      refine sel_of (fun hb => ?_) (fun hb => step)
      have hi0 : 0 < i := by simpa using hb
      refine ⟨by omega, by omega, needPtr_of rfl ⟨_, by rw [Int.toNat_natCast]; exact c3, sel_of (fun hb2 => ?_) (fun hb2 => step)⟩⟩
      have hi2 : IntKind.i64.wrap ((i : Int) - 1) = ((i - 1 : Nat) : Int) := by rw [i64_id (by omega) (by omega)]; omega
      rw [hi2]
      obtain ⟨_, _, d3⟩ := hc (i - 1) (by omega)
      have hap := apart_get (i := i - 1) ha (by omega)
      rw [show i - 1 + 1 = i by omega] at hap
      refine ⟨by omega, by omega, needPtr_of rfl ⟨_, by rw [Int.toNat_natCast]; exact d3, sel_false ?_ step⟩⟩
      cases hq : (L.getD (i - 1) AR.dB).2.2 with
      | false => rfl
      | true => exact absurd ⟨hq, hb2⟩ hap
    · have hi : i = n := by
        have : ¬ (i : Int) < (n : Int) := by simpa using hd
        omega
      rw [List.drop_of_length_le (by omega)] at hT
      have hT : x7 = e := hT
      exact ⟨by rw [hT]; simp, Fr.refl [] _⟩
  · rintro e w' ⟨v, rfl, rfl, h⟩; exact ⟨rfl, h⟩
theorem changedC {w : World} {A A' : Option Addr} {n c n' c' : Nat} {l l' : List Int} (h : RdI w A n l) (h' : RdI w A' n' l') (hl : l'.length = l.length) (hlen : l.length ≤ 4000) {addr m v : Int}
    (hx : ∀ i, i < l.length → l'.getD i 0 = if addr ≤ (i : Int) ∧ (i : Int) < IntKind.i64.wrap (addr + m) then v else l.getD i 0) :
    Calls Try.prog 55 #[.slice A n c, .slice A' n' c', .int .i64 addr, .int .i64 m, .int .i64 v] w fun e w' => e = .returned (.bool true) ∧ Fr [] w w' := by
  refine Calls.mono (f55.calls (R := fun x w' => x = .bool true ∧ Fr [] w w') ?_) ?_
  · dsimp only [f55.VC]
    have hn := h.1
    have hn' := h'.1
    refine sel_false (by simp; omega) ⟨fun x w1 r => ∃ i : Nat, x = (i : Int) ∧ i + r = n ∧ Fr [] w w1, ⟨n, 0, rfl, by omega, Fr.refl [] _⟩, ?_⟩
    rintro d x w1 r ⟨i, rfl, hr, hf⟩
    refine sel_of (fun hd => ?_) (fun hd => ⟨rfl, hf⟩)
    have hi : i < n := by simpa using hd
    obtain ⟨b, o, rfl, hc⟩ := h.2 (by omega)
    obtain ⟨b', o', rfl, hc'⟩ := h'.2 (by omega)
    have c1 := hf.cell (hc i hi)
    have c2 := hf.cell (hc' i (by omega))
    have hi1 : IntKind.i64.wrap ((i : Int) + 1) = ((i + 1 : Nat) : Int) := by rw [i64_id (by omega) (by omega)]; omega
    have hxi := hx i (by omega)
    have e1 : (i : Int).toNat = i := by simp
    refine sel_of (fun ha => ?_) (fun ha => ?_)
    · refine sel_of (fun hb => ?_) (fun hb => ?_)
      · rw [if_pos ⟨by simpa using ha, by simpa using hb⟩] at hxi
        refine ⟨by omega, by omega, needPtr_of rfl ⟨_, by rw [e1]; exact c2, sel_false (by rw [hxi]; simp) (sel_false (by simpa using hb) ?_)⟩⟩
        rw [hi1]
        exact ⟨rfl, r - 1, by omega, i + 1, rfl, by omega, hf.drew⟩
      · rw [if_neg (by rintro ⟨_, h2⟩; simp at hb; omega)] at hxi
        refine sel_true (by simpa using hb) ⟨by omega, by omega, needPtr_of rfl ⟨by omega, by omega, needPtr_of rfl ⟨_, by rw [e1]; exact c2, _, by rw [e1]; exact c1, sel_false (by rw [hxi]; simp) ?_⟩⟩⟩
        rw [hi1]
        exact ⟨rfl, r - 1, by omega, i + 1, rfl, by omega, hf.drew⟩
    · rw [if_neg (by rintro ⟨h2, _⟩; simp at ha; omega)] at hxi
      refine ⟨by omega, by omega, needPtr_of rfl ⟨by omega, by omega, needPtr_of rfl ⟨_, by rw [e1]; exact c2, _, by rw [e1]; exact c1, sel_false (by rw [hxi]; simp) ?_⟩⟩⟩
      rw [hi1]
      exact ⟨rfl, r - 1, by omega, i + 1, rfl, by omega, hf.drew⟩
  · rintro e w' ⟨v, rfl, rfl, h⟩; exact ⟨rfl, h⟩
end PA
end Go.Proofs.Ytebahglmdifmpaa
