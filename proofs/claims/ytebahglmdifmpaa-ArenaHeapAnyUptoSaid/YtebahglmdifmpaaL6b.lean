/- ArenaHeapAny: true, whatever the table says. -/
import Derived.Test.YtebahglmdifmpaaL0
set_option linter.unusedVariables false
set_option linter.unusedSimpArgs false
set_option maxRecDepth 10000
namespace Go.Proofs.Ytebahglmdifmpaa
open Go Go.Proofs.Ytebahglmdifmpaa.Vc
namespace LW
def cnt (es : List (Int × Int)) (j : Nat) : Int := (es.countP (fun e => e.1 == (j : Int)) : Nat)
def cells8 (es : List (Int × Int)) : Array Value := ((List.range 8).map fun j => Value.int .i64 (cnt es j)).toArray
theorem cells8_get (es : List (Int × Int)) {j : Nat} (hj : j < 8) : (cells8 es)[j]? = some (.int .i64 (cnt es j)) := by
  simp [cells8, hj]
theorem cells8_put (es es' : List (Int × Int)) {i : Nat} (hi : i < 8) (v : Int) (hv : v = cnt es' i) (hne : ∀ j, j ≠ i → cnt es' j = cnt es j) : putA (cells8 es) i [.int .i64 v] = cells8 es' := by
  apply Array.ext_getElem?
  intro k
  have hs : (cells8 es).size = 8 := by simp [cells8]
  rw [putA_get _ _ _ _ (by rw [hs]; simp; omega)]
  by_cases hk : k = i
  · subst hk
    rw [if_pos (by simp), Nat.sub_self, cells8_get es' hi, hv]; rfl
  · rw [if_neg (by simp; omega)]
    by_cases h8 : k < 8
    · rw [cells8_get es h8, cells8_get es' h8, hne k hk]
    · rw [Array.getElem?_eq_none (by rw [hs]; omega), Array.getElem?_eq_none (by simp [cells8]; omega)]
theorem cnt_push (ah : Int × Int → Int × Int → Bool) (es : List (Int × Int)) (x c : Int) (j : Nat) : cnt (HeapPlain.push HI.d ah es (x, c)) j = cnt es j + (if x = (j : Int) then 1 else 0) := by
  unfold cnt
  rw [(HeapPlain.push_perm HI.d ah es (x, c)).countP_eq, List.countP_cons]
  simp
  split <;> simp
theorem cnt_pop (ah : Int × Int → Int × Int → Bool) (es : List (Int × Int)) (h : 0 < es.length) (j : Nat) : cnt es j = cnt (HeapPlain.popped HI.d ah es) j + (if (es.getD 0 HI.d).1 = (j : Int) then 1 else 0) := by
  cases es with
  | nil => simp at h
  | cons x t =>
    unfold cnt
    rw [(HeapPlain.popped_perm HI.d ah x t).countP_eq, List.countP_cons]
    simp
    split <;> simp
theorem cnt_head (es : List (Int × Int)) (h : 0 < es.length) (j : Nat) (hj : (es.getD 0 HI.d).1 = (j : Int)) : 0 < cnt es j := by
  rw [cnt_pop (fun _ _ => true) es h j, if_pos hj]
  unfold cnt
  omega
theorem and7 (x : Int) : 0 ≤ bitsI .and .i64 x 7 ∧ bitsI .and .i64 x 7 < 8 := by
  unfold bitsI
  have h : (BitVec.ofInt 64 x &&& BitVec.ofInt 64 7).toNat < 8 := by
    rw [BitVec.toNat_and]
    have : (BitVec.ofInt 64 7).toNat = 7 := by decide
    rw [this]
    exact Nat.lt_of_le_of_lt Nat.and_le_right (by decide)
  show 0 ≤ IntKind.i64.wrap (((BitVec.ofInt 64 x &&& BitVec.ofInt 64 7).toNat : Nat) : Int) ∧ IntKind.i64.wrap (((BitVec.ofInt 64 x &&& BitVec.ofInt 64 7).toNat : Nat) : Int) < 8
  generalize (BitVec.ofInt 64 x &&& BitVec.ofInt 64 7).toNat = m at *
  rw [i64_id (by omega) (by omega)]
  omega
theorem InvT.fr {S : List Nat} {w w' : World} {c : Nat} {A : Option Addr} {n cap : Nat} {l : List Bool} (h : InvT c A n cap l w) (hf : Fr S w w') (hA : 0 < n → ∀ a, A = some a → a.block ≤ c) (hS : ∀ x ∈ S, c < x) : InvT c A n cap l w' :=
  ⟨hf.blk h.1 (fun hx => by have := hS c hx; omega), h.2.fr (base := c + 1) (fun hn a ha => by have := hA hn a ha; omega) hf (fun x hx => hS x hx)⟩
theorem restsT {c : Nat} {A : Option Addr} {n cap : Nat} {l : List Bool} : Rests (c :: (if 0 < n then (A.map (·.block)).toList else [])) (InvT c A n cap l) := by
  rintro S w w' hf hC ⟨h1, h2, h3⟩
  refine ⟨hf.blk h1 (hC c (by simp)), h2, fun hn => ?_⟩
  obtain ⟨b, o, rfl, h4⟩ := h3 hn
  exact ⟨b, o, rfl, fun i hi => cell_fr hf (h4 i hi) (hC b (by simp [hn]))⟩
theorem any {w : World} {A0 : Option Addr} {n0 c0 : Nat} {A1 : Option Addr} {n1 c1 : Nat} {tb : List Bool} {ls : List Int} (h0 : InB w A0 n0 tb) (h1 : InI w A1 n1 ls)
    (b0 : 0 < n0 → ∀ a, A0 = some a → a.block < w.heap.size) (b1 : 0 < n1 → ∀ a, A1 = some a → a.block < w.heap.size) (hn0 : n0 ≤ 2000000) (hn1 : n1 ≤ 2000000) :
    Calls Try.prog 6 #[.slice A0 n0 c0, .slice A1 n1 c1] w fun e w' => e = .returned (.bool true) ∧ Fr [] w w' := by
  refine Calls.mono (f6.calls (R := fun v w' => v = .bool true ∧ Fr [] w w') ?_) ?_
  · dsimp only [f6.VC]
    have hF1 : Fr [] w (World.alloc w (.cells #[.slice A0 n0 c0] 61)) := (Fr.refl _ _).alloc
    have hc : Blk (World.alloc w (.cells #[.slice A0 n0 c0] 61)) w.heap.size #[.slice A0 n0 c0] 61 := Blk.new
    refine Calls.mono (LV.lively _) ?_
    rintro _ w2 ⟨rfl, hF2⟩
    refine ⟨_, rfl, ?_⟩
    have hF02 := hF1.trans hF2
    refine Calls.mono (LV.newInt w2 33 _) ?_
    rintro _ w3 ⟨rfl, hH3, hF3⟩
    refine ⟨_, rfl, sel_false rfl ?_⟩
    have hF03 := hF02.trans hF3
    have hc3 := (hF2.trans hF3).blk hc (by simp)
    have hs2 := (hF2.blk hc (by simp)).lt
    have hF4 : Fr [] w3 (World.alloc w3 (.cells #[.int .i64 0, .int .i64 0, .int .i64 0, .int .i64 0, .int .i64 0, .int .i64 0, .int .i64 0, .int .i64 0] 63)) := (Fr.refl _ _).alloc
    have hq4 : Blk (World.alloc w3 (.cells #[.int .i64 0, .int .i64 0, .int .i64 0, .int .i64 0, .int .i64 0, .int .i64 0, .int .i64 0, .int .i64 0] 63)) w3.heap.size (cells8 []) 63 := Blk.new
    generalize World.alloc w3 (.cells #[.int .i64 0, .int .i64 0, .int .i64 0, .int .i64 0, .int .i64 0, .int .i64 0, .int .i64 0, .int .i64 0] 63) = w4 at *
    have hF04 := hF03.trans hF4
    have hp3 := hH3.lt w2.heap.size (by simp)
    generalize hq : w3.heap.size = q at *
    have hI4 : InvT w.heap.size A0 n0 c0 tb w4 := ⟨hF4.blk hc3 (by simp), h0.fr (base := w.heap.size) b0 hF04 (by simp)⟩
    have hL := less33 (c := w.heap.size) (A := A0) (n := n0) (cap := c0) (l := tb) (by omega)
    have hR := restsT (c := w.heap.size) (A := A0) (n := n0) (cap := c0) (l := tb)
    have hCF : ∀ F1 : List Nat, (∀ x ∈ F1, w.heap.size < x ∧ x ≠ q) → ∀ x ∈ w.heap.size :: (if 0 < n0 then (A0.map (·.block)).toList else []), x ∉ F1 := by
      intro F1 h x hx hx2
      have := h x hx2
      rcases List.mem_cons.mp hx with rfl | hx
      · omega
      · split at hx
        · rename_i hn
          simp at hx
          obtain ⟨a, ha, rfl⟩ := hx
          have := b0 hn a ha; omega
        · cases hx
    have hlen := h1.1
    have keep : ∀ (S : List Nat) (w5 w6 : World), Fr S w5 w6 → (∀ x ∈ S, w.heap.size < x) → InvT w.heap.size A0 n0 c0 tb w5 → InI w5 A1 n1 ls → Fr [] w w5 → InvT w.heap.size A0 n0 c0 tb w6 ∧ InI w6 A1 n1 ls ∧ Fr [] w w6 := by
      intro S w5 w6 hf hS hi hl hw
      exact ⟨hi.fr hf (fun hn a ha => by have := b0 hn a ha; omega) hS, hl.fr (base := w.heap.size) b1 hf (fun x hx => by have := hS x hx; omega), hw.trans' hf (fun x hx hlt => by have := hS x hx; omega)⟩
    have grow : ∀ (F1 F2 : List Nat) (w5 : World), (∀ x ∈ F1, w.heap.size < x ∧ x ≠ q) → q < w5.heap.size → (∀ x ∈ F2, x ∈ F1 ∨ w5.heap.size ≤ x) → w.heap.size < w5.heap.size → ∀ x ∈ F2, w.heap.size < x ∧ x ≠ q := by
      intro F1 F2 w5 h hq5 h2 h3 x hx
      rcases h2 x hx with h4 | h4
      · exact h x h4
      · omega
    refine ⟨fun b x8 x9 w5 r => b = true ∧ ∃ (k : Nat) (es : List (Int × Int)) (came : Int) (F1 : List Nat), x9 = (k : Int) ∧ k + r = ls.length ∧ x8 = (es.length : Int) ∧ es.length ≤ k ∧ 0 ≤ came ∧ came ≤ k ∧
      HI.At w5 F1 w2.heap.size (.func (.func 33) #[] #[.pointer (some ⟨w.heap.size, 0, none⟩)]) es came ∧ Blk w5 q (cells8 es) 63 ∧ (∀ e ∈ es, 0 ≤ e.1 ∧ e.1 < 8) ∧ InvT w.heap.size A0 n0 c0 tb w5 ∧ InI w5 A1 n1 ls ∧
      (∀ x ∈ F1, w.heap.size < x ∧ x ≠ q) ∧ Fr [] w w5, ?_, ?_⟩
    · exact ⟨ls.length, rfl, 0, [], 0, [w2.heap.size], rfl, by omega, rfl, Nat.le_refl _, by omega, by omega, hH3.fr hF4 (by simp), hq4, by simp, hI4, h1.fr (base := w.heap.size) b1 hF04 (by simp), by simp; omega, hF04⟩
    · rintro _ b x8 x9 w5 r ⟨rfl, k, es, came, F1, rfl, hkr, rfl, hek, hc0, hc1, hH, hQ, hV, hI, hS, hF1x, hFw⟩
      refine sel_of ?_ ?_
      · intro hd
        have hk : k < ls.length := by rw [hlen] at hd; simpa using hd
        obtain ⟨bb, oo, rfl, hcs⟩ := hS.2 (by omega)
        have k0 : (0 : Int) ≤ (k : Int) := by omega
        have k1 : (k : Int) < (n1 : Int) := by omega
        have hk1 : IntKind.i64.wrap ((k : Int) + 1) = ((k + 1 : Nat) : Int) := by rw [i64_id (by omega) (by omega)]; omega
        have hck : w5.cell? ⟨bb, oo + (k : Int).toNat * 1, none⟩ = some (.int .i64 (ls.getD k 0)) := by
          rw [Int.toNat_natCast, Nat.mul_one]; exact hcs k (by omega)
        have hbb := b1 (by omega) _ rfl
        have hq5 := hQ.lt
        have hw5 := hI.1.lt
        have hes : es.length ≤ 4000000 := by omega
        generalize ls.getD k 0 = x at *
        refine ⟨k0, k1, needPtr_of rfl ⟨_, hck, sel_of ?_ ?_⟩⟩
        · intro hge
          refine ⟨k0, k1, needPtr_of rfl ⟨_, hck, ?_⟩⟩
          obtain ⟨v0, v1⟩ := and7 x
          obtain ⟨vn, hvn⟩ : ∃ m : Nat, bitsI .and .i64 x 7 = (m : Int) := ⟨(bitsI .and .i64 x 7).toNat, by omega⟩
          rw [hvn] at v0 v1 ⊢
          have iv : 0 + (vn : Int).toNat * 1 = vn := by rw [Int.toNat_natCast, Nat.mul_one, Nat.zero_add]
          refine Calls.mono (HI.push hR hL hI (hCF F1 hF1x) hH hes hc0 (by omega) (vn : Int)) ?_
          rintro _ w6 ⟨rfl, F2, hH6, hF6, hFF6⟩
          obtain ⟨hI6, hS6, hFw6⟩ := keep F1 w5 w6 hF6 (fun x hx => (hF1x x hx).1) hI hS hFw
          have hQ6 := hF6.blk hQ (fun h => (hF1x _ h).2 rfl)
          have hF2x := grow F1 F2 w5 hF1x hq5 hFF6 hw5
          have hck6 := cell_fr hF6 hck (fun h => by have := (hF1x _ h).1; simp at hbb; omega)
          have hcv : (cells8 es)[0 + (vn : Int).toNat * 1]? = some (.int .i64 (cnt es vn)) := by rw [iv]; exact cells8_get es (by omega)
          have hcb : 0 ≤ cnt es vn ∧ cnt es vn ≤ 4000000 := by
            unfold cnt
            have := List.countP_le_length (p := fun e : Int × Int => e.1 == (vn : Int)) (l := es)
            omega
          have hwv : IntKind.i64.wrap (cnt es vn + 1) = cnt es vn + 1 := i64_id (by omega) (by omega)
          have hwn : IntKind.i64.wrap ((es.length : Int) + 1) = ((es.length + 1 : Nat) : Int) := by rw [i64_id (by omega) (by omega)]; omega
          refine ⟨rfl, k0, k1, needPtr_of rfl ⟨_, hck6, ?_⟩⟩
          rw [hvn]
          refine ⟨v0, v1, _, hQ6.cell hcv, v0, v1, hQ6.can (by rw [iv]; simp [cells8]; omega), ?_⟩
          rw [hwv, hwn, hk1]
          have hQ7 := hQ6.set [.int .i64 (cnt es vn + 1)] (0 + (vn : Int).toNat * 1)
          have hF7 : Fr [q] w6 (setCs w6 q (0 + (vn : Int).toNat * 1) [.int .i64 (cnt es vn + 1)]) := (Fr.refl _ _).set (.inl (by simp))
          have hput : putA (cells8 es) (0 + (vn : Int).toNat * 1) [.int .i64 (cnt es vn + 1)] = cells8 (HeapPlain.push HI.d (HeapPlain.ahead (says tb)) es ((vn : Int), came)) := by
            rw [iv]
            refine cells8_put es _ (by omega) _ ?_ ?_
            · rw [cnt_push, if_pos rfl]
            · intro j hj
              rw [cnt_push, if_neg (by omega)]; omega
          rw [hput] at hQ7
          generalize setCs w6 q (0 + (vn : Int).toNat * 1) [.int .i64 (cnt es vn + 1)] = w7 at *
          have hH7 := hH6.fr hF7 (fun x hx hx2 => by simp at hx2; exact (hF2x x hx).2 hx2)
          obtain ⟨hI7, hS7, hFw7⟩ := keep [q] w6 w7 hF7 (by simp; omega) hI6 hS6 hFw6
          refine Calls.mono (HI.len hH7) ?_
          rintro _ w8 ⟨rfl, hF8⟩
          obtain ⟨hI8, hS8, hFw8⟩ := keep [] w7 w8 hF8 (by simp) hI7 hS7 hFw7
          refine ⟨_, rfl, rfl, r - 1, by omega, ?_, k + 1, _, came + 1, F2, rfl, by omega, ?_, ?_, by omega, by omega, hH7.fr hF8 (by simp), hF8.blk hQ7 (by simp), ?_, hI8, hS8, hF2x, hFw8⟩
          · rw [HeapPlain.push_length]; simp
          · rw [HeapPlain.push_length]
          · rw [HeapPlain.push_length]; omega
          · intro e he
            rcases List.mem_cons.mp ((HeapPlain.push_perm HI.d _ es ((vn : Int), came)).mem_iff.mp he) with rfl | he
            · exact ⟨v0, v1⟩
            · exact hV e he
        · intro hlt
          refine Calls.mono (peekI hH) ?_
          rintro _ w6 ⟨rfl, hF6⟩
          obtain ⟨hI6, hS6, hFw6⟩ := keep [] w5 w6 hF6 (by simp) hI hS hFw
          have hQ6 := hF6.blk hQ (by simp)
          have hH6 := hH.fr hF6 (by simp)
          refine ⟨_, _, rfl, ?_⟩
          refine Calls.mono (HI.pop hR hL hI6 (hCF F1 hF1x) hH6 hes) ?_
          rintro _ w7 ⟨rfl, F2, hH7, hF7, hFF7⟩
          obtain ⟨hI7, hS7, hFw7⟩ := keep F1 w6 w7 hF7 (fun x hx => (hF1x x hx).1) hI6 hS6 hFw6
          have hQ7 := hF7.blk hQ6 (fun h => (hF1x _ h).2 rfl)
          have hF2x := grow F1 F2 w6 hF1x hQ6.lt hFF7 hI6.1.lt
          have hpl := HeapPlain.popped_length HI.d (HeapPlain.ahead (says tb)) es
          refine ⟨_, _, rfl, ?_⟩
          have hv : 0 ≤ (es.getD 0 HI.d).1 ∧ (es.getD 0 HI.d).1 < 8 := by
            cases es with
            | nil => decide
            | cons y t => exact hV y (by simp)
          obtain ⟨vn, hvn⟩ : ∃ m : Nat, (es.getD 0 HI.d).1 = (m : Int) := ⟨(es.getD 0 HI.d).1.toNat, by omega⟩
          have iv : 0 + (vn : Int).toNat * 1 = vn := by rw [Int.toNat_natCast, Nat.mul_one, Nat.zero_add]
          rw [hvn] at hv ⊢
          obtain ⟨v0, v1⟩ := hv
          have hdec : decide ((0 : Int) < (es.length : Int)) = decide (0 < es.length) := by simp
          rw [hdec, hk1]
          refine sel_false (by simp) (sel_false (by simp) (sel_false (by simp <;> omega) (sel_false (by simp <;> omega) (sel_false (by simp <;> omega) (sel_false (by simp <;> omega) ?_)))))
          refine sel_of ?_ ?_
          · intro hne
            have hpos : 0 < es.length := by simpa using hne
            have hcv : (cells8 es)[0 + (vn : Int).toNat * 1]? = some (.int .i64 (cnt es vn)) := by rw [iv]; exact cells8_get es (by omega)
            have hcp := cnt_head es hpos vn hvn
            have hcb : cnt es vn ≤ 4000000 := by
              unfold cnt
              have := List.countP_le_length (p := fun e : Int × Int => e.1 == (vn : Int)) (l := es)
              omega
            have hwv : IntKind.i64.wrap (cnt es vn - 1) = cnt es vn - 1 := i64_id (by omega) (by omega)
            have hwn : IntKind.i64.wrap ((es.length : Int) - 1) = ((es.length - 1 : Nat) : Int) := by rw [i64_id (by omega) (by omega)]; omega
            refine ⟨v0, v1, _, hQ7.cell hcv, sel_true (by simpa using hcp) ⟨v0, v1, _, hQ7.cell hcv, v0, v1, _, hQ7.cell hcv, v0, v1, hQ7.can (by rw [iv]; simp [cells8]; omega), ?_⟩⟩
            refine sel_true (by simpa using hcp) ?_
            rw [hwv, hwn]
            have hQ8 := hQ7.set [.int .i64 (cnt es vn - 1)] (0 + (vn : Int).toNat * 1)
            have hF8 : Fr [q] w7 (setCs w7 q (0 + (vn : Int).toNat * 1) [.int .i64 (cnt es vn - 1)]) := (Fr.refl _ _).set (.inl (by simp))
            have hput : putA (cells8 es) (0 + (vn : Int).toNat * 1) [.int .i64 (cnt es vn - 1)] = cells8 (HeapPlain.popped HI.d (HeapPlain.ahead (says tb)) es) := by
              rw [iv]
              refine cells8_put es _ (by omega) _ ?_ ?_
              · have := cnt_pop (HeapPlain.ahead (says tb)) es hpos vn
                rw [if_pos hvn] at this; omega
              · intro j hj
                have := cnt_pop (HeapPlain.ahead (says tb)) es hpos j
                rw [if_neg (by omega)] at this; omega
            rw [hput] at hQ8
            generalize setCs w7 q (0 + (vn : Int).toNat * 1) [.int .i64 (cnt es vn - 1)] = w8 at *
            have hH8 := hH7.fr hF8 (fun x hx hx2 => by simp at hx2; exact (hF2x x hx).2 hx2)
            obtain ⟨hI8, hS8, hFw8⟩ := keep [q] w7 w8 hF8 (by simp; omega) hI7 hS7 hFw7
            refine Calls.mono (HI.len hH8) ?_
            rintro _ w9 ⟨rfl, hF9⟩
            obtain ⟨hI9, hS9, hFw9⟩ := keep [] w8 w9 hF9 (by simp) hI8 hS8 hFw8
            refine ⟨_, rfl, rfl, r - 1, by omega, ?_, k + 1, _, came, F2, rfl, by omega, ?_, by omega, by omega, by omega, hH8.fr hF9 (by simp), hF9.blk hQ8 (by simp), ?_, hI9, hS9, hF2x, hFw9⟩
            · rw [hpl]; simp
            · rw [hpl]
            · intro e he
              cases es with
              | nil => simp at hpos
              | cons y t => exact hV e (List.mem_cons_of_mem _ ((HeapPlain.popped_perm HI.d _ y t).mem_iff.mp he))
          · intro hne
            have h0 : es = [] := by
              cases es with
              | nil => rfl
              | cons y t => simp at hne
            subst h0
            have hpn : HeapPlain.popped HI.d (HeapPlain.ahead (says tb)) [] = [] := rfl
            rw [hpn] at hH7
            refine sel_true rfl ?_
            refine Calls.mono (HI.len hH7) ?_
            rintro _ w9 ⟨rfl, hF9⟩
            obtain ⟨hI9, hS9, hFw9⟩ := keep [] w7 w9 hF9 (by simp) hI7 hS7 hFw7
            exact ⟨_, rfl, rfl, r - 1, by omega, by simp, k + 1, [], came, F2, rfl, by omega, rfl, by simp, by omega, by omega, hH7.fr hF9 (by simp), hF9.blk hQ7 (by simp), by simp, hI9, hS9, hF2x, hFw9⟩
      · intro hd
        exact ⟨rfl, hFw⟩
  · rintro e w' ⟨v, rfl, rfl, h⟩
    exact ⟨rfl, h⟩
end LW
end Go.Proofs.Ytebahglmdifmpaa
