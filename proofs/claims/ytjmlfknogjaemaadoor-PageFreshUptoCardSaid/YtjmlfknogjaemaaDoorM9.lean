/- Page: words of a page, searched: the plain laws. -/
import Derived.Test.YtjmlfknogjaemaaDoorM7
import Derived.Test.YtjmlfknogjaemaaDoorM8
import Derived.Test.YtjmlfknogjaemaaDoorM5
import Derived.Test.YtjmlfknogjaemaaDoorProg
import Derived.KernelRfl
set_option linter.unusedVariables false
set_option linter.unusedSimpArgs false
set_option maxRecDepth 100000
namespace Go.Proofs.YtjmlfknogjaemaaDoor.Vc
open Go
namespace PG
theorem wr (n : Int) : IntKind.wrap .i64 n = (n + 9223372036854775808) % 18446744073709551616 - 9223372036854775808 := by
  show (if (decide (n % 18446744073709551616 ≥ 9223372036854775808)) = true then n % 18446744073709551616 - 18446744073709551616 else n % 18446744073709551616) = _
  simp only [decide_eq_true_eq]
  split <;> omega
theorem wr_ex (a : Int) : ∃ k : Int, IntKind.wrap .i64 a = a + k * 18446744073709551616 := by
  rw [wr]
  exact ⟨-((a + 9223372036854775808) / 18446744073709551616), by omega⟩
theorem wr_more (a k : Int) : IntKind.wrap .i64 (a + k * 18446744073709551616) = IntKind.wrap .i64 a := by
  rw [wr, wr]; omega
theorem wr_add (a b : Int) : IntKind.wrap .i64 (IntKind.wrap .i64 a + b) = IntKind.wrap .i64 (a + b) := by
  rw [wr, wr, wr]; omega
theorem wr_add' (a b : Int) : IntKind.wrap .i64 (a + IntKind.wrap .i64 b) = IntKind.wrap .i64 (a + b) := by
  rw [wr, wr, wr]; omega
theorem wr_mul (a b : Int) : IntKind.wrap .i64 (IntKind.wrap .i64 a * b) = IntKind.wrap .i64 (a * b) := by
  obtain ⟨k, hk⟩ := wr_ex a
  rw [hk, Int.add_mul, Int.mul_assoc, Int.mul_comm 18446744073709551616 b, ← Int.mul_assoc]
  exact wr_more _ _
theorem bit_one (x : Int) : bitsI .and .i64 x 1 = 0 ∨ bitsI .and .i64 x 1 = 1 := by
  have h : ((BitVec.ofInt 64 x &&& BitVec.ofInt 64 1).toNat) % 2 = (BitVec.ofInt 64 x &&& BitVec.ofInt 64 1).toNat := by
    rw [BitVec.toNat_and]
    have : (BitVec.ofInt 64 1).toNat = 1 := by decide
    rw [this, Nat.and_one_is_mod]
    omega
  show IntKind.wrap .i64 (((BitVec.ofInt 64 x &&& BitVec.ofInt 64 1).toNat : Nat) : Int) = 0 ∨ IntKind.wrap .i64 (((BitVec.ofInt 64 x &&& BitVec.ofInt 64 1).toNat : Nat) : Int) = 1
  rw [wr]
  omega
/-- A power of two from 2 to 4096. -/
def powB (t : Int) : Bool := [2, 4, 8, 16, 32, 64, 128, 256, 512, 1024, 2048, 4096].any (fun p => decide (p = t))
theorem pow_bits : ∀ n : Fin 4097, 2 ≤ n.1 → (bitsI .and .i64 (n.1 : Int) ((n.1 : Int) - 1) == 0) = powB (n.1 : Int) := by decide +kernel
theorem powB_range {t : Int} (h : powB t = true) : 2 ≤ t ∧ t ≤ 4096 := by
  simp [powB] at h
  omega
/-- Is a bit of a number there? -/
def bitB (m z : Int) : Bool := bitsI .and .i64 (shrI .i64 m z) 1 == 1
theorem bitB_ne (m z : Int) : (bitsI .and .i64 (shrI .i64 m z) 1 != 0) = bitB m z := by
  unfold bitB
  rcases bit_one (shrI .i64 m z) with h | h <;> rw [h] <;> rfl
/-- The key of a symbol and a kind. -/
def keyN (s k : Int) : Int := IntKind.wrap .i64 (s * 4 + k)
def kfirst (key : Int) (t : Nat) : Nat := (pgHash key t).toNat
theorem kfirst_lt (key : Int) {t : Nat} (h : 0 < t) : kfirst key t < t := by
  have := pgHash_range key (size := (t : Int))
  unfold kfirst; omega
theorem kfirst_eq (key : Int) {t : Nat} : ((kfirst key t : Nat) : Int) = pgHash key t := by
  have := pgHash_range key (size := (t : Int))
  unfold kfirst; omega
/-- A search in a page's table, from the n-th look on. -/
def lookGo (W : List Int) (t : Nat) (key : Int) (f : Nat) : Nat → Nat → Int × Nat
  | _, 0 => (0, t)
  | n, r + 1 =>
    if W.getD (4 + 2 * ((f + n) % t)) 0 = key then (W.getD (4 + 2 * ((f + n) % t) + 1) 0, n + 1)
    else if W.getD (4 + 2 * ((f + n) % t)) 0 = 0 then (0, n + 1)
    else lookGo W t key f (n + 1) r
/-- How many places a page's table has. -/
def tabP (W : List Int) : Int := if W.length < 4 then 0 else if powB (W.getD 1 0) = true ∧ 4 + 2 * W.getD 1 0 ≤ W.length then W.getD 1 0 else 0
theorem tabP_range (W : List Int) : 0 ≤ tabP W ∧ tabP W ≤ 4096 ∧ (tabP W ≠ 0 → 4 ≤ W.length ∧ 4 + 2 * tabP W ≤ W.length ∧ W.getD 1 0 = tabP W ∧ powB (tabP W) = true ∧ 2 ≤ tabP W) := by
  unfold tabP
  split
  · simp
  · split
    · rename_i h1 h2
      have := powB_range h2.1
      exact ⟨by omega, by omega, fun _ => ⟨by omega, h2.2, rfl, h2.1, by omega⟩⟩
    · simp
def lookP (W : List Int) (s k : Int) : Int × Nat :=
  if tabP W = 0 ∨ k < 1 ∨ 3 < k then (0, 0) else lookGo W (tabP W).toNat (keyN s k) (kfirst (keyN s k) (tabP W).toNat) 0 (tabP W).toNat
/-- The same, word by word: the number, if it is met, and how many words were read. -/
def seekGo (W : List Int) (t : Nat) (key : Int) (f : Nat) : Nat → Nat → Nat → Option Int × Nat
  | _, 0, s => (none, s)
  | n, r + 1, s =>
    if 4 + 2 * ((f + n) % t) < W.length then
      if W.getD (4 + 2 * ((f + n) % t)) 0 = key then
        if 4 + 2 * ((f + n) % t) + 1 < W.length then (some (W.getD (4 + 2 * ((f + n) % t) + 1) 0), s + 2) else (none, s + 1)
      else if W.getD (4 + 2 * ((f + n) % t)) 0 = 0 then (none, s + 1)
      else seekGo W t key f (n + 1) r (s + 1)
    else (none, s)
def seekP (W : List Int) (t : Nat) (key : Int) (s : Nat) : Option Int × Nat := seekGo W t key (kfirst key t) 0 t s
theorem seekGo_le (W : List Int) (t : Nat) (key : Int) (f : Nat) : ∀ r n s, (seekGo W t key f n r s).2 ≤ s + r + 1
  | 0, n, s => by simp [seekGo]
  | r + 1, n, s => by
    have ih := seekGo_le W t key f r (n + 1) (s + 1)
    rw [seekGo]
    split
    · split
      · split
        · dsimp only; omega
        · dsimp only; omega
      · split
        · dsimp only; omega
        · omega
    · dsimp only; omega
theorem seekP_le (W : List Int) (t : Nat) (key : Int) (s : Nat) : (seekP W t key s).2 ≤ s + t + 1 := seekGo_le _ _ _ _ _ _ _
def maskAt (t x y c : Int) : Int := IntKind.wrap .i64 (4 + 2 * t + (x - 1) * c + y - 1)
/-- All three keys met. -/
def decEnd (W : List Int) (t : Nat) (x y z : Int) (n : Nat) : Bool × Nat :=
  if 3 < W.length then
    if 0 ≤ maskAt t x y (W.getD 3 0) ∧ maskAt t x y (W.getD 3 0) < W.length then
      if z < 1 ∨ 16 < z then (false, n + 2)
      else (bitB (W.getD (maskAt t x y (W.getD 3 0)).toNat 0) (z - 1), n + 2)
    else (false, n + 1)
  else (false, n)
/-- .. with so many keys to be sought yet. -/
def decFrom (W : List Int) (t : Nat) (s o a : Int) : Nat → Int → Int → Int → Nat → Bool × Nat
  | 0, x, y, z, n => decEnd W t x y z n
  | 1, x, y, _, n => match seekP W t (keyN a 3) n with
    | (none, m) => (false, m)
    | (some v, m) => decEnd W t x y v m
  | 2, x, _, z, n => match seekP W t (keyN o 2) n with
    | (none, m) => (false, m)
    | (some v, m) => decFrom W t s o a 1 x v z m
  | _ + 3, _, y, z, n => match seekP W t (keyN s 1) n with
    | (none, m) => (false, m)
    | (some v, m) => decFrom W t s o a 2 v y z m
/-- What a page decides, and how many words were read. -/
def decP (W : List Int) (s o a : Int) : Bool × Nat :=
  if 1 < W.length then
    if powB (W.getD 1 0) = true then decFrom W (W.getD 1 0).toNat s o a 3 0 0 0 1
    else (false, 1)
  else (false, 0)
end PG
end Go.Proofs.YtjmlfknogjaemaaDoor.Vc
/- Page: how many places a table may have: the program's 'power' and the document's. -/
set_option linter.unusedVariables false
set_option linter.unusedSimpArgs false
set_option maxRecDepth 100000
namespace Go.Proofs.YtjmlfknogjaemaaDoor
open Go Go.Proofs.YtjmlfknogjaemaaDoor.Vc
namespace PG
open Vc.PG
theorem powP (w : World) (t : Int) : Calls Tryd.prog 46 #[.int .i64 t] w fun e w' => e = .returned (.bool (powB t)) ∧ w' = w := by
  refine Calls.mono (f46.calls (R := fun v w' => v = .bool (powB t) ∧ w' = w) ?_) ?_
  · dsimp only [f46.VC]
    have no : (t < 2 ∨ 4096 < t) → powB t = false := by
      intro h
      cases hp : powB t with
      | false => rfl
      | true => have := powB_range hp; omega
    refine sel_of (fun h1 => sel_of (fun h2 => ?_) (fun h2 => ?_)) (fun h1 => ?_)
    · have h1 : 2 ≤ t := of_decide_eq_true h1
      have h2 : t ≤ 4096 := of_decide_eq_true h2
      have := pow_bits ⟨t.toNat, by omega⟩ (by show 2 ≤ t.toNat; omega)
      dsimp only at this
      rw [show ((t.toNat : Nat) : Int) = t by omega] at this
      rw [i64_id (by omega) (by omega), this]
      exact ⟨rfl, rfl⟩
    · have h2 : ¬ t ≤ 4096 := of_decide_eq_false h2
      rw [no (by omega)]; exact ⟨rfl, rfl⟩
    · have h1 : ¬ 2 ≤ t := of_decide_eq_false h1
      rw [no (by omega)]; exact ⟨rfl, rfl⟩
  · rintro e w' ⟨v, rfl, rfl, h⟩; exact ⟨rfl, h⟩
end PG
end Go.Proofs.YtjmlfknogjaemaaDoor
/- A contract told of one piece of memory, used among others. -/
set_option linter.unusedVariables false
set_option linter.unusedSimpArgs false
namespace Go.Proofs.YtjmlfknogjaemaaDoor.Vc
open Go
/-- What a contract tells of one piece's blocks, within a larger whole: new pieces come in front. -/
theorem St.graft {S : List Nat} {w0 w : World} {K : List Chunk} (h : St S w0 w K) (i : Nat) {c : Chunk} (hi : K[i]? = some c) : ∃ F, c.holds w F ∧ ∀ {w' : World} {c' : Chunk} {M : List Chunk}, St F w w' (c' :: M) → St S w0 w' (M ++ K.set i c') := by
  obtain ⟨h1, Fs, h2, h3⟩ := h
  have hil : i < K.length := by
    rcases Nat.lt_or_ge i K.length with h | h
    · exact h
    · rw [List.getElem?_eq_none h] at hi; cases hi
  have hlt : ∀ j, j < K.length → ∀ x ∈ Fs j, x < w.heap.size := by
    intro j hj x hx
    exact (K[j]).lt (h2 j K[j] (List.getElem?_eq_getElem hj)).1 x hx
  refine ⟨Fs i, (h2 i c hi).1, ?_⟩
  rintro w' c' M ⟨g1, Gs, g2, g3⟩
  have hS : ∀ x, (x ∈ Fs i ∨ w.heap.size ≤ x) → x ∈ S ∨ w0.heap.size ≤ x := by
    intro x hx
    rcases hx with hx | hx
    · exact (h2 i c hi).2 x hx
    · exact .inr (Nat.le_trans h1.1 hx)
  have hG : ∀ q, q < (c' :: M).length → ∀ x ∈ Gs q, x ∈ Fs i ∨ w.heap.size ≤ x := by
    intro q hq x hx
    exact (g2 q _ (List.getElem?_eq_getElem hq)).2 x hx
  refine ⟨h1.trans' g1 (fun x hx hl => (hS x (.inl hx)).resolve_right (by omega)), fun j => if j < M.length then Gs (j + 1) else if j - M.length = i then Gs 0 else Fs (j - M.length), ?_, ?_⟩
  · intro j d hd
    dsimp only
    by_cases hj : j < M.length
    · rw [if_pos hj]
      rw [List.getElem?_append_left hj] at hd
      have := g2 (j + 1) d (by simpa using hd)
      exact ⟨this.1, fun x hx => hS x (this.2 x hx)⟩
    · rw [if_neg hj]
      rw [List.getElem?_append_right (by omega)] at hd
      by_cases hq : j - M.length = i
      · rw [if_pos hq]
        rw [hq, List.getElem?_set_self hil] at hd
        injection hd with hd
        subst hd
        have := g2 0 c' rfl
        exact ⟨this.1, fun x hx => hS x (this.2 x hx)⟩
      · rw [if_neg hq]
        rw [List.getElem?_set_ne (Ne.symm hq)] at hd
        have hql : j - M.length < K.length := (List.getElem?_eq_some_iff.1 hd).1
        exact ⟨d.fr (h2 _ d hd).1 g1 (fun x hx hx2 => h3 _ i hql hil hq x hx hx2), (h2 _ d hd).2⟩
  · have out : ∀ p q, p < (c' :: M).length → q < K.length → q ≠ i → ∀ x ∈ Gs p, x ∉ Fs q := by
      intro p q hp hq hqi x hx hx2
      rcases hG p hp x hx with h | h
      · exact h3 q i hq hil hqi x hx2 h
      · have := hlt q hq x hx2; omega
    intro j k hj hk hjk x hx hx2
    dsimp only at hx hx2
    simp only [List.length_append, List.length_set] at hj hk
    by_cases ej : j < M.length
    · rw [if_pos ej] at hx
      by_cases ek : k < M.length
      · rw [if_pos ek] at hx2
        exact g3 (j + 1) (k + 1) (by simp; omega) (by simp; omega) (by omega) x hx hx2
      · rw [if_neg ek] at hx2
        by_cases eq : k - M.length = i
        · rw [if_pos eq] at hx2
          exact g3 (j + 1) 0 (by simp; omega) (by simp) (by omega) x hx hx2
        · rw [if_neg eq] at hx2
          exact out (j + 1) _ (by simp; omega) (by omega) eq x hx hx2
    · rw [if_neg ej] at hx
      by_cases ek : k < M.length
      · rw [if_pos ek] at hx2
        by_cases eq : j - M.length = i
        · rw [if_pos eq] at hx
          exact g3 0 (k + 1) (by simp) (by simp; omega) (by omega) x hx hx2
        · rw [if_neg eq] at hx
          exact out (k + 1) _ (by simp; omega) (by omega) eq x hx2 hx
      · rw [if_neg ek] at hx2
        by_cases eq : j - M.length = i
        · rw [if_pos eq] at hx
          by_cases eq2 : k - M.length = i
          · omega
          · rw [if_neg eq2] at hx2
            exact out 0 _ (by simp) (by omega) eq2 x hx hx2
        · rw [if_neg eq] at hx
          by_cases eq2 : k - M.length = i
          · rw [if_pos eq2] at hx2
            exact out 0 _ (by simp) (by omega) eq x hx2 hx
          · rw [if_neg eq2] at hx2
            exact h3 _ _ (by omega) (by omega) (by omega) x hx hx2
/-- .. where the piece alone is left. -/
theorem St.use {S : List Nat} {w0 w : World} {K : List Chunk} {P : Program} {f : FuncId} {args : Array Value} {Q : Ending → Prop} {c c' : Chunk} (h : St S w0 w K) (i : Nat) (hi : K[i]? = some c)
    (hc : ∀ F, St F w w [c] → Calls P f args w fun e w' => Q e ∧ St F w w' [c']) : Calls P f args w fun e w' => Q e ∧ St S w0 w' (K.set i c') := by
  obtain ⟨F, hF, hg⟩ := h.graft i hi
  refine (hc F (St.start1 hF)).mono fun e w' ⟨h1, h2⟩ => ⟨h1, ?_⟩
  simpa using hg (M := []) h2
/-- New pieces, made by work that touched nothing. -/
theorem St.gone {S : List Nat} {w0 w w' : World} {L M : List Chunk} (h : St S w0 w L) (g : St [] w w' M) : St S w0 w' (M ++ L) := by
  obtain ⟨h1, Fs, h2, h3⟩ := h
  obtain ⟨g1, Gs, g2, g3⟩ := g
  have hlt : ∀ j, j < L.length → ∀ x ∈ Fs j, x < w.heap.size := by
    intro j hj x hx
    exact (L[j]).lt (h2 j L[j] (List.getElem?_eq_getElem hj)).1 x hx
  have hge : ∀ q, q < M.length → ∀ x ∈ Gs q, w.heap.size ≤ x := by
    intro q hq x hx
    exact ((g2 q _ (List.getElem?_eq_getElem hq)).2 x hx).resolve_left (by simp)
  refine ⟨h1.trans' g1 (by simp), fun j => if j < M.length then Gs j else Fs (j - M.length), ?_, ?_⟩
  · intro j d hd
    dsimp only
    by_cases hj : j < M.length
    · rw [if_pos hj]
      rw [List.getElem?_append_left hj] at hd
      have := g2 j d hd
      exact ⟨this.1, fun x hx => .inr (Nat.le_trans h1.1 (hge j hj x hx))⟩
    · rw [if_neg hj]
      rw [List.getElem?_append_right (by omega)] at hd
      exact ⟨d.fr (h2 _ d hd).1 g1 (by simp), (h2 _ d hd).2⟩
  · intro j k hj hk hjk x hx hx2
    dsimp only at hx hx2
    simp only [List.length_append] at hj hk
    by_cases ej : j < M.length
    · rw [if_pos ej] at hx
      by_cases ek : k < M.length
      · rw [if_pos ek] at hx2
        exact g3 j k ej ek hjk x hx hx2
      · rw [if_neg ek] at hx2
        have := hge j ej x hx
        have := hlt _ (by omega) x hx2
        omega
    · rw [if_neg ej] at hx
      by_cases ek : k < M.length
      · rw [if_pos ek] at hx2
        have := hge k ek x hx2
        have := hlt _ (by omega) x hx
        omega
      · rw [if_neg ek] at hx2
        exact h3 _ _ (by omega) (by omega) (by omega) x hx hx2
end Go.Proofs.YtjmlfknogjaemaaDoor.Vc
/- The plain statements of some functions, printed by vcgen.py. -/
set_option maxRecDepth 100000
set_option maxHeartbeats 4000000
set_option linter.unusedVariables false
namespace Go.Proofs.YtjmlfknogjaemaaDoor
open Go Go.Proofs.YtjmlfknogjaemaaDoor.Vc
theorem W3.mixed : Tryd.prog.follows .mixedOrders = true := by kernel_rfl
/-- gatehouse/page.table -/
def f38.AL : Nat → Option Ann := fun _ => none
def f38.AC : Nat → Option Ann := fun _ => none
def f38.VC (Aa0 : Option Addr) (na0 ca0 : Nat) (w : World) (R : Value → World → Prop) : Prop :=
  sel (decide (((na0 : Int) : Int) < (4 : Int))) (
  R (.int .i64 0) w) (
  4 ≤ na0 ∧
  needPtr Aa0 fun b0 d0 =>
  ∃ g0,
  w.cell? ⟨b0, d0, none⟩ = some (.int .i64 g0) ∧
  ∃ h0,
  w.cell? ⟨b0, d0 + 1, none⟩ = some (.int .i64 h0) ∧
  ∃ i0,
  w.cell? ⟨b0, d0 + 1 + 1, none⟩ = some (.int .i64 i0) ∧
  ∃ j0,
  w.cell? ⟨b0, d0 + 1 + 1 + 1, none⟩ = some (.int .i64 j0) ∧
  let k0 := World.alloc w (.cells #[.int .i64 0, .int .i64 0, .int .i64 0, .int .i64 0] 66);
  canStore k0 w.heap.size 0 4 ∧
  let p0 := setCs k0 w.heap.size 0 [.int .i64 g0, .int .i64 h0, .int .i64 i0, .int .i64 j0];
  (0 : Int) ≤ 1 ∧ 1 < (4 : Int) ∧
  ∃ q0,
  p0.cell? ⟨w.heap.size, 1, none⟩ = some (.int .i64 q0) ∧
  Calls Tryd.prog 46 #[.int .i64 q0] p0 fun t0 u0 =>
  ∃ v0,
  t0 = .returned (.bool v0) ∧
  sel (!v0) (
  R (.int .i64 0) u0) (
  (0 : Int) ≤ 1 ∧ 1 < (4 : Int) ∧
  ∃ x0,
  u0.cell? ⟨w.heap.size, 1, none⟩ = some (.int .i64 x0) ∧
  let y0 : Int := IntKind.i64.wrap (2 * x0);
  let z0 : Int := IntKind.i64.wrap (4 + y0);
  sel (decide (((na0 : Int) : Int) < (z0 : Int))) (
  R (.int .i64 0) u0) (
  (0 : Int) ≤ 1 ∧ 1 < (4 : Int) ∧
  ∃ b1,
  u0.cell? ⟨w.heap.size, 1, none⟩ = some (.int .i64 b1) ∧
  R (.int .i64 b1) u0)))
theorem f38.eq (Aa0 : Option Addr) (na0 ca0 : Nat) (w : World) (R : Value → World → Prop) : f38.VC Aa0 na0 ca0 w R = funV Tryd.prog Tryd.f38 f38.AL f38.AC #[.slice Aa0 na0 ca0] w R := by kernel_rfl
theorem f38.calls {Aa0 : Option Addr} {na0 ca0 : Nat} {w : World} {R : Value → World → Prop} (h : f38.VC Aa0 na0 ca0 w R) : Calls Tryd.prog 38 #[.slice Aa0 na0 ca0] w fun e w' => ∃ v, e = .returned v ∧ R v w' :=
  funV_sound (fn := Tryd.f38) (AL := f38.AL) (AC := f38.AC) W3.mixed (by kernel_rfl) (by rw [← f38.eq Aa0 na0 ca0]; exact h)

/-- gatehouse/page.Look -/
def f54.AL : Nat → Option Ann := fun r => match r with | 7 => some ⟨[(10, .int .i64), (11, .int .i64)], [0, 8, 9]⟩ | _ => none
def f54.AC : Nat → Option Ann := fun _ => none
def f54.VC (Aa0 : Option Addr) (na0 ca0 : Nat) (xa1 : Int) (xa2 : Int) (w : World) (R : Value → World → Prop) : Prop :=
  Calls Tryd.prog 38 #[.slice Aa0 na0 ca0] w fun b0 d0 =>
  ∃ g0,
  b0 = .returned (.int .i64 g0) ∧
  sel ((g0 : Int) == (0 : Int)) (
  R (.tuple #[.int .i64 0, .int .i64 0]) d0) (
  sel (decide ((xa2 : Int) < (1 : Int))) (
  R (.tuple #[.int .i64 0, .int .i64 0]) d0) (
  sel (decide ((3 : Int) < (xa2 : Int))) (
  R (.tuple #[.int .i64 0, .int .i64 0]) d0) (
  let h0 : Int := IntKind.i64.wrap (xa1 * 4);
  let i0 : Int := IntKind.i64.wrap xa2;
  let j0 : Int := IntKind.i64.wrap (h0 + i0);
  Calls Tryd.prog 22 #[.int .i64 j0, .int .i64 g0] d0 fun k0 p0 =>
  ∃ q0,
  k0 = .returned (.int .i64 q0) ∧
  ∃ t0 : Int → Int → World → Nat → Prop,
  (∃ n, t0 q0 1 p0 n) ∧
  ∀ u0 : Env, ∀ v0 x0 y0 z0, t0 v0 x0 y0 z0 →
  sel (decide ((x0 : Int) ≤ (g0 : Int))) (
  let b1 : Int := IntKind.i64.wrap (2 * v0);
  let d1 : Int := IntKind.i64.wrap (4 + b1);
  (0 : Int) ≤ d1 ∧ d1 < (na0 : Int) ∧
  needPtr Aa0 fun g1 h1 =>
  ∃ i1,
  y0.cell? ⟨g1, h1 + d1.toNat * 1, none⟩ = some (.int .i64 i1) ∧
  sel ((i1 : Int) == (j0 : Int)) (
  let j1 : Int := IntKind.i64.wrap (2 * v0);
  let k1 : Int := IntKind.i64.wrap (4 + j1);
  let p1 : Int := IntKind.i64.wrap (k1 + 1);
  (0 : Int) ≤ p1 ∧ p1 < (na0 : Int) ∧
  needPtr Aa0 fun q1 t1 =>
  ∃ u1,
  y0.cell? ⟨q1, t1 + p1.toNat * 1, none⟩ = some (.int .i64 u1) ∧
  R (.tuple #[.int .i64 u1, .int .i64 x0]) y0) (
  sel ((i1 : Int) == (0 : Int)) (
  R (.tuple #[.int .i64 0, .int .i64 x0]) y0) (
  let v1 : Int := IntKind.i64.wrap (v0 + 1);
  g0 ≠ (0 : Int) ∧
  let x1 : Int := Int.tmod v1 g0;
  let y1 : Int := IntKind.i64.wrap (x0 + 1);
  ([.slice Aa0 na0 ca0, .int .i64 g0, .int .i64 j0] : List Value) = ([.slice Aa0 na0 ca0, .int .i64 g0, .int .i64 j0] : List Value) ∧ ∃ m, m < z0 ∧ t0 x1 y1 y0 m))) (
  R (.tuple #[.int .i64 0, .int .i64 g0]) y0))))
theorem f54.eq (Aa0 : Option Addr) (na0 ca0 : Nat) (xa1 : Int) (xa2 : Int) (w : World) (R : Value → World → Prop) : f54.VC Aa0 na0 ca0 xa1 xa2 w R = funV Tryd.prog Tryd.f54 f54.AL f54.AC #[.slice Aa0 na0 ca0, .int .i64 xa1, .int .i8 xa2] w R := by kernel_rfl
theorem f54.calls {Aa0 : Option Addr} {na0 ca0 : Nat} {xa1 : Int} {xa2 : Int} {w : World} {R : Value → World → Prop} (h : f54.VC Aa0 na0 ca0 xa1 xa2 w R) : Calls Tryd.prog 54 #[.slice Aa0 na0 ca0, .int .i64 xa1, .int .i8 xa2] w fun e w' => ∃ v, e = .returned v ∧ R v w' :=
  funV_sound (fn := Tryd.f54) (AL := f54.AL) (AC := f54.AC) W3.mixed (by kernel_rfl) (by rw [← f54.eq Aa0 na0 ca0 xa1 xa2]; exact h)

/-- (*gatehouse/page.eye).seek -/
def f47.AL : Nat → Option Ann := fun r => match r with | 3 => some ⟨[(8, .int .i64), (15, .int .i64)], [0, 1, 2, 14]⟩ | _ => none
def f47.AC : Nat → Option Ann := fun _ => none
def f47.VC (a0 : Nat) (xa1 : Int) (xa2 : Int) (w : World) (R : Value → World → Prop) : Prop :=
  Calls Tryd.prog 22 #[.int .i64 xa2, .int .i64 xa1] w fun b0 d0 =>
  ∃ g0,
  b0 = .returned (.int .i64 g0) ∧
  ∃ h0 : Int → Int → World → Nat → Prop,
  (∃ n, h0 g0 0 d0 n) ∧
  ∀ i0 : Env, ∀ j0 k0 p0 q0, h0 j0 k0 p0 q0 →
  sel (decide ((k0 : Int) < (xa1 : Int))) (
  let t0 : Int := IntKind.i64.wrap (2 * j0);
  let u0 : Int := IntKind.i64.wrap (4 + t0);
  Calls Tryd.prog 45 #[.pointer (some ⟨a0, 0, none⟩), .int .i64 u0] p0 fun v0 x0 =>
  ∃ y0 z0,
  v0 = .returned (.tuple #[.int .i64 y0, .bool z0]) ∧
  sel (!z0) (
  R (.tuple #[.int .i64 0, .bool false]) x0) (
  sel ((y0 : Int) == (xa2 : Int)) (
  let b1 : Int := IntKind.i64.wrap (2 * j0);
  let d1 : Int := IntKind.i64.wrap (4 + b1);
  let g1 : Int := IntKind.i64.wrap (d1 + 1);
  Calls Tryd.prog 45 #[.pointer (some ⟨a0, 0, none⟩), .int .i64 g1] x0 fun h1 i1 =>
  ∃ j1 k1,
  h1 = .returned (.tuple #[.int .i64 j1, .bool k1]) ∧
  R (.tuple #[.int .i64 j1, .bool k1]) i1) (
  sel ((y0 : Int) == (0 : Int)) (
  R (.tuple #[.int .i64 0, .bool false]) x0) (
  let p1 : Int := IntKind.i64.wrap (j0 + 1);
  xa1 ≠ (0 : Int) ∧
  let q1 : Int := Int.tmod p1 xa1;
  let t1 : Int := IntKind.i64.wrap (k0 + 1);
  ([.pointer (some ⟨a0, 0, none⟩), .int .i64 xa1, .int .i64 xa2, .int .i64 xa1] : List Value) = ([.pointer (some ⟨a0, 0, none⟩), .int .i64 xa1, .int .i64 xa2, .int .i64 xa1] : List Value) ∧ ∃ m, m < q0 ∧ h0 q1 t1 x0 m)))) (
  R (.tuple #[.int .i64 0, .bool false]) p0)
theorem f47.eq (a0 : Nat) (xa1 : Int) (xa2 : Int) (w : World) (R : Value → World → Prop) : f47.VC a0 xa1 xa2 w R = funV Tryd.prog Tryd.f47 f47.AL f47.AC #[.pointer (some ⟨a0, 0, none⟩), .int .i64 xa1, .int .i64 xa2] w R := by kernel_rfl
theorem f47.calls {a0 : Nat} {xa1 : Int} {xa2 : Int} {w : World} {R : Value → World → Prop} (h : f47.VC a0 xa1 xa2 w R) : Calls Tryd.prog 47 #[.pointer (some ⟨a0, 0, none⟩), .int .i64 xa1, .int .i64 xa2] w fun e w' => ∃ v, e = .returned v ∧ R v w' :=
  funV_sound (fn := Tryd.f47) (AL := f47.AL) (AC := f47.AC) W3.mixed (by kernel_rfl) (by rw [← f47.eq a0 xa1 xa2]; exact h)

/-- gatehouse/page.Decide -/
def f21.AL : Nat → Option Ann := fun r => match r with | 7 => some ⟨[(41, .int .i64)], [10, 11, 13, 40]⟩ | _ => none
def f21.AC : Nat → Option Ann := fun _ => none
def f21.VC (Aa0 : Option Addr) (na0 ca0 : Nat) (xa1 : Int) (xa2 : Int) (xa3 : Int) (w : World) (R : Value → World → Prop) : Prop :=
  let b0 := World.alloc w (.cells #[.slice Aa0 na0 ca0, .int .i64 0] 81);
  Calls Tryd.prog 45 #[.pointer (some ⟨w.heap.size, 0, none⟩), .int .i64 1] b0 fun d0 g0 =>
  ∃ h0 i0,
  d0 = .returned (.tuple #[.int .i64 h0, .bool i0]) ∧
  sel (!i0) (
  ∃ j0,
  g0.cell? ⟨w.heap.size, 1, none⟩ = some (.int .i64 j0) ∧
  R (.tuple #[.bool false, .int .i64 j0]) g0.drew) (
  Calls Tryd.prog 46 #[.int .i64 h0] g0 fun k0 p0 =>
  ∃ q0,
  k0 = .returned (.bool q0) ∧
  sel (!q0) (
  ∃ t0,
  p0.cell? ⟨w.heap.size, 1, none⟩ = some (.int .i64 t0) ∧
  R (.tuple #[.bool false, .int .i64 t0]) p0.drew) (
  let u0 := World.alloc p0 (.cells #[.int .i64 0, .int .i64 0, .int .i64 0] 84);
  ∃ v0 : Int → World → Nat → Prop,
  (∃ n, v0 0 u0 n) ∧
  ∀ x0 : Env, ∀ y0 z0 b1, v0 y0 z0 b1 →
  sel (decide ((y0 : Int) < (3 : Int))) (
  ∃ d1,
  (∀ w', (Instr.index 84 (.agg #[.int .i64 xa1, .int .i64 xa2, .int .i64 xa3]) (.int .i64 y0)).run Tryd.prog w' = .ok (.int .i64 d1) w') ∧
  let g1 : Int := IntKind.i64.wrap (d1 * 4);
  let h1 : Int := IntKind.i64.wrap (g1 + y0);
  let i1 : Int := IntKind.i64.wrap (h1 + 1);
  Calls Tryd.prog 47 #[.pointer (some ⟨w.heap.size, 0, none⟩), .int .i64 h0, .int .i64 i1] z0 fun j1 k1 =>
  ∃ p1 q1,
  j1 = .returned (.tuple #[.int .i64 p1, .bool q1]) ∧
  (0 : Int) ≤ y0 ∧ y0 < (3 : Int) ∧
  canStore k1 p0.heap.size (0 + y0.toNat * 1) 1 ∧
  let t1 := setCs k1 p0.heap.size (0 + y0.toNat * 1) [.int .i64 p1];
  sel (!q1) (
  ∃ u1,
  t1.cell? ⟨w.heap.size, 1, none⟩ = some (.int .i64 u1) ∧
  R (.tuple #[.bool false, .int .i64 u1]) t1.drew) (
  let v1 : Int := IntKind.i64.wrap (y0 + 1);
  ([.pointer (some ⟨w.heap.size, 0, none⟩), .int .i64 h0, .pointer (some ⟨p0.heap.size, 0, none⟩), .agg #[.int .i64 xa1, .int .i64 xa2, .int .i64 xa3]] : List Value) = ([.pointer (some ⟨w.heap.size, 0, none⟩), .int .i64 h0, .pointer (some ⟨p0.heap.size, 0, none⟩), .agg #[.int .i64 xa1, .int .i64 xa2, .int .i64 xa3]] : List Value) ∧ ∃ m, m < b1 ∧ v0 v1 t1 m)) (
  Calls Tryd.prog 45 #[.pointer (some ⟨w.heap.size, 0, none⟩), .int .i64 3] z0 fun x1 y1 =>
  ∃ z1 b2,
  x1 = .returned (.tuple #[.int .i64 z1, .bool b2]) ∧
  sel (!b2) (
  ∃ d2,
  y1.cell? ⟨w.heap.size, 1, none⟩ = some (.int .i64 d2) ∧
  R (.tuple #[.bool false, .int .i64 d2]) y1.drew) (
  let g2 : Int := IntKind.i64.wrap (2 * h0);
  let h2 : Int := IntKind.i64.wrap (4 + g2);
  (0 : Int) ≤ 0 ∧ 0 < (3 : Int) ∧
  ∃ i2,
  y1.cell? ⟨p0.heap.size, 0, none⟩ = some (.int .i64 i2) ∧
  let j2 : Int := IntKind.i64.wrap (i2 - 1);
  let k2 : Int := IntKind.i64.wrap (j2 * z1);
  let p2 : Int := IntKind.i64.wrap (h2 + k2);
  (0 : Int) ≤ 1 ∧ 1 < (3 : Int) ∧
  ∃ q2,
  y1.cell? ⟨p0.heap.size, 1, none⟩ = some (.int .i64 q2) ∧
  let t2 : Int := IntKind.i64.wrap (p2 + q2);
  let u2 : Int := IntKind.i64.wrap (t2 - 1);
  Calls Tryd.prog 45 #[.pointer (some ⟨w.heap.size, 0, none⟩), .int .i64 u2] y1 fun v2 x2 =>
  ∃ y2 z2,
  v2 = .returned (.tuple #[.int .i64 y2, .bool z2]) ∧
  sel (!z2) (
  ∃ b3,
  x2.cell? ⟨w.heap.size, 1, none⟩ = some (.int .i64 b3) ∧
  R (.tuple #[.bool false, .int .i64 b3]) x2.drew) (
  (0 : Int) ≤ 2 ∧ 2 < (3 : Int) ∧
  ∃ d3,
  x2.cell? ⟨p0.heap.size, 2, none⟩ = some (.int .i64 d3) ∧
  sel (decide ((d3 : Int) < (1 : Int))) (
  ∃ g3,
  x2.cell? ⟨w.heap.size, 1, none⟩ = some (.int .i64 g3) ∧
  R (.tuple #[.bool false, .int .i64 g3]) x2.drew) (
  (0 : Int) ≤ 2 ∧ 2 < (3 : Int) ∧
  ∃ h3,
  x2.cell? ⟨p0.heap.size, 2, none⟩ = some (.int .i64 h3) ∧
  sel (decide ((16 : Int) < (h3 : Int))) (
  ∃ i3,
  x2.cell? ⟨w.heap.size, 1, none⟩ = some (.int .i64 i3) ∧
  R (.tuple #[.bool false, .int .i64 i3]) x2.drew) (
  (0 : Int) ≤ 2 ∧ 2 < (3 : Int) ∧
  ∃ j3,
  x2.cell? ⟨p0.heap.size, 2, none⟩ = some (.int .i64 j3) ∧
  let k3 : Int := IntKind.i64.wrap (j3 - 1);
  (0 : Int) ≤ k3 ∧
  let p3 : Int := shrI .i64 y2 k3;
  let q3 : Int := bitsI .and .i64 p3 1;
  ∃ t3,
  x2.cell? ⟨w.heap.size, 1, none⟩ = some (.int .i64 t3) ∧
  R (.tuple #[.bool ((q3 : Int) != (0 : Int)), .int .i64 t3]) x2.drew)))))))
theorem f21.eq (Aa0 : Option Addr) (na0 ca0 : Nat) (xa1 : Int) (xa2 : Int) (xa3 : Int) (w : World) (R : Value → World → Prop) : f21.VC Aa0 na0 ca0 xa1 xa2 xa3 w R = funV Tryd.prog Tryd.f21 f21.AL f21.AC #[.slice Aa0 na0 ca0, .int .i64 xa1, .int .i64 xa2, .int .i64 xa3] w R := by kernel_rfl
theorem f21.calls {Aa0 : Option Addr} {na0 ca0 : Nat} {xa1 : Int} {xa2 : Int} {xa3 : Int} {w : World} {R : Value → World → Prop} (h : f21.VC Aa0 na0 ca0 xa1 xa2 xa3 w R) : Calls Tryd.prog 21 #[.slice Aa0 na0 ca0, .int .i64 xa1, .int .i64 xa2, .int .i64 xa3] w fun e w' => ∃ v, e = .returned v ∧ R v w' :=
  funV_sound (fn := Tryd.f21) (AL := f21.AL) (AC := f21.AC) W3.mixed (by kernel_rfl) (by rw [← f21.eq Aa0 na0 ca0 xa1 xa2 xa3]; exact h)

end Go.Proofs.YtjmlfknogjaemaaDoor
/- Page: words that are read: table, Look (both), the eye and the book. -/
set_option linter.unusedVariables false
set_option linter.unusedSimpArgs false
set_option maxRecDepth 10000
namespace Go.Proofs.YtjmlfknogjaemaaDoor
open Go Go.Proofs.YtjmlfknogjaemaaDoor.Vc
namespace PG
open Vc.PG
/-- Words that are read. -/
def InW (w : World) (A : Option Addr) (n : Nat) (W : List Int) : Prop := n = W.length ∧ (0 < n → ∃ b o, A = some ⟨b, o, none⟩ ∧ ∀ i, i < n → w.cell? ⟨b, o + i, none⟩ = some (.int .i64 (W.getD i 0)))
theorem InW.fr {w w' : World} {A : Option Addr} {n : Nat} {W : List Int} (h : InW w A n W) (hf : Fr [] w w') : InW w' A n W := by
  refine ⟨h.1, fun hn => ?_⟩
  obtain ⟨b, o, rfl, h2⟩ := h.2 hn
  exact ⟨b, o, rfl, fun i hi => hf.cell (h2 i hi)⟩
theorem InW.need {w w' : World} {A : Option Addr} {n : Nat} {W : List Int} (h : InW w A n W) (hf : Fr [] w w') {i : Int} {q : Nat} (h0 : i = (q : Int)) (h1 : q < n) {K : Int → Prop} (hk : K (W.getD q 0)) :
    needPtr A fun b o => ∃ x, w'.cell? ⟨b, o + i.toNat * 1, none⟩ = some (.int .i64 x) ∧ K x := by
  obtain ⟨b, o, rfl, h2⟩ := h.2 (by omega)
  refine needPtr_of rfl ⟨_, hf.cell ?_, hk⟩
  rw [Nat.mul_one, h0, Int.toNat_natCast]
  exact h2 q h1
theorem step_mod (f j t : Nat) (ht : 0 < t) (hb : t ≤ 4096) (hf : f < t) : Int.tmod (IntKind.i64.wrap ((((f + j) % t : Nat) : Int) + 1)) (t : Int) = (((f + (j + 1)) % t : Nat) : Int) := by
  have h1 : (f + j) % t < t := Nat.mod_lt _ ht
  rw [i64_id (by omega) (by omega), tmod_pos (by omega)]
  have h2 : ((f + j) % t + 1) % t = (f + (j + 1)) % t := by
    rw [show f + (j + 1) = f + j + 1 by omega, Nat.add_mod (f + j) 1 t, Nat.add_mod ((f + j) % t) 1 t, Nat.mod_mod]
  rw [← h2]
  rfl
theorem tableC {w : World} {A : Option Addr} {n c : Nat} {W : List Int} (h : InW w A n W) (hn : n ≤ 1000000000) : Calls Tryd.prog 38 #[.slice A n c] w fun e w' => e = .returned (.int .i64 (tabP W)) ∧ Fr [] w w' := by
  refine Calls.mono (f38.calls (R := fun v w' => v = .int .i64 (tabP W) ∧ Fr [] w w') ?_) ?_
  · dsimp only [f38.VC]
    have hl := h.1
    refine sel_of (fun hd => ?_) (fun hd => ?_)
    · have hd : (n : Int) < 4 := of_decide_eq_true hd
      exact ⟨by unfold tabP; rw [if_pos (by omega)], Fr.refl _ _⟩
    · have hd : ¬ (n : Int) < 4 := of_decide_eq_false hd
      obtain ⟨b, o, rfl, hc⟩ := h.2 (by omega)
      have e : tabP W = if powB (W.getD 1 0) = true ∧ 4 + 2 * W.getD 1 0 ≤ W.length then W.getD 1 0 else 0 := by unfold tabP; rw [if_neg (by omega)]
      have hS1 := (St.start w).alloc #[.int .i64 0, .int .i64 0, .int .i64 0, .int .i64 0] 66
      have hS2 := hS1.over 0 rfl [.int .i64 (W.getD 0 0), .int .i64 (W.getD 1 0), .int .i64 (W.getD 2 0), .int .i64 (W.getD 3 0)] rfl
      refine ⟨by omega, needPtr_of rfl ⟨_, hc 0 (by omega), _, hc 1 (by omega), _, hc 2 (by omega), _, hc 3 (by omega), (hS1.blk 0 rfl).can (by decide), by omega, by omega, _, (hS2.blk 0 rfl).cell rfl, ?_⟩⟩
      refine Calls.mono (powP _ _) ?_
      rintro _ _ ⟨rfl, rfl⟩
      refine ⟨_, rfl, sel_of (fun hp => ?_) (fun hp => ?_)⟩
      · have hp : powB (W.getD 1 0) = false := by simpa using hp
        exact ⟨by rw [e, if_neg (by rw [hp]; simp)], hS2.frame⟩
      · have hp : powB (W.getD 1 0) = true := by simpa using hp
        have hr := powB_range hp
        refine ⟨by omega, by omega, _, (hS2.blk 0 rfl).cell rfl, ?_⟩
        rw [i64_id (x := 2 * _) (by omega) (by omega), i64_id (by omega) (by omega)]
        refine sel_of (fun hl => ?_) (fun hl => ⟨by omega, by omega, _, (hS2.blk 0 rfl).cell rfl, ?_, hS2.frame⟩)
        · have hl : (n : Int) < 4 + 2 * W.getD 1 0 := of_decide_eq_true hl
          exact ⟨by rw [e, if_neg (by omega)], hS2.frame⟩
        · have hl : ¬ (n : Int) < 4 + 2 * W.getD 1 0 := of_decide_eq_false hl
          rw [e, if_pos ⟨hp, by omega⟩]
  · rintro e w' ⟨v, rfl, rfl, h⟩; exact ⟨rfl, h⟩
theorem keyN_eq (s k : Int) : IntKind.i64.wrap (IntKind.i64.wrap (s * 4) + IntKind.i64.wrap k) = keyN s k := by
  rw [wr_add, wr_add']; rfl
theorem keyN_eq1 (s k : Int) : IntKind.i64.wrap (IntKind.i64.wrap (IntKind.i64.wrap (s * 4) + k) + 1) = keyN s (k + 1) := by
  rw [wr_add, Int.add_assoc, wr_add]; rfl
theorem lookC {w : World} {A : Option Addr} {n c : Nat} {W : List Int} (h : InW w A n W) (hn : n ≤ 1000000000) (s k : Int) :
    Calls Tryd.prog 54 #[.slice A n c, .int .i64 s, .int .i8 k] w fun e w' => e = .returned (.tuple #[.int .i64 (lookP W s k).1, .int .i64 ((lookP W s k).2 : Int)]) ∧ Fr [] w w' := by
  refine Calls.mono (f54.calls (R := fun v w' => v = .tuple #[.int .i64 (lookP W s k).1, .int .i64 ((lookP W s k).2 : Int)] ∧ Fr [] w w') ?_) ?_
  · dsimp only [f54.VC]
    have hl := h.1
    refine Calls.mono (tableC h hn) ?_
    rintro _ w1 ⟨rfl, hf1⟩
    obtain ⟨t0, t1, t2⟩ := tabP_range W
    refine ⟨_, rfl, sel_of (fun hd => ?_) (fun hd => sel_of (fun hk => ?_) (fun hk => sel_of (fun hk2 => ?_) (fun hk2 => ?_)))⟩
    · exact ⟨by unfold lookP; rw [if_pos (.inl (eq_of_beq hd))]; rfl, hf1⟩
    · exact ⟨by unfold lookP; rw [if_pos (.inr (.inl (of_decide_eq_true hk)))]; rfl, hf1⟩
    · exact ⟨by unfold lookP; rw [if_pos (.inr (.inr (of_decide_eq_true hk2)))]; rfl, hf1⟩
    · have hd : tabP W ≠ 0 := by simpa using hd
      have hk : ¬ k < 1 := of_decide_eq_false hk
      have hk2 : ¬ 3 < k := of_decide_eq_false hk2
      obtain ⟨u1, u2, u3, u4, u5⟩ := t2 hd
      have e : lookP W s k = lookGo W (tabP W).toNat (keyN s k) (kfirst (keyN s k) (tabP W).toNat) 0 (tabP W).toNat := by unfold lookP; rw [if_neg (by omega)]
      rw [e, keyN_eq]
      generalize keyN s k = key
      obtain ⟨t, ht⟩ : ∃ t : Nat, tabP W = (t : Int) := ⟨(tabP W).toNat, by omega⟩
      rw [ht] at hd t0 t1 u2 u5 ⊢
      rw [Int.toNat_natCast]
      refine Calls.mono (hashP w1 key t (by omega)) ?_
      rintro _ w2 ⟨rfl, hf2⟩
      have hf : Fr [] w w2 := hf1.trans hf2
      have hfl := kfirst_lt key (t := t) (by omega)
      have hfe := kfirst_eq key (t := t)
      rw [← hfe]
      generalize kfirst key t = f at *
      refine ⟨_, rfl, fun x y w' r => w' = w2 ∧ ∃ j : Nat, y = (j : Int) + 1 ∧ x = (((f + j) % t : Nat) : Int) ∧ j + r = t ∧ lookGo W t key f j r = lookGo W t key f 0 t, ⟨t, rfl, 0, rfl, by rw [Nat.add_zero, Nat.mod_eq_of_lt hfl], by omega, rfl⟩, ?_⟩
      rintro d x y w3 r ⟨rfl, j, rfl, rfl, hjr, hgo⟩
      have hm : (f + j) % t < t := Nat.mod_lt _ (by omega)
      refine sel_of (fun hy => ?_) (fun hy => ?_)
      · have hy : (j : Int) + 1 ≤ t := of_decide_eq_true hy
        obtain ⟨r, rfl⟩ : ∃ r', r = r' + 1 := ⟨r - 1, by omega⟩
        rw [lookGo] at hgo
        rw [step_mod f j t (by omega) (by omega) hfl]
        generalize (f + j) % t = i at *
        have e1 : IntKind.i64.wrap (4 + IntKind.i64.wrap (2 * (i : Int))) = ((4 + 2 * i : Nat) : Int) := by rw [i64_id (x := 2 * _) (by omega) (by omega), i64_id (by omega) (by omega)]; omega
        have e2 : IntKind.i64.wrap (((4 + 2 * i : Nat) : Int) + 1) = ((4 + 2 * i + 1 : Nat) : Int) := by rw [i64_id (by omega) (by omega)]; omega
        have e3 : IntKind.i64.wrap ((j : Int) + 1 + 1) = ((j + 1 : Nat) : Int) + 1 := by rw [i64_id (by omega) (by omega)]; omega
        rw [e1, e2, e3]
        refine ⟨by omega, by omega, h.need hf rfl (by omega) (sel_of (fun h1 => ?_) (fun h1 => ?_))⟩
        · have h1 : W.getD (4 + 2 * i) 0 = key := eq_of_beq h1
          rw [if_pos h1] at hgo
          refine ⟨by omega, by omega, h.need hf rfl (by omega) ⟨?_, hf⟩⟩
          rw [← hgo]; rfl
        · have h1 : ¬ W.getD (4 + 2 * i) 0 = key := beq_eq_false_iff_ne.1 h1
          rw [if_neg h1] at hgo
          refine sel_of (fun h2 => ?_) (fun h2 => ?_)
          · have h2 : W.getD (4 + 2 * i) 0 = 0 := eq_of_beq h2
            rw [if_pos h2] at hgo
            rw [← hgo]
            exact ⟨rfl, hf⟩
          · have h2 : ¬ W.getD (4 + 2 * i) 0 = 0 := beq_eq_false_iff_ne.1 h2
            rw [if_neg h2] at hgo
            exact ⟨by omega, rfl, r, by omega, rfl, j + 1, rfl, rfl, by omega, hgo⟩
      · have hy : ¬ (j : Int) + 1 ≤ t := of_decide_eq_false hy
        have : r = 0 := by omega
        subst this
        rw [lookGo] at hgo
        rw [← hgo]
        exact ⟨rfl, hf⟩
  · rintro e w' ⟨v, rfl, rfl, h⟩; exact ⟨rfl, h⟩
end PG
end Go.Proofs.YtjmlfknogjaemaaDoor
