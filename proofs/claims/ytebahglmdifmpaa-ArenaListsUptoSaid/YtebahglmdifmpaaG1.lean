/- ArenaLists: grown: lists that are written full and gone on with. -/
import Derived.Test.YtebahglmdifmpaaR5
import Derived.Test.YtebahglmdifmpaaS2
import Derived.Test.YtebahglmdifmpaaV12
set_option linter.unusedVariables false
set_option linter.unusedSimpArgs false
set_option maxRecDepth 10000
namespace Go.Proofs.Ytebahglmdifmpaa
open Go Go.Proofs.Ytebahglmdifmpaa.Vc
namespace GR
open PA
structure X where
  A : Option Addr
  n : Nat
  c : Nat
  M : List B
  A2 : Option Addr
  n2 : Nat
  c2 : Nat
  G : List B
instance : Inhabited X := ⟨⟨none, 0, 0, [], none, 0, 0, []⟩⟩
abbrev dX : X := ⟨none, 0, 0, [], none, 0, 0, []⟩
def hd (x : X) : List Value := [.slice x.A x.n x.c]
def hdN (x : X) : List Value := [.slice x.A2 x.n2 x.c2]
def on (x : X) : Chunk := slC (.slice x.A x.n x.c) x.M
def tw (x : X) : Chunk := Chunk.twin 96 3 (.slice x.A x.n x.c) (x.M.map AR.encB) (.slice x.A2 x.n2 x.c2) (x.G.map AR.encB)
def KK (f : X → Chunk) (v : Value) (xs : List X) (K : List Chunk) : List Chunk := Chunk.sl 83 1 v (xs.map hd) :: (xs.map f ++ K)
theorem kk_get {f : X → Chunk} {v : Value} {xs : List X} {K : List Chunk} {i : Nat} (hi : i < xs.length) : (KK f v xs K)[i + 1]? = some (f (xs.getD i dX)) := by
  unfold KK
  rw [List.getElem?_cons_succ, List.getElem?_append_left (by simpa using hi)]
  simp [List.getD_eq_getElem?_getD, hi]
theorem map_set_same {α β : Type} (f : α → β) (d : α) (xs : List α) (i : Nat) (x : α) (hi : i < xs.length) (h : f x = f (xs.getD i d)) : (xs.set i x).map f = xs.map f := by
  rw [List.map_set, h]
  apply List.ext_getElem?
  intro j
  by_cases hj : i = j
  · subst hj
    rw [List.getElem?_set_self (by simpa using hi)]
    simp [List.getD_eq_getElem?_getD, hi]
  · rw [List.getElem?_set_ne hj]
theorem kk_set {f : X → Chunk} {v : Value} {xs : List X} {K : List Chunk} {i : Nat} {x : X} (hi : i < xs.length) (h : hd x = hd (xs.getD i dX)) : (KK f v xs K).set (i + 1) (f x) = KK f v (xs.set i x) K := by
  unfold KK
  rw [map_set_same hd dX xs i x hi h, List.set_cons_succ, List.set_append_left _ _ (by simpa using hi), List.map_set]
theorem getD_set {α : Type} (d : α) (xs : List α) (i j : Nat) (x : α) (hi : i < xs.length) : (xs.set i x).getD j d = if i = j then x else xs.getD j d := by
  rw [List.getD_eq_getElem?_getD, List.getElem?_set]
  by_cases h : i = j
  · subst h; simp [hi]
  · simp [h, List.getD_eq_getElem?_getD]
def RdH (w : World) (A : Option Addr) (n : Nat) (hs : List (Option Addr × Nat × Nat)) : Prop :=
  n = hs.length ∧ (0 < n → ∃ b o, A = some ⟨b, o, none⟩ ∧ ∀ i, i < n → w.cell? ⟨b, o + i * 1, none⟩ = some (.slice (hs.getD i (none, 0, 0)).1 (hs.getD i (none, 0, 0)).2.1 (hs.getD i (none, 0, 0)).2.2))
theorem RdH.fr {w w' : World} {A : Option Addr} {n : Nat} {hs : List (Option Addr × Nat × Nat)} (h : RdH w A n hs) (hf : Fr [] w w') : RdH w' A n hs := by
  refine ⟨h.1, fun hn => ?_⟩
  obtain ⟨b, o, rfl, h2⟩ := h.2 hn
  exact ⟨b, o, rfl, fun i hi => hf.cell (h2 i hi)⟩
theorem RdB.fr {w w' : World} {A : Option Addr} {n : Nat} {L : List B} (h : RdB w A n L) (hf : Fr [] w w') : RdB w' A n L := by
  refine ⟨h.1, fun hn => ?_⟩
  obtain ⟨b, o, rfl, h2⟩ := h.2 hn
  exact ⟨b, o, rfl, fun i hi => ⟨hf.cell (h2 i hi).1, hf.cell (h2 i hi).2.1, hf.cell (h2 i hi).2.2⟩⟩
theorem rdB_holds {w : World} {F : List Nat} {A : Option Addr} {n c : Nat} {L : List B} (h : (slC (.slice A n c) L).holds w F) : RdB w A n L := rdB (St.start1 h) 0 rfl
section
variable {S : List Nat} {w0 w : World} {K : List Chunk}
theorem rdH (h : St S w0 w K) (i : Nat) {A : Option Addr} {n c : Nat} {hs : List (Option Addr × Nat × Nat)} (hi : K[i]? = some (Chunk.sl 83 1 (.slice A n c) (hs.map fun x => [Value.slice x.1 x.2.1 x.2.2]))) : RdH w A n hs := by
  have hn := h.slLen i hi
  rw [List.length_map] at hn
  refine ⟨hn, fun h0 => ?_⟩
  obtain ⟨g, hg, hc⟩ := h.slGet i hi (by simp; omega)
  refine ⟨g, 0, hg, fun j hj => ?_⟩
  have := hc j 0 (.slice (hs.getD j (none, 0, 0)).1 (hs.getD j (none, 0, 0)).2.1 (hs.getD j (none, 0, 0)).2.2) (by simp; omega) (by decide) (by
    have hj' : j < hs.length := by omega
    simp [List.getD_eq_getElem?_getD, hj'])
  rw [show 0 + j * 1 = j * 1 + 0 by omega]
  exact this
theorem rdHd {f : X → Chunk} {A : Option Addr} {n c : Nat} {xs : List X} (h : St S w0 w (KK f (.slice A n c) xs K)) : n = xs.length ∧ (0 < n → ∃ b o, A = some ⟨b, o, none⟩ ∧ ∀ i, i < n → w.cell? ⟨b, o + i * 1, none⟩ = some (.slice (xs.getD i dX).A (xs.getD i dX).n (xs.getD i dX).c)) := by
  have e : xs.map hd = (xs.map fun x => (x.A, x.n, x.c)).map fun x => [Value.slice x.1 x.2.1 x.2.2] := by rw [List.map_map]; rfl
  have h1 := rdH (hs := xs.map fun x => (x.A, x.n, x.c)) h 0 (by unfold KK; rw [e]; rfl)
  refine ⟨by simpa using h1.1, fun hn => ?_⟩
  obtain ⟨b, o, rfl, h2⟩ := h1.2 hn
  refine ⟨b, o, rfl, fun i hi => ?_⟩
  have hi' : i < xs.length := by have := h1.1; simp at this; omega
  have := h2 i hi
  simpa [List.getD_eq_getElem?_getD, hi'] using this
end
def gr (i j : Nat) : List B := (List.range j).map fun (k : Nat) => ((-100 - (i : Int) : Int), (k : Int), false)
def Marked (i : Nat) (M : List B) (m : Nat) : Prop := ∀ k, k < m → M.getD k AR.dB = ((-1 - (i : Int) : Int), (k : Int), false)
theorem info83 : ∃ i, Try.prog.info? 83 = some i ∧ i.zero = some (.slice none 0 0) ∧ i.size = 1 ∧ i.bytes = 24 := ⟨Try.prog.types[83]!, by kernel_rfl, by kernel_rfl, by kernel_rfl, by kernel_rfl⟩
theorem under78 : Try.prog.underlying 78 = some (.slice 83) := by kernel_rfl
section
variable (S : List Nat) (w0 : World) (A : Option Addr) (n c : Nat) (K : List Chunk)
def Sm (xs : List X) : Prop := ∀ j, j < xs.length → (xs.getD j dX).M.length ≤ 4000
def P1 (x : Int) (w' : World) (r : Nat) : Prop := ∃ (i : Nat) (xs : List X), x = (i : Int) ∧ i + r = n ∧ xs.length = n ∧ Sm xs ∧ (∀ j, j < i → Marked j (xs.getD j dX).M (xs.getD j dX).M.length) ∧ St S w0 w' (KK on (.slice A n c) xs K)
def P1' (i : Nat) (x : Int) (w' : World) (r : Nat) : Prop := ∃ (k : Nat) (xs : List X), x = (k : Int) ∧ k + r = (xs.getD i dX).M.length ∧ xs.length = n ∧ Sm xs ∧ (∀ j, j < i → Marked j (xs.getD j dX).M (xs.getD j dX).M.length) ∧ Marked i (xs.getD i dX).M k ∧ St S w0 w' (KK on (.slice A n c) xs K)
def Un (i : Nat) (xs : List X) : Prop := ∀ j, i ≤ j → j < xs.length → (xs.getD j dX).A2 = (xs.getD j dX).A ∧ (xs.getD j dX).n2 = (xs.getD j dX).n ∧ (xs.getD j dX).c2 = (xs.getD j dX).c ∧ (xs.getD j dX).G = (xs.getD j dX).M
def Ma (xs : List X) : Prop := ∀ j, j < xs.length → Marked j (xs.getD j dX).M (xs.getD j dX).M.length
def Do (i : Nat) (xs : List X) : Prop := ∀ j, j < i → (xs.getD j dX).G = (xs.getD j dX).M ++ gr j 64
def P2 (A5 : Option Addr) (n5 c5 : Nat) (x : Int) (w' : World) (r : Nat) : Prop := ∃ (i : Nat) (xs : List X), x = (i : Int) ∧ i + r = n ∧ xs.length = n ∧ Sm xs ∧ Ma xs ∧ Do i xs ∧ Un i xs ∧ St S w0 w' (Chunk.sl 83 1 (.slice A5 n5 c5) ((xs.take i).map hdN) :: KK tw (.slice A n c) xs K)
def P2' (i : Nat) (A5 : Option Addr) (n5 c5 : Nat) (A7 : Option Addr) (n7 c7 : Nat) (x : Int) (w' : World) (r : Nat) : Prop := ∃ (k : Nat) (xs : List X), x = (k : Int) ∧ k + r = 64 ∧ xs.length = n ∧ Sm xs ∧ Ma xs ∧ Do i xs ∧ Un (i + 1) xs ∧
  (xs.getD i dX).A2 = A7 ∧ (xs.getD i dX).n2 = n7 ∧ (xs.getD i dX).c2 = c7 ∧ (xs.getD i dX).G = (xs.getD i dX).M ++ gr i k ∧ St S w0 w' (Chunk.sl 83 1 (.slice A5 n5 c5) ((xs.take i).map hdN) :: KK tw (.slice A n c) xs K)
end
theorem grown_ {S : List Nat} {w0 w : World} {K : List Chunk} {A : Option Addr} {n c : Nat} {xs : List X} (h : St S w0 w (KK on (.slice A n c) xs K)) (hsm : Sm xs) (hx : xs.length ≤ 4000) :
    Calls Try.prog 48 #[.slice A n c] w fun e w' => e = .returned (.bool true) ∧ St S w0 w' K := by
  refine Calls.mono (f48.calls (R := fun v w' => v = .bool true ∧ St S w0 w' K) ?_) ?_
  · dsimp only [f48.VC]
    have hn := (rdHd h).1
    refine ⟨P1 S w0 A n c K, ⟨n, 0, xs, rfl, by omega, hn.symm, hsm, fun j hj => by omega, h⟩, ?_⟩
    clear h hsm
    have hn4 : n ≤ 4000 := by omega
    clear hn hx xs
    rintro d x3 w1 r ⟨i, xs, rfl, hir, hxl, hsm, hma, hS⟩
    refine sel_of (fun hd1 => ?_) (fun hd1 => ?_)
    · have hi : i < n := by have := of_decide_eq_true hd1; omega
      have hi1 : IntKind.i64.wrap ((i : Int) + 1) = ((i + 1 : Nat) : Int) := by rw [i64_id (by omega) (by omega)]; omega
      rw [hi1]
      refine ⟨P1' S w0 A n c K i, ⟨_, 0, xs, rfl, Nat.zero_add _, hxl, hsm, hma, fun k hk => by omega, hS⟩, ?_⟩
      clear hS hsm hma hxl xs hd1
      rintro d1 x4 w2 r1 ⟨k, xs, rfl, hkr, hxl, hsm, hma, hmk, hS⟩
      have hr := (rdHd hS).2
      obtain ⟨b, o, rfl, hc⟩ := hr (by omega)
      have hci := hc i hi
      have e0 : (i : Int).toNat = i := Int.toNat_natCast i
      have e1 : (k : Int).toNat = k := Int.toNat_natCast k
      have hget := kk_get (f := on) (v := .slice (some ⟨b, o, none⟩) n c) (xs := xs) (K := K) (i := i) (by omega)
      obtain ⟨x, hxe⟩ : ∃ x, x = xs.getD i dX := ⟨_, rfl⟩
      have hsx := hsm i (by omega)
      rw [← hxe] at hci hget hkr hsx hmk
      have hML := hS.slLen (i + 1) hget
      rw [List.length_map] at hML
      refine ⟨by omega, by omega, needPtr_of rfl ⟨_, _, _, by rw [e0]; exact hci, ?_⟩⟩
      refine sel_of (fun hd2 => ?_) (fun hd2 => ?_)
      · have hk : k < x.n := by have := of_decide_eq_true hd2; omega
        have hk1 : IntKind.i64.wrap ((k : Int) + 1) = ((k + 1 : Nat) : Int) := by rw [i64_id (by omega) (by omega)]; omega
        have hm1 : IntKind.i64.wrap ((-1) - (i : Int)) = -1 - (i : Int) := i64_id (by omega) (by omega)
        rw [hk1, hm1]
        obtain ⟨g, hg, hs⟩ := hS.slSet (i + 1) hget (k := k) (by simp; omega)
        obtain ⟨s1, s2⟩ := hs (AR.encB ((-1 - (i : Int) : Int), (k : Int), false)) rfl
        refine ⟨by omega, by omega, needPtr_of rfl ⟨_, _, _, by rw [e0]; exact hci, by omega, by omega, needPtr_of hg ⟨by rw [e1, Nat.zero_add]; exact s1, rfl, r1 - 1, by omega, k + 1, xs.set i { x with M := x.M.set k ((-1 - (i : Int) : Int), (k : Int), false) }, rfl, ?_, by simpa using hxl, ?_, ?_, ?_, ?_⟩⟩⟩
        · rw [getD_set dX xs i i _ (by omega), if_pos rfl]
          show k + 1 + (r1 - 1) = (x.M.set k _).length
          rw [List.length_set]; omega
        · intro j hj
          rw [List.length_set] at hj
          rw [getD_set dX xs i j _ (by omega)]
          split
          · show (x.M.set k _).length ≤ 4000
            rw [List.length_set]; omega
          · exact hsm j hj
        · intro j hj
          rw [getD_set dX xs i j _ (by omega), if_neg (by omega)]
          exact hma j hj
        · rw [getD_set dX xs i i _ (by omega), if_pos rfl]
          intro k' hk'
          show (x.M.set k _).getD k' AR.dB = _
          rw [getD_set AR.dB x.M k k' _ (by omega)]
          split
          · rename_i hkk
            subst hkk; rfl
          · exact hmk k' (by omega)
        · rw [e1, Nat.zero_add]
          have e : (x.M.map AR.encB).set k (AR.encB ((-1 - (i : Int) : Int), (k : Int), false)) = (x.M.set k ((-1 - (i : Int) : Int), (k : Int), false)).map AR.encB := by rw [List.map_set]
          rw [e] at s2
          have e2 := kk_set (f := on) (v := .slice (some ⟨b, o, none⟩) n c) (K := K) (i := i) (x := { x with M := x.M.set k ((-1 - (i : Int) : Int), (k : Int), false) }) (xs := xs) (by omega) (by rw [← hxe]; rfl)
          rw [← e2]
          exact s2
      · have hk : k = x.M.length := by have := of_decide_eq_false hd2; omega
        refine ⟨rfl, r - 1, by omega, i + 1, xs, rfl, by omega, hxl, hsm, ?_, hS⟩
        intro j hj
        rcases Nat.lt_or_ge j i with h1 | h1
        · exact hma j h1
        · have : j = i := by omega
          subst this
          rw [← hxe, ← hk]; exact hmk
    · have hi : i = n := by have := of_decide_eq_false hd1; omega
      subst hi
      have hS2 : St S w0 w1 (Chunk.sl 83 1 (.slice none 0 0) (((xs.map fun x => ({ x with A2 := x.A, n2 := x.n, c2 := x.c, G := x.M } : X)).take 0).map hdN) :: KK tw (.slice A i c) (xs.map fun x => ({ x with A2 := x.A, n2 := x.n, c2 := x.c, G := x.M } : X)) K) := by
        refine St.nil (h := ?_) 83 1
        refine hS.weak _ (by simp [KK]) ?_
        intro j hj hj' F hF
        match j with
        | 0 =>
          have : (xs.map fun x => ({ x with A2 := x.A, n2 := x.n, c2 := x.c, G := x.M } : X)).map hd = xs.map hd := by rw [List.map_map]; rfl
          simp only [KK, List.getElem_cons_zero] at hF ⊢
          rw [this]; exact hF
        | j + 1 =>
          simp only [KK, List.getElem_cons_succ] at hF ⊢
          by_cases hjx : j < xs.length
          · rw [List.getElem_append_left (by simpa using hjx)] at hF
            rw [List.getElem_append_left (by simpa using hjx)]
            simp only [List.getElem_map] at hF ⊢
            exact twin_of hF
          · rw [List.getElem_append_right (by simp; omega)] at hF
            rw [List.getElem_append_right (by simp; omega)]
            simpa using hF
      have gx : ∀ j, j < xs.length → (xs.map fun x => ({ x with A2 := x.A, n2 := x.n, c2 := x.c, G := x.M } : X)).getD j dX = { xs.getD j dX with A2 := (xs.getD j dX).A, n2 := (xs.getD j dX).n, c2 := (xs.getD j dX).c, G := (xs.getD j dX).M } := by
        intro j hj
        simp [List.getD_eq_getElem?_getD, hj]
      refine ⟨P2 S w0 A i c K, ⟨i, 0, _, rfl, Nat.zero_add _, by simpa using hxl, ?_, ?_, fun j hj => by omega, ?_, hS2⟩, ?_⟩
      · intro j hj
        rw [List.length_map] at hj
        rw [gx j hj]; exact hsm j hj
      · intro j hj
        rw [List.length_map] at hj
        rw [gx j hj]; exact hma j (by omega)
      · intro j _ hj
        rw [List.length_map] at hj
        rw [gx j hj]; exact ⟨rfl, rfl, rfl, rfl⟩
      clear hS hS2 gx hma hsm hxl hir hd1 xs
      rintro d2 A5 n5 c5 x6 w4 r2 ⟨k, xs, rfl, hkr, hxl, hsm, hma, hdo, hun, hS⟩
      have hSt := hS.tail
      have hr := (rdHd hSt).2
      refine sel_of (fun hd2 => ?_) (fun hd2 => ?_)
      · have hk : k < i := by have := of_decide_eq_true hd2; omega
        have hk1 : IntKind.i64.wrap ((k : Int) + 1) = ((k + 1 : Nat) : Int) := by rw [i64_id (by omega) (by omega)]; omega
        have hm1 : IntKind.i64.wrap ((-100) - (k : Int)) = -100 - (k : Int) := i64_id (by omega) (by omega)
        have e0 : (k : Int).toNat = k := Int.toNat_natCast k
        obtain ⟨b, o, rfl, hc⟩ := hr (by omega)
        have hci := hc k hk
        obtain ⟨u1, u2, u3, u4⟩ := hun k (Nat.le_refl _) (by omega)
        rw [hk1, hm1]
        refine ⟨by omega, by omega, needPtr_of rfl ⟨_, _, _, by rw [e0]; exact hci, P2' S w0 (some ⟨b, o, none⟩) i c K k A5 n5 c5, ⟨64, 0, xs, rfl, rfl, hxl, hsm, hma, hdo, fun j h1 h2 => hun j (by omega) h2, u1, u2, u3, by rw [u4]; simp [gr], hS⟩, ?_⟩⟩
        clear hS hSt hr hc hci hun hdo hma hsm hxl u1 u2 u3 u4 xs
        rintro d3 A7 n7 c7 x8 w5 r3 ⟨j, xs, rfl, hjr, hxl, hsm, hma, hdo, hun, v1, v2, v3, v4, hS⟩
        have hget : (Chunk.sl 83 1 (.slice A5 n5 c5) ((xs.take k).map hdN) :: KK tw (.slice (some ⟨b, o, none⟩) i c) xs K)[k + 2]? = some (tw (xs.getD k dX)) := kk_get (f := tw) (v := .slice (some ⟨b, o, none⟩) i c) (by omega)
        obtain ⟨x, hxe⟩ : ∃ x, x = xs.getD k dX := ⟨_, rfl⟩
        have hsx := hsm k (by omega)
        rw [← hxe] at hget v1 v2 v3 v4 hsx
        subst v1 v2 v3
        refine sel_of (fun hd3 => ?_) (fun hd3 => ?_)
        · have hj : j < 64 := by have := of_decide_eq_true hd3; omega
          have hj1 : IntKind.i64.wrap ((j : Int) + 1) = ((j + 1 : Nat) : Int) := by rw [i64_id (by omega) (by omega)]; omega
          rw [hj1]
          have hS6 := hS.alloc #[.int .i64 (-100 - (k : Int)), .int .i64 (j : Int), .bool false] 96
          obtain ⟨bi, b1, b2, b3, b4⟩ := AR.info96
          have hGl : x.G.length ≤ 4064 := by rw [v4]; simp [gr]; omega
          obtain ⟨g', cap', w', hrun, hS7⟩ := hS6.twinAppend (k + 3) (P := Try.prog) (ty := 83) (r := AR.encB ((-100 - (k : Int) : Int), (j : Int), false)) AR.under83 b1 b2 b3 rfl (by decide) (by simpa [tw] using hget) (hS6.blk 0 rfl) rfl rfl
            (by intro u hu; simp [AR.encB] at hu; rcases hu with rfl | rfl | rfl <;> rfl) (by rw [b4]; simp; omega) (by simp [maxLen]; omega)
          refine ⟨_, _, _, _, hrun, rfl, r3 - 1, by omega, j + 1, xs.set k { x with A2 := some ⟨g', 0, none⟩, n2 := (x.G.map AR.encB).length + 1, c2 := cap', G := x.G ++ [((-100 - (k : Int) : Int), (j : Int), false)] }, rfl, by omega, by simpa using hxl, ?_, ?_, ?_, ?_, ?_, ?_, ?_, ?_, ?_⟩
          · intro q hq
            rw [List.length_set] at hq
            rw [getD_set dX xs k q _ (by omega)]
            split
            · exact hsx
            · exact hsm q hq
          · intro q hq
            rw [List.length_set] at hq
            rw [getD_set dX xs k q _ (by omega)]
            split
            · rename_i hkq; subst hkq
              have := hma k hq
              rw [← hxe] at this; exact this
            · exact hma q hq
          · intro q hq
            rw [getD_set dX xs k q _ (by omega), if_neg (by omega)]
            exact hdo q hq
          · intro q hq1 hq
            rw [List.length_set] at hq
            rw [getD_set dX xs k q _ (by omega), if_neg (by omega)]
            exact hun q hq1 hq
          · rw [getD_set dX xs k k _ (by omega), if_pos rfl]
          · rw [getD_set dX xs k k _ (by omega), if_pos rfl]
          · rw [getD_set dX xs k k _ (by omega), if_pos rfl]
          · rw [getD_set dX xs k k _ (by omega), if_pos rfl]
            show x.G ++ _ = x.M ++ gr k (j + 1)
            rw [v4, List.append_assoc]
            simp [gr, List.range_succ]
          · have e : x.G.map AR.encB ++ [AR.encB ((-100 - (k : Int) : Int), (j : Int), false)] = (x.G ++ [((-100 - (k : Int) : Int), (j : Int), false)]).map AR.encB := by simp
            rw [e] at hS7
            have e2 := kk_set (f := tw) (v := .slice (some ⟨b, o, none⟩) i c) (K := K) (i := k) (x := { x with A2 := some ⟨g', 0, none⟩, n2 := (x.G.map AR.encB).length + 1, c2 := cap', G := x.G ++ [((-100 - (k : Int) : Int), (j : Int), false)] }) (xs := xs) (by omega) (by rw [← hxe]; rfl)
            rw [← e2, List.take_set_of_le (Nat.le_refl k)]
            exact hS7.tail
        · have hj : j = 64 := by have := of_decide_eq_false hd3; omega
          subst hj
          have hS6 := hS.alloc #[.slice x.A2 x.n2 x.c2] 83
          obtain ⟨bi, b1, b2, b3, b4⟩ := info83
          obtain ⟨g', cap', w', hrun, hS7⟩ := hS6.append (P := Try.prog) (ty := 78) (r := [.slice x.A2 x.n2 x.c2]) 1 under78 b1 b2 b3 rfl (by decide) rfl (hS6.blk 0 rfl) rfl rfl (by intro u hu; simp at hu; subst hu; rfl) (by rw [b4]; simp; omega) (by simp [maxLen]; omega)
          refine ⟨_, _, _, _, hrun, rfl, r2 - 1, by omega, k + 1, xs, rfl, by omega, hxl, hsm, hma, ?_, hun, ?_⟩
          · intro q hq
            rcases Nat.lt_or_ge q k with h1 | h1
            · exact hdo q h1
            · have : q = k := by omega
              subst this
              rw [← hxe]; exact v4
          · have e : (xs.take (k + 1)).map hdN = (xs.take k).map hdN ++ [[.slice x.A2 x.n2 x.c2]] := by
              rw [List.take_succ_eq_append_getElem (by omega), List.map_append]
              have : xs[k] = x := by rw [hxe]; simp [List.getD_eq_getElem?_getD, show k < xs.length by omega]
              rw [this]; rfl
            rw [e]
            exact hS7.tail
      · have hk : k = i := by have := of_decide_eq_false hd2; omega
        subst hk
        have hm := rdH (hs := xs.map fun x => (x.A2, x.n2, x.c2)) hS 0 (by
          rw [List.take_of_length_le (by omega)]
          have e : xs.map hdN = (xs.map fun x => (x.A2, x.n2, x.c2)).map fun x => [Value.slice x.1 x.2.1 x.2.2] := by rw [List.map_map]; rfl
          rw [e]; rfl)
        have hn5 : n5 = k := by have := hm.1; simp at this; omega
        have reads : ∀ j, j < k → RdB w4 (xs.getD j dX).A (xs.getD j dX).n (xs.getD j dX).M ∧ RdB w4 (xs.getD j dX).A2 (xs.getD j dX).n2 (xs.getD j dX).G := by
          intro j hj
          obtain ⟨F, hF, _⟩ := hSt.at (j + 1) (kk_get (f := tw) (v := .slice A k c) (by omega))
          obtain ⟨F1, h1⟩ := twin_old hF
          obtain ⟨F2, h2⟩ := twin_new hF
          exact ⟨rdB_holds h1, rdB_holds h2⟩
        refine ⟨fun x w' r => ∃ j : Nat, x = (j : Int) ∧ j + r = k ∧ Fr [] w4 w', ⟨k, 0, rfl, by omega, Fr.refl _ _⟩, ?_⟩
        rintro d4 x9 w10 r4 ⟨j, rfl, hjr, hf⟩
        refine sel_of (fun hd4 => ?_) (fun hd4 => ⟨rfl, ?_⟩)
        · have hj : j < k := by have := of_decide_eq_true hd4; omega
          obtain ⟨b, o, rfl, hc⟩ := hr (by omega)
          obtain ⟨b', o', rfl, hc'⟩ := hm.2 (by omega)
          have hcj := hc j hj
          have hcj' := hc' j (by omega)
          have ex : (xs.map fun x => (x.A2, x.n2, x.c2)).getD j (none, 0, 0) = ((xs.getD j dX).A2, (xs.getD j dX).n2, (xs.getD j dX).c2) := by
            have : j < xs.length := by omega
            simp [List.getD_eq_getElem?_getD, this]
          rw [ex] at hcj'
          dsimp only at hcj'
          obtain ⟨ro, rn⟩ := reads j hj
          have hmj := hma j (by omega)
          have hdj := hdo j hj
          have hsj := hsm j (by omega)
          generalize xs.getD j dX = x at *
          have hMn := ro.1
          have hGn := rn.1
          have hGl : x.n2 = x.n + 64 := by rw [hGn, hdj, hMn]; simp [gr]
          have e0 : (j : Int).toNat = j := Int.toNat_natCast j
          have hj1 : IntKind.i64.wrap ((j : Int) + 1) = ((j + 1 : Nat) : Int) := by rw [i64_id (by omega) (by omega)]; omega
          have hm1 : IntKind.i64.wrap ((-1) - (j : Int)) = -1 - (j : Int) := i64_id (by omega) (by omega)
          have hm2 : IntKind.i64.wrap ((-100) - (j : Int)) = -100 - (j : Int) := i64_id (by omega) (by omega)
          rw [hj1, hm1, hm2]
          refine ⟨by omega, by omega, needPtr_of rfl ⟨_, _, _, by rw [e0]; exact hf.cell hcj, ?_⟩⟩
          refine ⟨fun y w' r => ∃ q : Nat, y = (q : Int) ∧ q + r = x.n2 ∧ Fr [] w4 w', ⟨x.n2, 0, rfl, by omega, hf⟩, ?_⟩
          rintro d5 x11 w11 r5 ⟨q, rfl, hqr, hf⟩
          refine ⟨by omega, by omega, needPtr_of rfl ⟨_, _, _, by rw [e0]; exact hf.cell hcj', ?_⟩⟩
          have e1 : (q : Int).toNat = q := Int.toNat_natCast q
          refine sel_of (fun hd5 => ?_) (fun hd5 => ⟨rfl, r4 - 1, by omega, j + 1, rfl, by omega, hf⟩)
          have hq : q < x.n2 := by have := of_decide_eq_true hd5; omega
          have hq1 : IntKind.i64.wrap ((q : Int) + 1) = ((q + 1 : Nat) : Int) := by rw [i64_id (by omega) (by omega)]; omega
          rw [hq1]
          obtain ⟨bg, og, hAg, hcg⟩ := rn.2 (by omega)
          obtain ⟨g1, g2, g3⟩ := hcg q hq
          refine sel_of (fun hd6 => ?_) (fun hd6 => ?_)
          · have hqn : q < x.n := by have := of_decide_eq_true hd6; omega
            obtain ⟨bo, oo, hAo, hco⟩ := ro.2 (by omega)
            obtain ⟨o1, o2, o3⟩ := hco q hqn
            have hv := hmj q (by omega)
            have hv2 : x.G.getD q AR.dB = x.M.getD q AR.dB := by
              rw [hdj, List.getD_eq_getElem?_getD, List.getElem?_append_left (by omega), ← List.getD_eq_getElem?_getD]
            rw [hv2] at g1 g2 g3
            refine ⟨by omega, by omega, needPtr_of rfl ⟨_, _, _, by rw [e0]; exact hf.cell hcj, by omega, by omega, needPtr_of hAo ⟨_, by rw [e1]; exact hf.cell o1, _, by rw [e1]; exact hf.cell o2, _, by rw [e1]; exact hf.cell o3, _, neqB _ _ _ _ _ _ _ _, ?_⟩⟩⟩
            refine sel_false (by rw [hv]; simp) ⟨by omega, by omega, needPtr_of rfl ⟨by omega, by omega, needPtr_of rfl ⟨_, _, _, by rw [e0]; exact hf.cell hcj', by omega, by omega, needPtr_of hAg ⟨_, by rw [e1]; exact hf.cell g1, _, by rw [e1]; exact hf.cell g2, _, by rw [e1]; exact hf.cell g3, _, _, _, by rw [e0]; exact hf.cell hcj, by omega, by omega, needPtr_of hAo ⟨_, by rw [e1]; exact hf.cell o1, _, by rw [e1]; exact hf.cell o2, _, by rw [e1]; exact hf.cell o3, _, neqB _ _ _ _ _ _ _ _, ?_⟩⟩⟩⟩⟩
            exact sel_false (by simp) (sel_false (decide_eq_false (by omega)) ⟨rfl, r5 - 1, by omega, q + 1, rfl, by omega, hf.drew⟩)
          · have hqn : ¬ q < x.n := by have := of_decide_eq_false hd6; omega
            have hv : x.G.getD q AR.dB = ((-100 - (j : Int) : Int), ((q - x.n : Nat) : Int), false) := by
              rw [hdj, List.getD_eq_getElem?_getD, List.getElem?_append_right (by omega)]
              have : q - x.M.length < 64 := by omega
              simp [gr, this, hMn]
            have hq2 : IntKind.i64.wrap ((q : Int) - (x.n : Int)) = ((q - x.n : Nat) : Int) := by rw [i64_id (by omega) (by omega)]; omega
            rw [hv] at g1 g2 g3
            rw [hq2]
            refine sel_true (decide_eq_true (by omega)) ⟨by omega, by omega, needPtr_of rfl ⟨_, _, _, by rw [e0]; exact hf.cell hcj', by omega, by omega, needPtr_of hAg ⟨_, by rw [e1]; exact hf.cell g1, _, by rw [e1]; exact hf.cell g2, _, by rw [e1]; exact hf.cell g3, _, neqB _ _ _ _ _ _ _ _, ?_⟩⟩⟩
            exact sel_false (by simp) ⟨rfl, r5 - 1, by omega, q + 1, rfl, by omega, hf.drew⟩
        · have hS9 := hS.go hf
          have : K = (Chunk.sl 83 1 (.slice A5 n5 c5) ((xs.take k).map hdN) :: KK tw (.slice A k c) xs K).drop (2 + xs.length) := by
            simp [KK, Nat.add_comm 2]
          refine hS9.pick K (· + (2 + xs.length)) ?_ ?_
          · intro a ch hch
            rw [this, List.getElem?_drop] at hch
            rw [Nat.add_comm]; exact hch
          · intro a b _ _ hab
            omega
  · rintro e w' ⟨v, rfl, rfl, h⟩; exact ⟨rfl, h⟩
end GR
end Go.Proofs.Ytebahglmdifmpaa
