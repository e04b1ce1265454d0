/- Page: Lay, as the document does it. -/
import Derived.Test.YtjmlfknogjaemaaM21
set_option linter.unusedVariables false
set_option linter.unusedSimpArgs false
set_option maxRecDepth 10000
namespace Go.Proofs.Ytjmlfknogjaemaa
open Go Go.Proofs.Ytjmlfknogjaemaa.Vc
namespace PG
open Vc.PG NI
theorem layStep_len (s : List ByteArray × List Pz) (e : En) : (layStep s e).2.length = s.2.length := putZ_len _ _ _
theorem layGo_inv : ∀ (es : List En) (s : List ByteArray × List Pz), (∀ e ∈ es, 1 ≤ e.2.1) → fullN s.2 + es.length ≤ s.2.length → s.1.length ≤ 1048576 →
    fullN (layGo es s).2 = fullN s.2 + es.length ∧ (layGo es s).2.length = s.2.length ∧ (layGo es s).1.length ≤ 1048576
  | [], s, _, _, h => ⟨rfl, rfl, h⟩
  | e :: es, s, hk, hf, hl => by
    have h1 : fullN (layStep s e).2 = fullN s.2 + 1 := by
      refine putZ_full ?_ ?_ _
      · simp at hf; omega
      · have := hk e (by simp); omega
    have h2 := layStep_len s e
    have h3 := layGo_inv es (layStep s e) (fun x hx => hk x (by simp [hx])) (by simp at hf; omega) (of_le hl e.1)
    have e0 : layGo (e :: es) s = layGo es (layStep s e) := rfl
    rw [e0]
    refine ⟨by rw [h3.1, h1]; simp; omega, by rw [h3.2.1, h2], h3.2.2⟩
theorem ens_kind {l : List ByteArray} {k : Int} {n : List Int} (hk : 1 ≤ k) : ∀ e ∈ ensOf l k n, 1 ≤ e.2.1 := by
  intro e he
  obtain ⟨p, _, rfl⟩ := List.mem_map.1 he
  exact hk
theorem ens_len {l : List ByteArray} {k : Int} {n : List Int} (h : l.length = n.length) : (ensOf l k n).length = l.length := by simp [ensOf, h]
theorem InW.cells {F : List Nat} {w : World} {A : Option Addr} {n : Nat} {W : List Int} (h : ∀ w', Fr F w w' → InW w' A n W) (h0 : 0 < n) : ∃ b o, A = some ⟨b, o, none⟩ ∧ ∀ w', Fr F w w' → ∀ i, i < n → w'.cell? ⟨b, o + (i : Int).toNat * 1, none⟩ = some (.int .i64 (W.getD i 0)) := by
  obtain ⟨b, o, hA, _⟩ := (h w (Fr.refl _ _)).2 h0
  refine ⟨b, o, hA, fun w' hf i hi => ?_⟩
  obtain ⟨b', o', hA', hc⟩ := (h w' hf).2 h0
  rw [hA] at hA'
  injection hA' with hA'
  injection hA' with e1 e2 _
  subst e1; subst e2
  rw [Int.toNat_natCast, Nat.mul_one]
  exact hc i hi
theorem RefAt.len {w : World} {x : Nat} {l : List ByteArray} (h : RefAt w x l) : ∃ A c, w.cell? ⟨x, 0, none⟩ = some (.slice A l.length c) := by
  obtain ⟨F, hF⟩ := h
  obtain ⟨y, hS⟩ := openX (St.start1 hF)
  have hn := hS.slLen 1 rfl
  rw [List.length_map] at hn
  exact ⟨y.1, y.2.2, by rw [← hn]; exact (hS.blk 0 rfl).cell rfl⟩
theorem under26 : Try.prog.underlying 26 = some (.slice 3) := by kernel_rfl
theorem appI {S : List Nat} {w0 w : World} {L : List Chunk} (h : St S w0 w L) (i : Nat) {A : Option Addr} {n c : Nat} {l : List Int} (hi : L[i]? = some (ints (.slice A n c) l)) (a : Int) (hl : l.length ≤ 4000000) :
    ∃ A' n' c' w', (Builtin.append_ #[26, 26] 26 #[.slice A n c, .slice (some ⟨w.heap.size, 0, Option.none⟩) 1 1]).run Try.prog (World.alloc w (.cells #[.int .i64 a] 3)) = .ok (.slice A' n' c') w' ∧ St S w0 w' (L.set i (ints (.slice A' n' c') (l ++ [a]))) := by
  obtain ⟨ti, i1, i2, i3, i4⟩ := info3
  obtain ⟨g', cap', w', h1, h2⟩ := h.app (enc := encN) (P := Try.prog) (t := 26) (ty := 26) (fun _ => rfl) under26 i1 i2 i3 rfl (by omega) i hi a hl
  exact ⟨_, _, _, w', h1, h2⟩
theorem ls_of_blk {α : Type} {enc : α → Value} {e : TypeId} {b : Nat} {l : List α} (hm : l.length ≤ maxLen) {w : World} {F : List Nat} (h : (Chunk.blk b (l.map enc).toArray e).holds w F) : (Chunk.ls enc e (.slice (some ⟨b, 0, none⟩) l.length l.length) l).holds w F := by
  refine .inr ⟨b, l.length, by simp, h.1, (l.map enc).toArray, h.2, by simp, by simp, hm, by simp, fun i hi j hj => ?_⟩
  have : j = 0 := by omega
  subst this
  simp at hi
  simp [List.getD_eq_getElem?_getD, hi]
theorem take_snoc {α : Type} (d : α) (l : List α) (j : Nat) (h : j < l.length) : l.take (j + 1) = l.take j ++ [l.getD j d] := by
  rw [List.take_succ_eq_append_getElem h]
  simp [List.getD_eq_getElem?_getD, h]
theorem row_len {g : Gd} (h : validP g = true) {i : Nat} (hi : i < topOf (gF g)) : ((gM g).getD i []).length = topOf (gN g) := by
  obtain ⟨p1, p2, p3, p4, p5, p6, p7, p8, p9⟩ := valid_parts h
  exact (((shaped_iff _ _ _ _).1 p7).2 i hi).1
end PG
end Go.Proofs.Ytjmlfknogjaemaa
