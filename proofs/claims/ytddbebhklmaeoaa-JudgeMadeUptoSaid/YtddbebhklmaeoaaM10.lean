/- What a policy allows: who is reached, by the document. -/
import Derived.Test.YtddbebhklmaeoaaM9
import Derived.Test.YtddbebhklmaeoaaM8
set_option linter.unusedVariables false
set_option linter.unusedSimpArgs false
set_option maxRecDepth 10000
namespace Go.Proofs.Ytddbebhklmaeoaa
open Go Go.Proofs.Ytddbebhklmaeoaa.Vc
namespace JG
open Vc.PG JD
abbrev encS (s : ByteArray) : Value := .string s
theorem info9 : ∃ i, Try.prog.info? 9 = some i ∧ i.zero = some (.string ⟨#[]⟩) ∧ i.size = 1 ∧ i.bytes = 16 := ⟨Try.prog.types[9]!, by kernel_rfl, by kernel_rfl, by kernel_rfl, by kernel_rfl⟩
theorem under22 : Try.prog.underlying 22 = some (.slice 9) := by kernel_rfl
theorem appS {S : List Nat} {w0 w : World} {L : List Chunk} (h : St S w0 w L) (i : Nat) {A : Option Addr} {n c : Nat} {l : List ByteArray} (hi : L[i]? = some (Chunk.ls encS 9 (.slice A n c) l)) (a : ByteArray) (hl : l.length ≤ 40000000) :
    ∃ A' n' c' w', (Builtin.append_ #[22, 22] 22 #[.slice A n c, .slice (some ⟨w.heap.size, 0, Option.none⟩) 1 1]).run Try.prog (World.alloc w (.cells #[.string a] 9)) = .ok (.slice A' n' c') w' ∧ St S w0 w' (L.set i (Chunk.ls encS 9 (.slice A' n' c') (l ++ [a]))) := by
  obtain ⟨ti, i1, i2, i3, i4⟩ := info9
  obtain ⟨g', cap', w', h1, h2⟩ := h.app (enc := encS) (P := Try.prog) (t := 22) (ty := 22) (fun _ => rfl) under22 i1 i2 i3 rfl (by omega) i hi a hl
  exact ⟨_, _, _, w', h1, h2⟩
/-- A list written out is owned. -/
theorem sl_of_blk {w : World} {F : List Nat} {b : Nat} {T : TypeId} {s : Nat} (rs : List (List Value)) (hrs : ∀ r ∈ rs, r.length = s) (hm : rs.length ≤ maxLen) (h : (Chunk.blk b rs.flatten.toArray T).holds w F) : (Chunk.sl T s (.slice (some ⟨b, 0, none⟩) rs.length rs.length) rs).holds w F :=
  .inr ⟨b, rs.length, rfl, h.1, ⟨_, h.2, by rw [List.size_toArray, flat_len hrs], Nat.le_refl _, hm, hrs, fun i hi j hj => by rw [List.getElem?_toArray]; exact flat_get hrs i hi j hj⟩⟩
theorem sl_reads {e : Ty} (TE : TypeId) {w : World} {F : List Nat} {x : Sl} {rs : List (List Value)} {l : List (Den e)} (h : (Chunk.sl TE e.w x.v rs).holds w F) (hl : rs.length = l.length) (hr : ∀ q, q < l.length → Rd w e (rs.getD q []) (l.getD q (Den.dflt e))) : RdL e w x l := by
  obtain ⟨A, n, c⟩ := x
  rcases h with ⟨h1, h2, _⟩ | ⟨g, cap, h1, _, h2⟩
  · simp only [Value.slice.injEq] at h1
    obtain ⟨rfl, rfl, rfl⟩ := h1
    subst h2
    exact ⟨hl, Nat.le_refl _, fun hp => absurd hp (by simp)⟩
  · simp only [Value.slice.injEq] at h1
    obtain ⟨rfl, rfl, rfl⟩ := h1
    refine ⟨hl, h2.cap_le, fun hp => ⟨g, 0, rfl, fun q hq => ?_⟩⟩
    have hq : q < rs.length := hq
    have hR := hr q (by omega)
    refine ⟨_, hR, fun j v hv => ?_⟩
    have hj : j < e.w := by
      have := (List.getElem?_eq_some_iff.1 hv).1
      have := hR.len
      omega
    rw [Nat.zero_add]
    exact h2.cell hq hj rfl hv
/-- A list of plain records that is owned is read. -/
theorem lr_reads {e : Ty} (hb : flatB e = true) (TE : TypeId) {w : World} {F : List Nat} {x : Sl} {l : List (Den e)} (h : (Chunk.lr (flatV e) TE e.w x.v l).holds w F) (hf : ∀ d ∈ l, fineB e d = true) : RdL e w x l := by
  refine sl_reads TE h (by simp) fun q hq => ?_
  have e1 : (l.map (flatV e)).getD q [] = flatV e (l.getD q (Den.dflt e)) := by
    simp [List.getD_eq_getElem?_getD, hq]
  rw [e1]
  refine Rd.ofFlat hb ?_
  rw [List.getD_eq_getElem?_getD, List.getElem?_eq_getElem hq]
  exact hf _ (List.getElem_mem hq)
theorem rdS {S : List Nat} {w0 w : World} {L : List Chunk} (h : St S w0 w L) (i : Nat) {A : Option Addr} {n c : Nat} {l : List ByteArray} (hi : L[i]? = some (Chunk.ls encS 9 (.slice A n c) l)) : RdL .str w (A, n, c) l := by
  obtain ⟨F, h1, _⟩ := h.at i hi
  exact lr_reads (e := .str) rfl 9 h1 (fun _ _ => rfl)
theorem nodup_le {α : Type} [DecidableEq α] : ∀ {l r : List α}, l.Nodup → (∀ x ∈ l, x ∈ r) → l.length ≤ r.length
  | [], r, _, _ => by simp
  | a :: l, r, hn, h => by
    rw [List.nodup_cons] at hn
    have ha : a ∈ r := h a (by simp)
    obtain ⟨r1, r2, rfl⟩ := List.append_of_mem ha
    have := nodup_le (l := l) (r := r1 ++ r2) hn.2 (fun x hx => by
      have hne : x ≠ a := fun e => hn.1 (e ▸ hx)
      have := h x (by simp [hx])
      simp only [List.mem_append, List.mem_cons] at this ⊢
      rcases this with h | h | h
      · exact .inl h
      · exact absurd h hne
      · exact .inr h)
    simp only [List.length_append, List.length_cons] at this ⊢
    omega
theorem rch_in {E : List PairD} {s x : ByteArray} (h : Rch E s x) : x ∈ s :: E.map (·.2.1) := by
  cases h with
  | refl => simp
  | step q _ hq _ => exact List.mem_cons_of_mem _ (List.mem_map.2 ⟨q, hq, rfl⟩)
abbrev pd : PairD := (ByteArray.empty, ByteArray.empty, ())
theorem RdL.pair {w : World} {x : Sl} {l : List PairD} (h : RdL pairT w x l) (hp : 0 < x.2.1) : ∃ b o, x.1 = some ⟨b, o, none⟩ ∧ ∀ q, q < x.2.1 → w.cell? ⟨b, o + q * 2, none⟩ = some (.string (l.getD q pd).1) ∧ w.cell? ⟨b, o + q * 2 + 1, none⟩ = some (.string (l.getD q pd).2.1) := by
  obtain ⟨b, o, h1, h2⟩ := RdL.flat (e := pairT) rfl h hp
  exact ⟨b, o, h1, fun q hq => ⟨h2 q hq 0 _ rfl, h2 q hq 1 _ rfl⟩⟩
abbrev sd : SubjD := (ByteArray.empty, 0, ())
theorem RdL.subj {w : World} {x : Sl} {l : List SubjD} (h : RdL subjT w x l) (hp : 0 < x.2.1) : ∃ b o, x.1 = some ⟨b, o, none⟩ ∧ ∀ q, q < x.2.1 → w.cell? ⟨b, o + q * 2, none⟩ = some (.string (l.getD q sd).1) ∧ w.cell? ⟨b, o + q * 2 + 1, none⟩ = some (.float .f64 (l.getD q sd).2.1) := by
  obtain ⟨b, o, h1, h2⟩ := RdL.flat (e := subjT) rfl h hp
  exact ⟨b, o, h1, fun q hq => ⟨h2 q hq 0 _ rfl, h2 q hq 1 _ rfl⟩⟩
abbrev td : TriD := (ByteArray.empty, ByteArray.empty, ByteArray.empty, ())
theorem RdL.tri {w : World} {x : Sl} {l : List TriD} (h : RdL triT w x l) (hp : 0 < x.2.1) : ∃ b o, x.1 = some ⟨b, o, none⟩ ∧ ∀ q, q < x.2.1 → w.cell? ⟨b, o + q * 3, none⟩ = some (.string (l.getD q td).1) ∧ w.cell? ⟨b, o + q * 3 + 1, none⟩ = some (.string (l.getD q td).2.1) ∧ w.cell? ⟨b, o + q * 3 + 1 + 1, none⟩ = some (.string (l.getD q td).2.2.1) := by
  obtain ⟨b, o, h1, h2⟩ := RdL.flat (e := triT) rfl h hp
  exact ⟨b, o, h1, fun q hq => ⟨h2 q hq 0 _ rfl, h2 q hq 1 _ rfl, h2 q hq 2 _ rfl⟩⟩
end JG
end Go.Proofs.Ytddbebhklmaeoaa
/- What a policy allows, by the document. -/
set_option linter.unusedVariables false
set_option linter.unusedSimpArgs false
set_option maxRecDepth 10000
namespace Go.Proofs.Ytddbebhklmaeoaa
open Go Go.Proofs.Ytddbebhklmaeoaa.Vc
namespace JG
open Vc.PG JD
abbrev rd0 : RuleD := (false, ByteArray.empty, ByteArray.empty, [], 0, 0, ())
theorem RdL.rule {w : World} {x : Sl} {l : List RuleD} (h : RdL ruleT w x l) (hp : 0 < x.2.1) : ∃ b o, x.1 = some ⟨b, o, none⟩ ∧ ∀ q, q < x.2.1 → ∃ u : Sl, RdL .str w u (rActs (l.getD q rd0)) ∧ ∀ j v, (ruleV (l.getD q rd0) u)[j]? = some v → w.cell? ⟨b, o + q * 6 + j, none⟩ = some v := by
  obtain ⟨b, o, h1, h2⟩ := h.2.2 hp
  refine ⟨b, o, h1, fun q hq => ?_⟩
  obtain ⟨es, h3, h4⟩ := h2 q hq
  obtain ⟨u, rfl, h5, _⟩ := rd_rule.1 h3
  exact ⟨u, h5, h4⟩
end JG
end Go.Proofs.Ytddbebhklmaeoaa
