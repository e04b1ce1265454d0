/-
  CREW: a region that asks the tape for its order, whose last operations (a call among them) have but one order: the others by the kit's laws, the last ones by hand.
-/
import Derived.Test.YtplndihadjfliaaM16
import Derived.Conc.CompanyDraw
import Derived.Test.YtplndihadjfliaaM15
import Derived.Laws.MakeOwn
set_option linter.unusedSimpArgs false
set_option linter.unusedVariables false
namespace Go.Proofs.Ytplndihadjfliaa.Mix
open Go Go.Conc Go.ConcN Go.Proofs

def marks (K : List Nat) (L : Array Bool) : Array Bool := K.foldl (fun l i => l.setIfInBounds i true) L
/-- Up to n operations more the tape's choices are the same whether K is taken for done or not; then K comes, in this order. -/
def goodL (md : Region.Mode) (ops : Array Oper) (K : List Nat) : Nat → Array Bool → Bool
  | 0, L => chain md ops K L
  | n + 1, L => Region.ready md ops L == Region.ready md ops (marks K L) && !(Region.ready md ops L).isEmpty && (Region.ready md ops L).all fun i => (marks K (L.setIfInBounds i true) == (marks K L).setIfInBounds i true) && goodL md ops K n (L.setIfInBounds i true)
where
  chain (md : Region.Mode) (ops : Array Oper) : List Nat → Array Bool → Bool
    | [], L => (Region.ready md ops L).isEmpty
    | i :: r, L => Region.ready md ops L == [i] && chain md ops r (L.setIfInBounds i true)

section
variable {md : Region.Mode} {ops : Array Oper} {K : List Nat}
theorem lin_next {fuel t : Nat} {L : Array Bool} (h : Region.ready md ops L ≠ []) : ∃ i ∈ Region.ready md ops L, (Region.ready md ops L)[t % (Region.ready md ops L).length]? = some i ∧ Region.linearise.go md ops (fuel + 1) t L [] = i :: Region.linearise.go md ops fuel (t / (Region.ready md ops L).length) (L.setIfInBounds i true) [] := by
  have hlt : t % (Region.ready md ops L).length < (Region.ready md ops L).length := Nat.mod_lt _ (List.length_pos_iff.2 h)
  refine ⟨(Region.ready md ops L)[t % (Region.ready md ops L).length], List.getElem_mem hlt, List.getElem?_eq_getElem hlt, ?_⟩
  simp only [Region.linearise.go]
  change (match (Region.ready md ops L)[t % (Region.ready md ops L).length]? with
    | some i => Region.linearise.go md ops fuel (t / (Region.ready md ops L).length) (L.setIfInBounds i true) [i]
    | none => [].reverse) = _
  rw [List.getElem?_eq_getElem hlt]
  simp only []
  rw [linearise_go_acc, List.reverse_singleton, List.singleton_append]
theorem lin_end {fuel t : Nat} {L : Array Bool} (h : Region.ready md ops L = []) : Region.linearise.go md ops fuel t L [] = [] := by
  cases fuel with
  | zero => rfl
  | succ fuel =>
    simp only [Region.linearise.go]
    change (match (Region.ready md ops L)[t % (Region.ready md ops L).length]? with
      | some i => Region.linearise.go md ops fuel (t / (Region.ready md ops L).length) (L.setIfInBounds i true) [i]
      | none => [].reverse) = _
    rw [h]; rfl
theorem lin_chain : ∀ (K : List Nat) (L : Array Bool) (t : Nat), goodL.chain md ops K L = true → Region.linearise.go md ops K.length t L [] = K
  | [], L, t, h => rfl
  | i :: r, L, t, h => by
    simp only [goodL.chain, Bool.and_eq_true, beq_iff_eq] at h
    obtain ⟨j, hj, _, h2⟩ := lin_next (md := md) (ops := ops) (fuel := r.length) (t := t) (L := L) (by rw [h.1]; simp)
    rw [h.1] at hj h2
    obtain rfl : j = i := by simpa using hj
    rw [List.length_cons, h2, lin_chain r _ _ h.2]
theorem lin_split : ∀ (n t : Nat) (L : Array Bool), goodL md ops K n L = true → Region.linearise.go md ops (n + K.length) t L [] = Region.linearise.go md ops n t (marks K L) [] ++ K
  | 0, t, L, h => by rw [Nat.zero_add, lin_chain K L t h]; rfl
  | n + 1, t, L, h => by
    simp only [goodL, Bool.and_eq_true, beq_iff_eq, List.all_eq_true, Bool.not_eq_true', List.isEmpty_eq_false_iff] at h
    obtain ⟨⟨h1, h2⟩, h3⟩ := h
    obtain ⟨i, hi, e1, e2⟩ := lin_next (md := md) (ops := ops) (fuel := n + K.length) (t := t) (L := L) h2
    obtain ⟨i', hi', e1', e2'⟩ := lin_next (md := md) (ops := ops) (fuel := n) (t := t) (L := marks K L) (by rw [← h1]; exact h2)
    rw [← h1] at e1' e2'
    rw [e1] at e1'
    cases e1'
    obtain ⟨h4, h5⟩ := h3 i hi
    have e3 : n + 1 + K.length = n + K.length + 1 := by omega
    rw [e3, e2, e2', lin_split n _ _ h5, h4]
    rfl
end

section
variable {P : Program} {main : Bool} {R : World → World → Prop} {D : World → World → Array Event → Prop} {fn : FuncId} {ops : Array Oper} {Q Q' : Exit → Act → World → Prop} {md : Region.Mode} {S : World → Prop} {K : List Nat} {m : Nat}
theorem anyCH_tail (T : Terms R D) (htail : ∀ a w, Q' .normal a w → OpsC P main R D fn ops K m Q a w) : ∀ (fuel t : Nat) (L : Array Bool) (a : Act) (w : World), AnyCH P R D fn md ops Q' S fuel L a w → OpsC P main R D fn ops (Region.linearise.go md ops fuel t L [] ++ K) (fuel + m) Q a w := by
  intro fuel
  induction fuel with
  | zero => intro t L a w h; rw [Nat.zero_add]; exact htail a w h.2
  | succ fuel ih =>
    intro t L a w h
    obtain ⟨h₀, h₁⟩ := h
    by_cases hr : Region.ready md ops L = []
    · rw [lin_end hr]
      exact opsC_more (htail a w (h₀ hr)) (by omega)
    · obtain ⟨i, hi, _, e⟩ := lin_next (md := md) (ops := ops) (fuel := fuel) (t := t) (L := L) hr
      rw [e]
      have e2 : fuel + 1 + m = (fuel + m) + 1 := by omega
      rw [e2]
      exact opsC_of_opC T (OpC_mono (fun a' w' x => ih _ _ a' w' x.2) (h₁ i hi))
/-- THE BEGINNING of such a region. -/
theorem wpC_region_tail (T : Terms R D) (hd : LetsDraw D) {id n : Nat} {a : Act} {w : World} (hm : P.follows .mixedOrders = true) (hn : ops.size = n + K.length) (hg : goodL .any ops K n (Array.replicate ops.size false) = true)
    (h : ∀ w₁, R w w₁ → AnyCH P R D fn .any ops Q' S n (marks K (Array.replicate ops.size false)) a { w₁ with drawn := w₁.drawn + 1 }) (htail : ∀ a w, Q' .normal a w → OpsC P main R D fn ops K m Q a w) :
    (Code.region id ops true).wpC P main R D fn (n + m + 1) Q a w :=
  wpC_region_draw hd fun w₁ h₁ t => by
    simp only [Region.schedule, hm, Bool.true_or, if_true, Region.linearise]
    have e := lin_split (md := .any) (ops := ops) (K := K) n t (Array.replicate ops.size false) hg
    have e3 := anyCH_tail (main := main) T htail n t _ a _ (h w₁ h₁)
    rw [← e, ← hn] at e3
    exact e3
end

end Go.Proofs.Ytplndihadjfliaa.Mix
/-
  CREW: a list of lists that grows.
-/
set_option linter.unusedSimpArgs false
set_option linter.unusedVariables false
set_option maxHeartbeats 2000000
namespace Go.Proofs.Ytplndihadjfliaa.Mix
open Go Go.Conc Go.ConcN Go.Proofs Go.RowKit
open Go.ConcR (KK wgBlock WgAt stA smA rd wr mk)
theorem Try.info22 : (Try.prog.info? 22).map (fun i => (i.zero, i.size, i.bytes)) = some (some (.slice none 0 0), 1, 24) := by kernel_rfl

/-- A row of the call's own under the others' doing. -/
theorem own_relyL {ty : TypeId × Bool} {Wg : Nat} {ch : List Nat} {w w₁ : World} {lo n : Nat} {v : Value} {xs : List Value} (h : w.ownsRow lo 22 1 v n xs) (hn : ∀ k, v.ownBlock = some k → k ∉ ch) (r : RC ty Wg ch w w₁) : w₁.ownsRow lo 22 1 v n xs := by
  refine ⟨h.1, ?_⟩
  rcases h.2 with h0 | ⟨g, cp, cur, rfl, hg, hh, x⟩
  · exact .inl h0
  · exact .inr ⟨g, cp, cur, rfl, hg, (r.block g (hn g rfl)).trans hh, x⟩
theorem own_growsL {ch : List Nat} {but : Option Nat} {w w₁ : World} {lo n : Nat} {v : Value} {xs : List Value} (h : w.ownsRow lo 22 1 v n xs) (hn : ∀ k, v.ownBlock = some k → k ∉ ch ∧ some k ≠ but) (r : Grows ch but w w₁) : w₁.ownsRow lo 22 1 v n xs := by
  refine ⟨h.1, ?_⟩
  rcases h.2 with h0 | ⟨g, cp, cur, rfl, hg, hh, x⟩
  · exact .inl h0
  · exact .inr ⟨g, cp, cur, rfl, hg, (r.block g (Array.getElem?_eq_some_iff.1 hh).1 (hn g rfl).1 (hn g rfl).2).trans hh, x⟩
theorem own_baseL {w : World} {lo lo' n : Nat} {v : Value} {xs : List Value} (h : w.ownsRow lo 22 1 v n xs) (hn : ∀ k, v.ownBlock = some k → lo' ≤ k) : w.ownsRow lo' 22 1 v n xs := by
  refine ⟨h.1, ?_⟩
  rcases h.2 with h0 | ⟨g, cp, cur, rfl, hg, x⟩
  · exact .inl h0
  · exact .inr ⟨g, cp, cur, rfl, hn g rfl, x⟩
/-- What an append of some values does. -/
theorem app_casesL {w : World} {lo : Nat} {out : Value} {xs : List Value} (hown : w.ownsRow lo 22 1 out xs.length xs) (hlo : lo ≤ w.heap.size) (ty : TypeId) (a : Addr) (m c : Nat) (news : List Value) (hl : news.length = m) (hnews : ∀ j u, news[j]? = some u → w.cell? (a.add j) = some u)
    (h1 : ∀ u ∈ news, u.oneCell' = true) (hm : 0 < m) (hlen : (xs.length + m) * 24 ≤ 140737488355328) :
    (∃ v' w', (Builtin.append_ #[28, 28] ty #[out, .slice (some a) m c]).run Try.prog w = .ok v' w' ∧ w'.ownsRow lo 22 1 v' (xs.length + m) (xs ++ news) ∧
      ((∃ g cap, out = .slice (some ⟨g, 0, none⟩) xs.length cap ∧ v' = .slice (some ⟨g, 0, none⟩) (xs.length + m) cap ∧ w.grownBy w' (some g)) ∨ (∃ cap', v' = .slice (some ⟨w.heap.size, 0, none⟩) (xs.length + m) cap' ∧ w.grownBy w' none))) ∧
    ∀ ev ∈ (Builtin.append_ #[28, 28] ty #[out, .slice (some a) m c]).events Try.prog w #[], (∃ ad, ev.loc = .cell ad ∧ ((ev.write = false ∧ ad.block = a.block) ∨ some ad.block = out.ownBlock)) ∨ ∃ m, ev = ⟨.mark m, false, true⟩ ∧ Conc.Neutral m := by
  obtain ⟨i0, hi, hz0, hz1, hz2⟩ := info_parts Try.info22
  have hl' : news.length = m * 1 := by omega
  have h63 : xs.length + m ≤ maxLen := by simp only [maxLen]; omega
  refine ⟨?_, events_append_where (P := Try.prog) w lo 28 ty 22 i0 (.slice none 0 0) 1 24 Try.underlying28 hi hz0 hz1 hz2 out xs.length xs hown a m c news hl' hnews h1 h63 hlen⟩
  obtain ⟨v', w', hr, hown', hgrow, _⟩ := run_append_own (P := Try.prog) w lo 28 ty 22 i0 (.slice none 0 0) 1 24 Try.underlying28 hi hz0 hz1 hz2 rfl (by decide) out xs.length xs hown a m c news hl' hnews h1 h63 hlen hlo
  refine ⟨v', w', hr, hown', ?_⟩
  rcases hown.2 with ⟨rfl, h0⟩ | ⟨g, cap, cur, rfl, hbg, hg, hnc, hcm, hcs, htake⟩
  · have hx : xs = [] := List.eq_nil_of_length_eq_zero h0
    subst hx
    have hr' := run_append_nil (P := Try.prog) w 28 ty 22 i0 (.slice none 0 0) Try.underlying28 hi hz0 a m c news (by rw [hz1]; exact hl') hnews hm (by simp only [maxLen] at h63; simp at hlen; omega) (by rw [hz2]; simp at hlen; omega)
    rw [hr] at hr'
    cases hr'
    exact .inr ⟨grownCap w m 0 22, by simp, ⟨rfl, rfl, rfl, by simp, fun k hk _ => heap_alloc_old w.drew _ k hk⟩⟩
  · by_cases hroom : xs.length + m ≤ cap
    · obtain ⟨w2, hr', ho', hg'⟩ := run_append_fits (P := Try.prog) w lo 28 ty 22 i0 1 Try.underlying28 hi hz1 g xs.length cap xs hown a m c news hl' hnews h1 hroom
      rw [hr] at hr'
      cases hr'
      exact .inl ⟨g, cap, rfl, rfl, hg'⟩
    · have holds : ∀ j u, xs[j]? = some u → w.cell? ((⟨g, 0, none⟩ : Addr).add j) = some u := hown.cells (g := g) rfl
      have hr' := run_append_grow (P := Try.prog) w 28 ty 22 i0 (.slice none 0 0) Try.underlying28 hi hz0 ⟨g, 0, none⟩ xs.length cap xs (by rw [hz1]; omega) holds a m c news (by rw [hz1]; exact hl') hnews (by omega) (by simp only [maxLen] at h63; omega) (growslice_fits (by omega) (by rw [hz2]; exact hlen))
      rw [hr] at hr'
      cases hr'
      exact .inr ⟨_, rfl, ⟨rfl, rfl, rfl, by simp, fun k hk _ => heap_alloc_old w.drew _ k hk⟩⟩

/-- What a push has done. -/
structure PushL (ch : List Nat) (lo : Nat) (out : Value) (xs : List Value) (x : Value) (w : World) (v' : Value) (w' : World) : Prop where
  g : Grows ch out.ownBlock w w'
  own : w'.ownsRow lo 22 1 v' (xs ++ [x]).length (xs ++ [x])
  how : (∃ g cap, out = .slice (some ⟨g, 0, none⟩) xs.length cap ∧ v' = .slice (some ⟨g, 0, none⟩) (xs.length + 1) cap) ∨ ((∃ g, v'.ownBlock = some g ∧ w.heap.size ≤ g) ∧ Grows ch none w w')
  nch : ∀ k, v'.ownBlock = some k → k ∉ ch

section
variable {ty : TypeId × Bool} {Wg : Nat} {T ch GG : List Nat} {Stop : Goroutine → World → Prop} {b : Frame} {a : Act} {k : List Item} {cs : List Frame} {ops : Array Oper} {i i' : Nat} {rest : List Nat} {o o' : Oper} {n : Nat} {w : World}

/-- 'l = append(l, x)': the literal, then the append. -/
theorem goes_pushL (hwg : ty.2 = true → Wg ∈ ch) (hG : ∀ b ∈ GG, b ∈ ch) {x : Operand} {s : Operand} {d : Nat} {out u : Value} {lo : Nat} {xs : List Value} (hk : b.kind ≠ .early)
    (ho : ops[i]? = some o) (hw : Region.wanted o (yielded ops a.tmps) = true) (hop : o.op = .buildSlice 28 1 #[(0, x)]) (hd : o.dst = some d) (hx : a.eval x = u) (hone : ∃ a n c, u = .slice a n c)
    (ho' : ops[i']? = some o') (hw' : ∀ v, Region.wanted o' (yielded ops (a.put (some d) v).tmps) = true) (hop' : o'.op = .call { callee := .builtin .append, args := #[s, .tmp d], argTypes := #[28, 28] }) (hs : ∀ v, (a.put (some d) v).eval s = out) (hdd : ∀ v, (a.put (some d) v).eval (.tmp d) = v)
    (hown : w.ownsRow lo 22 1 out xs.length xs) (hlo : lo ≤ w.heap.size) (hlen : (xs.length + 1) * 24 ≤ 140737488355328) (hnc : ∀ k, out.ownBlock = some k → k ∉ ch ∧ k ∉ T) (hT : ∀ b ∈ T, b < w.heap.size) (hch : ∀ b ∈ ch, b < w.heap.size)
    (next : ∀ v v' w', PushL ch lo out xs u w v' w' → (ty.2 = true → WgLive ty.1 Wg w → WgLive ty.1 Wg w') → Goes Try.prog true (RC ty Wg ch) (DM ty Wg T ch GG) Stop n (G (b.at ((a.put (some d) v).put o'.dst v') (.inRegion ops rest :: k)) cs) w') :
    Goes Try.prog true (RC ty Wg ch) (DM ty Wg T ch GG) Stop (n + 2) (G (b.at a (.inRegion ops (i :: i' :: rest) :: k)) cs) w := by
  obtain ⟨us, un, uc, rfl⟩ := hone
  refine Goes.step rfl (fun w₁ h₁ => ?_)
  have hown1 := own_relyL hown (fun k hk => (hnc k hk).1) h₁
  have hr1 : (execOp a.eval o).run Try.prog w₁ = .ok (.value (.slice (some ⟨w₁.heap.size, 0, none⟩) 1 1)) (w₁.alloc (.cells #[.slice us un uc] 22)) ∧ (execOp a.eval o).events Try.prog w₁ #[] = #[] := by
    constructor
    · simp only [execOp, hop, List.map_toArray, List.map_cons, List.map_nil, hx]
      simp [go_sem]
    · simp only [execOp, hop, List.map_toArray, List.map_cons, List.map_nil, hx]
      simp [go_sem]
  have hsz := h₁.size
  have hstep := stepG_value (P := Try.prog) (main := true) (k := k) (cs := cs) (rest := i' :: rest) ho hw hk hr1.1
  rw [hstep, hd]
  simp only [goes_go]
  have hl1 : listed Try.prog b.fn a o w₁ = #[] := listed_nil hr1.2
  rw [hl1]
  have hD1 : DM ty Wg T ch GG w₁ (w₁.alloc (.cells #[.slice us un uc] 22)) #[] := DM_of hwg (fun b hb => Below.heap_alloc _ _ _ (by have := hT b hb; omega)) (fun b hb => Below.heap_alloc _ _ _ (by have := hch b hb; omega)) (by simp) (by simp)
  refine ⟨hD1, ?_⟩
  have hnew : (w₁.alloc (.cells #[.slice us un uc] 22)).heap[w₁.heap.size]? = some (.cells #[.slice us un uc] 22) := heap_alloc_new w₁ _
  have hown2 := hown1.alloc (.cells #[.slice us un uc] 22)
  have hns : w₁.heap.size ∉ ch := fun h => by have := hch _ h; omega
  refine Goes.step rfl (fun w₂ h₂ => ?_)
  have hown3 := own_relyL hown2 (fun k hk => (hnc k hk).1) h₂
  have hnew2 : w₂.cell? ⟨w₁.heap.size, 0, none⟩ = some (.slice us un uc) := by
    have := (h₂.block _ hns).trans hnew
    simp [World.cell?, this]
  have hsz2 : w₂.heap.size = w₁.heap.size + 1 := by rw [h₂.size]; simp
  obtain ⟨⟨v', w₃, hr, hown', hcase⟩, hev⟩ := app_casesL (w := w₂) hown3 (by omega) o'.type ⟨w₁.heap.size, 0, none⟩ 1 1 [.slice us un uc] rfl (fun j u' hj => by
    match j, hj with
    | 0, hj => simp at hj; subst hj; simpa [Addr.add] using hnew2) (by intro u' hu; simp at hu; subst hu; rfl) (by omega) hlen
  have hrun : (execOp (a.put (some d) (.slice (some ⟨w₁.heap.size, 0, none⟩) 1 1)).eval o').run Try.prog w₂ = .ok (.value v') w₃ := by
    unfold execOp
    simp only [hop', resolve, invoke, builtin, Sem.run_bind, Sem.run_pure, Result.andThen_ok, List.map_toArray, List.map_cons, List.map_nil, hs, hdd, hr]
  have hstep2 := stepG_value (P := Try.prog) (main := true) (k := k) (cs := cs) (rest := rest) (b := b) ho' (hw' _) hk hrun
  rw [hstep2]
  simp only [goes_go]
  have hGa : Grows ch none w w₂ := ((Grows.of h₁ none).trans (.alloc _ _ _ _)).rely h₂
  have hgrow : w₂.grownBy w₃ out.ownBlock := by
    rcases hcase with ⟨g, cap, rfl, _, hg⟩ | ⟨cap', _, hg⟩
    · exact hg
    · exact ⟨hg.os, hg.tape, hg.output, hg.size, fun k hk _ => hg.block k hk (by simp)⟩
  have hD2 := DM_of_grows (T := T) (GG := GG) (es := listed Try.prog b.fn (a.put (some d) (.slice (some ⟨w₁.heap.size, 0, none⟩) 1 1)) o' w₂) hwg hgrow (fun b hb => ⟨by have := hT b hb; omega, fun e => (hnc b e.symm).2 hb⟩) (fun b hb => ⟨by have := hch b hb; omega, fun e => (hnc b e.symm).1 hb⟩) (fun e he => by
    have hm := mem_listed he
    rw [events_append_op s (.tmp d) 28 hop' (hs _) (hdd _)] at hm
    have hsz3 := hgrow.size
    rcases hev e hm with ⟨ad, h2, ⟨h3, h4⟩ | h4⟩ | ⟨m, rfl, hn⟩
    · obtain ⟨l, wr, sy⟩ := e
      simp only at h2 h3
      subst h2 h3
      simp only at h4
      exact evM_rd _ _ (by rw [h4]; exact fun hb => hns (hG _ hb)) (by rw [h4]; omega)
    · obtain ⟨l, wr, sy⟩ := e
      simp only at h2
      subst h2
      exact evM_wr _ _ _ (hnc _ h4.symm).2 (fun hb => (hnc _ h4.symm).1 (hG _ hb)) (by have := (hown3.lt _ h4.symm).2; omega)
    · exact evM_mark _ _ hn)
  refine ⟨hD2, ?_⟩
  · refine next _ v' w₃ ⟨(hGa.any _).trans (.grown hgrow ch), by rw [List.length_append]; exact hown', ?_, ?_⟩ fun h1 h2 => hD2.live h1 (h₂.live h1 (hD1.live h1 (h₁.live h1 h2)))
    · rcases hcase with ⟨g, cap, h1, h2, _⟩ | ⟨cap', h2, hg⟩
      · exact .inl ⟨g, cap, h1, h2⟩
      · exact .inr ⟨⟨w₂.heap.size, by rw [h2]; rfl, hGa.size⟩, hGa.trans (.grown hg ch)⟩
    · intro k' hk'
      rcases hcase with ⟨g, cap, h1, h2, _⟩ | ⟨cap', h2, hg⟩
      · rw [h2] at hk'; cases hk'; exact (hnc g (by rw [h1]; rfl)).1
      · rw [h2] at hk'; cases hk'; exact fun h => by have := hch _ h; simp only at this; omega
end
end Go.Proofs.Ytplndihadjfliaa.Mix
/-
  CREW: the walk of crew.Merge: from its entry; the whole.
-/
set_option linter.unusedSimpArgs false
set_option linter.unusedVariables false
set_option maxHeartbeats 4000000
namespace Go.Proofs.Ytplndihadjfliaa.Mix
open Go Go.Conc Go.ConcN Go.Proofs Go.RowKit
open Go.ConcR (KK wgBlock WgAt stA smA rd wr mk)

theorem Try.info33 : (Try.prog.info? 33).map (fun i => (i.zero, i.size, i.bytes)) = some (some (.chan none), 1, 8) := by kernel_rfl
theorem Try.info38 : (Try.prog.info? 38).map (fun i => (i.zero, i.size, i.bytes)) = some (some (.agg #[]), 0, 0) := by kernel_rfl

/-- An own step that turns the world. -/
theorem goes_wn {P : Program} {main : Bool} {R : World → World → Prop} {D : World → World → Array Event → Prop} {Stop : Goroutine → World → Prop} {n : Nat} {b : Frame} {a : Act} {k : List Item} {cs : List Frame} {w : World} {ops : Array Oper} {i : Nat} {rest : List Nat} {o : Oper}
    (ho : ops[i]? = some o) (hw : Region.wanted o (yielded ops a.tmps) = true) (hk : b.kind ≠ .early)
    (next : ∀ w₁, R w w₁ → ∃ v w', (execOp a.eval o).run P w₁ = .ok (.value v) w' ∧ (execOp a.eval o).events P w₁ #[] = #[] ∧ D w₁ w' #[] ∧ Goes P main R D Stop n (G (b.at (a.put o.dst v) (.inRegion ops rest :: k)) cs) w') :
    Goes P main R D Stop (n + 1) (G (b.at a (.inRegion ops (i :: rest) :: k)) cs) w :=
  Goes.step rfl fun w₁ h₁ => by
    obtain ⟨v, w', hr, he, hd, hn⟩ := next w₁ h₁
    rw [stepG_value ho hw hk hr, listed_nil he]
    exact ⟨hd, hn⟩

/-- WHAT GOROUTINE 0 KNOWS OF THE WORLD where the group's block is there, and what it makes is not yet whole: of N + k blocks. -/
structure ME (N : Nat) (W : World) (ch : List Nat) (k : Nat) (w : World) : Prop where
  os : w.os = W.os
  tape : w.tape = W.tape
  output : w.output = W.output
  sz : w.heap.size = N + k
  old : ∀ b, b < N → b ∉ ch → w.heap[b]? = W.heap[b]?
  chN : ∀ c ∈ ch, c < N
  lv : WgLive 47 N w
section
variable {N : Nat} {W : World} {ch : List Nat} {k : Nat} {w w₁ : World}
theorem ME.rely {ch' : List Nat} (hc : ∀ c ∈ ch', c ∈ ch ∨ N ≤ c) (h : ME N W ch k w) (r : RC (47, true) N ch' w w₁) : ME N W ch k w₁ :=
  ⟨r.os.trans h.os, r.tape.trans h.tape, r.output.trans h.output, r.size.trans h.sz, fun b h1 h2 => (r.block b fun h3 => by rcases hc b h3 with h4 | h4; exact h2 h4; omega).trans (h.old b h1 h2), h.chN, r.live rfl h.lv⟩
theorem ME.alloc (h : ME N W ch k w) (hk : 0 < k) (o : Obj) : ME N W ch (k + 1) (w.alloc o) := by
  have hb : Below (N + k) w (w.alloc o) := (Below.refl _ _).alloc (by rw [h.sz]; exact Nat.le_refl _) o
  obtain ⟨st, sm, hlv⟩ := h.lv
  exact ⟨hb.os.trans h.os, hb.tape.trans h.tape, hb.output.trans h.output, by simp [h.sz]; omega, fun b h1 h2 => (hb.block b (by omega)).trans (h.old b h1 h2), h.chN, ⟨st, sm, hlv.of_block (hb.block N (by omega))⟩⟩
theorem ME.first (r : RC (47, true) N ch W w) (hN : W.heap.size = N) (hch : ∀ c ∈ ch, c < N) : ME N W ch 1 (w.alloc (wgBlock 47 0 0)) := by
  have hs : w.heap.size = N := r.size.trans hN
  have hb : Below N w (w.alloc (wgBlock 47 0 0)) := (Below.refl _ _).alloc (by rw [hs]; exact Nat.le_refl _) _
  refine ⟨hb.os.trans r.os, hb.tape.trans r.tape, hb.output.trans r.output, by simp [hs], fun b h1 h2 => (hb.block b h1).trans (r.block b h2), hch, 0, 0, ?_⟩
  unfold WgAt; rw [← hs]; exact heap_alloc_new w _
theorem ME.made {M : Nat} (h : ME N W ch 2 w) : MZ N W ch M 0 (w.alloc (.cells (madeCells #[.chan none] M) 33)) := by
  have h2 := h.alloc (by omega) (.cells (madeCells #[.chan none] M) 33)
  exact ⟨⟨h2.os, h2.tape, h2.output, by omega, by rw [h2.sz]; omega, h2.old, h2.chN, h2.lv, ⟨madeCells #[.chan none] M, size_madeCells _ _, by rw [← h.sz]; exact heap_alloc_new w _, fun p hp => by omega⟩, World.ownsRow_nil _ _ _ _⟩, h2.sz⟩
end

section
variable (N : Nat) (W : World) (ch GG T : List Nat) (pA : Option Addr) (M pcap : Nat) (pa : Nat → Option Addr) (pn pc : Nat → Nat) (tA : Option Addr) (tn tcap : Nat) (cs : List Frame) {Post : List Nat → List Nat → List Nat → Goroutine → World → Prop}

noncomputable def entry14 : Goroutine := G ((base 14).at ⟨#[.slice pA M pcap, .slice tA tn tcap, undef, undef, undef, undef, undef, undef, undef, undef, undef, undef, undef, undef, undef, undef, undef, undef, undef, undef, undef, undef, undef, undef, undef, undef, undef, undef, undef, undef, undef, undef, undef, undef, undef, undef, undef, undef, undef, undef, undef, undef, undef, undef, undef, undef, undef, undef, undef, undef, undef, undef, undef, undef, undef, undef, undef, undef, undef, undef, undef, undef, undef, undef, undef, undef, undef, undef, undef, undef, undef, undef], []⟩ [.code body14]) cs
noncomputable def alc14 (u2 u3 u5 u6 u7 u8 u9 u10 u11 u12 u13 u14 u15 u16 u17 u18 u19 u20 u21 u22 u23 u24 u25 u26 u27 u28 u29 u30 u31 u32 u33 u34 u35 u36 u37 u38 u39 u40 u41 u42 u43 u44 u45 u46 u47 u48 u49 u50 u51 u52 u53 u54 u55 u56 u57 u58 u59 u60 u61 u62 u63 u64 u65 u66 u67 u68 u69 u70 u71 : Value) (rest : List Nat) : Goroutine := G ((base 14).at ⟨#[.slice pA M pcap, .slice tA tn tcap, u2, u3, .slice none 0 0, u5, u6, u7, u8, u9, u10, u11, u12, u13, u14, u15, u16, u17, u18, u19, u20, u21, u22, u23, u24, u25, u26, u27, u28, u29, u30, u31, u32, u33, u34, u35, u36, u37, u38, u39, u40, u41, u42, u43, u44, u45, u46, u47, u48, u49, u50, u51, u52, u53, u54, u55, u56, u57, u58, u59, u60, u61, u62, u63, u64, u65, u66, u67, u68, u69, u70, u71], []⟩ [.inRegion ops14a rest, .code t14b]) cs
noncomputable def mk14 (u2 u3 u6 u7 u8 u9 u10 u11 u12 u13 u14 u15 u16 u17 u18 u19 u20 u21 u22 u23 u24 u25 u26 u27 u28 u29 u30 u31 u32 u33 u34 u35 u36 u37 u38 u39 u40 u41 u42 u43 u44 u45 u46 u47 u48 u49 u50 u51 u52 u53 u54 u55 u56 u57 u58 u59 u60 u61 u62 u63 u64 u65 u66 u67 u68 u69 u70 u71 : Value) (rest : List Nat) : Goroutine := G ((base 14).at ⟨#[.slice pA M pcap, .slice tA tn tcap, u2, u3, .slice none 0 0, .pointer (some ⟨N, 0, none⟩), u6, u7, u8, u9, u10, u11, u12, u13, u14, u15, u16, u17, u18, u19, u20, u21, u22, u23, u24, u25, u26, u27, u28, u29, u30, u31, u32, u33, u34, u35, u36, u37, u38, u39, u40, u41, u42, u43, u44, u45, u46, u47, u48, u49, u50, u51, u52, u53, u54, u55, u56, u57, u58, u59, u60, u61, u62, u63, u64, u65, u66, u67, u68, u69, u70, u71], []⟩ [.inRegion ops14b rest, .code t14c]) cs

set_option maxRecDepth 100000 in
theorem seg14_alc (Stop : Goroutine → World → Prop) (n₀ : Nat) (hM : M ≤ 64) (w : World) (hF : RC (47, true) N ch W w)
    (next : ∀ (u2 u3 u5 u6 u7 u8 u9 u10 u11 u12 u13 u14 u15 u16 u17 u18 u19 u20 u21 u22 u23 u24 u25 u26 u27 u28 u29 u30 u31 u32 u33 u34 u35 u36 u37 u38 u39 u40 u41 u42 u43 u44 u45 u46 u47 u48 u49 u50 u51 u52 u53 u54 u55 u56 u57 u58 u59 u60 u61 u62 u63 u64 u65 u66 u67 u68 u69 u70 u71 : Value) w', RC (47, true) N ch W w' → Goes Try.prog true (RC (47, true) N ch) (DM (47, true) N T ch GG) Stop n₀ (alc14 pA M pcap tA tn tcap cs u2 u3 u5 u6 u7 u8 u9 u10 u11 u12 u13 u14 u15 u16 u17 u18 u19 u20 u21 u22 u23 u24 u25 u26 u27 u28 u29 u30 u31 u32 u33 u34 u35 u36 u37 u38 u39 u40 u41 u42 u43 u44 u45 u46 u47 u48 u49 u50 u51 u52 u53 u54 u55 u56 u57 u58 u59 u60 u61 u62 u63 u64 u65 u66 u67 u68 u69 u70 u71 [0]) w') :
    Goes Try.prog true (RC (47, true) N ch) (DM (47, true) N T ch GG) Stop (n₀ + 40) (entry14 pA M pcap tA tn tcap cs) w := by
  have hg : ¬ ((64 : Int) < (M : Int)) := by omega
  simp only [entry14, alc14, ops14a, t14b, t14a, body14, Try.f14, Option.getD_some] at next ⊢
  (repeat (first | ((with_reducible first | refine goes_rend ?_ ?_ | refine goes_sq ?_ ?_ | refine goes_sk ?_ ?_ | refine goes_bl ?_ ?_ | refine goes_lo ?_ ?_ | refine goes_ib ?_ ?_ | refine goes_il ?_ ?_ | refine goes_rt ?_ ?_ | refine goes_en ?_ ?_); exact termsM _ _ _ _ _; intro _ h₁; replace hF := hF.trans h₁; clear h₁) | (with_reducible refine goes_rg ?_ ?_; exact termsM _ _ _ _ _; intro _ h₁; replace hF := hF.trans h₁; clear h₁; simp only [List.size_toArray, List.length_cons, List.length_nil, Nat.reduceAdd, Nat.zero_add, List.range, List.range.loop])))
  (refine goes_vn (termsM (47, true) N T ch GG) (.slice none 0 0) rfl rfl (by decide) (fun _ => by go_simp; try (first | omega | (w_num; omega) | w_num | decide)) (fun _ => by simp [go_sem, *]) (fun _ h₁ => ?_); replace hF := hF.trans h₁; clear h₁; (try walk_nrm))
  (repeat (first | ((with_reducible first | refine goes_rend ?_ ?_ | refine goes_sq ?_ ?_ | refine goes_sk ?_ ?_ | refine goes_bl ?_ ?_ | refine goes_lo ?_ ?_ | refine goes_ib ?_ ?_ | refine goes_il ?_ ?_ | refine goes_rt ?_ ?_ | refine goes_en ?_ ?_); exact termsM _ _ _ _ _; intro _ h₁; replace hF := hF.trans h₁; clear h₁) | (with_reducible refine goes_rg ?_ ?_; exact termsM _ _ _ _ _; intro _ h₁; replace hF := hF.trans h₁; clear h₁; simp only [List.size_toArray, List.length_cons, List.length_nil, Nat.reduceAdd, Nat.zero_add, List.range, List.range.loop])))
  (refine goes_vn (termsM (47, true) N T ch GG) (.slice pA M pcap) rfl rfl (by decide) (fun _ => by go_simp; try (first | omega | (w_num; omega) | w_num | decide)) (fun _ => by simp [go_sem, *]) (fun _ h₁ => ?_); replace hF := hF.trans h₁; clear h₁; (try walk_nrm))
  (refine goes_vn (termsM (47, true) N T ch GG) (.int .i64 M) rfl rfl (by decide) (fun _ => by go_simp; try (first | omega | (w_num; omega) | w_num | decide)) (fun _ => by simp [go_sem, *]) (fun _ h₁ => ?_); replace hF := hF.trans h₁; clear h₁; (try walk_nrm))
  (refine goes_vn (termsM (47, true) N T ch GG) (.bool false) rfl rfl (by decide) (fun _ => by go_simp; try (first | omega | (w_num; omega) | w_num | decide)) (fun _ => by simp [go_sem, *]) (fun _ h₁ => ?_); replace hF := hF.trans h₁; clear h₁; (try walk_nrm))
  (repeat (first | ((with_reducible first | refine goes_rend ?_ ?_ | refine goes_sq ?_ ?_ | refine goes_sk ?_ ?_ | refine goes_bl ?_ ?_ | refine goes_lo ?_ ?_ | refine goes_ib ?_ ?_ | refine goes_il ?_ ?_ | refine goes_rt ?_ ?_ | refine goes_en ?_ ?_); exact termsM _ _ _ _ _; intro _ h₁; replace hF := hF.trans h₁; clear h₁) | (with_reducible refine goes_rg ?_ ?_; exact termsM _ _ _ _ _; intro _ h₁; replace hF := hF.trans h₁; clear h₁; simp only [List.size_toArray, List.length_cons, List.length_nil, Nat.reduceAdd, Nat.zero_add, List.range, List.range.loop])))
  (refine goes_cd (termsM (47, true) N T ch GG) false rfl (fun _ h₁ => ?_); replace hF := hF.trans h₁; clear h₁; simp only [if_true, if_false, Bool.false_eq_true, ↓reduceIte])
  (first | ((with_reducible first | refine goes_rend ?_ ?_ | refine goes_sq ?_ ?_ | refine goes_sk ?_ ?_ | refine goes_bl ?_ ?_ | refine goes_lo ?_ ?_ | refine goes_ib ?_ ?_ | refine goes_il ?_ ?_ | refine goes_rt ?_ ?_ | refine goes_en ?_ ?_); exact termsM _ _ _ _ _; intro _ h₁; replace hF := hF.trans h₁; clear h₁) | (with_reducible refine goes_rg ?_ ?_; exact termsM _ _ _ _ _; intro _ h₁; replace hF := hF.trans h₁; clear h₁; simp only [List.size_toArray, List.length_cons, List.length_nil, Nat.reduceAdd, Nat.zero_add, List.range, List.range.loop]))
  (first | ((with_reducible first | refine goes_rend ?_ ?_ | refine goes_sq ?_ ?_ | refine goes_sk ?_ ?_ | refine goes_bl ?_ ?_ | refine goes_lo ?_ ?_ | refine goes_ib ?_ ?_ | refine goes_il ?_ ?_ | refine goes_rt ?_ ?_ | refine goes_en ?_ ?_); exact termsM _ _ _ _ _; intro _ h₁; replace hF := hF.trans h₁; clear h₁) | (with_reducible refine goes_rg ?_ ?_; exact termsM _ _ _ _ _; intro _ h₁; replace hF := hF.trans h₁; clear h₁; simp only [List.size_toArray, List.length_cons, List.length_nil, Nat.reduceAdd, Nat.zero_add, List.range, List.range.loop]))
  (first | ((with_reducible first | refine goes_rend ?_ ?_ | refine goes_sq ?_ ?_ | refine goes_sk ?_ ?_ | refine goes_bl ?_ ?_ | refine goes_lo ?_ ?_ | refine goes_ib ?_ ?_ | refine goes_il ?_ ?_ | refine goes_rt ?_ ?_ | refine goes_en ?_ ?_); exact termsM _ _ _ _ _; intro _ h₁; replace hF := hF.trans h₁; clear h₁) | (with_reducible refine goes_rg ?_ ?_; exact termsM _ _ _ _ _; intro _ h₁; replace hF := hF.trans h₁; clear h₁; simp only [List.size_toArray, List.length_cons, List.length_nil, Nat.reduceAdd, Nat.zero_add, List.range, List.range.loop]))
  refine Goes.mono (n := n₀) ?_ (by omega)
  exact next _ _ _ _ _ _ _ _ _ _ _ _ _ _ _ _ _ _ _ _ _ _ _ _ _ _ _ _ _ _ _ _ _ _ _ _ _ _ _ _ _ _ _ _ _ _ _ _ _ _ _ _ _ _ _ _ _ _ _ _ _ _ _ _ _ _ _ _ _ _ hF

set_option maxRecDepth 100000 in
/-- AT THE GROUP's BLOCK. -/
theorem at14_mkg (hN : W.heap.size = N) (al : List Do) (u2 u3 u5 u6 u7 u8 u9 u10 u11 u12 u13 u14 u15 u16 u17 u18 u19 u20 u21 u22 u23 u24 u25 u26 u27 u28 u29 u30 u31 u32 u33 u34 u35 u36 u37 u38 u39 u40 u41 u42 u43 u44 u45 u46 u47 u48 u49 u50 u51 u52 u53 u54 u55 u56 u57 u58 u59 u60 u61 u62 u63 u64 u65 u66 u67 u68 u69 u70 u71 : Value) (w : World) (hF : RC (47, true) N ch W w)
    (next : FollowM Try.prog zi (47, true) N Post al T (N :: ch) (N :: GG) (alc14 pA M pcap tA tn tcap cs u2 u3 (.pointer (some ⟨N, 0, none⟩)) u6 u7 u8 u9 u10 u11 u12 u13 u14 u15 u16 u17 u18 u19 u20 u21 u22 u23 u24 u25 u26 u27 u28 u29 u30 u31 u32 u33 u34 u35 u36 u37 u38 u39 u40 u41 u42 u43 u44 u45 u46 u47 u48 u49 u50 u51 u52 u53 u54 u55 u56 u57 u58 u59 u60 u61 u62 u63 u64 u65 u66 u67 u68 u69 u70 u71 []) (w.alloc (wgBlock 47 0 0))) :
    stopM Try.prog zi (47, true) N Post (.mkg :: al) T ch GG (alc14 pA M pcap tA tn tcap cs u2 u3 u5 u6 u7 u8 u9 u10 u11 u12 u13 u14 u15 u16 u17 u18 u19 u20 u21 u22 u23 u24 u25 u26 u27 u28 u29 u30 u31 u32 u33 u34 u35 u36 u37 u38 u39 u40 u41 u42 u43 u44 u45 u46 u47 u48 u49 u50 u51 u52 u53 u54 u55 u56 u57 u58 u59 u60 u61 u62 u63 u64 u65 u66 u67 u68 u69 u70 u71 [0]) w := by
  have hs : w.heap.size = N := hF.size.trans hN
  refine ⟨rfl, hs, _, w.alloc (wgBlock 47 0 0), ?_, rfl, next⟩
  have hr : (execOp (Act.eval ⟨#[.slice pA M pcap, .slice tA tn tcap, u2, u3, .slice none 0 0, u5, u6, u7, u8, u9, u10, u11, u12, u13, u14, u15, u16, u17, u18, u19, u20, u21, u22, u23, u24, u25, u26, u27, u28, u29, u30, u31, u32, u33, u34, u35, u36, u37, u38, u39, u40, u41, u42, u43, u44, u45, u46, u47, u48, u49, u50, u51, u52, u53, u54, u55, u56, u57, u58, u59, u60, u61, u62, u63, u64, u65, u66, u67, u68, u69, u70, u71], []⟩) { dst := some 5, op := .alloc 47, type := 0, pos := "crew.go:106", after := #[], guard := none }).run Try.prog w = .ok (.value (.pointer (some ⟨w.heap.size, 0, none⟩))) (w.alloc (wgBlock 47 0 0)) := by
    go_simp
    rfl
  have he : (execOp (Act.eval ⟨#[.slice pA M pcap, .slice tA tn tcap, u2, u3, .slice none 0 0, u5, u6, u7, u8, u9, u10, u11, u12, u13, u14, u15, u16, u17, u18, u19, u20, u21, u22, u23, u24, u25, u26, u27, u28, u29, u30, u31, u32, u33, u34, u35, u36, u37, u38, u39, u40, u41, u42, u43, u44, u45, u46, u47, u48, u49, u50, u51, u52, u53, u54, u55, u56, u57, u58, u59, u60, u61, u62, u63, u64, u65, u66, u67, u68, u69, u70, u71], []⟩) { dst := some 5, op := .alloc 47, type := 0, pos := "crew.go:106", after := #[], guard := none }).events Try.prog w #[] = #[] := by
    simp [go_sem]
  rw [hs] at hr
  have hst : stepG Try.prog true (alc14 pA M pcap tA tn tcap cs u2 u3 u5 u6 u7 u8 u9 u10 u11 u12 u13 u14 u15 u16 u17 u18 u19 u20 u21 u22 u23 u24 u25 u26 u27 u28 u29 u30 u31 u32 u33 u34 u35 u36 u37 u38 u39 u40 u41 u42 u43 u44 u45 u46 u47 u48 u49 u50 u51 u52 u53 u54 u55 u56 u57 u58 u59 u60 u61 u62 u63 u64 u65 u66 u67 u68 u69 u70 u71 [0]) w = .go (alc14 pA M pcap tA tn tcap cs u2 u3 (.pointer (some ⟨N, 0, none⟩)) u6 u7 u8 u9 u10 u11 u12 u13 u14 u15 u16 u17 u18 u19 u20 u21 u22 u23 u24 u25 u26 u27 u28 u29 u30 u31 u32 u33 u34 u35 u36 u37 u38 u39 u40 u41 u42 u43 u44 u45 u46 u47 u48 u49 u50 u51 u52 u53 u54 u55 u56 u57 u58 u59 u60 u61 u62 u63 u64 u65 u66 u67 u68 u69 u70 u71 []) (w.alloc (wgBlock 47 0 0)) (listed Try.prog 14 ⟨#[.slice pA M pcap, .slice tA tn tcap, u2, u3, .slice none 0 0, u5, u6, u7, u8, u9, u10, u11, u12, u13, u14, u15, u16, u17, u18, u19, u20, u21, u22, u23, u24, u25, u26, u27, u28, u29, u30, u31, u32, u33, u34, u35, u36, u37, u38, u39, u40, u41, u42, u43, u44, u45, u46, u47, u48, u49, u50, u51, u52, u53, u54, u55, u56, u57, u58, u59, u60, u61, u62, u63, u64, u65, u66, u67, u68, u69, u70, u71], []⟩ { dst := some 5, op := .alloc 47, type := 0, pos := "crew.go:106", after := #[], guard := none } w) :=
    stepG_value (P := Try.prog) (main := true) (b := base 14) (ops := ops14a) (i := 0) (rest := []) (k := [.code t14b]) (cs := cs) rfl rfl (by decide) hr
  have hl : listed Try.prog 14 ⟨#[.slice pA M pcap, .slice tA tn tcap, u2, u3, .slice none 0 0, u5, u6, u7, u8, u9, u10, u11, u12, u13, u14, u15, u16, u17, u18, u19, u20, u21, u22, u23, u24, u25, u26, u27, u28, u29, u30, u31, u32, u33, u34, u35, u36, u37, u38, u39, u40, u41, u42, u43, u44, u45, u46, u47, u48, u49, u50, u51, u52, u53, u54, u55, u56, u57, u58, u59, u60, u61, u62, u63, u64, u65, u66, u67, u68, u69, u70, u71], []⟩ { dst := some 5, op := .alloc 47, type := 0, pos := "crew.go:106", after := #[], guard := none } w = #[] := listed_nil he
  rw [hl] at hst
  exact hst

set_option maxRecDepth 100000 in
theorem seg14_mk (Stop : Goroutine → World → Prop) (n₀ : Nat) (hcs : ∀ c ∈ N :: ch, c ∈ ch ∨ N ≤ c) (u2 u3 u5 u6 u7 u8 u9 u10 u11 u12 u13 u14 u15 u16 u17 u18 u19 u20 u21 u22 u23 u24 u25 u26 u27 u28 u29 u30 u31 u32 u33 u34 u35 u36 u37 u38 u39 u40 u41 u42 u43 u44 u45 u46 u47 u48 u49 u50 u51 u52 u53 u54 u55 u56 u57 u58 u59 u60 u61 u62 u63 u64 u65 u66 u67 u68 u69 u70 u71 : Value) (w : World) (hF : ME N W ch 1 w)
    (next : ∀ (u2 u3 u6 u7 u8 u9 u10 u11 u12 u13 u14 u15 u16 u17 u18 u19 u20 u21 u22 u23 u24 u25 u26 u27 u28 u29 u30 u31 u32 u33 u34 u35 u36 u37 u38 u39 u40 u41 u42 u43 u44 u45 u46 u47 u48 u49 u50 u51 u52 u53 u54 u55 u56 u57 u58 u59 u60 u61 u62 u63 u64 u65 u66 u67 u68 u69 u70 u71 : Value) w', ME N W ch 1 w' → Goes Try.prog true (RC (47, true) N (N :: ch)) (DM (47, true) N T (N :: ch) (N :: GG)) Stop n₀ (mk14 N pA M pcap tA tn tcap cs u2 u3 u6 u7 u8 u9 u10 u11 u12 u13 u14 u15 u16 u17 u18 u19 u20 u21 u22 u23 u24 u25 u26 u27 u28 u29 u30 u31 u32 u33 u34 u35 u36 u37 u38 u39 u40 u41 u42 u43 u44 u45 u46 u47 u48 u49 u50 u51 u52 u53 u54 u55 u56 u57 u58 u59 u60 u61 u62 u63 u64 u65 u66 u67 u68 u69 u70 u71 [0, 1]) w') :
    Goes Try.prog true (RC (47, true) N (N :: ch)) (DM (47, true) N T (N :: ch) (N :: GG)) Stop (n₀ + 10) (alc14 pA M pcap tA tn tcap cs u2 u3 (.pointer (some ⟨N, 0, none⟩)) u6 u7 u8 u9 u10 u11 u12 u13 u14 u15 u16 u17 u18 u19 u20 u21 u22 u23 u24 u25 u26 u27 u28 u29 u30 u31 u32 u33 u34 u35 u36 u37 u38 u39 u40 u41 u42 u43 u44 u45 u46 u47 u48 u49 u50 u51 u52 u53 u54 u55 u56 u57 u58 u59 u60 u61 u62 u63 u64 u65 u66 u67 u68 u69 u70 u71 []) w := by
  simp only [mk14, alc14, ops14a, ops14b, t14c, t14b, t14a, body14, Try.f14, Option.getD_some] at next ⊢
  (first | ((with_reducible first | refine goes_rend ?_ ?_ | refine goes_sq ?_ ?_ | refine goes_sk ?_ ?_ | refine goes_bl ?_ ?_ | refine goes_lo ?_ ?_ | refine goes_ib ?_ ?_ | refine goes_il ?_ ?_ | refine goes_rt ?_ ?_ | refine goes_en ?_ ?_); exact termsM _ _ _ _ _; intro _ h₁; replace hF := hF.rely hcs h₁; clear h₁) | (with_reducible refine goes_rg ?_ ?_; exact termsM _ _ _ _ _; intro _ h₁; replace hF := hF.rely hcs h₁; clear h₁; simp only [List.size_toArray, List.length_cons, List.length_nil, Nat.reduceAdd, Nat.zero_add, List.range, List.range.loop]))
  (first | ((with_reducible first | refine goes_rend ?_ ?_ | refine goes_sq ?_ ?_ | refine goes_sk ?_ ?_ | refine goes_bl ?_ ?_ | refine goes_lo ?_ ?_ | refine goes_ib ?_ ?_ | refine goes_il ?_ ?_ | refine goes_rt ?_ ?_ | refine goes_en ?_ ?_); exact termsM _ _ _ _ _; intro _ h₁; replace hF := hF.rely hcs h₁; clear h₁) | (with_reducible refine goes_rg ?_ ?_; exact termsM _ _ _ _ _; intro _ h₁; replace hF := hF.rely hcs h₁; clear h₁; simp only [List.size_toArray, List.length_cons, List.length_nil, Nat.reduceAdd, Nat.zero_add, List.range, List.range.loop]))
  (first | ((with_reducible first | refine goes_rend ?_ ?_ | refine goes_sq ?_ ?_ | refine goes_sk ?_ ?_ | refine goes_bl ?_ ?_ | refine goes_lo ?_ ?_ | refine goes_ib ?_ ?_ | refine goes_il ?_ ?_ | refine goes_rt ?_ ?_ | refine goes_en ?_ ?_); exact termsM _ _ _ _ _; intro _ h₁; replace hF := hF.rely hcs h₁; clear h₁) | (with_reducible refine goes_rg ?_ ?_; exact termsM _ _ _ _ _; intro _ h₁; replace hF := hF.rely hcs h₁; clear h₁; simp only [List.size_toArray, List.length_cons, List.length_nil, Nat.reduceAdd, Nat.zero_add, List.range, List.range.loop]))
  refine Goes.mono (n := n₀) ?_ (by omega)
  exact next _ _ _ _ _ _ _ _ _ _ _ _ _ _ _ _ _ _ _ _ _ _ _ _ _ _ _ _ _ _ _ _ _ _ _ _ _ _ _ _ _ _ _ _ _ _ _ _ _ _ _ _ _ _ _ _ _ _ _ _ _ _ _ _ _ _ _ _ _ hF

set_option maxRecDepth 100000 in
/-- AT 'stop's CHANNEL. -/
theorem at14_mkc (T' ch' GG' : List Nat) (al : List Do) (u2 u3 u6 u7 u8 u9 u10 u11 u12 u13 u14 u15 u16 u17 u18 u19 u20 u21 u22 u23 u24 u25 u26 u27 u28 u29 u30 u31 u32 u33 u34 u35 u36 u37 u38 u39 u40 u41 u42 u43 u44 u45 u46 u47 u48 u49 u50 u51 u52 u53 u54 u55 u56 u57 u58 u59 u60 u61 u62 u63 u64 u65 u66 u67 u68 u69 u70 u71 : Value) (w : World) (hF : ME N W ch 1 w)
    (next : FollowM Try.prog zi (47, true) N Post al T' ((N + 1) :: ch') GG' (mk14 N pA M pcap tA tn tcap cs u2 u3 u6 u7 u8 u9 u10 u11 u12 u13 u14 u15 u16 u17 (.chan (some (N + 1))) u19 u20 u21 u22 u23 u24 u25 u26 u27 u28 u29 u30 u31 u32 u33 u34 u35 u36 u37 u38 u39 u40 u41 u42 u43 u44 u45 u46 u47 u48 u49 u50 u51 u52 u53 u54 u55 u56 u57 u58 u59 u60 u61 u62 u63 u64 u65 u66 u67 u68 u69 u70 u71 [1]) (w.alloc (.chan 0 #[] false 0 0 false))) :
    stopM Try.prog zi (47, true) N Post (.mkc (N + 1) :: al) T' ch' GG' (mk14 N pA M pcap tA tn tcap cs u2 u3 u6 u7 u8 u9 u10 u11 u12 u13 u14 u15 u16 u17 u18 u19 u20 u21 u22 u23 u24 u25 u26 u27 u28 u29 u30 u31 u32 u33 u34 u35 u36 u37 u38 u39 u40 u41 u42 u43 u44 u45 u46 u47 u48 u49 u50 u51 u52 u53 u54 u55 u56 u57 u58 u59 u60 u61 u62 u63 u64 u65 u66 u67 u68 u69 u70 u71 [0, 1]) w := by
  have hs : w.heap.size = N + 1 := hF.sz
  refine ⟨rfl, hs, _, w.alloc (.chan 0 #[] false 0 0 false), 0, 0, false, ?_, rfl, next⟩
  obtain ⟨i0, hi, hz0, hz1, hz2⟩ := info_parts Try.info38
  have hrr : (Instr.makeChan 48 (.int .i64 0)).run Try.prog w = .ok (.chan (some w.heap.size)) (w.alloc (.chan 0 #[] false 0 0 false)) := run_makeChan Try.underlying48 hi .i64 0 (by decide) (by simp)
  have hee : (Instr.makeChan 48 (.int .i64 0)).events Try.prog w #[] = #[] := events_makeChan Try.underlying48 hi .i64 0 (by decide) (by simp) _
  have hr : (execOp (Act.eval ⟨#[.slice pA M pcap, .slice tA tn tcap, u2, u3, .slice none 0 0, .pointer (some ⟨N, 0, none⟩), u6, u7, u8, u9, u10, u11, u12, u13, u14, u15, u16, u17, u18, u19, u20, u21, u22, u23, u24, u25, u26, u27, u28, u29, u30, u31, u32, u33, u34, u35, u36, u37, u38, u39, u40, u41, u42, u43, u44, u45, u46, u47, u48, u49, u50, u51, u52, u53, u54, u55, u56, u57, u58, u59, u60, u61, u62, u63, u64, u65, u66, u67, u68, u69, u70, u71], []⟩) { dst := some 18, op := .makeChan 48 (.const (.int .i64 0)), type := 48, pos := "crew.go:107", after := #[], guard := none }).run Try.prog w = .ok (.value (.chan (some w.heap.size))) (w.alloc (.chan 0 #[] false 0 0 false)) := by
    unfold execOp
    simp only [Act.eval]
    simp [hrr, Result.andThen]
  have he : (execOp (Act.eval ⟨#[.slice pA M pcap, .slice tA tn tcap, u2, u3, .slice none 0 0, .pointer (some ⟨N, 0, none⟩), u6, u7, u8, u9, u10, u11, u12, u13, u14, u15, u16, u17, u18, u19, u20, u21, u22, u23, u24, u25, u26, u27, u28, u29, u30, u31, u32, u33, u34, u35, u36, u37, u38, u39, u40, u41, u42, u43, u44, u45, u46, u47, u48, u49, u50, u51, u52, u53, u54, u55, u56, u57, u58, u59, u60, u61, u62, u63, u64, u65, u66, u67, u68, u69, u70, u71], []⟩) { dst := some 18, op := .makeChan 48 (.const (.int .i64 0)), type := 48, pos := "crew.go:107", after := #[], guard := none }).events Try.prog w #[] = #[] := by
    unfold execOp
    simp only [Act.eval]
    simp [hrr, hee, Result.evThen]
  rw [hs] at hr
  have hst : stepG Try.prog true (mk14 N pA M pcap tA tn tcap cs u2 u3 u6 u7 u8 u9 u10 u11 u12 u13 u14 u15 u16 u17 u18 u19 u20 u21 u22 u23 u24 u25 u26 u27 u28 u29 u30 u31 u32 u33 u34 u35 u36 u37 u38 u39 u40 u41 u42 u43 u44 u45 u46 u47 u48 u49 u50 u51 u52 u53 u54 u55 u56 u57 u58 u59 u60 u61 u62 u63 u64 u65 u66 u67 u68 u69 u70 u71 [0, 1]) w = .go (mk14 N pA M pcap tA tn tcap cs u2 u3 u6 u7 u8 u9 u10 u11 u12 u13 u14 u15 u16 u17 (.chan (some (N + 1))) u19 u20 u21 u22 u23 u24 u25 u26 u27 u28 u29 u30 u31 u32 u33 u34 u35 u36 u37 u38 u39 u40 u41 u42 u43 u44 u45 u46 u47 u48 u49 u50 u51 u52 u53 u54 u55 u56 u57 u58 u59 u60 u61 u62 u63 u64 u65 u66 u67 u68 u69 u70 u71 [1]) (w.alloc (.chan 0 #[] false 0 0 false)) (listed Try.prog 14 ⟨#[.slice pA M pcap, .slice tA tn tcap, u2, u3, .slice none 0 0, .pointer (some ⟨N, 0, none⟩), u6, u7, u8, u9, u10, u11, u12, u13, u14, u15, u16, u17, u18, u19, u20, u21, u22, u23, u24, u25, u26, u27, u28, u29, u30, u31, u32, u33, u34, u35, u36, u37, u38, u39, u40, u41, u42, u43, u44, u45, u46, u47, u48, u49, u50, u51, u52, u53, u54, u55, u56, u57, u58, u59, u60, u61, u62, u63, u64, u65, u66, u67, u68, u69, u70, u71], []⟩ { dst := some 18, op := .makeChan 48 (.const (.int .i64 0)), type := 48, pos := "crew.go:107", after := #[], guard := none } w) :=
    stepG_value (P := Try.prog) (main := true) (b := base 14) (ops := ops14b) (i := 0) (rest := [1]) (k := [.code t14c]) (cs := cs) rfl rfl (by decide) hr
  have hl : listed Try.prog 14 ⟨#[.slice pA M pcap, .slice tA tn tcap, u2, u3, .slice none 0 0, .pointer (some ⟨N, 0, none⟩), u6, u7, u8, u9, u10, u11, u12, u13, u14, u15, u16, u17, u18, u19, u20, u21, u22, u23, u24, u25, u26, u27, u28, u29, u30, u31, u32, u33, u34, u35, u36, u37, u38, u39, u40, u41, u42, u43, u44, u45, u46, u47, u48, u49, u50, u51, u52, u53, u54, u55, u56, u57, u58, u59, u60, u61, u62, u63, u64, u65, u66, u67, u68, u69, u70, u71], []⟩ { dst := some 18, op := .makeChan 48 (.const (.int .i64 0)), type := 48, pos := "crew.go:107", after := #[], guard := none } w = #[] := listed_nil he
  rw [hl] at hst
  exact hst

set_option maxRecDepth 100000 in
theorem seg14_start (Stop : Goroutine → World → Prop) (n₀ : Nat) (hM : M ≤ 64) (hT : ∀ b ∈ T, b < N) (hcs : ∀ c ∈ chM N ch 0, c ∈ ch ∨ N ≤ c) (u2 u3 u6 u7 u8 u9 u10 u11 u12 u13 u14 u15 u16 u17 u18 u19 u20 u21 u22 u23 u24 u25 u26 u27 u28 u29 u30 u31 u32 u33 u34 u35 u36 u37 u38 u39 u40 u41 u42 u43 u44 u45 u46 u47 u48 u49 u50 u51 u52 u53 u54 u55 u56 u57 u58 u59 u60 u61 u62 u63 u64 u65 u66 u67 u68 u69 u70 u71 : Value) (w : World) (hF : ME N W ch 2 w)
    (next : ∀ (u2 u3 u8 u9 u10 u11 u12 u13 u14 u15 u16 u17 u18 u19 u20 u21 u25 u26 u27 u28 u29 u30 u31 u32 u33 u34 u35 u36 u37 u38 u39 u40 u41 u42 u43 u44 u45 u46 u47 u48 u49 u50 u51 u52 u53 u54 u55 u56 u57 u58 u59 u60 u61 u62 u63 u64 u65 u66 u67 u68 u69 u70 u71 : Value) w', MZ N W ch M 0 w' → Goes Try.prog true (RC (47, true) N (chM N ch 0)) (DM (47, true) N T (chM N ch 0) (N :: GG)) Stop n₀ (head14a N pA M pcap tA tn tcap cs 0 u2 u3 u8 u9 u10 u11 u12 u13 u14 u15 u16 u17 u18 u19 u20 u21 u25 u26 u27 u28 u29 u30 u31 u32 u33 u34 u35 u36 u37 u38 u39 u40 u41 u42 u43 u44 u45 u46 u47 u48 u49 u50 u51 u52 u53 u54 u55 u56 u57 u58 u59 u60 u61 u62 u63 u64 u65 u66 u67 u68 u69 u70 u71) w') :
    Goes Try.prog true (RC (47, true) N (chM N ch 0)) (DM (47, true) N T (chM N ch 0) (N :: GG)) Stop (n₀ + 40) (mk14 N pA M pcap tA tn tcap cs u2 u3 u6 u7 u8 u9 u10 u11 u12 u13 u14 u15 u16 u17 (.chan (some (N + 1))) u19 u20 u21 u22 u23 u24 u25 u26 u27 u28 u29 u30 u31 u32 u33 u34 u35 u36 u37 u38 u39 u40 u41 u42 u43 u44 u45 u46 u47 u48 u49 u50 u51 u52 u53 u54 u55 u56 u57 u58 u59 u60 u61 u62 u63 u64 u65 u66 u67 u68 u69 u70 u71 [1]) w := by
  have hcs2 : ∀ c ∈ chM N ch 0, c ∈ ch ∨ c = N ∨ c = N + 1 ∨ (N + 3 ≤ c ∧ c < N + 3 + 0) := fun c hc => chM_mem hc
  have hcB : ∀ c ∈ chM N ch 0, c < N + 2 := fun c hc => by rcases chM_mem hc with h | h | h | h <;> first | (have := hF.chN c h; omega) | omega
  have hNc : N ∈ chM N ch 0 := chM_N 0
  simp only [mk14, head14a, ops14b, L14a, rest14, t14c, t14b, t14a, body14, Try.f14, Option.getD_some] at next ⊢
  (refine goes_vn (termsM (47, true) N T (chM N ch 0) (N :: GG)) (.chan (some (N + 1))) rfl rfl (by decide) (fun _ => by go_simp; try (first | omega | (w_num; omega) | w_num | decide)) (fun _ => by simp [go_sem, *]) (fun _ h₁ => ?_); replace hF := hF.rely hcs h₁; clear h₁; (try walk_nrm))
  (repeat (first | ((with_reducible first | refine goes_rend ?_ ?_ | refine goes_sq ?_ ?_ | refine goes_sk ?_ ?_ | refine goes_bl ?_ ?_ | refine goes_lo ?_ ?_ | refine goes_ib ?_ ?_ | refine goes_il ?_ ?_ | refine goes_rt ?_ ?_ | refine goes_en ?_ ?_); exact termsM _ _ _ _ _; intro _ h₁; replace hF := hF.rely hcs h₁; clear h₁) | (with_reducible refine goes_rg ?_ ?_; exact termsM _ _ _ _ _; intro _ h₁; replace hF := hF.rely hcs h₁; clear h₁; simp only [List.size_toArray, List.length_cons, List.length_nil, Nat.reduceAdd, Nat.zero_add, List.range, List.range.loop])))
  (refine goes_vn (termsM (47, true) N T (chM N ch 0) (N :: GG)) (.slice pA M pcap) rfl rfl (by decide) (fun _ => by go_simp; try (first | omega | (w_num; omega) | w_num | decide)) (fun _ => by simp [go_sem, *]) (fun _ h₁ => ?_); replace hF := hF.rely hcs h₁; clear h₁; (try walk_nrm))
  (refine goes_vn (termsM (47, true) N T (chM N ch 0) (N :: GG)) (.int .i64 M) rfl rfl (by decide) (fun _ => by go_simp; try (first | omega | (w_num; omega) | w_num | decide)) (fun _ => by simp [go_sem, *]) (fun _ h₁ => ?_); replace hF := hF.rely hcs h₁; clear h₁; (try walk_nrm))
  refine goes_wn rfl rfl (by decide) (fun w₁ h₁ => ?_)
  replace hF := hF.rely hcs h₁
  clear h₁
  obtain ⟨i0, hi, hz0, hz1, hz2⟩ := info_parts Try.info33
  have hrr := run_make (P := Try.prog) w₁ 49 33 i0 (.chan none) Try.underlying49 hi hz0 .i64 .i64 M M (by omega) (Int.le_refl _) (by rw [hz2]; omega) (by omega)
  have hsz := hF.sz
  refine ⟨.slice (some ⟨N + 2, 0, none⟩) M M, w₁.alloc (.cells (madeCells #[.chan none] M) 33), ?_, ?_, DM_of_below (fun _ => hNc) (fun b hb => by have := hT b hb; omega) hcB ((Below.refl _ _).alloc (by rw [hF.sz]; exact Nat.le_refl _) _) (by simp), ?_⟩
  · rw [hsz] at hrr
    simp only [execOp, Act.eval, Array.getD_eq_getD_getElem?, List.getElem?_toArray, List.getElem?_cons_succ, List.getElem?_cons_zero, Option.getD_some]
    simp [hrr, hz1, Value.cells, Result.andThen]
  · have hev := events_make (P := Try.prog) w₁ 49 33 i0 (.chan none) Try.underlying49 hi hz0 .i64 .i64 M M (by omega) (Int.le_refl _) (by rw [hz2]; omega) (by omega) (by rw [hz2]; omega) #[]
    simp only [execOp, Act.eval, Array.getD_eq_getD_getElem?, List.getElem?_toArray, List.getElem?_cons_succ, List.getElem?_cons_zero, Option.getD_some]
    simpa [hrr, hz1, Value.cells, Result.evThen] using hev
  have hF := hF.made (M := M)
  clear hrr hsz
  try walk_nrm
  (refine goes_vn (termsM (47, true) N T (chM N ch 0) (N :: GG)) (.slice (some ⟨N + 2, 0, none⟩) M M) rfl rfl (by decide) (fun _ => by go_simp; try (first | omega | (w_num; omega) | w_num | decide)) (fun _ => by simp [go_sem, *]) (fun _ h₁ => ?_); replace hF := hF.rely hcs2 h₁; clear h₁; (try walk_nrm))
  (repeat (first | ((with_reducible first | refine goes_rend ?_ ?_ | refine goes_sq ?_ ?_ | refine goes_sk ?_ ?_ | refine goes_bl ?_ ?_ | refine goes_lo ?_ ?_ | refine goes_ib ?_ ?_ | refine goes_il ?_ ?_ | refine goes_rt ?_ ?_ | refine goes_en ?_ ?_); exact termsM _ _ _ _ _; intro _ h₁; replace hF := hF.rely hcs2 h₁; clear h₁) | (with_reducible refine goes_rg ?_ ?_; exact termsM _ _ _ _ _; intro _ h₁; replace hF := hF.rely hcs2 h₁; clear h₁; simp only [List.size_toArray, List.length_cons, List.length_nil, Nat.reduceAdd, Nat.zero_add, List.range, List.range.loop])))
  (refine goes_vn (termsM (47, true) N T (chM N ch 0) (N :: GG)) (.slice pA M pcap) rfl rfl (by decide) (fun _ => by go_simp; try (first | omega | (w_num; omega) | w_num | decide)) (fun _ => by simp [go_sem, *]) (fun _ h₁ => ?_); replace hF := hF.rely hcs2 h₁; clear h₁; (try walk_nrm))
  (refine goes_vn (termsM (47, true) N T (chM N ch 0) (N :: GG)) (.int .i64 M) rfl rfl (by decide) (fun _ => by go_simp; try (first | omega | (w_num; omega) | w_num | decide)) (fun _ => by simp [go_sem, *]) (fun _ h₁ => ?_); replace hF := hF.rely hcs2 h₁; clear h₁; (try walk_nrm))
  (refine goes_vn (termsM (47, true) N T (chM N ch 0) (N :: GG)) (.int .i64 0) rfl rfl (by decide) (fun _ => by go_simp; try (first | omega | (w_num; omega) | w_num | decide)) (fun _ => by simp [go_sem, *]) (fun _ h₁ => ?_); replace hF := hF.rely hcs2 h₁; clear h₁; (try walk_nrm))
  (first | ((with_reducible first | refine goes_rend ?_ ?_ | refine goes_sq ?_ ?_ | refine goes_sk ?_ ?_ | refine goes_bl ?_ ?_ | refine goes_lo ?_ ?_ | refine goes_ib ?_ ?_ | refine goes_il ?_ ?_ | refine goes_rt ?_ ?_ | refine goes_en ?_ ?_); exact termsM _ _ _ _ _; intro _ h₁; replace hF := hF.rely hcs2 h₁; clear h₁) | (with_reducible refine goes_rg ?_ ?_; exact termsM _ _ _ _ _; intro _ h₁; replace hF := hF.rely hcs2 h₁; clear h₁; simp only [List.size_toArray, List.length_cons, List.length_nil, Nat.reduceAdd, Nat.zero_add, List.range, List.range.loop]))
  (first | ((with_reducible first | refine goes_rend ?_ ?_ | refine goes_sq ?_ ?_ | refine goes_sk ?_ ?_ | refine goes_bl ?_ ?_ | refine goes_lo ?_ ?_ | refine goes_ib ?_ ?_ | refine goes_il ?_ ?_ | refine goes_rt ?_ ?_ | refine goes_en ?_ ?_); exact termsM _ _ _ _ _; intro _ h₁; replace hF := hF.rely hcs2 h₁; clear h₁) | (with_reducible refine goes_rg ?_ ?_; exact termsM _ _ _ _ _; intro _ h₁; replace hF := hF.rely hcs2 h₁; clear h₁; simp only [List.size_toArray, List.length_cons, List.length_nil, Nat.reduceAdd, Nat.zero_add, List.range, List.range.loop]))
  (first | ((with_reducible first | refine goes_rend ?_ ?_ | refine goes_sq ?_ ?_ | refine goes_sk ?_ ?_ | refine goes_bl ?_ ?_ | refine goes_lo ?_ ?_ | refine goes_ib ?_ ?_ | refine goes_il ?_ ?_ | refine goes_rt ?_ ?_ | refine goes_en ?_ ?_); exact termsM _ _ _ _ _; intro _ h₁; replace hF := hF.rely hcs2 h₁; clear h₁) | (with_reducible refine goes_rg ?_ ?_; exact termsM _ _ _ _ _; intro _ h₁; replace hF := hF.rely hcs2 h₁; clear h₁; simp only [List.size_toArray, List.length_cons, List.length_nil, Nat.reduceAdd, Nat.zero_add, List.range, List.range.loop]))
  refine Goes.mono (n := n₀) ?_ (by omega)
  exact next _ _ _ _ _ _ _ _ _ _ _ _ _ _ _ _ _ _ _ _ _ _ _ _ _ _ _ _ _ _ _ _ _ _ _ _ _ _ _ _ _ _ _ _ _ _ _ _ _ _ _ _ _ _ _ _ _ _ _ _ _ _ _ _ hF

/-- MERGE, from its entry: the star's whole script, and what is held at its return. -/
theorem merge_goes (hT : ∀ b ∈ T, b < N) (hch : ∀ c ∈ ch, c < N) (hG : ∀ b ∈ GG, b ∈ ch) {zs : Nat → List Int} (hP : Parts N W ch pA M pa pn pc zs) (ts : List Int) (hts : IR ch tA tn ts W) (hlen : tn * 8 ≤ 140737488355328) (bC : Frame) (aC : Act) (opsC : Array Oper) (iC : Nat) (restC : List Nat) (kC : List Item) (csC : List Frame) (hcs0 : cs = bC.at aC (.inRegion opsC (iC :: restC) :: kC) :: csC)
    (hPost : ∀ out w, MQ N W ch M out ((mout M zs ts).map iv) w → Post (tL pa pn T M) (chM N ch M) (N :: GG) (G (bC.at (aC.put ((opsC[iC]?).bind (·.dst)) out) (.inRegion opsC restC :: kC)) csC) w) (w : World) (hF : RC (47, true) N ch W w) :
    GoM Post N T ch GG (msc (N + 1) N M (fun p => N + 3 + p) (fun p => vblk (pa p) (pn p)) (fun p => (zs p).map iv) 0 ((mrun M zs ts).map lift) .mg) (0 + 40) (entry14 pA M pcap tA tn tcap cs) w := by
  have hTM := tL_lt hP hT M (Nat.le_refl _)
  obtain ⟨n₂, h2⟩ := loop14b N W ch GG pA M pcap pa pn pc tA tn tcap cs (Post := Post) (tL pa pn T M) (chM N ch M) hP hG (chM_N M) (chM_s M) (fun c hc => chM_old hc M) hTM (fun c hc => chM_mem hc) bC aC opsC iC restC kC csC hcs0 ts hts ((mout M zs ts).map iv) hPost ts 0 zs [] rfl (by rw [hts.len]; omega) (by simp) (by simp [hts.len]; omega)
  obtain ⟨n₁, h1⟩ := loop14a N W ch GG pA M pcap pa pn pc tA tn tcap cs (Post := Post) T hT hP hG (trn (fun p => N + 3 + p) ((mrun M zs ts).map lift) ++ cloS (N + 1) N M) (n₂ + 40) (fun u2 u3 u8 u9 u10 u11 u12 u13 u14 u15 u16 u17 u18 u19 u20 u21 u25 u26 u27 u28 u29 u30 u31 u32 u33 u34 u35 u36 u37 u38 u39 u40 u41 u42 u43 u44 u45 u46 u47 u48 u49 u50 u51 u52 u53 u54 u55 u56 u57 u58 u59 u60 u61 u62 u63 u64 u65 u66 u67 u68 u69 u70 u71 w hF => seg14_exit N W ch GG pA M pcap tA tn tcap cs (tL pa pn T M) (chM N ch M) _ n₂ (fun c hc => chM_mem hc) u2 u3 u8 u9 u10 u11 u12 u13 u14 u15 u16 u17 u18 u19 u20 u21 u25 u26 u27 u28 u29 u30 u31 u32 u33 u34 u35 u36 u37 u38 u39 u40 u41 u42 u43 u44 u45 u46 u47 u48 u49 u50 u51 u52 u53 u54 u55 u56 u57 u58 u59 u60 u61 u62 u63 u64 u65 u66 u67 u68 u69 u70 u71 w hF fun u1 u2 u3 u4 u8 u9 u11 u12 u13 u14 u15 u16 u17 u18 u19 u20 u21 u22 u23 u24 u25 u26 u27 u28 u29 u30 u31 u32 u33 u34 u35 u36 u37 u38 u39 u40 u44 u45 u46 u47 u48 u49 u50 u51 u52 u53 u54 u55 u56 u57 u58 u59 u60 u61 u62 u63 u64 u65 u66 u67 u68 u69 u70 u71 w' hF => h2 (.slice none 0 0) u1 u2 u3 u4 u8 u9 u11 u12 u13 u14 u15 u16 u17 u18 u19 u20 u21 u22 u23 u24 u25 u26 u27 u28 u29 u30 u31 u32 u33 u34 u35 u36 u37 u38 u39 u40 u44 u45 u46 u47 u48 u49 u50 u51 u52 u53 u54 u55 u56 u57 u58 u59 u60 u61 u62 u63 u64 u65 u66 u67 u68 u69 u70 u71 w' ⟨hF.kn⟩) M 0 (by omega)
  refine seg14_alc N W ch GG T pA M pcap tA tn tcap cs _ 0 hP.max w hF fun u2 u3 u5 u6 u7 u8 u9 u10 u11 u12 u13 u14 u15 u16 u17 u18 u19 u20 u21 u22 u23 u24 u25 u26 u27 u28 u29 u30 u31 u32 u33 u34 u35 u36 u37 u38 u39 u40 u41 u42 u43 u44 u45 u46 u47 u48 u49 u50 u51 u52 u53 u54 u55 u56 u57 u58 u59 u60 u61 u62 u63 u64 u65 u66 u67 u68 u69 u70 u71 w' hF => Goes.stop fun w₁ h₁ => ?_
  refine at14_mkg N W ch GG T pA M pcap tA tn tcap cs hP.sz _ u2 u3 u5 u6 u7 u8 u9 u10 u11 u12 u13 u14 u15 u16 u17 u18 u19 u20 u21 u22 u23 u24 u25 u26 u27 u28 u29 u30 u31 u32 u33 u34 u35 u36 u37 u38 u39 u40 u41 u42 u43 u44 u45 u46 u47 u48 u49 u50 u51 u52 u53 u54 u55 u56 u57 u58 u59 u60 u61 u62 u63 u64 u65 u66 u67 u68 u69 u70 u71 w₁ (hF.trans h₁) (fM (n := 0 + 10) ?_)
  have hE : ME N W ch 1 (w₁.alloc (wgBlock 47 0 0)) := ME.first (hF.trans h₁) hP.sz hch
  have hc1 : ∀ c ∈ N :: ch, c ∈ ch ∨ N ≤ c := fun c hc => by rcases List.mem_cons.1 hc with h | h; exact .inr (by omega); exact .inl h
  have hc2 : ∀ c ∈ chM N ch 0, c ∈ ch ∨ N ≤ c := fun c hc => by rcases chM_mem hc with h | h | h | h <;> first | exact .inl h | exact .inr (by omega)
  refine seg14_mk N W ch GG T pA M pcap tA tn tcap cs _ 0 hc1 u2 u3 u5 u6 u7 u8 u9 u10 u11 u12 u13 u14 u15 u16 u17 u18 u19 u20 u21 u22 u23 u24 u25 u26 u27 u28 u29 u30 u31 u32 u33 u34 u35 u36 u37 u38 u39 u40 u41 u42 u43 u44 u45 u46 u47 u48 u49 u50 u51 u52 u53 u54 u55 u56 u57 u58 u59 u60 u61 u62 u63 u64 u65 u66 u67 u68 u69 u70 u71 _ hE fun u2 u3 u6 u7 u8 u9 u10 u11 u12 u13 u14 u15 u16 u17 u18 u19 u20 u21 u22 u23 u24 u25 u26 u27 u28 u29 u30 u31 u32 u33 u34 u35 u36 u37 u38 u39 u40 u41 u42 u43 u44 u45 u46 u47 u48 u49 u50 u51 u52 u53 u54 u55 u56 u57 u58 u59 u60 u61 u62 u63 u64 u65 u66 u67 u68 u69 u70 u71 w' hE => Goes.stop fun w₂ h₂ => ?_
  have hE2 := hE.rely hc1 h₂
  refine at14_mkc N W ch pA M pcap tA tn tcap cs T (N :: ch) (N :: GG) _ u2 u3 u6 u7 u8 u9 u10 u11 u12 u13 u14 u15 u16 u17 u18 u19 u20 u21 u22 u23 u24 u25 u26 u27 u28 u29 u30 u31 u32 u33 u34 u35 u36 u37 u38 u39 u40 u41 u42 u43 u44 u45 u46 u47 u48 u49 u50 u51 u52 u53 u54 u55 u56 u57 u58 u59 u60 u61 u62 u63 u64 u65 u66 u67 u68 u69 u70 u71 w₂ hE2 (fM (n := n₁ + 40) ?_)
  exact seg14_start N W ch GG T pA M pcap tA tn tcap cs _ n₁ hP.max hT hc2 u2 u3 u6 u7 u8 u9 u10 u11 u12 u13 u14 u15 u16 u17 u18 u19 u20 u21 u22 u23 u24 u25 u26 u27 u28 u29 u30 u31 u32 u33 u34 u35 u36 u37 u38 u39 u40 u41 u42 u43 u44 u45 u46 u47 u48 u49 u50 u51 u52 u53 u54 u55 u56 u57 u58 u59 u60 u61 u62 u63 u64 u65 u66 u67 u68 u69 u70 u71 _ (hE2.alloc (by omega) _) fun u2 u3 u8 u9 u10 u11 u12 u13 u14 u15 u16 u17 u18 u19 u20 u21 u25 u26 u27 u28 u29 u30 u31 u32 u33 u34 u35 u36 u37 u38 u39 u40 u41 u42 u43 u44 u45 u46 u47 u48 u49 u50 u51 u52 u53 u54 u55 u56 u57 u58 u59 u60 u61 u62 u63 u64 u65 u66 u67 u68 u69 u70 u71 w' hF => h1 u2 u3 u8 u9 u10 u11 u12 u13 u14 u15 u16 u17 u18 u19 u20 u21 u25 u26 u27 u28 u29 u30 u31 u32 u33 u34 u35 u36 u37 u38 u39 u40 u41 u42 u43 u44 u45 u46 u47 u48 u49 u50 u51 u52 u53 u54 u55 u56 u57 u58 u59 u60 u61 u62 u63 u64 u65 u66 u67 u68 u69 u70 u71 w' hF
end
end Go.Proofs.Ytplndihadjfliaa.Mix
/-
  CREW: what CrewMerge's goroutine 0 knows of the world between the calls.
-/
set_option linter.unusedSimpArgs false
set_option linter.unusedVariables false
set_option maxHeartbeats 2000000
namespace Go.Proofs.Ytplndihadjfliaa.Mix
open Go Go.Conc Go.ConcN Go.Proofs Go.RowKit

structure CMS (W : World) (T ch GG : List Nat) (NW N1 : Nat) (want : Value) (ref : List Int) (pA : Option Addr) (M : Nat) (pa : Nat → Option Addr) (pn pc : Nat → Nat) (zs : Nat → List Int) (tA : Option Addr) (tn : Nat) (ts : List Int) (ans : List (Value × Nat × Nat)) (w : World) : Prop where
  below : Below W.heap.size W w
  nw : W.heap.size ≤ NW
  n1 : NW ≤ N1
  sz : N1 ≤ w.heap.size
  chb : ∀ c ∈ ch, N1 ≤ c ∧ c < w.heap.size
  tb : ∀ b ∈ T, NW ≤ b ∧ b < N1
  gc : ∀ b ∈ GG, b ∈ ch
  rw0 : w.ownsRow W.heap.size 3 1 want ref.length (ref.map iv)
  wlt : ∀ k, want.ownBlock = some k → k < NW
  rp : PR ch pA M pa pn pc zs w
  rpb : ∀ ad, pA = some ad → 0 < M → ad.block < N1
  rpl : ∀ p, p < M → ∀ ad, pa p = some ad → 0 < pn p → NW ≤ ad.block ∧ ad.block < N1
  rt : IR ch tA tn ts w
  rtb : ∀ ad, tA = some ad → 0 < tn → ad.block < N1
  ra : ∀ o lo hi, (o, lo, hi) ∈ ans → w.ownsRow lo 3 1 o ref.length (ref.map iv) ∧ (∀ k, o.ownBlock = some k → k < hi ∧ k ∉ ch) ∧ N1 ≤ lo ∧ lo ≤ hi ∧ hi ≤ w.heap.size

section
variable {W : World} {T ch GG : List Nat} {NW N1 : Nat} {want : Value} {ref : List Int} {pA : Option Addr} {M : Nat} {pa : Nat → Option Addr} {pn pc : Nat → Nat} {zs : Nat → List Int} {tA : Option Addr} {tn : Nat} {ts : List Int} {ans : List (Value × Nat × Nat)} {w w₁ : World}
theorem CMS.rely {ty : TypeId × Bool} {Wg : Nat} (h : CMS W T ch GG NW N1 want ref pA M pa pn pc zs tA tn ts ans w) (r : RC ty Wg ch w w₁) : CMS W T ch GG NW N1 want ref pA M pa pn pc zs tA tn ts ans w₁ := by
  have hs := h.sz
  have h1 := h.n1
  have h2 := h.nw
  refine ⟨⟨r.os.trans h.below.os, r.tape.trans h.below.tape, r.output.trans h.below.output, by rw [r.size]; exact h.below.size, fun b hb => (r.block b fun hc => by have := (h.chb b hc).1; omega).trans (h.below.block b hb)⟩, h.nw, h.n1, by rw [r.size]; exact hs, fun c hc => by rw [r.size]; exact h.chb c hc, h.tb, h.gc,
    own_rely h.rw0 (fun k hk hc => by have := h.wlt k hk; have := (h.chb k hc).1; omega) r, h.wlt, h.rp.rely r, h.rpb, h.rpl, h.rt.rely r, h.rtb, fun o lo hi ho => ?_⟩
  obtain ⟨a1, a2, a3, a5, a4⟩ := h.ra o lo hi ho
  exact ⟨own_rely a1 (fun k hk => (a2 k hk).2) r, a2, a3, a5, by rw [r.size]; exact a4⟩

/-- Behind a call of Merge. -/
theorem CMS.merge {N : Nat} {out : Value} (h : CMS W T ch GG NW N1 want ref pA M pa pn pc zs tA tn ts ans w) (hN : w.heap.size = N) (hq : MQ N w ch M out (ref.map iv) w₁) :
    CMS W (tL pa pn T M) (chM N ch M) (N :: GG) NW N1 want ref pA M pa pn pc zs tA tn ts (ans ++ [(out, N + 3 + M, w₁.heap.size)]) w₁ := by
  have k := hq.kn
  have hs := h.sz
  have h1 := h.n1
  have h2 := h.nw
  have hsz := k.size
  have hbs := h.below.size
  have hw : ∀ b, b < N1 → b ∉ ch := fun b hb hc => by have := (h.chb b hc).1; omega
  have hnew : ∀ c ∈ chM N ch M, c ∈ ch ∨ (N ≤ c ∧ c < N + 3 + M) := fun c hc => by rcases chM_mem hc with x | x | x | x <;> first | exact .inl x | exact .inr (by omega)
  have hw2 : ∀ b, b < N1 → b ∉ chM N ch M := fun b hb hc => by rcases hnew b hc with x | x; exact hw b hb x; omega
  have hold : ∀ b, b < N1 → w₁.heap[b]? = w.heap[b]? := fun b hb => k.old b (by omega) (hw b hb)
  have hir : ∀ {a0 : Option Addr} {n : Nat} {xs : List Int}, IR ch a0 n xs w → (∀ ad, a0 = some ad → 0 < n → ad.block < N1) → IR (chM N ch M) a0 n xs w₁ := fun hi hb =>
    ⟨hi.len, hi.max, hi.ex, fun a ha hn => hw2 _ (hb a ha hn), fun j a hj ha => (World.cell?_of_block (by rw [addBlock]; exact hold _ (hb a ha (by omega)))).trans (hi.cell j a hj ha)⟩
  refine ⟨⟨k.os.trans h.below.os, k.tape.trans h.below.tape, k.output.trans h.below.output, by omega, fun b hb => (hold b (by omega)).trans (h.below.block b hb)⟩, h.nw, h.n1, by omega, fun c hc => ?_, fun b hb => ?_, fun b hb => ?_, ?_, h.wlt, ?_, h.rpb, h.rpl, hir h.rt h.rtb, h.rtb, fun o lo hi ho => ?_⟩
  · rcases hnew c hc with x | x
    · have := h.chb c x; omega
    · omega
  · have : ∀ m, m ≤ M → b ∈ tL pa pn T m → NW ≤ b ∧ b < N1 := by
      intro m
      induction m with
      | zero => intro _ hb; exact h.tb b hb
      | succ m ih =>
        intro hm hb
        rcases List.mem_append.1 hb with hb | hb
        · obtain ⟨ad, e1, e2, rfl⟩ := vblk_mem hb
          exact h.rpl m (by omega) ad e1 e2
        · exact ih (by omega) hb
    exact this M (Nat.le_refl _) hb
  · rcases List.mem_cons.1 hb with rfl | hb
    · exact chM_N M
    · exact chM_old (h.gc b hb) M
  · refine ⟨h.rw0.1, ?_⟩
    rcases h.rw0.2 with h0 | ⟨g, cp, cur, e, hg, hh, x⟩
    · exact .inl h0
    · exact .inr ⟨g, cp, cur, e, hg, (hold g (by have := h.wlt g (by rw [e]; rfl); omega)).trans hh, x⟩
  · exact ⟨h.rp.max, h.rp.ex, fun ad ha hM => hw2 _ (h.rpb ad ha hM), fun p ad hp ha => (World.cell?_of_block (by rw [addBlock]; exact hold _ (h.rpb ad ha (by omega)))).trans (h.rp.pv p ad hp ha), fun p hp => hir (h.rp.ir p hp) fun ad ha hn => (h.rpl p hp ad ha hn).2⟩
  · rcases List.mem_append.1 ho with ho | ho
    · obtain ⟨a1, a2, a3, a5, a4⟩ := h.ra o lo hi ho
      refine ⟨⟨a1.1, ?_⟩, fun b hb => ⟨(a2 b hb).1, fun hc => ?_⟩, a3, by omega, by omega⟩
      · rcases a1.2 with h0 | ⟨g, cp, cur, e, hg, hh, x⟩
        · exact .inl h0
        · have := a2 g (by rw [e]; rfl)
          exact .inr ⟨g, cp, cur, e, hg, (k.old g (by omega) this.2).trans hh, x⟩
      · have := a2 b hb
        rcases hnew b hc with x | x
        · exact this.2 x
        · omega
    · simp only [List.mem_singleton, Prod.mk.injEq] at ho
      obtain ⟨rfl, rfl, rfl⟩ := ho
      refine ⟨by simpa using k.own, fun b hb => ?_, by omega, by omega, Nat.le_refl _⟩
      have := k.own.lt b hb
      refine ⟨this.2, fun hc => ?_⟩
      rcases hnew b hc with x | x
      · have := (h.chb b x).2; omega
      · omega
/-- .. of too many parts. -/
theorem CMS.none {ty : TypeId × Bool} {Wg : Nat} (h : CMS W T ch GG NW N1 want [] pA M pa pn pc zs tA tn ts ans w) (r : RC ty Wg ch w w₁) :
    CMS W T ch GG NW N1 want [] pA M pa pn pc zs tA tn ts (ans ++ [(.slice none 0 0, w₁.heap.size, w₁.heap.size)]) w₁ := by
  have h' := h.rely r
  refine ⟨h'.below, h'.nw, h'.n1, h'.sz, h'.chb, h'.tb, h'.gc, h'.rw0, h'.wlt, h'.rp, h'.rpb, h'.rpl, h'.rt, h'.rtb, fun o lo hi ho => ?_⟩
  rcases List.mem_append.1 ho with ho | ho
  · exact h'.ra o lo hi ho
  · simp only [List.mem_singleton, Prod.mk.injEq] at ho
    obtain ⟨rfl, rfl, rfl⟩ := ho
    exact ⟨World.ownsRow_nil _ _ _ _, fun k hk => (by cases hk), h'.sz, Nat.le_refl _, Nat.le_refl _⟩
end

/-- What the document says. -/
def refM (M : Nat) (zs : Nat → List Int) (ts : List Int) : List Int := if 64 < M then [] else mref M zs [] ts
end Go.Proofs.Ytplndihadjfliaa.Mix
