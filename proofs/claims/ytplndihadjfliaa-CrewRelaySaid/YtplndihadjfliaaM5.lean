/-
  CREW: a list that grows, in company: 'append(l, x)' in one lemma.
-/
import Derived.Test.YtplndihadjfliaaM4
import Derived.Laws.OwnMore
set_option linter.unusedSimpArgs false
set_option linter.unusedVariables false
set_option maxHeartbeats 2000000
namespace Go.Proofs.Ytplndihadjfliaa.Net
open Go Go.Conc Go.ConcN Go.Proofs Go.RowKit

/-- What was there is as it was, but for the channels and one block. -/
structure Grows (ch : List Nat) (but : Option Nat) (w w' : World) : Prop where
  os : w'.os = w.os
  tape : w'.tape = w.tape
  output : w'.output = w.output
  size : w.heap.size ≤ w'.heap.size
  block : ∀ b, b < w.heap.size → b ∉ ch → some b ≠ but → w'.heap[b]? = w.heap[b]?

section
variable {ch : List Nat} {but : Option Nat} {w w₁ w₂ : World}
theorem Grows.refl (ch : List Nat) (but : Option Nat) (w : World) : Grows ch but w w := ⟨rfl, rfl, rfl, Nat.le_refl _, fun _ _ _ _ => rfl⟩
theorem Grows.trans (h : Grows ch but w w₁) (h' : Grows ch but w₁ w₂) : Grows ch but w w₂ :=
  ⟨h'.os.trans h.os, h'.tape.trans h.tape, h'.output.trans h.output, Nat.le_trans h.size h'.size, fun b hb hc hn => (h'.block b (by have := h.size; omega) hc hn).trans (h.block b hb hc hn)⟩
theorem Grows.of (r : RC ch w w₁) (but : Option Nat) : Grows ch but w w₁ := ⟨r.os, r.tape, r.output, by rw [r.size]; exact Nat.le_refl _, fun b _ hc _ => r.block b hc⟩
theorem Grows.any (h : Grows ch none w w₁) (but : Option Nat) : Grows ch but w w₁ := ⟨h.os, h.tape, h.output, h.size, fun b hb hc _ => h.block b hb hc (by simp)⟩
theorem Grows.rely (h : Grows ch but w w₁) (r : RC ch w₁ w₂) : Grows ch but w w₂ := h.trans (.of r _)
theorem Grows.grown (h : w.grownBy w₁ but) (ch : List Nat) : Grows ch but w w₁ := ⟨h.os, h.tape, h.output, h.size, fun b hb _ hn => h.block b hb hn⟩
theorem Grows.alloc (w : World) (o : Obj) (ch : List Nat) (but : Option Nat) : Grows ch but w (w.alloc o) := .grown (World.grownBy_alloc w o but) ch

theorem DM_of_grows {T : List Nat} {es : Array Event} (h : w.grownBy w₁ but) (hT : ∀ b ∈ T, b < w.heap.size ∧ some b ≠ but) (hc : ∀ b ∈ ch, b < w.heap.size ∧ some b ≠ but) (he : ∀ e ∈ es, EvM T e) : DM T ch w w₁ es :=
  ⟨fun b hb => h.block b (hT b hb).1 (hT b hb).2, fun b hb => h.block b (hc b hb).1 (hc b hb).2, he⟩
end

/-- A row of the call's own under the others' doing. -/
theorem own_rely {ch : List Nat} {w w₁ : World} {lo n : Nat} {v : Value} {xs : List Value} (h : w.ownsRow lo 3 1 v n xs) (hn : ∀ k, v.ownBlock = some k → k ∉ ch) (r : RC ch w w₁) : w₁.ownsRow lo 3 1 v n xs := by
  refine ⟨h.1, ?_⟩
  rcases h.2 with h0 | ⟨g, cp, cur, rfl, hg, hh, x⟩
  · exact .inl h0
  · exact .inr ⟨g, cp, cur, rfl, hg, (r.block g (hn g rfl)).trans hh, x⟩
theorem own_grows {ch : List Nat} {but : Option Nat} {w w₁ : World} {lo n : Nat} {v : Value} {xs : List Value} (h : w.ownsRow lo 3 1 v n xs) (hn : ∀ k, v.ownBlock = some k → k ∉ ch ∧ some k ≠ but) (r : Grows ch but w w₁) : w₁.ownsRow lo 3 1 v n xs := by
  refine ⟨h.1, ?_⟩
  rcases h.2 with h0 | ⟨g, cp, cur, rfl, hg, hh, x⟩
  · exact .inl h0
  · exact .inr ⟨g, cp, cur, rfl, hg, (r.block g (Array.getElem?_eq_some_iff.1 hh).1 (hn g rfl).1 (hn g rfl).2).trans hh, x⟩
theorem own_base {w : World} {lo lo' n : Nat} {v : Value} {xs : List Value} (h : w.ownsRow lo 3 1 v n xs) (hn : ∀ k, v.ownBlock = some k → lo' ≤ k) : w.ownsRow lo' 3 1 v n xs := by
  refine ⟨h.1, ?_⟩
  rcases h.2 with h0 | ⟨g, cp, cur, rfl, hg, x⟩
  · exact .inl h0
  · exact .inr ⟨g, cp, cur, rfl, hn g rfl, x⟩
/-- Its first part. -/
theorem own_take {w : World} {lo n n' g cap : Nat} {xs : List Value} (h : w.ownsRow lo 3 1 (.slice (some ⟨g, 0, none⟩) n cap) n xs) (hn : n' ≤ n) : w.ownsRow lo 3 1 (.slice (some ⟨g, 0, none⟩) n' cap) n' (xs.take n') := by
  have hl := h.1
  refine ⟨by rw [List.length_take]; omega, ?_⟩
  rcases h.2 with ⟨h0, _⟩ | ⟨g', cp, cur, h0, hg, hh, x1, x2, x3, x4⟩
  · cases h0
  · cases h0
    exact .inr ⟨g, cap, cur, rfl, hg, hh, by omega, x2, x3, by rw [← x4, List.take_take]; congr 1; omega⟩

/-- What an append of some values does. -/
theorem app_cases {w : World} {lo : Nat} {out : Value} {xs : List Value} (hown : w.ownsRow lo 3 1 out xs.length xs) (hlo : lo ≤ w.heap.size) (ty : TypeId) (a : Addr) (m c : Nat) (news : List Value) (hl : news.length = m) (hnews : ∀ j u, news[j]? = some u → w.cell? (a.add j) = some u)
    (h1 : ∀ u ∈ news, u.oneCell' = true) (hm : 0 < m) (hlen : (xs.length + m) * 8 ≤ 140737488355328) :
    (∃ v' w', (Builtin.append_ #[22, 22] ty #[out, .slice (some a) m c]).run Try.prog w = .ok v' w' ∧ w'.ownsRow lo 3 1 v' (xs.length + m) (xs ++ news) ∧
      ((∃ g cap, out = .slice (some ⟨g, 0, none⟩) xs.length cap ∧ v' = .slice (some ⟨g, 0, none⟩) (xs.length + m) cap ∧ w.grownBy w' (some g)) ∨ (∃ cap', v' = .slice (some ⟨w.heap.size, 0, none⟩) (xs.length + m) cap' ∧ w.grownBy w' none))) ∧
    ∀ ev ∈ (Builtin.append_ #[22, 22] ty #[out, .slice (some a) m c]).events Try.prog w #[], ev.isRead ∨ (∃ ad, ev.loc = .cell ad ∧ some ad.block = out.ownBlock) ∨ ∃ m, ev = ⟨.mark m, false, true⟩ ∧ Conc.Neutral m := by
  obtain ⟨i0, hi, hz0, hz1, hz2⟩ := info_parts Try.info3
  have hl' : news.length = m * 1 := by omega
  have h63 : xs.length + m ≤ maxLen := by simp only [maxLen]; omega
  refine ⟨?_, events_append_own (P := Try.prog) w lo 22 ty 3 i0 (.int .i64 0) 1 8 Try.underlying22 hi hz0 hz1 hz2 out xs.length xs hown a m c news hl' hnews h1 h63 hlen⟩
  obtain ⟨v', w', hr, hown', hgrow, _⟩ := run_append_own (P := Try.prog) w lo 22 ty 3 i0 (.int .i64 0) 1 8 Try.underlying22 hi hz0 hz1 hz2 rfl (by decide) out xs.length xs hown a m c news hl' hnews h1 h63 hlen hlo
  refine ⟨v', w', hr, hown', ?_⟩
  rcases hown.2 with ⟨rfl, h0⟩ | ⟨g, cap, cur, rfl, hbg, hg, hnc, hcm, hcs, htake⟩
  · have hx : xs = [] := List.eq_nil_of_length_eq_zero h0
    subst hx
    have hr' := run_append_nil (P := Try.prog) w 22 ty 3 i0 (.int .i64 0) Try.underlying22 hi hz0 a m c news (by rw [hz1]; exact hl') hnews hm (by simp only [maxLen] at h63; simp at hlen; omega) (by rw [hz2]; simp at hlen; omega)
    rw [hr] at hr'
    cases hr'
    exact .inr ⟨grownCap w m 0 3, by simp, ⟨rfl, rfl, rfl, by simp, fun k hk _ => heap_alloc_old w.drew _ k hk⟩⟩
  · by_cases hroom : xs.length + m ≤ cap
    · obtain ⟨w2, hr', ho', hg'⟩ := run_append_fits (P := Try.prog) w lo 22 ty 3 i0 1 Try.underlying22 hi hz1 g xs.length cap xs hown a m c news hl' hnews h1 hroom
      rw [hr] at hr'
      cases hr'
      exact .inl ⟨g, cap, rfl, rfl, hg'⟩
    · have holds : ∀ j u, xs[j]? = some u → w.cell? ((⟨g, 0, none⟩ : Addr).add j) = some u := hown.cells (g := g) rfl
      have hr' := run_append_grow (P := Try.prog) w 22 ty 3 i0 (.int .i64 0) Try.underlying22 hi hz0 ⟨g, 0, none⟩ xs.length cap xs (by rw [hz1]; omega) holds a m c news (by rw [hz1]; exact hl') hnews (by omega) (by simp only [maxLen] at h63; omega) (growslice_fits (by omega) (by rw [hz2]; exact hlen))
      rw [hr] at hr'
      cases hr'
      exact .inr ⟨_, rfl, ⟨rfl, rfl, rfl, by simp, fun k hk _ => heap_alloc_old w.drew _ k hk⟩⟩

/-- What a push has done. -/
structure Push (ch : List Nat) (lo : Nat) (out : Value) (xs : List Value) (x : Int) (w : World) (v' : Value) (w' : World) : Prop where
  g : Grows ch out.ownBlock w w'
  own : w'.ownsRow lo 3 1 v' (xs ++ [iv x]).length (xs ++ [iv x])
  how : (∃ g cap, out = .slice (some ⟨g, 0, none⟩) xs.length cap ∧ v' = .slice (some ⟨g, 0, none⟩) (xs.length + 1) cap) ∨ ((∃ g, v'.ownBlock = some g ∧ w.heap.size ≤ g) ∧ Grows ch none w w')
  nch : ∀ k, v'.ownBlock = some k → k ∉ ch

section
variable {T ch : List Nat} {Stop : Goroutine → World → Prop} {b : Frame} {a : Act} {k : List Item} {cs : List Frame} {ops : Array Oper} {i i' : Nat} {rest : List Nat} {o o' : Oper} {n : Nat} {w : World}

/-- 'l = append(l, x)': the literal, then the append. -/
theorem goes_push {x : Operand} {s : Operand} {d : Nat} {out : Value} {u : Int} {lo : Nat} {xs : List Value} (hk : b.kind ≠ .early)
    (ho : ops[i]? = some o) (hw : Region.wanted o (yielded ops a.tmps) = true) (hop : o.op = .buildSlice 22 1 #[(0, x)]) (hd : o.dst = some d) (hx : a.eval x = iv u)
    (ho' : ops[i']? = some o') (hw' : ∀ v, Region.wanted o' (yielded ops (a.put (some d) v).tmps) = true) (hop' : o'.op = .call { callee := .builtin .append, args := #[s, .tmp d], argTypes := #[22, 22] }) (hs : ∀ v, (a.put (some d) v).eval s = out) (hdd : ∀ v, (a.put (some d) v).eval (.tmp d) = v)
    (hown : w.ownsRow lo 3 1 out xs.length xs) (hlo : lo ≤ w.heap.size) (hlen : (xs.length + 1) * 8 ≤ 140737488355328) (hnc : ∀ k, out.ownBlock = some k → k ∉ ch ∧ k ∉ T) (hT : ∀ b ∈ T, b < w.heap.size) (hch : ∀ b ∈ ch, b < w.heap.size)
    (next : ∀ v v' w', Push ch lo out xs u w v' w' → Goes Try.prog true (RC ch) (DM T ch) Stop n (G (b.at ((a.put (some d) v).put o'.dst v') (.inRegion ops rest :: k)) cs) w') :
    Goes Try.prog true (RC ch) (DM T ch) Stop (n + 2) (G (b.at a (.inRegion ops (i :: i' :: rest) :: k)) cs) w := by
  refine Goes.step rfl (fun w₁ h₁ => ?_)
  have hown1 := own_rely hown (fun k hk => (hnc k hk).1) h₁
  have hr1 : (execOp a.eval o).run Try.prog w₁ = .ok (.value (.slice (some ⟨w₁.heap.size, 0, none⟩) 1 1)) (w₁.alloc (.cells #[iv u] 3)) ∧ (execOp a.eval o).events Try.prog w₁ #[] = #[] := by
    constructor
    · simp only [execOp, hop, List.map_toArray, List.map_cons, List.map_nil, hx]
      simp [go_sem]
    · simp only [execOp, hop, List.map_toArray, List.map_cons, List.map_nil, hx]
      simp [go_sem]
  have hsz := h₁.size
  have hstep := stepG_value (P := Try.prog) (main := true) (k := k) (cs := cs) (rest := i' :: rest) ho hw hk hr1.1
  rw [hstep, hd]
  simp only [goes_go]
  have hl1 : listed Try.prog b.fn a o w₁ = #[] := listed_nil hr1.2
  rw [hl1]
  refine ⟨⟨fun b hb => Below.heap_alloc _ _ _ (by have := hT b hb; omega), fun b hb => Below.heap_alloc _ _ _ (by have := hch b hb; omega), by simp⟩, ?_⟩
  have hnew : (w₁.alloc (.cells #[iv u] 3)).heap[w₁.heap.size]? = some (.cells #[iv u] 3) := heap_alloc_new w₁ _
  have hown2 := hown1.alloc (.cells #[iv u] 3)
  have hns : w₁.heap.size ∉ ch := fun h => by have := hch _ h; omega
  refine Goes.step rfl (fun w₂ h₂ => ?_)
  have hown3 := own_rely hown2 (fun k hk => (hnc k hk).1) h₂
  have hnew2 : w₂.cell? ⟨w₁.heap.size, 0, none⟩ = some (iv u) := by
    have := (h₂.block _ hns).trans hnew
    simp [World.cell?, this]
  have hsz2 : w₂.heap.size = w₁.heap.size + 1 := by rw [h₂.size]; simp
  obtain ⟨⟨v', w₃, hr, hown', hcase⟩, hev⟩ := app_cases (w := w₂) hown3 (by omega) o'.type ⟨w₁.heap.size, 0, none⟩ 1 1 [iv u] rfl (fun j u' hj => by
    match j, hj with
    | 0, hj => simp at hj; subst hj; simpa [Addr.add] using hnew2) (by intro u' hu; simp at hu; subst hu; rfl) (by omega) hlen
  have hrun : (execOp (a.put (some d) (.slice (some ⟨w₁.heap.size, 0, none⟩) 1 1)).eval o').run Try.prog w₂ = .ok (.value v') w₃ := by
    unfold execOp
    simp only [hop', resolve, invoke, builtin, Sem.run_bind, Sem.run_pure, Result.andThen_ok, List.map_toArray, List.map_cons, List.map_nil, hs, hdd, hr]
  have hstep2 := stepG_value (P := Try.prog) (main := true) (k := k) (cs := cs) (rest := rest) (b := b) ho' (hw' _) hk hrun
  rw [hstep2]
  simp only [goes_go]
  have hGa : Grows ch none w w₂ := ((Grows.of h₁ none).trans (.alloc _ _ _ _)).rely h₂
  have hgrow : w₂.grownBy w₃ out.ownBlock := by
    rcases hcase with ⟨g, cap, rfl, _, hg⟩ | ⟨cap', _, hg⟩
    · exact hg
    · exact ⟨hg.os, hg.tape, hg.output, hg.size, fun k hk _ => hg.block k hk (by simp)⟩
  refine ⟨DM_of_grows hgrow (fun b hb => ⟨by have := hT b hb; omega, fun e => (hnc b e.symm).2 hb⟩) (fun b hb => ⟨by have := hch b hb; omega, fun e => (hnc b e.symm).1 hb⟩) (fun e he => ?_), ?_⟩
  · have hm := mem_listed he
    rw [events_append_op s (.tmp d) 22 hop' (hs _) (hdd _)] at hm
    rcases hev e hm with ⟨ad, h2, h3⟩ | ⟨ad, h2, h3⟩ | ⟨m, rfl, hn⟩
    · obtain ⟨l, wr, sy⟩ := e
      simp only at h2 h3
      subst h2 h3
      exact evM_read _ _ (by simp)
    · obtain ⟨l, wr, sy⟩ := e
      simp only at h2
      subst h2
      refine ⟨fun m h => (by cases h), fun _ hi => ?_⟩
      rcases hi with ⟨b', hb, hb2⟩ | ⟨c, hc⟩
      · cases hb; exact (hnc _ h3.symm).2 hb2
      · cases hc
    · exact ⟨fun m' h' => (by cases h'; exact hn), fun hw => (by cases hw)⟩
  · refine next _ v' w₃ ⟨(hGa.any _).trans (.grown hgrow ch), by rw [List.length_append]; exact hown', ?_, ?_⟩
    · rcases hcase with ⟨g, cap, h1, h2, _⟩ | ⟨cap', h2, hg⟩
      · exact .inl ⟨g, cap, h1, h2⟩
      · exact .inr ⟨⟨w₂.heap.size, by rw [h2]; rfl, hGa.size⟩, hGa.trans (.grown hg ch)⟩
    · intro k' hk'
      rcases hcase with ⟨g, cap, h1, h2, _⟩ | ⟨cap', h2, hg⟩
      · rw [h2] at hk'; cases hk'; exact (hnc g (by rw [h1]; rfl)).1
      · rw [h2] at hk'; cases hk'; exact fun h => by have := hch _ h; simp only at this; omega
end
end Go.Proofs.Ytplndihadjfliaa.Net
/-
  CREW: the document's Relay, in company.
-/
set_option linter.unusedSimpArgs false
set_option linter.unusedVariables false
set_option maxHeartbeats 2000000
namespace Go.Proofs.Ytplndihadjfliaa.Net
open Go Go.Conc Go.ConcN Go.Proofs Go.RowKit

theorem IR.grows {ch : List Nat} {a0 : Option Addr} {n : Nat} {xs : List Int} {w w₁ : World} (h : IR ch a0 n xs w) (g : Grows ch none w w₁) : IR ch a0 n xs w₁ :=
  ⟨h.len, h.max, h.ex, h.nch, fun j a hj ha => by
    have hc := h.cell j a hj ha
    have hlt := World.block_lt_of_cell? w _ hc
    rw [addBlock] at hlt
    exact (World.cell?_of_block (by rw [addBlock]; exact g.block _ hlt (h.nch a ha (by omega)) (by simp))).trans hc⟩

/-- A row that is being built. -/
structure KO (ch : List Nat) (w0 : World) (lo : Nat) (out : Value) (xs : List Value) (w : World) : Prop where
  g : Grows ch none w0 w
  own : w.ownsRow lo 3 1 out xs.length xs
  nch : ∀ k, out.ownBlock = some k → k ∉ ch
theorem KO.rely {ch : List Nat} {w0 : World} {lo : Nat} {out : Value} {xs : List Value} {w w₁ : World} (h : KO ch w0 lo out xs w) (r : RC ch w w₁) : KO ch w0 lo out xs w₁ := ⟨h.g.rely r, own_rely h.own h.nch r, h.nch⟩
/-- All that is built lies from lo on: what was there ahead of it is as it was. -/
theorem KO.push {ch : List Nat} {w0 : World} {out v' : Value} {xs : List Value} {x : Int} {w w' : World} (h : KO ch w0 w0.heap.size out xs w) (p : Push ch w0.heap.size out xs x w v' w') : KO ch w0 w0.heap.size v' (xs ++ [iv x]) w' :=
  ⟨⟨p.g.os.trans h.g.os, p.g.tape.trans h.g.tape, p.g.output.trans h.g.output, Nat.le_trans h.g.size p.g.size, fun b hb hc _ => (p.g.block b (by have := h.g.size; omega) hc (fun e => by have := (h.own.lt b e.symm).1; omega)).trans (h.g.block b hb hc (by simp))⟩, p.own, p.nch⟩

def sumW : List Int → Int → Int
  | [], s => s
  | d :: ds, s => sumW ds (IntKind.i64.wrap (s + d))

noncomputable def body9 : Code := Try.f9.body.getD .skip
noncomputable def tail9 : Code := match body9 with | .seq _ (.seq _ (.seq _ r)) => r | _ => .skip
noncomputable def L9a : Code := match tail9 with | .seq (.seq _ (.block _ (.loop c))) _ => c | _ => .skip
noncomputable def rest9 : Code := match tail9 with | .seq _ r => r | _ => .skip
noncomputable def L9b : Code := match rest9 with | .seq _ (.seq (.seq _ (.block _ (.loop c))) _) => c | _ => .skip
noncomputable def end9 : Code := match rest9 with | .seq _ (.seq _ r) => r | _ => .skip


section
variable (T ch : List Nat) (a0 b0 : Option Addr) (n cap0 m cap1 : Nat) (zs ds : List Int) (b : Frame) (k : List Item) (cs : List Frame)

noncomputable def head9a (s : Int) (j : Nat) (u2 u3 u4 u7 u8 u9 u10 u11 u12 u13 u14 u15 u16 u17 u18 u19 u20 u21 u22 u23 u24 u25 u26 u27 u28 u29 u30 u31 u32 u33 u34 u35 u36 u37 u38 u39 : Value) : Goroutine := G (b.at ⟨#[.slice a0 n cap0, .slice b0 m cap1, u2, u3, u4, iv s, .int .i64 j, u7, u8, u9, u10, u11, u12, u13, u14, u15, u16, u17, u18, u19, u20, u21, u22, u23, u24, u25, u26, u27, u28, u29, u30, u31, u32, u33, u34, u35, u36, u37, u38, u39], []⟩ (.code L9a :: .inLoop L9a :: .inBlock 0 :: .code rest9 :: k)) cs
noncomputable def head9b (s : Int) (out : Value) (j : Nat) (u1 u2 u3 u4 u6 u9 u10 u11 u12 u13 u14 u15 u16 u17 u18 u19 u20 u21 u22 u23 u24 u25 u26 u27 u28 u29 u30 u31 u32 u33 u34 u35 u36 u37 u38 u39 : Value) : Goroutine := G (b.at ⟨#[.slice a0 n cap0, u1, u2, u3, u4, iv s, u6, out, .int .i64 j, u9, u10, u11, u12, u13, u14, u15, u16, u17, u18, u19, u20, u21, u22, u23, u24, u25, u26, u27, u28, u29, u30, u31, u32, u33, u34, u35, u36, u37, u38, u39], []⟩ (.code L9b :: .inLoop L9b :: .inBlock 2 :: .code end9 :: k)) cs

set_option maxRecDepth 100000 in
theorem loop9b (w0 : World) (hA : IR ch a0 n zs w0) (hn8 : n * 8 ≤ 140737488355328) (hT : ∀ b ∈ T, b < w0.heap.size) (hch : ∀ b ∈ ch, b < w0.heap.size) (s : Int) (Stop : Goroutine → World → Prop) (q : Nat) (hb : b.fn = 9) (hk : b.kind ≠ .early)
    (hret : ∀ (t : Array Value) todo w', KO ch w0 w0.heap.size (t.getD 4 undef) ((zs.map (addI s)).map iv) w' → Goes Try.prog true (RC ch) (DM T ch) Stop q (G { b.at ⟨t, []⟩ todo with mode := .returning } cs) w') :
    ∀ (r j : Nat), j + r = n → ∀ (out : Value) (u1 u2 u3 u4 u6 u9 u10 u11 u12 u13 u14 u15 u16 u17 u18 u19 u20 u21 u22 u23 u24 u25 u26 u27 u28 u29 u30 u31 u32 u33 u34 u35 u36 u37 u38 u39 : Value) (w : World), KO ch w0 w0.heap.size out (((zs.take j).map (addI s)).map iv) w → Goes Try.prog true (RC ch) (DM T ch) Stop (q + 80 * (r + 1)) (head9b a0 n cap0 b k cs s out j u1 u2 u3 u4 u6 u9 u10 u11 u12 u13 u14 u15 u16 u17 u18 u19 u20 u21 u22 u23 u24 u25 u26 u27 u28 u29 u30 u31 u32 u33 u34 u35 u36 u37 u38 u39) w := by
  have hTl : ∀ b ∈ T, b < 0 ∨ 0 = 0 := fun _ _ => .inr rfl
  have hcl : ∀ b ∈ ch, b < 0 ∨ 0 = 0 := fun _ _ => .inr rfl
  intro r
  induction r with
  | zero =>
    intro j hj out u1 u2 u3 u4 u6 u9 u10 u11 u12 u13 u14 u15 u16 u17 u18 u19 u20 u21 u22 u23 u24 u25 u26 u27 u28 u29 u30 u31 u32 u33 u34 u35 u36 u37 u38 u39 w hF
    obtain rfl : j = n := by omega
    rw [List.take_of_length_le (by rw [hA.len]; omega)] at hF
    refine Goes.mono (n := q + 80) ?_ (by omega)
    simp only [head9b, L9b, end9, rest9, tail9, body9, Try.f9, Option.getD_some]
    repeat (first | (refine Goes.step rfl (fun _ h₁ => ?_); walk_rw; refine ⟨DM_of_below (B := 0) hTl hcl (Below.refl _ _) (by simp), ?_⟩; replace hF := (KO.rely hF) h₁; clear h₁) | (refine Goes.step rfl (fun w₁ h₁ => ?_); replace hF := (KO.rely hF) h₁; clear h₁; refine goes_oper_k rfl rfl hk (fun K hK => ?_); skip; go_simp; refine hK _ _ ⟨DM_of_below (B := 0) hTl hcl (Below.refl _ _) (fun e he => ?_), ?_⟩; (focus (have hm := mem_listed he; (simp [go_sem, *] at hm); (try (subst hm; exact evM_read _ _ (by simp))))); (clear hK K); (try walk_nrm)))
    (refine Goes.step rfl (fun _ h₁ => ?_); rw [stepG_cond (t := false) rfl]; simp only [goes_go, if_true, if_false, Bool.false_eq_true, ↓reduceIte]; refine ⟨DM_of_below (B := 0) hTl hcl (Below.refl _ _) (by simp), ?_⟩; replace hF := (KO.rely hF) h₁; clear h₁)
    (refine Goes.step rfl (fun _ h₁ => ?_); apply goes_exit; (focus rfl); refine ⟨DM_of_below (B := 0) hTl hcl (Below.refl _ _) (by simp), ?_⟩; replace hF := (KO.rely hF) h₁; clear h₁)
    repeat (first | (refine Goes.step rfl (fun _ h₁ => ?_); walk_rw; refine ⟨DM_of_below (B := 0) hTl hcl (Below.refl _ _) (by simp), ?_⟩; replace hF := (KO.rely hF) h₁; clear h₁) | (refine Goes.step rfl (fun w₁ h₁ => ?_); replace hF := (KO.rely hF) h₁; clear h₁; refine goes_oper_k rfl rfl hk (fun K hK => ?_); skip; go_simp; refine hK _ _ ⟨DM_of_below (B := 0) hTl hcl (Below.refl _ _) (fun e he => ?_), ?_⟩; (focus (have hm := mem_listed he; (simp [go_sem, *] at hm); (try (subst hm; exact evM_read _ _ (by simp))))); (clear hK K); (try walk_nrm)))
    refine Goes.mono (n := q) ?_ (by omega)
    exact hret _ _ _ hF
  | succ r ih =>
    intro j hj out u1 u2 u3 u4 u6 u9 u10 u11 u12 u13 u14 u15 u16 u17 u18 u19 u20 u21 u22 u23 u24 u25 u26 u27 u28 u29 u30 u31 u32 u33 u34 u35 u36 u37 u38 u39 w hF
    refine Goes.mono (n := (q + 80 * (r + 1)) + 80) ?_ (by omega)
    obtain ⟨ad, rfl⟩ := hA.ex (by omega)
    have hmax := hA.max
    have hwr : IntKind.i64.wrap ((j : Int) + 1) = ((j + 1 : Nat) : Int) := by rw [IntKind.wrap_i64]; omega
    have hjn : j < n := by omega
    have hjn' : (j : Int) < (n : Int) := by omega
    have hlz := hA.len
    have hxl : (((zs.take j).map (addI s)).map iv).length = j := by simp; omega
    obtain ⟨z, hzj⟩ : ∃ z, zs[j]?.getD 0 = z := ⟨_, rfl⟩
    have htk : ((zs.take j).map (addI s)).map iv ++ [iv (IntKind.i64.wrap (z + s))] = ((zs.take (j + 1)).map (addI s)).map iv := by
      have hjz : j < zs.length := by omega
      rw [← hzj, List.take_add_one, List.map_append, List.map_append, List.getElem?_eq_getElem hjz]
      rfl
    have hcz : ∀ w, IR ch (some ad) n zs w → w.cell? (ad.add j) = some (.int .i64 z) := fun w h => by rw [← hzj]; exact h.cell j ad hjn rfl
    clear hlz hzj
    simp only [head9b, L9b, end9, rest9, tail9, body9, Try.f9, Option.getD_some] at ih ⊢
    repeat (first | (refine Goes.step rfl (fun _ h₁ => ?_); walk_rw; refine ⟨DM_of_below (B := 0) hTl hcl (Below.refl _ _) (by simp), ?_⟩; replace hF := (KO.rely hF) h₁; clear h₁) | (refine Goes.step rfl (fun w₁ h₁ => ?_); replace hF := (KO.rely hF) h₁; clear h₁; refine goes_oper_k rfl rfl hk (fun K hK => ?_); skip; go_simp; refine hK _ _ ⟨DM_of_below (B := 0) hTl hcl (Below.refl _ _) (fun e he => ?_), ?_⟩; (focus (have hm := mem_listed he; (simp [go_sem, *] at hm); (try (subst hm; exact evM_read _ _ (by simp))))); (clear hK K); (try walk_nrm)))
    (refine Goes.step rfl (fun _ h₁ => ?_); rw [stepG_cond (t := true) rfl]; simp only [goes_go, if_true, if_false, Bool.false_eq_true, ↓reduceIte]; refine ⟨DM_of_below (B := 0) hTl hcl (Below.refl _ _) (by simp), ?_⟩; replace hF := (KO.rely hF) h₁; clear h₁)
    (refine Goes.step rfl (fun _ h₁ => ?_); walk_rw; refine ⟨DM_of_below (B := 0) hTl hcl (Below.refl _ _) (by simp), ?_⟩; replace hF := (KO.rely hF) h₁; clear h₁)
    (refine Goes.step rfl (fun _ h₁ => ?_); walk_rw; refine ⟨DM_of_below (B := 0) hTl hcl (Below.refl _ _) (by simp), ?_⟩; replace hF := (KO.rely hF) h₁; clear h₁)
    (refine Goes.step rfl (fun _ h₁ => ?_); walk_rw; refine ⟨DM_of_below (B := 0) hTl hcl (Below.refl _ _) (by simp), ?_⟩; replace hF := (KO.rely hF) h₁; clear h₁)
    (refine Goes.step rfl (fun _ h₁ => ?_); walk_rw; refine ⟨DM_of_below (B := 0) hTl hcl (Below.refl _ _) (by simp), ?_⟩; replace hF := (KO.rely hF) h₁; clear h₁)
    (refine Goes.step rfl (fun w₁ h₁ => ?_); replace hF := (KO.rely hF) h₁; clear h₁; refine goes_oper_k rfl rfl hk (fun K hK => ?_); skip; go_simp; refine hK _ _ ⟨DM_of_below (B := 0) hTl hcl (Below.refl _ _) (fun e he => ?_), ?_⟩; (focus (have hm := mem_listed he; (simp [go_sem, *] at hm); (try (subst hm; exact evM_read _ _ (by simp))))); (clear hK K); (try walk_nrm))
    (refine Goes.step rfl (fun w₁ h₁ => ?_); replace hF := (KO.rely hF) h₁; clear h₁; refine goes_oper_k rfl rfl hk (fun K hK => ?_); skip; go_simp; refine hK _ _ ⟨DM_of_below (B := 0) hTl hcl (Below.refl _ _) (fun e he => ?_), ?_⟩; (focus (have hm := mem_listed he; (simp [go_sem, *] at hm); (try (subst hm; exact evM_read _ _ (by simp))))); (clear hK K); (try walk_nrm))
    (refine Goes.step rfl (fun w₁ h₁ => ?_); replace hF := (KO.rely hF) h₁; clear h₁; refine goes_oper_k rfl rfl hk (fun K hK => ?_); skip; go_simp; refine hK _ _ ⟨DM_of_below (B := 0) hTl hcl (Below.refl _ _) (fun e he => ?_), ?_⟩; (focus (have hm := mem_listed he; (simp [go_sem, *] at hm); (try (subst hm; exact evM_read _ _ (by simp))))); (clear hK K); (try walk_nrm))
    (refine Goes.step rfl (fun w₁ h₁ => ?_); replace hF := (KO.rely hF) h₁; clear h₁; refine goes_oper_k rfl rfl hk (fun K hK => ?_); skip; go_simp; refine hK _ _ ⟨DM_of_below (B := 0) hTl hcl (Below.refl _ _) (fun e he => ?_), ?_⟩; (focus (have hm := mem_listed he; (simp [go_sem, *] at hm); (try (subst hm; exact evM_read _ _ (by simp))))); (clear hK K); (try walk_nrm))
    (refine Goes.step rfl (fun w₁ h₁ => ?_); replace hF := (KO.rely hF) h₁; clear h₁; refine goes_oper_k rfl rfl hk (fun K hK => ?_); have hc := hcz _ (hA.grows hF.g); go_simp; refine hK _ _ ⟨DM_of_below (B := 0) hTl hcl (Below.refl _ _) (fun e he => ?_), ?_⟩; (focus (have hm := mem_listed he; (simp [go_sem, *] at hm); (try (subst hm; exact evM_read _ _ (by simp))))); (clear hK K); (try walk_nrm))
    (refine Goes.step rfl (fun w₁ h₁ => ?_); replace hF := (KO.rely hF) h₁; clear h₁; refine goes_oper_k rfl rfl hk (fun K hK => ?_); skip; go_simp; refine hK _ _ ⟨DM_of_below (B := 0) hTl hcl (Below.refl _ _) (fun e he => ?_), ?_⟩; (focus (have hm := mem_listed he; (simp [go_sem, *] at hm); (try (subst hm; exact evM_read _ _ (by simp))))); (clear hK K); (try walk_nrm))
    (refine Goes.step rfl (fun w₁ h₁ => ?_); replace hF := (KO.rely hF) h₁; clear h₁; refine goes_oper_k rfl rfl hk (fun K hK => ?_); skip; go_simp; refine hK _ _ ⟨DM_of_below (B := 0) hTl hcl (Below.refl _ _) (fun e he => ?_), ?_⟩; (focus (have hm := mem_listed he; (simp [go_sem, *] at hm); (try (subst hm; exact evM_read _ _ (by simp))))); (clear hK K); (try walk_nrm))
    refine goes_push (d := 37) (x := .tmp 36) (s := .tmp 30) (out := out) (u := IntKind.i64.wrap (z + s)) hk rfl rfl rfl rfl rfl rfl (fun _ => rfl) rfl (fun _ => rfl) (fun _ => rfl) hF.own hF.g.size (by rw [hxl]; omega)
      (fun k hk => ⟨hF.nch k hk, fun h => by have := hT _ h; have := (hF.own.lt _ hk).1; omega⟩) (fun b hb => by have := hT _ hb; have := hF.g.size; omega) (fun b hb => by have := hch _ hb; have := hF.g.size; omega) fun v v' w' hP => ?_
    replace hF := hF.push hP
    rw [htk] at hF
    try walk_nrm
    (refine Goes.step rfl (fun w₁ h₁ => ?_); replace hF := (KO.rely hF) h₁; clear h₁; refine goes_oper_k rfl rfl hk (fun K hK => ?_); skip; go_simp; refine hK _ _ ⟨DM_of_below (B := 0) hTl hcl (Below.refl _ _) (fun e he => ?_), ?_⟩; (focus (have hm := mem_listed he; (simp [go_sem, *] at hm); (try (subst hm; exact evM_read _ _ (by simp))))); (clear hK K); (try walk_nrm))
    (refine Goes.step rfl (fun _ h₁ => ?_); walk_rw; refine ⟨DM_of_below (B := 0) hTl hcl (Below.refl _ _) (by simp), ?_⟩; replace hF := (KO.rely hF) h₁; clear h₁)
    (refine Goes.step rfl (fun _ h₁ => ?_); walk_rw; refine ⟨DM_of_below (B := 0) hTl hcl (Below.refl _ _) (by simp), ?_⟩; replace hF := (KO.rely hF) h₁; clear h₁)
    (refine Goes.step rfl (fun _ h₁ => ?_); walk_rw; refine ⟨DM_of_below (B := 0) hTl hcl (Below.refl _ _) (by simp), ?_⟩; replace hF := (KO.rely hF) h₁; clear h₁)
    (refine Goes.step rfl (fun w₁ h₁ => ?_); replace hF := (KO.rely hF) h₁; clear h₁; refine goes_oper_k rfl rfl hk (fun K hK => ?_); skip; go_simp; refine hK _ _ ⟨DM_of_below (B := 0) hTl hcl (Below.refl _ _) (fun e he => ?_), ?_⟩; (focus (have hm := mem_listed he; (simp [go_sem, *] at hm); (try (subst hm; exact evM_read _ _ (by simp))))); (clear hK K); (try walk_nrm))
    (refine Goes.step rfl (fun w₁ h₁ => ?_); replace hF := (KO.rely hF) h₁; clear h₁; refine goes_oper_k rfl rfl hk (fun K hK => ?_); skip; go_simp; refine hK _ _ ⟨DM_of_below (B := 0) hTl hcl (Below.refl _ _) (fun e he => ?_), ?_⟩; (focus (have hm := mem_listed he; (simp [go_sem, *] at hm); (try (subst hm; exact evM_read _ _ (by simp))))); (clear hK K); (try walk_nrm))
    (refine Goes.step rfl (fun w₁ h₁ => ?_); replace hF := (KO.rely hF) h₁; clear h₁; refine goes_oper_k rfl rfl hk (fun K hK => ?_); skip; go_simp; refine hK _ _ ⟨DM_of_below (B := 0) hTl hcl (Below.refl _ _) (fun e he => ?_), ?_⟩; (focus (have hm := mem_listed he; (simp [go_sem, *] at hm); (try (subst hm; exact evM_read _ _ (by simp))))); (clear hK K); (try walk_nrm))
    (refine Goes.step rfl (fun _ h₁ => ?_); walk_rw; refine ⟨DM_of_below (B := 0) hTl hcl (Below.refl _ _) (by simp), ?_⟩; replace hF := (KO.rely hF) h₁; clear h₁)
    (refine Goes.step rfl (fun _ h₁ => ?_); walk_rw; refine ⟨DM_of_below (B := 0) hTl hcl (Below.refl _ _) (by simp), ?_⟩; replace hF := (KO.rely hF) h₁; clear h₁)
    refine Goes.mono (n := q + 80 * (r + 1)) ?_ (by omega)
    exact ih (j + 1) (by omega) _ _ _ _ _ _ _ _ _ _ _ _ _ _ _ _ _ _ _ _ _ _ _ _ _ _ _ _ _ _ _ _ _ _ _ _ _ _ hF

set_option maxRecDepth 100000 in
theorem loop9a (w0 : World) (hA : IR ch a0 n zs w0) (hB : IR ch b0 m ds w0) (hn8 : n * 8 ≤ 140737488355328) (hT : ∀ b ∈ T, b < w0.heap.size) (hch : ∀ b ∈ ch, b < w0.heap.size) (Stop : Goroutine → World → Prop) (q : Nat) (hb : b.fn = 9) (hk : b.kind ≠ .early)
    (hret : ∀ (t : Array Value) todo w', KO ch w0 w0.heap.size (t.getD 4 undef) ((zs.map (addI (sumW ds 0))).map iv) w' → Goes Try.prog true (RC ch) (DM T ch) Stop q (G { b.at ⟨t, []⟩ todo with mode := .returning } cs) w') :
    ∀ (r j : Nat) (s : Int), j + r = m → sumW (ds.drop j) s = sumW ds 0 → ∀ (u2 u3 u4 u7 u8 u9 u10 u11 u12 u13 u14 u15 u16 u17 u18 u19 u20 u21 u22 u23 u24 u25 u26 u27 u28 u29 u30 u31 u32 u33 u34 u35 u36 u37 u38 u39 : Value) (w : World), RC ch w0 w → Goes Try.prog true (RC ch) (DM T ch) Stop (q + 80 * (n + 1) + 80 + 80 * (r + 1)) (head9a a0 b0 n cap0 m cap1 b k cs s j u2 u3 u4 u7 u8 u9 u10 u11 u12 u13 u14 u15 u16 u17 u18 u19 u20 u21 u22 u23 u24 u25 u26 u27 u28 u29 u30 u31 u32 u33 u34 u35 u36 u37 u38 u39) w := by
  have hTl : ∀ b ∈ T, b < 0 ∨ 0 = 0 := fun _ _ => .inr rfl
  have hcl : ∀ b ∈ ch, b < 0 ∨ 0 = 0 := fun _ _ => .inr rfl
  intro r
  induction r with
  | zero =>
    intro j s hj hs u2 u3 u4 u7 u8 u9 u10 u11 u12 u13 u14 u15 u16 u17 u18 u19 u20 u21 u22 u23 u24 u25 u26 u27 u28 u29 u30 u31 u32 u33 u34 u35 u36 u37 u38 u39 w hF
    obtain rfl : j = m := by omega
    have hs' : s = sumW ds 0 := by rw [← hs, List.drop_eq_nil_of_le (by rw [hB.len]; omega)]; rfl
    subst hs'
    have h1 := loop9b T ch a0 n cap0 zs b k cs w0 hA hn8 hT hch (sumW ds 0) Stop q hb hk hret n 0 (by omega)
    refine Goes.mono (n := (q + 80 * (n + 1)) + 80) ?_ (by omega)
    simp only [head9a, head9b, L9a, L9b, end9, rest9, tail9, body9, Try.f9, Option.getD_some] at h1 ⊢
    repeat (first | (refine Goes.step rfl (fun _ h₁ => ?_); walk_rw; refine ⟨DM_of_below (B := 0) hTl hcl (Below.refl _ _) (by simp), ?_⟩; replace hF := (RC.trans hF) h₁; clear h₁) | (refine Goes.step rfl (fun w₁ h₁ => ?_); replace hF := (RC.trans hF) h₁; clear h₁; refine goes_oper_k rfl rfl hk (fun K hK => ?_); skip; go_simp; refine hK _ _ ⟨DM_of_below (B := 0) hTl hcl (Below.refl _ _) (fun e he => ?_), ?_⟩; (focus (have hm := mem_listed he; (simp [go_sem, *] at hm); (try (subst hm; exact evM_read _ _ (by simp))))); (clear hK K); (try walk_nrm)))
    (refine Goes.step rfl (fun _ h₁ => ?_); rw [stepG_cond (t := false) rfl]; simp only [goes_go, if_true, if_false, Bool.false_eq_true, ↓reduceIte]; refine ⟨DM_of_below (B := 0) hTl hcl (Below.refl _ _) (by simp), ?_⟩; replace hF := (RC.trans hF) h₁; clear h₁)
    (refine Goes.step rfl (fun _ h₁ => ?_); apply goes_exit; (focus rfl); refine ⟨DM_of_below (B := 0) hTl hcl (Below.refl _ _) (by simp), ?_⟩; replace hF := (RC.trans hF) h₁; clear h₁)
    (refine Goes.step rfl (fun _ h₁ => ?_); walk_rw; refine ⟨DM_of_below (B := 0) hTl hcl (Below.refl _ _) (by simp), ?_⟩; replace hF := (RC.trans hF) h₁; clear h₁)
    (refine Goes.step rfl (fun _ h₁ => ?_); walk_rw; refine ⟨DM_of_below (B := 0) hTl hcl (Below.refl _ _) (by simp), ?_⟩; replace hF := (RC.trans hF) h₁; clear h₁)
    (refine Goes.step rfl (fun w₁ h₁ => ?_); replace hF := (RC.trans hF) h₁; clear h₁; refine goes_oper_k rfl rfl hk (fun K hK => ?_); skip; go_simp; refine hK _ _ ⟨DM_of_below (B := 0) hTl hcl (Below.refl _ _) (fun e he => ?_), ?_⟩; (focus (have hm := mem_listed he; (simp [go_sem, *] at hm); (try (subst hm; exact evM_read _ _ (by simp))))); (clear hK K); (try walk_nrm))
    (refine Goes.step rfl (fun _ h₁ => ?_); walk_rw; refine ⟨DM_of_below (B := 0) hTl hcl (Below.refl _ _) (by simp), ?_⟩; replace hF := (RC.trans hF) h₁; clear h₁)
    (refine Goes.step rfl (fun _ h₁ => ?_); walk_rw; refine ⟨DM_of_below (B := 0) hTl hcl (Below.refl _ _) (by simp), ?_⟩; replace hF := (RC.trans hF) h₁; clear h₁)
    (refine Goes.step rfl (fun _ h₁ => ?_); walk_rw; refine ⟨DM_of_below (B := 0) hTl hcl (Below.refl _ _) (by simp), ?_⟩; replace hF := (RC.trans hF) h₁; clear h₁)
    (refine Goes.step rfl (fun _ h₁ => ?_); walk_rw; refine ⟨DM_of_below (B := 0) hTl hcl (Below.refl _ _) (by simp), ?_⟩; replace hF := (RC.trans hF) h₁; clear h₁)
    (refine Goes.step rfl (fun w₁ h₁ => ?_); replace hF := (RC.trans hF) h₁; clear h₁; refine goes_oper_k rfl rfl hk (fun K hK => ?_); skip; go_simp; refine hK _ _ ⟨DM_of_below (B := 0) hTl hcl (Below.refl _ _) (fun e he => ?_), ?_⟩; (focus (have hm := mem_listed he; (simp [go_sem, *] at hm); (try (subst hm; exact evM_read _ _ (by simp))))); (clear hK K); (try walk_nrm))
    (refine Goes.step rfl (fun _ h₁ => ?_); walk_rw; refine ⟨DM_of_below (B := 0) hTl hcl (Below.refl _ _) (by simp), ?_⟩; replace hF := (RC.trans hF) h₁; clear h₁)
    (refine Goes.step rfl (fun _ h₁ => ?_); walk_rw; refine ⟨DM_of_below (B := 0) hTl hcl (Below.refl _ _) (by simp), ?_⟩; replace hF := (RC.trans hF) h₁; clear h₁)
    (refine Goes.step rfl (fun _ h₁ => ?_); walk_rw; refine ⟨DM_of_below (B := 0) hTl hcl (Below.refl _ _) (by simp), ?_⟩; replace hF := (RC.trans hF) h₁; clear h₁)
    refine Goes.mono (n := q + 80 * (n + 1)) ?_ (by omega)
    exact h1 _ _ _ _ _ _ _ _ _ _ _ _ _ _ _ _ _ _ _ _ _ _ _ _ _ _ _ _ _ _ _ _ _ _ _ _ _ _ ⟨.of hF _, World.ownsRow_nil _ _ _ _, fun k h => (by cases h)⟩
  | succ r ih =>
    intro j s hj hs u2 u3 u4 u7 u8 u9 u10 u11 u12 u13 u14 u15 u16 u17 u18 u19 u20 u21 u22 u23 u24 u25 u26 u27 u28 u29 u30 u31 u32 u33 u34 u35 u36 u37 u38 u39 w hF
    refine Goes.mono (n := (q + 80 * (n + 1) + 80 + 80 * (r + 1)) + 80) ?_ (by omega)
    obtain ⟨ad, rfl⟩ := hB.ex (by omega)
    have hmax := hB.max
    have hwr : IntKind.i64.wrap ((j : Int) + 1) = ((j + 1 : Nat) : Int) := by rw [IntKind.wrap_i64]; omega
    have hjn : j < m := by omega
    have hjn' : (j : Int) < (m : Int) := by omega
    have hlz := hB.len
    have hjd : j < ds.length := by omega
    obtain ⟨z, hzj⟩ : ∃ z, ds[j]?.getD 0 = z := ⟨_, rfl⟩
    have hs2 : sumW (ds.drop (j + 1)) (IntKind.i64.wrap (s + z)) = sumW ds 0 := by
      rw [← hs, ← hzj, List.drop_eq_getElem_cons hjd, List.getElem?_eq_getElem hjd]; rfl
    have hcz : ∀ w, IR ch (some ad) m ds w → w.cell? (ad.add j) = some (.int .i64 z) := fun w h => by rw [← hzj]; exact h.cell j ad hjn rfl
    clear hlz hzj hjd
    simp only [head9a, L9a, rest9, tail9, body9, Try.f9, Option.getD_some] at ih ⊢
    repeat (first | (refine Goes.step rfl (fun _ h₁ => ?_); walk_rw; refine ⟨DM_of_below (B := 0) hTl hcl (Below.refl _ _) (by simp), ?_⟩; replace hF := (RC.trans hF) h₁; clear h₁) | (refine Goes.step rfl (fun w₁ h₁ => ?_); replace hF := (RC.trans hF) h₁; clear h₁; refine goes_oper_k rfl rfl hk (fun K hK => ?_); skip; go_simp; refine hK _ _ ⟨DM_of_below (B := 0) hTl hcl (Below.refl _ _) (fun e he => ?_), ?_⟩; (focus (have hm := mem_listed he; (simp [go_sem, *] at hm); (try (subst hm; exact evM_read _ _ (by simp))))); (clear hK K); (try walk_nrm)))
    (refine Goes.step rfl (fun _ h₁ => ?_); rw [stepG_cond (t := true) rfl]; simp only [goes_go, if_true, if_false, Bool.false_eq_true, ↓reduceIte]; refine ⟨DM_of_below (B := 0) hTl hcl (Below.refl _ _) (by simp), ?_⟩; replace hF := (RC.trans hF) h₁; clear h₁)
    (refine Goes.step rfl (fun _ h₁ => ?_); walk_rw; refine ⟨DM_of_below (B := 0) hTl hcl (Below.refl _ _) (by simp), ?_⟩; replace hF := (RC.trans hF) h₁; clear h₁)
    (refine Goes.step rfl (fun _ h₁ => ?_); walk_rw; refine ⟨DM_of_below (B := 0) hTl hcl (Below.refl _ _) (by simp), ?_⟩; replace hF := (RC.trans hF) h₁; clear h₁)
    (refine Goes.step rfl (fun _ h₁ => ?_); walk_rw; refine ⟨DM_of_below (B := 0) hTl hcl (Below.refl _ _) (by simp), ?_⟩; replace hF := (RC.trans hF) h₁; clear h₁)
    (refine Goes.step rfl (fun _ h₁ => ?_); walk_rw; refine ⟨DM_of_below (B := 0) hTl hcl (Below.refl _ _) (by simp), ?_⟩; replace hF := (RC.trans hF) h₁; clear h₁)
    (refine Goes.step rfl (fun w₁ h₁ => ?_); replace hF := (RC.trans hF) h₁; clear h₁; refine goes_oper_k rfl rfl hk (fun K hK => ?_); skip; go_simp; refine hK _ _ ⟨DM_of_below (B := 0) hTl hcl (Below.refl _ _) (fun e he => ?_), ?_⟩; (focus (have hm := mem_listed he; (simp [go_sem, *] at hm); (try (subst hm; exact evM_read _ _ (by simp))))); (clear hK K); (try walk_nrm))
    (refine Goes.step rfl (fun w₁ h₁ => ?_); replace hF := (RC.trans hF) h₁; clear h₁; refine goes_oper_k rfl rfl hk (fun K hK => ?_); skip; go_simp; refine hK _ _ ⟨DM_of_below (B := 0) hTl hcl (Below.refl _ _) (fun e he => ?_), ?_⟩; (focus (have hm := mem_listed he; (simp [go_sem, *] at hm); (try (subst hm; exact evM_read _ _ (by simp))))); (clear hK K); (try walk_nrm))
    (refine Goes.step rfl (fun w₁ h₁ => ?_); replace hF := (RC.trans hF) h₁; clear h₁; refine goes_oper_k rfl rfl hk (fun K hK => ?_); skip; go_simp; refine hK _ _ ⟨DM_of_below (B := 0) hTl hcl (Below.refl _ _) (fun e he => ?_), ?_⟩; (focus (have hm := mem_listed he; (simp [go_sem, *] at hm); (try (subst hm; exact evM_read _ _ (by simp))))); (clear hK K); (try walk_nrm))
    (refine Goes.step rfl (fun w₁ h₁ => ?_); replace hF := (RC.trans hF) h₁; clear h₁; refine goes_oper_k rfl rfl hk (fun K hK => ?_); skip; go_simp; refine hK _ _ ⟨DM_of_below (B := 0) hTl hcl (Below.refl _ _) (fun e he => ?_), ?_⟩; (focus (have hm := mem_listed he; (simp [go_sem, *] at hm); (try (subst hm; exact evM_read _ _ (by simp))))); (clear hK K); (try walk_nrm))
    (refine Goes.step rfl (fun w₁ h₁ => ?_); replace hF := (RC.trans hF) h₁; clear h₁; refine goes_oper_k rfl rfl hk (fun K hK => ?_); have hc := hcz _ (hB.rely hF); go_simp; refine hK _ _ ⟨DM_of_below (B := 0) hTl hcl (Below.refl _ _) (fun e he => ?_), ?_⟩; (focus (have hm := mem_listed he; (simp [go_sem, *] at hm); (try (subst hm; exact evM_read _ _ (by simp))))); (clear hK K); (try walk_nrm))
    (refine Goes.step rfl (fun w₁ h₁ => ?_); replace hF := (RC.trans hF) h₁; clear h₁; refine goes_oper_k rfl rfl hk (fun K hK => ?_); skip; go_simp; refine hK _ _ ⟨DM_of_below (B := 0) hTl hcl (Below.refl _ _) (fun e he => ?_), ?_⟩; (focus (have hm := mem_listed he; (simp [go_sem, *] at hm); (try (subst hm; exact evM_read _ _ (by simp))))); (clear hK K); (try walk_nrm))
    (refine Goes.step rfl (fun w₁ h₁ => ?_); replace hF := (RC.trans hF) h₁; clear h₁; refine goes_oper_k rfl rfl hk (fun K hK => ?_); skip; go_simp; refine hK _ _ ⟨DM_of_below (B := 0) hTl hcl (Below.refl _ _) (fun e he => ?_), ?_⟩; (focus (have hm := mem_listed he; (simp [go_sem, *] at hm); (try (subst hm; exact evM_read _ _ (by simp))))); (clear hK K); (try walk_nrm))
    (refine Goes.step rfl (fun _ h₁ => ?_); walk_rw; refine ⟨DM_of_below (B := 0) hTl hcl (Below.refl _ _) (by simp), ?_⟩; replace hF := (RC.trans hF) h₁; clear h₁)
    (refine Goes.step rfl (fun _ h₁ => ?_); walk_rw; refine ⟨DM_of_below (B := 0) hTl hcl (Below.refl _ _) (by simp), ?_⟩; replace hF := (RC.trans hF) h₁; clear h₁)
    (refine Goes.step rfl (fun _ h₁ => ?_); walk_rw; refine ⟨DM_of_below (B := 0) hTl hcl (Below.refl _ _) (by simp), ?_⟩; replace hF := (RC.trans hF) h₁; clear h₁)
    (refine Goes.step rfl (fun w₁ h₁ => ?_); replace hF := (RC.trans hF) h₁; clear h₁; refine goes_oper_k rfl rfl hk (fun K hK => ?_); skip; go_simp; refine hK _ _ ⟨DM_of_below (B := 0) hTl hcl (Below.refl _ _) (fun e he => ?_), ?_⟩; (focus (have hm := mem_listed he; (simp [go_sem, *] at hm); (try (subst hm; exact evM_read _ _ (by simp))))); (clear hK K); (try walk_nrm))
    (refine Goes.step rfl (fun w₁ h₁ => ?_); replace hF := (RC.trans hF) h₁; clear h₁; refine goes_oper_k rfl rfl hk (fun K hK => ?_); skip; go_simp; refine hK _ _ ⟨DM_of_below (B := 0) hTl hcl (Below.refl _ _) (fun e he => ?_), ?_⟩; (focus (have hm := mem_listed he; (simp [go_sem, *] at hm); (try (subst hm; exact evM_read _ _ (by simp))))); (clear hK K); (try walk_nrm))
    (refine Goes.step rfl (fun w₁ h₁ => ?_); replace hF := (RC.trans hF) h₁; clear h₁; refine goes_oper_k rfl rfl hk (fun K hK => ?_); skip; go_simp; refine hK _ _ ⟨DM_of_below (B := 0) hTl hcl (Below.refl _ _) (fun e he => ?_), ?_⟩; (focus (have hm := mem_listed he; (simp [go_sem, *] at hm); (try (subst hm; exact evM_read _ _ (by simp))))); (clear hK K); (try walk_nrm))
    (refine Goes.step rfl (fun _ h₁ => ?_); walk_rw; refine ⟨DM_of_below (B := 0) hTl hcl (Below.refl _ _) (by simp), ?_⟩; replace hF := (RC.trans hF) h₁; clear h₁)
    (refine Goes.step rfl (fun _ h₁ => ?_); walk_rw; refine ⟨DM_of_below (B := 0) hTl hcl (Below.refl _ _) (by simp), ?_⟩; replace hF := (RC.trans hF) h₁; clear h₁)
    refine Goes.mono (n := q + 80 * (n + 1) + 80 + 80 * (r + 1)) ?_ (by omega)
    exact ih (j + 1) _ (by omega) hs2 _ _ _ _ _ _ _ _ _ _ _ _ _ _ _ _ _ _ _ _ _ _ _ _ _ _ _ _ _ _ _ _ _ _ _ _ _ hF

def refOut (zs ds : List Int) : List Int := if 64 < ds.length then [] else zs.map (addI (sumW ds 0))

set_option maxRecDepth 100000 in
/-- THE DOCUMENT's RELAY. -/
theorem ref_c : ∃ q, ∀ (a0 b0 : Option Addr) (cap0 cap1 : Nat) (zs ds : List Int) (w : World), IR ch a0 n zs w → IR ch b0 m ds w → n * 8 ≤ 140737488355328 → (∀ b ∈ T, b < w.heap.size) → (∀ b ∈ ch, b < w.heap.size) →
    CallsC Try.prog true (RC ch) (DM T ch) 9 #[.slice a0 n cap0, .slice b0 m cap1] q w fun v w' => KO ch w w.heap.size v ((refOut zs ds).map iv) w' := by
  refine ⟨80 * (n + 1) + 80 + 80 * (m + 1) + 80, fun a0 b0 cap0 cap1 zs ds w0 hA hB hn8 hT hch => callsC_of_wpC Try.func9 (by simp [Try.f9]) (show Try.f9.body = some body9 by simp [Try.f9, body9]) ?_⟩
  have hTl : ∀ b ∈ T, b < 0 ∨ 0 = 0 := fun _ _ => .inr rfl
  have hcl : ∀ b ∈ ch, b < 0 ∨ 0 = 0 := fun _ _ => .inr rfl
  have hF : RC ch w0 w0 := RC.refl _ _
  have e : (#[.slice a0 n cap0, .slice b0 m cap1] : Array Value) ++ Array.replicate (Try.f9.ntmps - (#[.slice a0 n cap0, .slice b0 m cap1] : Array Value).size) undef = #[.slice a0 n cap0, .slice b0 m cap1, undef, undef, undef, undef, undef, undef, undef, undef, undef, undef, undef, undef, undef, undef, undef, undef, undef, undef, undef, undef, undef, undef, undef, undef, undef, undef, undef, undef, undef, undef, undef, undef, undef, undef, undef, undef, undef, undef] := by simp only [Try.f9]; walk_nrm
  rw [e]
  intro b k cs Stop q hb hk hc
  have hlm := hB.len
  by_cases h64 : 64 < m
  · have h64' : (64 : Int) < (m : Int) := by omega
    refine Goes.mono (n := q + 80) ?_ (by omega)
    simp only [body9, Try.f9, Option.getD_some]
    repeat (first | (refine Goes.step rfl (fun _ h₁ => ?_); walk_rw; refine ⟨DM_of_below (B := 0) hTl hcl (Below.refl _ _) (by simp), ?_⟩; replace hF := (RC.trans hF) h₁; clear h₁) | (refine Goes.step rfl (fun w₁ h₁ => ?_); replace hF := (RC.trans hF) h₁; clear h₁; refine goes_oper_k rfl rfl hk (fun K hK => ?_); skip; go_simp; refine hK _ _ ⟨DM_of_below (B := 0) hTl hcl (Below.refl _ _) (fun e he => ?_), ?_⟩; (focus (have hm := mem_listed he; (simp [go_sem, *] at hm); (try (subst hm; exact evM_read _ _ (by simp))))); (clear hK K); (try walk_nrm)))
    (refine Goes.step rfl (fun _ h₁ => ?_); rw [stepG_cond (t := true) rfl]; simp only [goes_go, if_true, if_false, Bool.false_eq_true, ↓reduceIte]; refine ⟨DM_of_below (B := 0) hTl hcl (Below.refl _ _) (by simp), ?_⟩; replace hF := (RC.trans hF) h₁; clear h₁)
    repeat (first | (refine Goes.step rfl (fun _ h₁ => ?_); walk_rw; refine ⟨DM_of_below (B := 0) hTl hcl (Below.refl _ _) (by simp), ?_⟩; replace hF := (RC.trans hF) h₁; clear h₁) | (refine Goes.step rfl (fun w₁ h₁ => ?_); replace hF := (RC.trans hF) h₁; clear h₁; refine goes_oper_k rfl rfl hk (fun K hK => ?_); skip; go_simp; refine hK _ _ ⟨DM_of_below (B := 0) hTl hcl (Below.refl _ _) (fun e he => ?_), ?_⟩; (focus (have hm := mem_listed he; (simp [go_sem, *] at hm); (try (subst hm; exact evM_read _ _ (by simp))))); (clear hK K); (try walk_nrm)))
    refine Goes.mono (n := q) ?_ (by omega)
    refine hc .ret ⟨_, []⟩ _ ⟨rfl, _, resultsC_tmp (t := 4) (by simp only [Try.f9]) _, ?_⟩ _
    have hr : refOut zs ds = [] := by simp [refOut, hlm, h64]
    rw [hr]
    exact ⟨.of hF _, World.ownsRow_nil _ _ _ _, fun k h => (by cases h)⟩
  · have h64' : ¬ (64 : Int) < (m : Int) := by omega
    have h1 := loop9a T ch a0 b0 n cap0 m cap1 zs ds b k cs w0 hA hB hn8 hT hch Stop q hb hk (fun t todo w' ht => hc .ret ⟨t, []⟩ w' ⟨rfl, _, resultsC_tmp (t := 4) (by simp only [Try.f9]) t, by
      have hr : refOut zs ds = zs.map (addI (sumW ds 0)) := by simp [refOut, hlm, h64]
      rw [hr]; exact ht⟩ todo) m 0 0 (by omega) rfl
    refine Goes.mono (n := (q + 80 * (n + 1) + 80 + 80 * (m + 1)) + 80) ?_ (by omega)
    simp only [head9a, L9a, rest9, tail9, body9, Try.f9, Option.getD_some] at h1 ⊢
    repeat (first | (refine Goes.step rfl (fun _ h₁ => ?_); walk_rw; refine ⟨DM_of_below (B := 0) hTl hcl (Below.refl _ _) (by simp), ?_⟩; replace hF := (RC.trans hF) h₁; clear h₁) | (refine Goes.step rfl (fun w₁ h₁ => ?_); replace hF := (RC.trans hF) h₁; clear h₁; refine goes_oper_k rfl rfl hk (fun K hK => ?_); skip; go_simp; refine hK _ _ ⟨DM_of_below (B := 0) hTl hcl (Below.refl _ _) (fun e he => ?_), ?_⟩; (focus (have hm := mem_listed he; (simp [go_sem, *] at hm); (try (subst hm; exact evM_read _ _ (by simp))))); (clear hK K); (try walk_nrm)))
    (refine Goes.step rfl (fun _ h₁ => ?_); rw [stepG_cond (t := false) rfl]; simp only [goes_go, if_true, if_false, Bool.false_eq_true, ↓reduceIte]; refine ⟨DM_of_below (B := 0) hTl hcl (Below.refl _ _) (by simp), ?_⟩; replace hF := (RC.trans hF) h₁; clear h₁)
    (refine Goes.step rfl (fun _ h₁ => ?_); walk_rw; refine ⟨DM_of_below (B := 0) hTl hcl (Below.refl _ _) (by simp), ?_⟩; replace hF := (RC.trans hF) h₁; clear h₁)
    (refine Goes.step rfl (fun _ h₁ => ?_); walk_rw; refine ⟨DM_of_below (B := 0) hTl hcl (Below.refl _ _) (by simp), ?_⟩; replace hF := (RC.trans hF) h₁; clear h₁)
    (refine Goes.step rfl (fun _ h₁ => ?_); walk_rw; refine ⟨DM_of_below (B := 0) hTl hcl (Below.refl _ _) (by simp), ?_⟩; replace hF := (RC.trans hF) h₁; clear h₁)
    (refine Goes.step rfl (fun w₁ h₁ => ?_); replace hF := (RC.trans hF) h₁; clear h₁; refine goes_oper_k rfl rfl hk (fun K hK => ?_); skip; go_simp; refine hK _ _ ⟨DM_of_below (B := 0) hTl hcl (Below.refl _ _) (fun e he => ?_), ?_⟩; (focus (have hm := mem_listed he; (simp [go_sem, *] at hm); (try (subst hm; exact evM_read _ _ (by simp))))); (clear hK K); (try walk_nrm))
    (refine Goes.step rfl (fun _ h₁ => ?_); walk_rw; refine ⟨DM_of_below (B := 0) hTl hcl (Below.refl _ _) (by simp), ?_⟩; replace hF := (RC.trans hF) h₁; clear h₁)
    (refine Goes.step rfl (fun _ h₁ => ?_); walk_rw; refine ⟨DM_of_below (B := 0) hTl hcl (Below.refl _ _) (by simp), ?_⟩; replace hF := (RC.trans hF) h₁; clear h₁)
    (refine Goes.step rfl (fun _ h₁ => ?_); walk_rw; refine ⟨DM_of_below (B := 0) hTl hcl (Below.refl _ _) (by simp), ?_⟩; replace hF := (RC.trans hF) h₁; clear h₁)
    (refine Goes.step rfl (fun _ h₁ => ?_); walk_rw; refine ⟨DM_of_below (B := 0) hTl hcl (Below.refl _ _) (by simp), ?_⟩; replace hF := (RC.trans hF) h₁; clear h₁)
    (refine Goes.step rfl (fun w₁ h₁ => ?_); replace hF := (RC.trans hF) h₁; clear h₁; refine goes_oper_k rfl rfl hk (fun K hK => ?_); skip; go_simp; refine hK _ _ ⟨DM_of_below (B := 0) hTl hcl (Below.refl _ _) (fun e he => ?_), ?_⟩; (focus (have hm := mem_listed he; (simp [go_sem, *] at hm); (try (subst hm; exact evM_read _ _ (by simp))))); (clear hK K); (try walk_nrm))
    (refine Goes.step rfl (fun _ h₁ => ?_); walk_rw; refine ⟨DM_of_below (B := 0) hTl hcl (Below.refl _ _) (by simp), ?_⟩; replace hF := (RC.trans hF) h₁; clear h₁)
    (refine Goes.step rfl (fun _ h₁ => ?_); walk_rw; refine ⟨DM_of_below (B := 0) hTl hcl (Below.refl _ _) (by simp), ?_⟩; replace hF := (RC.trans hF) h₁; clear h₁)
    (refine Goes.step rfl (fun _ h₁ => ?_); walk_rw; refine ⟨DM_of_below (B := 0) hTl hcl (Below.refl _ _) (by simp), ?_⟩; replace hF := (RC.trans hF) h₁; clear h₁)
    refine Goes.mono (n := q + 80 * (n + 1) + 80 + 80 * (m + 1)) ?_ (by omega)
    exact h1 _ _ _ _ _ _ _ _ _ _ _ _ _ _ _ _ _ _ _ _ _ _ _ _ _ _ _ _ _ _ _ _ _ _ _ _ _ hF
end
end Go.Proofs.Ytplndihadjfliaa.Net
