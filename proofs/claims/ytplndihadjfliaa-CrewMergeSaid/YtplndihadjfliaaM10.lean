/-
  CREW: in the net with groups: a list that grows ('append(l, x)' in one lemma); lists that are read; what an own step of goroutine 0's must meet.
-/
import Derived.Test.YtplndihadjfliaaM9
import Derived.Conc.AppendWalk
import Derived.Conc.CompanyMem
import Derived.Conc.CompanyCalls
import Derived.OwnWalk
import Derived.Laws.NewBlocks
import Derived.Laws.OwnMore
import Derived.Below
set_option linter.unusedSimpArgs false
set_option linter.unusedVariables false
set_option maxHeartbeats 2000000
namespace Go.Proofs.Ytplndihadjfliaa.Mix
open Go Go.Conc Go.ConcN Go.Proofs Go.RowKit
open Go.ConcR (KK wgBlock WgAt stA smA rd wr mk)

theorem Try.info3 : (Try.prog.info? 3).map (fun i => (i.zero, i.size, i.bytes)) = some (some (.int .i64 0), 1, 8) := by kernel_rfl

section
variable {ty : TypeId × Bool} {Wg : Nat} {T ch GG : List Nat} {w w' : World} {es : Array Event}
theorem DM_of (hwg : ty.2 = true → Wg ∈ ch) (hT : ∀ b ∈ T, w'.heap[b]? = w.heap[b]?) (hc : ∀ b ∈ ch, w'.heap[b]? = w.heap[b]?) (hs : w.heap.size ≤ w'.heap.size) (he : ∀ e ∈ es, EvM T GG w'.heap.size e) : DM ty Wg T ch GG w w' es :=
  ⟨hT, hc, hs, he, fun h ⟨st, sm, hl⟩ => ⟨st, sm, hl.of_block (hc _ (hwg h))⟩⟩
theorem DM_of_below {B : Nat} (hwg : ty.2 = true → Wg ∈ ch) (hT : ∀ b ∈ T, b < B) (hc : ∀ c ∈ ch, c < B) (h : Below B w w') (he : ∀ e ∈ es, EvM T GG w'.heap.size e) : DM ty Wg T ch GG w w' es :=
  DM_of hwg (fun b hb => h.block b (hT b hb)) (fun b hb => h.block b (hc b hb)) h.size he
theorem evM_rd {B : Nat} (a : Addr) (s : Bool) (h1 : a.block ∉ GG) (h2 : a.block < B) : EvM T GG B ⟨.cell a, false, s⟩ :=
  .inr ⟨fun m h => (by cases h), fun h => (by cases h), fun ad h => by cases h; exact ⟨h1, h2⟩⟩
theorem evM_wr {B : Nat} (a : Addr) (x s : Bool) (h0 : a.block ∉ T) (h1 : a.block ∉ GG) (h2 : a.block < B) : EvM T GG B ⟨.cell a, x, s⟩ :=
  .inr ⟨fun m h => (by cases h), fun _ hi => (by
    rcases hi with ⟨b, hb, hT⟩ | ⟨c, hc⟩
    · cases hb; exact h0 hT
    · cases hc), fun ad h => by cases h; exact ⟨h1, h2⟩⟩
theorem evM_mark {B : Nat} {m : Mark} (x s : Bool) (h : Neutral m) : EvM T GG B ⟨.mark m, x, s⟩ :=
  .inr ⟨fun m' h' => (by cases h'; exact h), fun _ hi => (by rcases hi with ⟨b, hb, hT⟩ | ⟨c, hc⟩ <;> simp [blk] at *), fun ad h => (by cases h)⟩
theorem lt_of_cell {a : Addr} {v : Value} (h : w.cell? a = some v) : a.block < w.heap.size := by
  obtain ⟨e, n, hsh, _⟩ := World.shape?_of_cell? h
  refine Classical.byContradiction fun hn => ?_
  have : w.heap[a.block]? = none := Array.getElem?_eq_none (by omega)
  simp [World.cell?, this] at h
end

/-- A list of numbers that may be read: nobody turns it. -/
structure IR (ch : List Nat) (a0 : Option Addr) (n : Nat) (xs : List Int) (w : World) : Prop where
  len : xs.length = n
  max : n ≤ 9223372036854775807
  ex : 0 < n → ∃ a, a0 = some a
  nch : ∀ a, a0 = some a → 0 < n → a.block ∉ ch
  cell : ∀ j a, j < n → a0 = some a → w.cell? (a.add j) = some (.int .i64 (xs[j]?.getD 0))
section
variable {ty : TypeId × Bool} {Wg : Nat} {T ch GG : List Nat} {a0 : Option Addr} {n : Nat} {xs : List Int} {w w₁ : World}
theorem IR.rely (h : IR ch a0 n xs w) (r : RC ty Wg ch w w₁) : IR ch a0 n xs w₁ :=
  ⟨h.len, h.max, h.ex, h.nch, fun j a hj ha => (World.cell?_of_block (by rw [addBlock]; exact r.block _ (h.nch a ha (by omega)))).trans (h.cell j a hj ha)⟩
/-- It may be read. -/
theorem IR.ev (h : IR ch a0 n xs w) (hG : ∀ b ∈ GG, b ∈ ch) {j : Nat} {a : Addr} (hj : j < n) (ha : a0 = some a) (s : Bool) : EvM T GG w.heap.size ⟨.cell (a.add j), false, s⟩ :=
  evM_rd _ _ (by rw [addBlock]; exact fun hb => h.nch a ha (by omega) (hG _ hb)) (lt_of_cell (h.cell j a hj ha))
end
theorem drawM (ty : TypeId × Bool) (Wg : Nat) (T ch GG : List Nat) : LetsDraw (DM ty Wg T ch GG) := fun w => ⟨fun _ _ => rfl, fun _ _ => rfl, Nat.le_refl _, by simp, fun _ h => h⟩
theorem ownDraw (ty : TypeId × Bool) (Wg : Nat) (ch : List Nat) (w : World) : RC ty Wg ch w { w with drawn := w.drawn + 1 } := ⟨rfl, rfl, rfl, rfl, fun _ _ => rfl, fun _ h => h⟩

/-- What was there is as it was, but for the channels and one block. -/
structure Grows (ch : List Nat) (but : Option Nat) (w w' : World) : Prop where
  os : w'.os = w.os
  tape : w'.tape = w.tape
  output : w'.output = w.output
  size : w.heap.size ≤ w'.heap.size
  block : ∀ b, b < w.heap.size → b ∉ ch → some b ≠ but → w'.heap[b]? = w.heap[b]?

section
variable {ch : List Nat} {but : Option Nat} {w w₁ w₂ : World}
theorem Grows.refl (ch : List Nat) (but : Option Nat) (w : World) : Grows ch but w w := ⟨rfl, rfl, rfl, Nat.le_refl _, fun _ _ _ _ => rfl⟩
theorem Grows.trans (h : Grows ch but w w₁) (h' : Grows ch but w₁ w₂) : Grows ch but w w₂ :=
  ⟨h'.os.trans h.os, h'.tape.trans h.tape, h'.output.trans h.output, Nat.le_trans h.size h'.size, fun b hb hc hn => (h'.block b (by have := h.size; omega) hc hn).trans (h.block b hb hc hn)⟩
theorem Grows.of {ty : TypeId × Bool} {Wg : Nat} (r : RC ty Wg ch w w₁) (but : Option Nat) : Grows ch but w w₁ := ⟨r.os, r.tape, r.output, by rw [r.size]; exact Nat.le_refl _, fun b _ hc _ => r.block b hc⟩
theorem Grows.any (h : Grows ch none w w₁) (but : Option Nat) : Grows ch but w w₁ := ⟨h.os, h.tape, h.output, h.size, fun b hb hc _ => h.block b hb hc (by simp)⟩
theorem Grows.rely {ty : TypeId × Bool} {Wg : Nat} (h : Grows ch but w w₁) (r : RC ty Wg ch w₁ w₂) : Grows ch but w w₂ := h.trans (.of r _)
theorem Grows.grown (h : w.grownBy w₁ but) (ch : List Nat) : Grows ch but w w₁ := ⟨h.os, h.tape, h.output, h.size, fun b hb _ hn => h.block b hb hn⟩
theorem Grows.alloc (w : World) (o : Obj) (ch : List Nat) (but : Option Nat) : Grows ch but w (w.alloc o) := .grown (World.grownBy_alloc w o but) ch

theorem DM_of_grows {ty : TypeId × Bool} {Wg : Nat} {T GG : List Nat} {es : Array Event} (hwg : ty.2 = true → Wg ∈ ch) (h : w.grownBy w₁ but) (hT : ∀ b ∈ T, b < w.heap.size ∧ some b ≠ but) (hc : ∀ b ∈ ch, b < w.heap.size ∧ some b ≠ but) (he : ∀ e ∈ es, EvM T GG w₁.heap.size e) : DM ty Wg T ch GG w w₁ es :=
  DM_of hwg (fun b hb => h.block b (hT b hb).1 (hT b hb).2) (fun b hb => h.block b (hc b hb).1 (hc b hb).2) h.size he
end

/-- A row of the call's own under the others' doing. -/
theorem own_rely {ty : TypeId × Bool} {Wg : Nat} {ch : List Nat} {w w₁ : World} {lo n : Nat} {v : Value} {xs : List Value} (h : w.ownsRow lo 3 1 v n xs) (hn : ∀ k, v.ownBlock = some k → k ∉ ch) (r : RC ty Wg ch w w₁) : w₁.ownsRow lo 3 1 v n xs := by
  refine ⟨h.1, ?_⟩
  rcases h.2 with h0 | ⟨g, cp, cur, rfl, hg, hh, x⟩
  · exact .inl h0
  · exact .inr ⟨g, cp, cur, rfl, hg, (r.block g (hn g rfl)).trans hh, x⟩
theorem own_grows {ch : List Nat} {but : Option Nat} {w w₁ : World} {lo n : Nat} {v : Value} {xs : List Value} (h : w.ownsRow lo 3 1 v n xs) (hn : ∀ k, v.ownBlock = some k → k ∉ ch ∧ some k ≠ but) (r : Grows ch but w w₁) : w₁.ownsRow lo 3 1 v n xs := by
  refine ⟨h.1, ?_⟩
  rcases h.2 with h0 | ⟨g, cp, cur, rfl, hg, hh, x⟩
  · exact .inl h0
  · exact .inr ⟨g, cp, cur, rfl, hg, (r.block g (Array.getElem?_eq_some_iff.1 hh).1 (hn g rfl).1 (hn g rfl).2).trans hh, x⟩
theorem own_base {w : World} {lo lo' n : Nat} {v : Value} {xs : List Value} (h : w.ownsRow lo 3 1 v n xs) (hn : ∀ k, v.ownBlock = some k → lo' ≤ k) : w.ownsRow lo' 3 1 v n xs := by
  refine ⟨h.1, ?_⟩
  rcases h.2 with h0 | ⟨g, cp, cur, rfl, hg, x⟩
  · exact .inl h0
  · exact .inr ⟨g, cp, cur, rfl, hn g rfl, x⟩
/-- Its first part. -/
theorem own_take {w : World} {lo n n' g cap : Nat} {xs : List Value} (h : w.ownsRow lo 3 1 (.slice (some ⟨g, 0, none⟩) n cap) n xs) (hn : n' ≤ n) : w.ownsRow lo 3 1 (.slice (some ⟨g, 0, none⟩) n' cap) n' (xs.take n') := by
  have hl := h.1
  refine ⟨by rw [List.length_take]; omega, ?_⟩
  rcases h.2 with ⟨h0, _⟩ | ⟨g', cp, cur, h0, hg, hh, x1, x2, x3, x4⟩
  · cases h0
  · cases h0
    exact .inr ⟨g, cap, cur, rfl, hg, hh, by omega, x2, x3, by rw [← x4, List.take_take]; congr 1; omega⟩

/-- What an append of some values does. -/
theorem app_cases {w : World} {lo : Nat} {out : Value} {xs : List Value} (hown : w.ownsRow lo 3 1 out xs.length xs) (hlo : lo ≤ w.heap.size) (ty : TypeId) (a : Addr) (m c : Nat) (news : List Value) (hl : news.length = m) (hnews : ∀ j u, news[j]? = some u → w.cell? (a.add j) = some u)
    (h1 : ∀ u ∈ news, u.oneCell' = true) (hm : 0 < m) (hlen : (xs.length + m) * 8 ≤ 140737488355328) :
    (∃ v' w', (Builtin.append_ #[22, 22] ty #[out, .slice (some a) m c]).run Try.prog w = .ok v' w' ∧ w'.ownsRow lo 3 1 v' (xs.length + m) (xs ++ news) ∧
      ((∃ g cap, out = .slice (some ⟨g, 0, none⟩) xs.length cap ∧ v' = .slice (some ⟨g, 0, none⟩) (xs.length + m) cap ∧ w.grownBy w' (some g)) ∨ (∃ cap', v' = .slice (some ⟨w.heap.size, 0, none⟩) (xs.length + m) cap' ∧ w.grownBy w' none))) ∧
    ∀ ev ∈ (Builtin.append_ #[22, 22] ty #[out, .slice (some a) m c]).events Try.prog w #[], (∃ ad, ev.loc = .cell ad ∧ ((ev.write = false ∧ ad.block = a.block) ∨ some ad.block = out.ownBlock)) ∨ ∃ m, ev = ⟨.mark m, false, true⟩ ∧ Conc.Neutral m := by
  obtain ⟨i0, hi, hz0, hz1, hz2⟩ := info_parts Try.info3
  have hl' : news.length = m * 1 := by omega
  have h63 : xs.length + m ≤ maxLen := by simp only [maxLen]; omega
  refine ⟨?_, events_append_where (P := Try.prog) w lo 22 ty 3 i0 (.int .i64 0) 1 8 Try.underlying22 hi hz0 hz1 hz2 out xs.length xs hown a m c news hl' hnews h1 h63 hlen⟩
  obtain ⟨v', w', hr, hown', hgrow, _⟩ := run_append_own (P := Try.prog) w lo 22 ty 3 i0 (.int .i64 0) 1 8 Try.underlying22 hi hz0 hz1 hz2 rfl (by decide) out xs.length xs hown a m c news hl' hnews h1 h63 hlen hlo
  refine ⟨v', w', hr, hown', ?_⟩
  rcases hown.2 with ⟨rfl, h0⟩ | ⟨g, cap, cur, rfl, hbg, hg, hnc, hcm, hcs, htake⟩
  · have hx : xs = [] := List.eq_nil_of_length_eq_zero h0
    subst hx
    have hr' := run_append_nil (P := Try.prog) w 22 ty 3 i0 (.int .i64 0) Try.underlying22 hi hz0 a m c news (by rw [hz1]; exact hl') hnews hm (by simp only [maxLen] at h63; simp at hlen; omega) (by rw [hz2]; simp at hlen; omega)
    rw [hr] at hr'
    cases hr'
    exact .inr ⟨grownCap w m 0 3, by simp, ⟨rfl, rfl, rfl, by simp, fun k hk _ => heap_alloc_old w.drew _ k hk⟩⟩
  · by_cases hroom : xs.length + m ≤ cap
    · obtain ⟨w2, hr', ho', hg'⟩ := run_append_fits (P := Try.prog) w lo 22 ty 3 i0 1 Try.underlying22 hi hz1 g xs.length cap xs hown a m c news hl' hnews h1 hroom
      rw [hr] at hr'
      cases hr'
      exact .inl ⟨g, cap, rfl, rfl, hg'⟩
    · have holds : ∀ j u, xs[j]? = some u → w.cell? ((⟨g, 0, none⟩ : Addr).add j) = some u := hown.cells (g := g) rfl
      have hr' := run_append_grow (P := Try.prog) w 22 ty 3 i0 (.int .i64 0) Try.underlying22 hi hz0 ⟨g, 0, none⟩ xs.length cap xs (by rw [hz1]; omega) holds a m c news (by rw [hz1]; exact hl') hnews (by omega) (by simp only [maxLen] at h63; omega) (growslice_fits (by omega) (by rw [hz2]; exact hlen))
      rw [hr] at hr'
      cases hr'
      exact .inr ⟨_, rfl, ⟨rfl, rfl, rfl, by simp, fun k hk _ => heap_alloc_old w.drew _ k hk⟩⟩

/-- What a push has done. -/
structure Push (ch : List Nat) (lo : Nat) (out : Value) (xs : List Value) (x : Int) (w : World) (v' : Value) (w' : World) : Prop where
  g : Grows ch out.ownBlock w w'
  own : w'.ownsRow lo 3 1 v' (xs ++ [iv x]).length (xs ++ [iv x])
  how : (∃ g cap, out = .slice (some ⟨g, 0, none⟩) xs.length cap ∧ v' = .slice (some ⟨g, 0, none⟩) (xs.length + 1) cap) ∨ ((∃ g, v'.ownBlock = some g ∧ w.heap.size ≤ g) ∧ Grows ch none w w')
  nch : ∀ k, v'.ownBlock = some k → k ∉ ch

section
variable {ty : TypeId × Bool} {Wg : Nat} {T ch GG : List Nat} {Stop : Goroutine → World → Prop} {b : Frame} {a : Act} {k : List Item} {cs : List Frame} {ops : Array Oper} {i i' : Nat} {rest : List Nat} {o o' : Oper} {n : Nat} {w : World}

/-- 'l = append(l, x)': the literal, then the append. -/
theorem goes_push (hwg : ty.2 = true → Wg ∈ ch) (hG : ∀ b ∈ GG, b ∈ ch) {x : Operand} {s : Operand} {d : Nat} {out : Value} {u : Int} {lo : Nat} {xs : List Value} (hk : b.kind ≠ .early)
    (ho : ops[i]? = some o) (hw : Region.wanted o (yielded ops a.tmps) = true) (hop : o.op = .buildSlice 22 1 #[(0, x)]) (hd : o.dst = some d) (hx : a.eval x = iv u)
    (ho' : ops[i']? = some o') (hw' : ∀ v, Region.wanted o' (yielded ops (a.put (some d) v).tmps) = true) (hop' : o'.op = .call { callee := .builtin .append, args := #[s, .tmp d], argTypes := #[22, 22] }) (hs : ∀ v, (a.put (some d) v).eval s = out) (hdd : ∀ v, (a.put (some d) v).eval (.tmp d) = v)
    (hown : w.ownsRow lo 3 1 out xs.length xs) (hlo : lo ≤ w.heap.size) (hlen : (xs.length + 1) * 8 ≤ 140737488355328) (hnc : ∀ k, out.ownBlock = some k → k ∉ ch ∧ k ∉ T) (hT : ∀ b ∈ T, b < w.heap.size) (hch : ∀ b ∈ ch, b < w.heap.size)
    (next : ∀ v v' w', Push ch lo out xs u w v' w' → (ty.2 = true → WgLive ty.1 Wg w → WgLive ty.1 Wg w') → Goes Try.prog true (RC ty Wg ch) (DM ty Wg T ch GG) Stop n (G (b.at ((a.put (some d) v).put o'.dst v') (.inRegion ops rest :: k)) cs) w') :
    Goes Try.prog true (RC ty Wg ch) (DM ty Wg T ch GG) Stop (n + 2) (G (b.at a (.inRegion ops (i :: i' :: rest) :: k)) cs) w := by
  refine Goes.step rfl (fun w₁ h₁ => ?_)
  have hown1 := own_rely hown (fun k hk => (hnc k hk).1) h₁
  have hr1 : (execOp a.eval o).run Try.prog w₁ = .ok (.value (.slice (some ⟨w₁.heap.size, 0, none⟩) 1 1)) (w₁.alloc (.cells #[iv u] 3)) ∧ (execOp a.eval o).events Try.prog w₁ #[] = #[] := by
    constructor
    · simp only [execOp, hop, List.map_toArray, List.map_cons, List.map_nil, hx]
      simp [go_sem]
    · simp only [execOp, hop, List.map_toArray, List.map_cons, List.map_nil, hx]
      simp [go_sem]
  have hsz := h₁.size
  have hstep := stepG_value (P := Try.prog) (main := true) (k := k) (cs := cs) (rest := i' :: rest) ho hw hk hr1.1
  rw [hstep, hd]
  simp only [goes_go]
  have hl1 : listed Try.prog b.fn a o w₁ = #[] := listed_nil hr1.2
  rw [hl1]
  have hD1 : DM ty Wg T ch GG w₁ (w₁.alloc (.cells #[iv u] 3)) #[] := DM_of hwg (fun b hb => Below.heap_alloc _ _ _ (by have := hT b hb; omega)) (fun b hb => Below.heap_alloc _ _ _ (by have := hch b hb; omega)) (by simp) (by simp)
  refine ⟨hD1, ?_⟩
  have hnew : (w₁.alloc (.cells #[iv u] 3)).heap[w₁.heap.size]? = some (.cells #[iv u] 3) := heap_alloc_new w₁ _
  have hown2 := hown1.alloc (.cells #[iv u] 3)
  have hns : w₁.heap.size ∉ ch := fun h => by have := hch _ h; omega
  refine Goes.step rfl (fun w₂ h₂ => ?_)
  have hown3 := own_rely hown2 (fun k hk => (hnc k hk).1) h₂
  have hnew2 : w₂.cell? ⟨w₁.heap.size, 0, none⟩ = some (iv u) := by
    have := (h₂.block _ hns).trans hnew
    simp [World.cell?, this]
  have hsz2 : w₂.heap.size = w₁.heap.size + 1 := by rw [h₂.size]; simp
  obtain ⟨⟨v', w₃, hr, hown', hcase⟩, hev⟩ := app_cases (w := w₂) hown3 (by omega) o'.type ⟨w₁.heap.size, 0, none⟩ 1 1 [iv u] rfl (fun j u' hj => by
    match j, hj with
    | 0, hj => simp at hj; subst hj; simpa [Addr.add] using hnew2) (by intro u' hu; simp at hu; subst hu; rfl) (by omega) hlen
  have hrun : (execOp (a.put (some d) (.slice (some ⟨w₁.heap.size, 0, none⟩) 1 1)).eval o').run Try.prog w₂ = .ok (.value v') w₃ := by
    unfold execOp
    simp only [hop', resolve, invoke, builtin, Sem.run_bind, Sem.run_pure, Result.andThen_ok, List.map_toArray, List.map_cons, List.map_nil, hs, hdd, hr]
  have hstep2 := stepG_value (P := Try.prog) (main := true) (k := k) (cs := cs) (rest := rest) (b := b) ho' (hw' _) hk hrun
  rw [hstep2]
  simp only [goes_go]
  have hGa : Grows ch none w w₂ := ((Grows.of h₁ none).trans (.alloc _ _ _ _)).rely h₂
  have hgrow : w₂.grownBy w₃ out.ownBlock := by
    rcases hcase with ⟨g, cap, rfl, _, hg⟩ | ⟨cap', _, hg⟩
    · exact hg
    · exact ⟨hg.os, hg.tape, hg.output, hg.size, fun k hk _ => hg.block k hk (by simp)⟩
  have hD2 := DM_of_grows (T := T) (GG := GG) (es := listed Try.prog b.fn (a.put (some d) (.slice (some ⟨w₁.heap.size, 0, none⟩) 1 1)) o' w₂) hwg hgrow (fun b hb => ⟨by have := hT b hb; omega, fun e => (hnc b e.symm).2 hb⟩) (fun b hb => ⟨by have := hch b hb; omega, fun e => (hnc b e.symm).1 hb⟩) (fun e he => by
    have hm := mem_listed he
    rw [events_append_op s (.tmp d) 22 hop' (hs _) (hdd _)] at hm
    have hsz3 := hgrow.size
    rcases hev e hm with ⟨ad, h2, ⟨h3, h4⟩ | h4⟩ | ⟨m, rfl, hn⟩
    · obtain ⟨l, wr, sy⟩ := e
      simp only at h2 h3
      subst h2 h3
      simp only at h4
      exact evM_rd _ _ (by rw [h4]; exact fun hb => hns (hG _ hb)) (by rw [h4]; omega)
    · obtain ⟨l, wr, sy⟩ := e
      simp only at h2
      subst h2
      exact evM_wr _ _ _ (hnc _ h4.symm).2 (fun hb => (hnc _ h4.symm).1 (hG _ hb)) (by have := (hown3.lt _ h4.symm).2; omega)
    · exact evM_mark _ _ hn)
  refine ⟨hD2, ?_⟩
  · refine next _ v' w₃ ⟨(hGa.any _).trans (.grown hgrow ch), by rw [List.length_append]; exact hown', ?_, ?_⟩ fun h1 h2 => hD2.live h1 (h₂.live h1 (hD1.live h1 (h₁.live h1 h2)))
    · rcases hcase with ⟨g, cap, h1, h2, _⟩ | ⟨cap', h2, hg⟩
      · exact .inl ⟨g, cap, h1, h2⟩
      · exact .inr ⟨⟨w₂.heap.size, by rw [h2]; rfl, hGa.size⟩, hGa.trans (.grown hg ch)⟩
    · intro k' hk'
      rcases hcase with ⟨g, cap, h1, h2, _⟩ | ⟨cap', h2, hg⟩
      · rw [h2] at hk'; cases hk'; exact (hnc g (by rw [h1]; rfl)).1
      · rw [h2] at hk'; cases hk'; exact fun h => by have := hch _ h; simp only at this; omega
end
end Go.Proofs.Ytplndihadjfliaa.Mix
/-
  CREW: the law's small functions, in company: SameInts, full.
-/
set_option linter.unusedSimpArgs false
set_option linter.unusedVariables false
set_option maxHeartbeats 2000000
namespace Go.Proofs.Ytplndihadjfliaa.Mix
open Go Go.Conc Go.ConcN Go.Proofs Go.RowKit

noncomputable def body12 : Code := Try.f12.body.getD .skip
noncomputable def L12 : Code := match body12 with | .seq _ (.seq _ (.seq (.seq _ (.block _ (.loop c))) _)) => c | _ => .skip
noncomputable def end12 : Code := match body12 with | .seq _ (.seq _ (.seq _ r)) => r | _ => .skip
noncomputable def B12 : Code := match L12 with | .seq _ (.seq (.block _ c) _) => c | _ => .skip
noncomputable def R12 : Code := match L12 with | .seq _ (.seq _ r) => r | _ => .skip
noncomputable def ops12 : Array Oper := match B12 with | .seq (.region _ ops _) _ => ops | _ => #[]
noncomputable def C12 : Code := match B12 with | .seq _ r => r | _ => .skip


section
variable (Wg : Nat) (T ch GG : List Nat) (hGc : ∀ b ∈ GG, b ∈ ch) (a0 b0 : Option Addr) (n cap0 cap1 : Nat) (xs : List Int) (b : Frame) (k : List Item) (cs : List Frame)

noncomputable def head12 (j : Nat) (u2 u3 u4 u6 u7 u8 u9 u10 u11 u12 u13 u14 u15 u16 u17 u18 u19 u20 u21 u22 u23 u24 u25 : Value) : Goroutine := G (b.at ⟨#[.slice a0 n cap0, .slice b0 n cap1, u2, u3, u4, .int .i64 j, u6, u7, u8, u9, u10, u11, u12, u13, u14, u15, u16, u17, u18, u19, u20, u21, u22, u23, u24, u25], []⟩ (.code L12 :: .inLoop L12 :: .inBlock 0 :: .code end12 :: k)) cs

include hGc in
set_option maxRecDepth 100000 in
/-- The region that compares. -/
theorem reg12 (w0 : World) (hA : IR ch a0 n xs w0) (hB : IR ch b0 n xs w0) (j : Nat) (hj : j < n) (ad bd : Addr) (ha : a0 = some ad) (hb : b0 = some bd) (u2 u3 u4 u6 u7 u8 u9 u10 u11 u12 u13 u14 u15 u16 u17 u18 u19 u20 u21 u22 u23 u24 u25 : Value) (w : World) (hF : RC (0, false) Wg ch w0 w) :
    (Code.region 6 ops12 true).wpC Try.prog true (RC (0, false) Wg ch) (DM (0, false) Wg T ch GG) 12 11 (fun e a' w' => e = .normal ∧ a' = ⟨#[.slice a0 n cap0, .slice b0 n cap1, u2, u3, u4, .int .i64 j, u6, u7, u8, u9, u10, u11, u12, u13, u14, u15, u16, .slice a0 n cap0, .int .i64 j, .pointer (some (ad.add j)), iv (xs[j]?.getD 0), .slice b0 n cap1, .int .i64 j, .pointer (some (bd.add j)), iv (xs[j]?.getD 0), .bool false], []⟩ ∧ RC (0, false) Wg ch w0 w') ⟨#[.slice a0 n cap0, .slice b0 n cap1, u2, u3, u4, .int .i64 j, u6, u7, u8, u9, u10, u11, u12, u13, u14, u15, u16, u17, u18, u19, u20, u21, u22, u23, u24, u25], []⟩ w := by
  subst ha hb
  simp only [ops12, B12, L12, body12, Try.f12, Option.getD_some]
  have hj' : (j : Int) < (n : Int) := by omega
  co_applyP wpC_region_held (termsM (0, false) Wg T ch GG) (drawM (0, false) Wg T ch GG) (S := RC (0, false) Wg ch w0) (by first | kernel_rfl | rfl)
  intro _ hR
  replace hF := (hF.trans hR).trans (ownDraw (0, false) Wg ch _)
  clear hR
  simp only [List.size_toArray, List.length_cons, List.length_nil, Nat.reduceAdd, Nat.zero_add]
  (co_applyP anyCH_take (termsM (0, false) Wg T ch GG) (fun _ _ h r => RC.trans h r) (fun _ _ _ h r => ⟨h.1, h.2.1, h.2.2.trans r⟩) (i := 0) rfl (by kernel_rfl) (by kernel_rfl) (by kernel_rfl) (.inl ⟨by rfl, fun _ hw => ⟨run_eq_of ?runx0, ?guarx0⟩⟩) hF ?restx0; (case runx0 => (intro K hK; skip; go_simp; exact hK)); (case guarx0 => (skip; co_quiet (termsM (0, false) Wg T ch GG))); (try walk_nrm))
  (co_applyP anyCH_take (termsM (0, false) Wg T ch GG) (fun _ _ h r => RC.trans h r) (fun _ _ _ h r => ⟨h.1, h.2.1, h.2.2.trans r⟩) (i := 1) rfl (by kernel_rfl) (by kernel_rfl) (by kernel_rfl) (.inl ⟨by rfl, fun _ hw => ⟨run_eq_of ?runx1, ?guarx1⟩⟩) hF ?restx1; (case runx1 => (intro K hK; skip; go_simp; exact hK)); (case guarx1 => (skip; co_quiet (termsM (0, false) Wg T ch GG))); (try walk_nrm))
  (co_applyP anyCH_take (termsM (0, false) Wg T ch GG) (fun _ _ h r => RC.trans h r) (fun _ _ _ h r => ⟨h.1, h.2.1, h.2.2.trans r⟩) (i := 2) rfl (by kernel_rfl) (by kernel_rfl) (by kernel_rfl) (.inl ⟨by rfl, fun _ hw => ⟨run_eq_of ?runx2, ?guarx2⟩⟩) hF ?restx2; (case runx2 => (intro K hK; skip; go_simp; exact hK)); (case guarx2 => (skip; co_still (termsM (0, false) Wg T ch GG))); (try walk_nrm))
  (co_applyP anyCH_take (termsM (0, false) Wg T ch GG) (fun _ _ h r => RC.trans h r) (fun _ _ _ h r => ⟨h.1, h.2.1, h.2.2.trans r⟩) (i := 3) rfl (by kernel_rfl) (by kernel_rfl) (by kernel_rfl) (.inl ⟨by rfl, fun _ hw => ⟨run_eq_of ?runx3, ?guarx3⟩⟩) hF ?restx3; (case runx3 => (intro K hK; have hc := (hA.rely hw).cell j ad hj rfl; have hv := (hA.rely hw).ev (T := T) hGc (j := j) hj rfl; go_simp; exact hK)); (case guarx3 => (have hc := (hA.rely hw).cell j ad hj rfl; have hv := (hA.rely hw).ev (T := T) hGc (j := j) hj rfl; refine DM_same ?_; co_evs (exact hv _))); (try walk_nrm))
  (co_applyP anyCH_take (termsM (0, false) Wg T ch GG) (fun _ _ h r => RC.trans h r) (fun _ _ _ h r => ⟨h.1, h.2.1, h.2.2.trans r⟩) (i := 4) rfl (by kernel_rfl) (by kernel_rfl) (by kernel_rfl) (.inl ⟨by rfl, fun _ hw => ⟨run_eq_of ?runx4, ?guarx4⟩⟩) hF ?restx4; (case runx4 => (intro K hK; skip; go_simp; exact hK)); (case guarx4 => (skip; co_quiet (termsM (0, false) Wg T ch GG))); (try walk_nrm))
  (co_applyP anyCH_take (termsM (0, false) Wg T ch GG) (fun _ _ h r => RC.trans h r) (fun _ _ _ h r => ⟨h.1, h.2.1, h.2.2.trans r⟩) (i := 5) rfl (by kernel_rfl) (by kernel_rfl) (by kernel_rfl) (.inl ⟨by rfl, fun _ hw => ⟨run_eq_of ?runx5, ?guarx5⟩⟩) hF ?restx5; (case runx5 => (intro K hK; skip; go_simp; exact hK)); (case guarx5 => (skip; co_quiet (termsM (0, false) Wg T ch GG))); (try walk_nrm))
  (co_applyP anyCH_take (termsM (0, false) Wg T ch GG) (fun _ _ h r => RC.trans h r) (fun _ _ _ h r => ⟨h.1, h.2.1, h.2.2.trans r⟩) (i := 6) rfl (by kernel_rfl) (by kernel_rfl) (by kernel_rfl) (.inl ⟨by rfl, fun _ hw => ⟨run_eq_of ?runx6, ?guarx6⟩⟩) hF ?restx6; (case runx6 => (intro K hK; skip; go_simp; exact hK)); (case guarx6 => (skip; co_still (termsM (0, false) Wg T ch GG))); (try walk_nrm))
  (co_applyP anyCH_take (termsM (0, false) Wg T ch GG) (fun _ _ h r => RC.trans h r) (fun _ _ _ h r => ⟨h.1, h.2.1, h.2.2.trans r⟩) (i := 7) rfl (by kernel_rfl) (by kernel_rfl) (by kernel_rfl) (.inl ⟨by rfl, fun _ hw => ⟨run_eq_of ?runx7, ?guarx7⟩⟩) hF ?restx7; (case runx7 => (intro K hK; have hc := (hB.rely hw).cell j bd hj rfl; have hv := (hB.rely hw).ev (T := T) hGc (j := j) hj rfl; go_simp; exact hK)); (case guarx7 => (have hc := (hB.rely hw).cell j bd hj rfl; have hv := (hB.rely hw).ev (T := T) hGc (j := j) hj rfl; refine DM_same ?_; co_evs (exact hv _))); (try walk_nrm))
  (co_applyP anyCH_take (termsM (0, false) Wg T ch GG) (fun _ _ h r => RC.trans h r) (fun _ _ _ h r => ⟨h.1, h.2.1, h.2.2.trans r⟩) (i := 8) rfl (by kernel_rfl) (by kernel_rfl) (by kernel_rfl) (.inl ⟨by rfl, fun _ hw => ⟨run_eq_of ?runx8, ?guarx8⟩⟩) hF ?restx8; (case runx8 => (intro K hK; skip; go_simp; exact hK)); (case guarx8 => (skip; co_still (termsM (0, false) Wg T ch GG))); (try walk_nrm))
  exact anyCH_done (by kernel_rfl) ⟨rfl, rfl, hF⟩ _

include hGc in
set_option maxRecDepth 100000 in
/-- The loop, j of the numbers compared. -/
theorem loop12 (w0 : World) (hA : IR ch a0 n xs w0) (hB : IR ch b0 n xs w0) (Stop : Goroutine → World → Prop) (m : Nat) (hb : b.fn = 12) (hk : b.kind ≠ .early)
    (hret : ∀ (t : Array Value) todo w', t.getD 4 undef = .bool true → RC (0, false) Wg ch w0 w' → Goes Try.prog true (RC (0, false) Wg ch) (DM (0, false) Wg T ch GG) Stop m (G { b.at ⟨t, []⟩ todo with mode := .returning } cs) w') :
    ∀ (r j : Nat), j + r = n → ∀ (u2 u3 u4 u6 u7 u8 u9 u10 u11 u12 u13 u14 u15 u16 u17 u18 u19 u20 u21 u22 u23 u24 u25 : Value) (w : World), RC (0, false) Wg ch w0 w → Goes Try.prog true (RC (0, false) Wg ch) (DM (0, false) Wg T ch GG) Stop (m + 60 * (r + 1)) (head12 a0 b0 n cap0 cap1 b k cs j u2 u3 u4 u6 u7 u8 u9 u10 u11 u12 u13 u14 u15 u16 u17 u18 u19 u20 u21 u22 u23 u24 u25) w := by
  intro r
  induction r with
  | zero =>
    intro j hj u2 u3 u4 u6 u7 u8 u9 u10 u11 u12 u13 u14 u15 u16 u17 u18 u19 u20 u21 u22 u23 u24 u25 w hF
    obtain rfl : j = n := by omega
    refine Goes.mono (n := m + 60) ?_ (by omega)
    simp only [head12, L12, end12, body12, Try.f12, Option.getD_some]
    repeat (first | (first | ((with_reducible first | refine goes_rend ?_ ?_ | refine goes_sq ?_ ?_ | refine goes_sk ?_ ?_ | refine goes_bl ?_ ?_ | refine goes_lo ?_ ?_ | refine goes_ib ?_ ?_ | refine goes_il ?_ ?_ | refine goes_rt ?_ ?_ | refine goes_en ?_ ?_); exact termsM _ _ _ _ _; intro _ h₁; replace hF := (RC.trans hF) h₁; clear h₁) | (with_reducible refine goes_rg ?_ ?_; exact termsM _ _ _ _ _; intro _ h₁; replace hF := (RC.trans hF) h₁; clear h₁; simp only [List.size_toArray, List.length_cons, List.length_nil, Nat.reduceAdd, Nat.zero_add, List.range, List.range.loop])) | (refine Goes.step rfl (fun w₁ h₁ => ?_); replace hF := (RC.trans hF) h₁; clear h₁; refine goes_oper_k rfl rfl hk (fun K hK => ?_); skip; go_simp; refine hK _ _ ⟨DM_same (fun e he => ?_), ?_⟩; (focus (have hm := mem_listed he; (simp [go_sem, *] at hm); (try (subst hm; exact hv _)))); (clear hK K); (try walk_nrm)))
    (refine goes_cd (termsM (0, false) Wg T ch GG) false rfl (fun _ h₁ => ?_); replace hF := (RC.trans hF) h₁; clear h₁; simp only [if_true, if_false, Bool.false_eq_true, ↓reduceIte])
    (refine goes_c (termsM (0, false) Wg T ch GG) rfl (fun _ => stepG_exit rfl) (fun _ h₁ => ?_); replace hF := (RC.trans hF) h₁; clear h₁)
    repeat (first | (first | ((with_reducible first | refine goes_rend ?_ ?_ | refine goes_sq ?_ ?_ | refine goes_sk ?_ ?_ | refine goes_bl ?_ ?_ | refine goes_lo ?_ ?_ | refine goes_ib ?_ ?_ | refine goes_il ?_ ?_ | refine goes_rt ?_ ?_ | refine goes_en ?_ ?_); exact termsM _ _ _ _ _; intro _ h₁; replace hF := (RC.trans hF) h₁; clear h₁) | (with_reducible refine goes_rg ?_ ?_; exact termsM _ _ _ _ _; intro _ h₁; replace hF := (RC.trans hF) h₁; clear h₁; simp only [List.size_toArray, List.length_cons, List.length_nil, Nat.reduceAdd, Nat.zero_add, List.range, List.range.loop])) | (refine Goes.step rfl (fun w₁ h₁ => ?_); replace hF := (RC.trans hF) h₁; clear h₁; refine goes_oper_k rfl rfl hk (fun K hK => ?_); skip; go_simp; refine hK _ _ ⟨DM_same (fun e he => ?_), ?_⟩; (focus (have hm := mem_listed he; (simp [go_sem, *] at hm); (try (subst hm; exact hv _)))); (clear hK K); (try walk_nrm)))
    refine Goes.mono (n := m) ?_ (by omega)
    exact hret _ _ _ rfl hF
  | succ r ih =>
    intro j hj u2 u3 u4 u6 u7 u8 u9 u10 u11 u12 u13 u14 u15 u16 u17 u18 u19 u20 u21 u22 u23 u24 u25 w hF
    refine Goes.mono (n := (m + 60 * (r + 1)) + 60) ?_ (by omega)
    obtain ⟨ad, rfl⟩ := hA.ex (by omega)
    obtain ⟨bd, rfl⟩ := hB.ex (by omega)
    have hmax := hA.max
    have hwr : IntKind.i64.wrap ((j : Int) + 1) = ((j + 1 : Nat) : Int) := by rw [IntKind.wrap_i64]; omega
    have hjn : j < n := by omega
    have hjn' : (j : Int) < (n : Int) := by omega
    have hreg := reg12 Wg T ch GG hGc (some ad) (some bd) n cap0 cap1 xs w0 hA hB j hjn ad bd rfl rfl
    simp only [head12, L12, end12, body12, Try.f12, Option.getD_some, ops12, B12] at ih hreg ⊢
    repeat (first | (first | ((with_reducible first | refine goes_rend ?_ ?_ | refine goes_sq ?_ ?_ | refine goes_sk ?_ ?_ | refine goes_bl ?_ ?_ | refine goes_lo ?_ ?_ | refine goes_ib ?_ ?_ | refine goes_il ?_ ?_ | refine goes_rt ?_ ?_ | refine goes_en ?_ ?_); exact termsM _ _ _ _ _; intro _ h₁; replace hF := (RC.trans hF) h₁; clear h₁) | (with_reducible refine goes_rg ?_ ?_; exact termsM _ _ _ _ _; intro _ h₁; replace hF := (RC.trans hF) h₁; clear h₁; simp only [List.size_toArray, List.length_cons, List.length_nil, Nat.reduceAdd, Nat.zero_add, List.range, List.range.loop])) | (refine Goes.step rfl (fun w₁ h₁ => ?_); replace hF := (RC.trans hF) h₁; clear h₁; refine goes_oper_k rfl rfl hk (fun K hK => ?_); skip; go_simp; refine hK _ _ ⟨DM_same (fun e he => ?_), ?_⟩; (focus (have hm := mem_listed he; (simp [go_sem, *] at hm); (try (subst hm; exact hv _)))); (clear hK K); (try walk_nrm)))
    (refine goes_cd (termsM (0, false) Wg T ch GG) true rfl (fun _ h₁ => ?_); replace hF := (RC.trans hF) h₁; clear h₁; simp only [if_true, if_false, Bool.false_eq_true, ↓reduceIte])
    repeat (first | (first | ((with_reducible first | refine goes_rend ?_ ?_ | refine goes_sq ?_ ?_ | refine goes_sk ?_ ?_ | refine goes_bl ?_ ?_ | refine goes_lo ?_ ?_ | refine goes_ib ?_ ?_ | refine goes_il ?_ ?_ | refine goes_rt ?_ ?_ | refine goes_en ?_ ?_); exact termsM _ _ _ _ _; intro _ h₁; replace hF := (RC.trans hF) h₁; clear h₁) | (with_reducible refine goes_rg ?_ ?_; exact termsM _ _ _ _ _; intro _ h₁; replace hF := (RC.trans hF) h₁; clear h₁; simp only [List.size_toArray, List.length_cons, List.length_nil, Nat.reduceAdd, Nat.zero_add, List.range, List.range.loop])) | (refine Goes.step rfl (fun w₁ h₁ => ?_); replace hF := (RC.trans hF) h₁; clear h₁; refine goes_oper_k rfl rfl hk (fun K hK => ?_); skip; go_simp; refine hK _ _ ⟨DM_same (fun e he => ?_), ?_⟩; (focus (have hm := mem_listed he; (simp [go_sem, *] at hm); (try (subst hm; exact hv _)))); (clear hK K); (try walk_nrm)))
    refine Goes.mono (n := (m + 60 * (r + 1) + 30) + 11) ?_ (by omega)
    refine wpC_goes (hreg _ _ _ _ _ _ _ _ _ _ _ _ _ _ _ _ _ _ _ _ _ _ _ _ hF) hb hk fun e a' w' q => ?_
    obtain ⟨rfl, rfl, hF⟩ := q
    clear hreg
    (refine goes_cd (termsM (0, false) Wg T ch GG) false rfl (fun _ h₁ => ?_); replace hF := (RC.trans hF) h₁; clear h₁; simp only [if_true, if_false, Bool.false_eq_true, ↓reduceIte])
    (first | ((with_reducible first | refine goes_rend ?_ ?_ | refine goes_sq ?_ ?_ | refine goes_sk ?_ ?_ | refine goes_bl ?_ ?_ | refine goes_lo ?_ ?_ | refine goes_ib ?_ ?_ | refine goes_il ?_ ?_ | refine goes_rt ?_ ?_ | refine goes_en ?_ ?_); exact termsM _ _ _ _ _; intro _ h₁; replace hF := (RC.trans hF) h₁; clear h₁) | (with_reducible refine goes_rg ?_ ?_; exact termsM _ _ _ _ _; intro _ h₁; replace hF := (RC.trans hF) h₁; clear h₁; simp only [List.size_toArray, List.length_cons, List.length_nil, Nat.reduceAdd, Nat.zero_add, List.range, List.range.loop]))
    (first | ((with_reducible first | refine goes_rend ?_ ?_ | refine goes_sq ?_ ?_ | refine goes_sk ?_ ?_ | refine goes_bl ?_ ?_ | refine goes_lo ?_ ?_ | refine goes_ib ?_ ?_ | refine goes_il ?_ ?_ | refine goes_rt ?_ ?_ | refine goes_en ?_ ?_); exact termsM _ _ _ _ _; intro _ h₁; replace hF := (RC.trans hF) h₁; clear h₁) | (with_reducible refine goes_rg ?_ ?_; exact termsM _ _ _ _ _; intro _ h₁; replace hF := (RC.trans hF) h₁; clear h₁; simp only [List.size_toArray, List.length_cons, List.length_nil, Nat.reduceAdd, Nat.zero_add, List.range, List.range.loop]))
    (first | ((with_reducible first | refine goes_rend ?_ ?_ | refine goes_sq ?_ ?_ | refine goes_sk ?_ ?_ | refine goes_bl ?_ ?_ | refine goes_lo ?_ ?_ | refine goes_ib ?_ ?_ | refine goes_il ?_ ?_ | refine goes_rt ?_ ?_ | refine goes_en ?_ ?_); exact termsM _ _ _ _ _; intro _ h₁; replace hF := (RC.trans hF) h₁; clear h₁) | (with_reducible refine goes_rg ?_ ?_; exact termsM _ _ _ _ _; intro _ h₁; replace hF := (RC.trans hF) h₁; clear h₁; simp only [List.size_toArray, List.length_cons, List.length_nil, Nat.reduceAdd, Nat.zero_add, List.range, List.range.loop]))
    (refine Goes.step rfl (fun w₁ h₁ => ?_); replace hF := (RC.trans hF) h₁; clear h₁; refine goes_oper_k rfl rfl hk (fun K hK => ?_); skip; go_simp; refine hK _ _ ⟨DM_same (fun e he => ?_), ?_⟩; (focus (have hm := mem_listed he; (simp [go_sem, *] at hm); (try (subst hm; exact hv _)))); (clear hK K); (try walk_nrm))
    (refine Goes.step rfl (fun w₁ h₁ => ?_); replace hF := (RC.trans hF) h₁; clear h₁; refine goes_oper_k rfl rfl hk (fun K hK => ?_); skip; go_simp; refine hK _ _ ⟨DM_same (fun e he => ?_), ?_⟩; (focus (have hm := mem_listed he; (simp [go_sem, *] at hm); (try (subst hm; exact hv _)))); (clear hK K); (try walk_nrm))
    (refine Goes.step rfl (fun w₁ h₁ => ?_); replace hF := (RC.trans hF) h₁; clear h₁; refine goes_oper_k rfl rfl hk (fun K hK => ?_); skip; go_simp; refine hK _ _ ⟨DM_same (fun e he => ?_), ?_⟩; (focus (have hm := mem_listed he; (simp [go_sem, *] at hm); (try (subst hm; exact hv _)))); (clear hK K); (try walk_nrm))
    (first | ((with_reducible first | refine goes_rend ?_ ?_ | refine goes_sq ?_ ?_ | refine goes_sk ?_ ?_ | refine goes_bl ?_ ?_ | refine goes_lo ?_ ?_ | refine goes_ib ?_ ?_ | refine goes_il ?_ ?_ | refine goes_rt ?_ ?_ | refine goes_en ?_ ?_); exact termsM _ _ _ _ _; intro _ h₁; replace hF := (RC.trans hF) h₁; clear h₁) | (with_reducible refine goes_rg ?_ ?_; exact termsM _ _ _ _ _; intro _ h₁; replace hF := (RC.trans hF) h₁; clear h₁; simp only [List.size_toArray, List.length_cons, List.length_nil, Nat.reduceAdd, Nat.zero_add, List.range, List.range.loop]))
    (first | ((with_reducible first | refine goes_rend ?_ ?_ | refine goes_sq ?_ ?_ | refine goes_sk ?_ ?_ | refine goes_bl ?_ ?_ | refine goes_lo ?_ ?_ | refine goes_ib ?_ ?_ | refine goes_il ?_ ?_ | refine goes_rt ?_ ?_ | refine goes_en ?_ ?_); exact termsM _ _ _ _ _; intro _ h₁; replace hF := (RC.trans hF) h₁; clear h₁) | (with_reducible refine goes_rg ?_ ?_; exact termsM _ _ _ _ _; intro _ h₁; replace hF := (RC.trans hF) h₁; clear h₁; simp only [List.size_toArray, List.length_cons, List.length_nil, Nat.reduceAdd, Nat.zero_add, List.range, List.range.loop]))
    refine Goes.mono (n := m + 60 * (r + 1)) ?_ (by omega)
    exact ih (j + 1) (by omega) _ _ _ _ _ _ _ _ _ _ _ _ _ _ _ _ _ _ _ _ _ _ _ _ hF

include hGc in
set_option maxRecDepth 100000 in
/-- TWO LISTS ARE ALIKE: true. -/
theorem same_c : ∃ q, ∀ (a0 b0 : Option Addr) (cap0 cap1 : Nat) (xs : List Int) (w : World), IR ch a0 n xs w → IR ch b0 n xs w →
    CallsC Try.prog true (RC (0, false) Wg ch) (DM (0, false) Wg T ch GG) 12 #[.slice a0 n cap0, .slice b0 n cap1] q w fun v w' => v = .bool true ∧ RC (0, false) Wg ch w w' := by
  refine ⟨60 * (n + 1) + 40, fun a0 b0 cap0 cap1 xs w0 hA hB => callsC_of_wpC Try.func12 (by simp [Try.f12]) (show Try.f12.body = some body12 by simp [Try.f12, body12]) ?_⟩
  have hF : RC (0, false) Wg ch w0 w0 := RC.refl _ _
  have e : (#[.slice a0 n cap0, .slice b0 n cap1] : Array Value) ++ Array.replicate (Try.f12.ntmps - (#[.slice a0 n cap0, .slice b0 n cap1] : Array Value).size) undef = #[.slice a0 n cap0, .slice b0 n cap1, undef, undef, undef, undef, undef, undef, undef, undef, undef, undef, undef, undef, undef, undef, undef, undef, undef, undef, undef, undef, undef, undef, undef, undef] := by simp only [Try.f12]; walk_nrm
  rw [e]
  intro b k cs Stop m hb hk hc
  have h1 := loop12 Wg T ch GG hGc a0 b0 n cap0 cap1 xs b k cs w0 hA hB Stop m hb hk (fun t todo w' ht hr => hc .ret ⟨t, []⟩ w' ⟨rfl, _, resultsC_tmp (by simp only [Try.f12]) t, ht, hr⟩ todo) n 0 (by omega)
  refine Goes.mono (n := (m + 60 * (n + 1)) + 40) ?_ (by omega)
  simp only [head12, L12, end12, body12, Try.f12, Option.getD_some] at h1 ⊢
  repeat (first | (first | ((with_reducible first | refine goes_rend ?_ ?_ | refine goes_sq ?_ ?_ | refine goes_sk ?_ ?_ | refine goes_bl ?_ ?_ | refine goes_lo ?_ ?_ | refine goes_ib ?_ ?_ | refine goes_il ?_ ?_ | refine goes_rt ?_ ?_ | refine goes_en ?_ ?_); exact termsM _ _ _ _ _; intro _ h₁; replace hF := (RC.trans hF) h₁; clear h₁) | (with_reducible refine goes_rg ?_ ?_; exact termsM _ _ _ _ _; intro _ h₁; replace hF := (RC.trans hF) h₁; clear h₁; simp only [List.size_toArray, List.length_cons, List.length_nil, Nat.reduceAdd, Nat.zero_add, List.range, List.range.loop])) | (refine Goes.step rfl (fun w₁ h₁ => ?_); replace hF := (RC.trans hF) h₁; clear h₁; refine goes_oper_k rfl rfl hk (fun K hK => ?_); skip; go_simp; refine hK _ _ ⟨DM_same (fun e he => ?_), ?_⟩; (focus (have hm := mem_listed he; (simp [go_sem, *] at hm); (try (subst hm; exact hv _)))); (clear hK K); (try walk_nrm)))
  (refine goes_cd (termsM (0, false) Wg T ch GG) false rfl (fun _ h₁ => ?_); replace hF := (RC.trans hF) h₁; clear h₁; simp only [if_true, if_false, Bool.false_eq_true, ↓reduceIte])
  (first | ((with_reducible first | refine goes_rend ?_ ?_ | refine goes_sq ?_ ?_ | refine goes_sk ?_ ?_ | refine goes_bl ?_ ?_ | refine goes_lo ?_ ?_ | refine goes_ib ?_ ?_ | refine goes_il ?_ ?_ | refine goes_rt ?_ ?_ | refine goes_en ?_ ?_); exact termsM _ _ _ _ _; intro _ h₁; replace hF := (RC.trans hF) h₁; clear h₁) | (with_reducible refine goes_rg ?_ ?_; exact termsM _ _ _ _ _; intro _ h₁; replace hF := (RC.trans hF) h₁; clear h₁; simp only [List.size_toArray, List.length_cons, List.length_nil, Nat.reduceAdd, Nat.zero_add, List.range, List.range.loop]))
  (first | ((with_reducible first | refine goes_rend ?_ ?_ | refine goes_sq ?_ ?_ | refine goes_sk ?_ ?_ | refine goes_bl ?_ ?_ | refine goes_lo ?_ ?_ | refine goes_ib ?_ ?_ | refine goes_il ?_ ?_ | refine goes_rt ?_ ?_ | refine goes_en ?_ ?_); exact termsM _ _ _ _ _; intro _ h₁; replace hF := (RC.trans hF) h₁; clear h₁) | (with_reducible refine goes_rg ?_ ?_; exact termsM _ _ _ _ _; intro _ h₁; replace hF := (RC.trans hF) h₁; clear h₁; simp only [List.size_toArray, List.length_cons, List.length_nil, Nat.reduceAdd, Nat.zero_add, List.range, List.range.loop]))
  (first | ((with_reducible first | refine goes_rend ?_ ?_ | refine goes_sq ?_ ?_ | refine goes_sk ?_ ?_ | refine goes_bl ?_ ?_ | refine goes_lo ?_ ?_ | refine goes_ib ?_ ?_ | refine goes_il ?_ ?_ | refine goes_rt ?_ ?_ | refine goes_en ?_ ?_); exact termsM _ _ _ _ _; intro _ h₁; replace hF := (RC.trans hF) h₁; clear h₁) | (with_reducible refine goes_rg ?_ ?_; exact termsM _ _ _ _ _; intro _ h₁; replace hF := (RC.trans hF) h₁; clear h₁; simp only [List.size_toArray, List.length_cons, List.length_nil, Nat.reduceAdd, Nat.zero_add, List.range, List.range.loop]))
  (first | ((with_reducible first | refine goes_rend ?_ ?_ | refine goes_sq ?_ ?_ | refine goes_sk ?_ ?_ | refine goes_bl ?_ ?_ | refine goes_lo ?_ ?_ | refine goes_ib ?_ ?_ | refine goes_il ?_ ?_ | refine goes_rt ?_ ?_ | refine goes_en ?_ ?_); exact termsM _ _ _ _ _; intro _ h₁; replace hF := (RC.trans hF) h₁; clear h₁) | (with_reducible refine goes_rg ?_ ?_; exact termsM _ _ _ _ _; intro _ h₁; replace hF := (RC.trans hF) h₁; clear h₁; simp only [List.size_toArray, List.length_cons, List.length_nil, Nat.reduceAdd, Nat.zero_add, List.range, List.range.loop]))
  (refine Goes.step rfl (fun w₁ h₁ => ?_); replace hF := (RC.trans hF) h₁; clear h₁; refine goes_oper_k rfl rfl hk (fun K hK => ?_); skip; go_simp; refine hK _ _ ⟨DM_same (fun e he => ?_), ?_⟩; (focus (have hm := mem_listed he; (simp [go_sem, *] at hm); (try (subst hm; exact hv _)))); (clear hK K); (try walk_nrm))
  (first | ((with_reducible first | refine goes_rend ?_ ?_ | refine goes_sq ?_ ?_ | refine goes_sk ?_ ?_ | refine goes_bl ?_ ?_ | refine goes_lo ?_ ?_ | refine goes_ib ?_ ?_ | refine goes_il ?_ ?_ | refine goes_rt ?_ ?_ | refine goes_en ?_ ?_); exact termsM _ _ _ _ _; intro _ h₁; replace hF := (RC.trans hF) h₁; clear h₁) | (with_reducible refine goes_rg ?_ ?_; exact termsM _ _ _ _ _; intro _ h₁; replace hF := (RC.trans hF) h₁; clear h₁; simp only [List.size_toArray, List.length_cons, List.length_nil, Nat.reduceAdd, Nat.zero_add, List.range, List.range.loop]))
  (first | ((with_reducible first | refine goes_rend ?_ ?_ | refine goes_sq ?_ ?_ | refine goes_sk ?_ ?_ | refine goes_bl ?_ ?_ | refine goes_lo ?_ ?_ | refine goes_ib ?_ ?_ | refine goes_il ?_ ?_ | refine goes_rt ?_ ?_ | refine goes_en ?_ ?_); exact termsM _ _ _ _ _; intro _ h₁; replace hF := (RC.trans hF) h₁; clear h₁) | (with_reducible refine goes_rg ?_ ?_; exact termsM _ _ _ _ _; intro _ h₁; replace hF := (RC.trans hF) h₁; clear h₁; simp only [List.size_toArray, List.length_cons, List.length_nil, Nat.reduceAdd, Nat.zero_add, List.range, List.range.loop]))
  (first | ((with_reducible first | refine goes_rend ?_ ?_ | refine goes_sq ?_ ?_ | refine goes_sk ?_ ?_ | refine goes_bl ?_ ?_ | refine goes_lo ?_ ?_ | refine goes_ib ?_ ?_ | refine goes_il ?_ ?_ | refine goes_rt ?_ ?_ | refine goes_en ?_ ?_); exact termsM _ _ _ _ _; intro _ h₁; replace hF := (RC.trans hF) h₁; clear h₁) | (with_reducible refine goes_rg ?_ ?_; exact termsM _ _ _ _ _; intro _ h₁; replace hF := (RC.trans hF) h₁; clear h₁; simp only [List.size_toArray, List.length_cons, List.length_nil, Nat.reduceAdd, Nat.zero_add, List.range, List.range.loop]))
  refine Goes.mono (n := m + 60 * (n + 1)) ?_ (by omega)
  exact h1 _ _ _ _ _ _ _ _ _ _ _ _ _ _ _ _ _ _ _ _ _ _ _ _ hF
end
end Go.Proofs.Ytplndihadjfliaa.Mix
/-
  CREW: the law's small functions, in company: full.
-/
set_option linter.unusedSimpArgs false
set_option linter.unusedVariables false
set_option maxHeartbeats 2000000
namespace Go.Proofs.Ytplndihadjfliaa.Mix
open Go Go.Conc Go.ConcN Go.Proofs Go.RowKit

noncomputable def body22 : Code := Try.f22.body.getD .skip
noncomputable def L22 : Code := match body22 with | .seq _ (.seq (.seq _ (.block _ (.loop c))) _) => c | _ => .skip
noncomputable def end22 : Code := match body22 with | .seq _ (.seq _ r) => r | _ => .skip


section
variable (Wg : Nat) (T ch GG : List Nat) (hGc : ∀ b ∈ GG, b ∈ ch) (a0 : Option Addr) (n cap0 : Nat) (mk : Int) (xs : List Int) (b : Frame) (k : List Item) (cs : List Frame)

noncomputable def head22 (j : Nat) (u2 u3 u4 u6 u7 u8 u9 u10 u11 u12 u13 u14 u15 u16 u17 : Value) : Goroutine := G (b.at ⟨#[.slice a0 n cap0, iv mk, u2, u3, u4, .int .i64 j, u6, u7, u8, u9, u10, u11, u12, u13, u14, u15, u16, u17], []⟩ (.code L22 :: .inLoop L22 :: .inBlock 0 :: .code end22 :: k)) cs

include hGc in
set_option maxRecDepth 100000 in
theorem loop22 (w0 : World) (hA : IR ch a0 n xs w0) (hx : ∀ j, j < n → xs[j]?.getD 0 = mk) (Stop : Goroutine → World → Prop) (m : Nat) (hb : b.fn = 22) (hk : b.kind ≠ .early)
    (hret : ∀ (t : Array Value) todo w', t.getD 4 undef = .bool true → RC (0, false) Wg ch w0 w' → Goes Try.prog true (RC (0, false) Wg ch) (DM (0, false) Wg T ch GG) Stop m (G { b.at ⟨t, []⟩ todo with mode := .returning } cs) w') :
    ∀ (r j : Nat), j + r = n → ∀ (u2 u3 u4 u6 u7 u8 u9 u10 u11 u12 u13 u14 u15 u16 u17 : Value) (w : World), RC (0, false) Wg ch w0 w → Goes Try.prog true (RC (0, false) Wg ch) (DM (0, false) Wg T ch GG) Stop (m + 60 * (r + 1)) (head22 a0 n cap0 mk b k cs j u2 u3 u4 u6 u7 u8 u9 u10 u11 u12 u13 u14 u15 u16 u17) w := by
  intro r
  induction r with
  | zero =>
    intro j hj u2 u3 u4 u6 u7 u8 u9 u10 u11 u12 u13 u14 u15 u16 u17 w hF
    obtain rfl : j = n := by omega
    refine Goes.mono (n := m + 60) ?_ (by omega)
    simp only [head22, L22, end22, body22, Try.f22, Option.getD_some]
    repeat (first | (first | ((with_reducible first | refine goes_rend ?_ ?_ | refine goes_sq ?_ ?_ | refine goes_sk ?_ ?_ | refine goes_bl ?_ ?_ | refine goes_lo ?_ ?_ | refine goes_ib ?_ ?_ | refine goes_il ?_ ?_ | refine goes_rt ?_ ?_ | refine goes_en ?_ ?_); exact termsM _ _ _ _ _; intro _ h₁; replace hF := (RC.trans hF) h₁; clear h₁) | (with_reducible refine goes_rg ?_ ?_; exact termsM _ _ _ _ _; intro _ h₁; replace hF := (RC.trans hF) h₁; clear h₁; simp only [List.size_toArray, List.length_cons, List.length_nil, Nat.reduceAdd, Nat.zero_add, List.range, List.range.loop])) | (refine Goes.step rfl (fun w₁ h₁ => ?_); replace hF := (RC.trans hF) h₁; clear h₁; refine goes_oper_k rfl rfl hk (fun K hK => ?_); skip; go_simp; refine hK _ _ ⟨DM_same (fun e he => ?_), ?_⟩; (focus (have hm := mem_listed he; (simp [go_sem, *] at hm); (try (subst hm; exact hv _)))); (clear hK K); (try walk_nrm)))
    (refine goes_cd (termsM (0, false) Wg T ch GG) false rfl (fun _ h₁ => ?_); replace hF := (RC.trans hF) h₁; clear h₁; simp only [if_true, if_false, Bool.false_eq_true, ↓reduceIte])
    (refine goes_c (termsM (0, false) Wg T ch GG) rfl (fun _ => stepG_exit rfl) (fun _ h₁ => ?_); replace hF := (RC.trans hF) h₁; clear h₁)
    repeat (first | (first | ((with_reducible first | refine goes_rend ?_ ?_ | refine goes_sq ?_ ?_ | refine goes_sk ?_ ?_ | refine goes_bl ?_ ?_ | refine goes_lo ?_ ?_ | refine goes_ib ?_ ?_ | refine goes_il ?_ ?_ | refine goes_rt ?_ ?_ | refine goes_en ?_ ?_); exact termsM _ _ _ _ _; intro _ h₁; replace hF := (RC.trans hF) h₁; clear h₁) | (with_reducible refine goes_rg ?_ ?_; exact termsM _ _ _ _ _; intro _ h₁; replace hF := (RC.trans hF) h₁; clear h₁; simp only [List.size_toArray, List.length_cons, List.length_nil, Nat.reduceAdd, Nat.zero_add, List.range, List.range.loop])) | (refine Goes.step rfl (fun w₁ h₁ => ?_); replace hF := (RC.trans hF) h₁; clear h₁; refine goes_oper_k rfl rfl hk (fun K hK => ?_); skip; go_simp; refine hK _ _ ⟨DM_same (fun e he => ?_), ?_⟩; (focus (have hm := mem_listed he; (simp [go_sem, *] at hm); (try (subst hm; exact hv _)))); (clear hK K); (try walk_nrm)))
    refine Goes.mono (n := m) ?_ (by omega)
    exact hret _ _ _ rfl hF
  | succ r ih =>
    intro j hj u2 u3 u4 u6 u7 u8 u9 u10 u11 u12 u13 u14 u15 u16 u17 w hF
    refine Goes.mono (n := (m + 60 * (r + 1)) + 60) ?_ (by omega)
    obtain ⟨ad, rfl⟩ := hA.ex (by omega)
    have hmax := hA.max
    have hwr : IntKind.i64.wrap ((j : Int) + 1) = ((j + 1 : Nat) : Int) := by rw [IntKind.wrap_i64]; omega
    have hjn : j < n := by omega
    have hjn' : (j : Int) < (n : Int) := by omega
    have hxj := hx j hjn
    simp only [head22, L22, end22, body22, Try.f22, Option.getD_some] at ih ⊢
    repeat (first | (first | ((with_reducible first | refine goes_rend ?_ ?_ | refine goes_sq ?_ ?_ | refine goes_sk ?_ ?_ | refine goes_bl ?_ ?_ | refine goes_lo ?_ ?_ | refine goes_ib ?_ ?_ | refine goes_il ?_ ?_ | refine goes_rt ?_ ?_ | refine goes_en ?_ ?_); exact termsM _ _ _ _ _; intro _ h₁; replace hF := (RC.trans hF) h₁; clear h₁) | (with_reducible refine goes_rg ?_ ?_; exact termsM _ _ _ _ _; intro _ h₁; replace hF := (RC.trans hF) h₁; clear h₁; simp only [List.size_toArray, List.length_cons, List.length_nil, Nat.reduceAdd, Nat.zero_add, List.range, List.range.loop])) | (refine Goes.step rfl (fun w₁ h₁ => ?_); replace hF := (RC.trans hF) h₁; clear h₁; refine goes_oper_k rfl rfl hk (fun K hK => ?_); skip; go_simp; refine hK _ _ ⟨DM_same (fun e he => ?_), ?_⟩; (focus (have hm := mem_listed he; (simp [go_sem, *] at hm); (try (subst hm; exact hv _)))); (clear hK K); (try walk_nrm)))
    (refine goes_cd (termsM (0, false) Wg T ch GG) true rfl (fun _ h₁ => ?_); replace hF := (RC.trans hF) h₁; clear h₁; simp only [if_true, if_false, Bool.false_eq_true, ↓reduceIte])
    (first | ((with_reducible first | refine goes_rend ?_ ?_ | refine goes_sq ?_ ?_ | refine goes_sk ?_ ?_ | refine goes_bl ?_ ?_ | refine goes_lo ?_ ?_ | refine goes_ib ?_ ?_ | refine goes_il ?_ ?_ | refine goes_rt ?_ ?_ | refine goes_en ?_ ?_); exact termsM _ _ _ _ _; intro _ h₁; replace hF := (RC.trans hF) h₁; clear h₁) | (with_reducible refine goes_rg ?_ ?_; exact termsM _ _ _ _ _; intro _ h₁; replace hF := (RC.trans hF) h₁; clear h₁; simp only [List.size_toArray, List.length_cons, List.length_nil, Nat.reduceAdd, Nat.zero_add, List.range, List.range.loop]))
    (first | ((with_reducible first | refine goes_rend ?_ ?_ | refine goes_sq ?_ ?_ | refine goes_sk ?_ ?_ | refine goes_bl ?_ ?_ | refine goes_lo ?_ ?_ | refine goes_ib ?_ ?_ | refine goes_il ?_ ?_ | refine goes_rt ?_ ?_ | refine goes_en ?_ ?_); exact termsM _ _ _ _ _; intro _ h₁; replace hF := (RC.trans hF) h₁; clear h₁) | (with_reducible refine goes_rg ?_ ?_; exact termsM _ _ _ _ _; intro _ h₁; replace hF := (RC.trans hF) h₁; clear h₁; simp only [List.size_toArray, List.length_cons, List.length_nil, Nat.reduceAdd, Nat.zero_add, List.range, List.range.loop]))
    (first | ((with_reducible first | refine goes_rend ?_ ?_ | refine goes_sq ?_ ?_ | refine goes_sk ?_ ?_ | refine goes_bl ?_ ?_ | refine goes_lo ?_ ?_ | refine goes_ib ?_ ?_ | refine goes_il ?_ ?_ | refine goes_rt ?_ ?_ | refine goes_en ?_ ?_); exact termsM _ _ _ _ _; intro _ h₁; replace hF := (RC.trans hF) h₁; clear h₁) | (with_reducible refine goes_rg ?_ ?_; exact termsM _ _ _ _ _; intro _ h₁; replace hF := (RC.trans hF) h₁; clear h₁; simp only [List.size_toArray, List.length_cons, List.length_nil, Nat.reduceAdd, Nat.zero_add, List.range, List.range.loop]))
    repeat (first | (first | ((with_reducible first | refine goes_rend ?_ ?_ | refine goes_sq ?_ ?_ | refine goes_sk ?_ ?_ | refine goes_bl ?_ ?_ | refine goes_lo ?_ ?_ | refine goes_ib ?_ ?_ | refine goes_il ?_ ?_ | refine goes_rt ?_ ?_ | refine goes_en ?_ ?_); exact termsM _ _ _ _ _; intro _ h₁; replace hF := (RC.trans hF) h₁; clear h₁) | (with_reducible refine goes_rg ?_ ?_; exact termsM _ _ _ _ _; intro _ h₁; replace hF := (RC.trans hF) h₁; clear h₁; simp only [List.size_toArray, List.length_cons, List.length_nil, Nat.reduceAdd, Nat.zero_add, List.range, List.range.loop])) | (refine Goes.step rfl (fun w₁ h₁ => ?_); replace hF := (RC.trans hF) h₁; clear h₁; refine goes_oper_k rfl rfl hk (fun K hK => ?_); have hc := (hA.rely hF).cell j ad hjn rfl; have hv := (hA.rely hF).ev (T := T) hGc (j := j) hjn rfl; go_simp; refine hK _ _ ⟨DM_same (fun e he => ?_), ?_⟩; (focus (have hm := mem_listed he; (simp [go_sem, *] at hm); (try (subst hm; exact hv _)))); (clear hK K); (try walk_nrm)))
    (refine goes_cd (termsM (0, false) Wg T ch GG) false rfl (fun _ h₁ => ?_); replace hF := (RC.trans hF) h₁; clear h₁; simp only [if_true, if_false, Bool.false_eq_true, ↓reduceIte])
    (first | ((with_reducible first | refine goes_rend ?_ ?_ | refine goes_sq ?_ ?_ | refine goes_sk ?_ ?_ | refine goes_bl ?_ ?_ | refine goes_lo ?_ ?_ | refine goes_ib ?_ ?_ | refine goes_il ?_ ?_ | refine goes_rt ?_ ?_ | refine goes_en ?_ ?_); exact termsM _ _ _ _ _; intro _ h₁; replace hF := (RC.trans hF) h₁; clear h₁) | (with_reducible refine goes_rg ?_ ?_; exact termsM _ _ _ _ _; intro _ h₁; replace hF := (RC.trans hF) h₁; clear h₁; simp only [List.size_toArray, List.length_cons, List.length_nil, Nat.reduceAdd, Nat.zero_add, List.range, List.range.loop]))
    (first | ((with_reducible first | refine goes_rend ?_ ?_ | refine goes_sq ?_ ?_ | refine goes_sk ?_ ?_ | refine goes_bl ?_ ?_ | refine goes_lo ?_ ?_ | refine goes_ib ?_ ?_ | refine goes_il ?_ ?_ | refine goes_rt ?_ ?_ | refine goes_en ?_ ?_); exact termsM _ _ _ _ _; intro _ h₁; replace hF := (RC.trans hF) h₁; clear h₁) | (with_reducible refine goes_rg ?_ ?_; exact termsM _ _ _ _ _; intro _ h₁; replace hF := (RC.trans hF) h₁; clear h₁; simp only [List.size_toArray, List.length_cons, List.length_nil, Nat.reduceAdd, Nat.zero_add, List.range, List.range.loop]))
    (first | ((with_reducible first | refine goes_rend ?_ ?_ | refine goes_sq ?_ ?_ | refine goes_sk ?_ ?_ | refine goes_bl ?_ ?_ | refine goes_lo ?_ ?_ | refine goes_ib ?_ ?_ | refine goes_il ?_ ?_ | refine goes_rt ?_ ?_ | refine goes_en ?_ ?_); exact termsM _ _ _ _ _; intro _ h₁; replace hF := (RC.trans hF) h₁; clear h₁) | (with_reducible refine goes_rg ?_ ?_; exact termsM _ _ _ _ _; intro _ h₁; replace hF := (RC.trans hF) h₁; clear h₁; simp only [List.size_toArray, List.length_cons, List.length_nil, Nat.reduceAdd, Nat.zero_add, List.range, List.range.loop]))
    (refine Goes.step rfl (fun w₁ h₁ => ?_); replace hF := (RC.trans hF) h₁; clear h₁; refine goes_oper_k rfl rfl hk (fun K hK => ?_); skip; go_simp; refine hK _ _ ⟨DM_same (fun e he => ?_), ?_⟩; (focus (have hm := mem_listed he; (simp [go_sem, *] at hm); (try (subst hm; exact hv _)))); (clear hK K); (try walk_nrm))
    (refine Goes.step rfl (fun w₁ h₁ => ?_); replace hF := (RC.trans hF) h₁; clear h₁; refine goes_oper_k rfl rfl hk (fun K hK => ?_); skip; go_simp; refine hK _ _ ⟨DM_same (fun e he => ?_), ?_⟩; (focus (have hm := mem_listed he; (simp [go_sem, *] at hm); (try (subst hm; exact hv _)))); (clear hK K); (try walk_nrm))
    (refine Goes.step rfl (fun w₁ h₁ => ?_); replace hF := (RC.trans hF) h₁; clear h₁; refine goes_oper_k rfl rfl hk (fun K hK => ?_); skip; go_simp; refine hK _ _ ⟨DM_same (fun e he => ?_), ?_⟩; (focus (have hm := mem_listed he; (simp [go_sem, *] at hm); (try (subst hm; exact hv _)))); (clear hK K); (try walk_nrm))
    (first | ((with_reducible first | refine goes_rend ?_ ?_ | refine goes_sq ?_ ?_ | refine goes_sk ?_ ?_ | refine goes_bl ?_ ?_ | refine goes_lo ?_ ?_ | refine goes_ib ?_ ?_ | refine goes_il ?_ ?_ | refine goes_rt ?_ ?_ | refine goes_en ?_ ?_); exact termsM _ _ _ _ _; intro _ h₁; replace hF := (RC.trans hF) h₁; clear h₁) | (with_reducible refine goes_rg ?_ ?_; exact termsM _ _ _ _ _; intro _ h₁; replace hF := (RC.trans hF) h₁; clear h₁; simp only [List.size_toArray, List.length_cons, List.length_nil, Nat.reduceAdd, Nat.zero_add, List.range, List.range.loop]))
    (first | ((with_reducible first | refine goes_rend ?_ ?_ | refine goes_sq ?_ ?_ | refine goes_sk ?_ ?_ | refine goes_bl ?_ ?_ | refine goes_lo ?_ ?_ | refine goes_ib ?_ ?_ | refine goes_il ?_ ?_ | refine goes_rt ?_ ?_ | refine goes_en ?_ ?_); exact termsM _ _ _ _ _; intro _ h₁; replace hF := (RC.trans hF) h₁; clear h₁) | (with_reducible refine goes_rg ?_ ?_; exact termsM _ _ _ _ _; intro _ h₁; replace hF := (RC.trans hF) h₁; clear h₁; simp only [List.size_toArray, List.length_cons, List.length_nil, Nat.reduceAdd, Nat.zero_add, List.range, List.range.loop]))
    refine Goes.mono (n := m + 60 * (r + 1)) ?_ (by omega)
    exact ih (j + 1) (by omega) _ _ _ _ _ _ _ _ _ _ _ _ _ _ _ _ hF

include hGc in
set_option maxRecDepth 100000 in
/-- A LIST OF MARKS ALONE: true. -/
theorem full_c : ∃ q, ∀ (a0 : Option Addr) (cap0 : Nat) (mk : Int) (xs : List Int) (w : World), IR ch a0 n xs w → (∀ j, j < n → xs[j]?.getD 0 = mk) →
    CallsC Try.prog true (RC (0, false) Wg ch) (DM (0, false) Wg T ch GG) 22 #[.slice a0 n cap0, iv mk] q w fun v w' => v = .bool true ∧ RC (0, false) Wg ch w w' := by
  refine ⟨60 * (n + 1) + 40, fun a0 cap0 mk xs w0 hA hx => callsC_of_wpC Try.func22 (by simp [Try.f22]) (show Try.f22.body = some body22 by simp [Try.f22, body22]) ?_⟩
  have hF : RC (0, false) Wg ch w0 w0 := RC.refl _ _
  have e : (#[.slice a0 n cap0, iv mk] : Array Value) ++ Array.replicate (Try.f22.ntmps - (#[.slice a0 n cap0, iv mk] : Array Value).size) undef = #[.slice a0 n cap0, iv mk, undef, undef, undef, undef, undef, undef, undef, undef, undef, undef, undef, undef, undef, undef, undef, undef] := by simp only [Try.f22]; walk_nrm
  rw [e]
  intro b k cs Stop m hb hk hc
  have h1 := loop22 Wg T ch GG hGc a0 n cap0 mk xs b k cs w0 hA hx Stop m hb hk (fun t todo w' ht hr => hc .ret ⟨t, []⟩ w' ⟨rfl, _, resultsC_tmp (by simp only [Try.f22]) t, ht, hr⟩ todo) n 0 (by omega)
  refine Goes.mono (n := (m + 60 * (n + 1)) + 40) ?_ (by omega)
  simp only [head22, L22, end22, body22, Try.f22, Option.getD_some] at h1 ⊢
  (first | ((with_reducible first | refine goes_rend ?_ ?_ | refine goes_sq ?_ ?_ | refine goes_sk ?_ ?_ | refine goes_bl ?_ ?_ | refine goes_lo ?_ ?_ | refine goes_ib ?_ ?_ | refine goes_il ?_ ?_ | refine goes_rt ?_ ?_ | refine goes_en ?_ ?_); exact termsM _ _ _ _ _; intro _ h₁; replace hF := (RC.trans hF) h₁; clear h₁) | (with_reducible refine goes_rg ?_ ?_; exact termsM _ _ _ _ _; intro _ h₁; replace hF := (RC.trans hF) h₁; clear h₁; simp only [List.size_toArray, List.length_cons, List.length_nil, Nat.reduceAdd, Nat.zero_add, List.range, List.range.loop]))
  (first | ((with_reducible first | refine goes_rend ?_ ?_ | refine goes_sq ?_ ?_ | refine goes_sk ?_ ?_ | refine goes_bl ?_ ?_ | refine goes_lo ?_ ?_ | refine goes_ib ?_ ?_ | refine goes_il ?_ ?_ | refine goes_rt ?_ ?_ | refine goes_en ?_ ?_); exact termsM _ _ _ _ _; intro _ h₁; replace hF := (RC.trans hF) h₁; clear h₁) | (with_reducible refine goes_rg ?_ ?_; exact termsM _ _ _ _ _; intro _ h₁; replace hF := (RC.trans hF) h₁; clear h₁; simp only [List.size_toArray, List.length_cons, List.length_nil, Nat.reduceAdd, Nat.zero_add, List.range, List.range.loop]))
  (refine Goes.step rfl (fun w₁ h₁ => ?_); replace hF := (RC.trans hF) h₁; clear h₁; refine goes_oper_k rfl rfl hk (fun K hK => ?_); skip; go_simp; refine hK _ _ ⟨DM_same (fun e he => ?_), ?_⟩; (focus (have hm := mem_listed he; (simp [go_sem, *] at hm); (try (subst hm; exact hv _)))); (clear hK K); (try walk_nrm))
  (first | ((with_reducible first | refine goes_rend ?_ ?_ | refine goes_sq ?_ ?_ | refine goes_sk ?_ ?_ | refine goes_bl ?_ ?_ | refine goes_lo ?_ ?_ | refine goes_ib ?_ ?_ | refine goes_il ?_ ?_ | refine goes_rt ?_ ?_ | refine goes_en ?_ ?_); exact termsM _ _ _ _ _; intro _ h₁; replace hF := (RC.trans hF) h₁; clear h₁) | (with_reducible refine goes_rg ?_ ?_; exact termsM _ _ _ _ _; intro _ h₁; replace hF := (RC.trans hF) h₁; clear h₁; simp only [List.size_toArray, List.length_cons, List.length_nil, Nat.reduceAdd, Nat.zero_add, List.range, List.range.loop]))
  (first | ((with_reducible first | refine goes_rend ?_ ?_ | refine goes_sq ?_ ?_ | refine goes_sk ?_ ?_ | refine goes_bl ?_ ?_ | refine goes_lo ?_ ?_ | refine goes_ib ?_ ?_ | refine goes_il ?_ ?_ | refine goes_rt ?_ ?_ | refine goes_en ?_ ?_); exact termsM _ _ _ _ _; intro _ h₁; replace hF := (RC.trans hF) h₁; clear h₁) | (with_reducible refine goes_rg ?_ ?_; exact termsM _ _ _ _ _; intro _ h₁; replace hF := (RC.trans hF) h₁; clear h₁; simp only [List.size_toArray, List.length_cons, List.length_nil, Nat.reduceAdd, Nat.zero_add, List.range, List.range.loop]))
  (first | ((with_reducible first | refine goes_rend ?_ ?_ | refine goes_sq ?_ ?_ | refine goes_sk ?_ ?_ | refine goes_bl ?_ ?_ | refine goes_lo ?_ ?_ | refine goes_ib ?_ ?_ | refine goes_il ?_ ?_ | refine goes_rt ?_ ?_ | refine goes_en ?_ ?_); exact termsM _ _ _ _ _; intro _ h₁; replace hF := (RC.trans hF) h₁; clear h₁) | (with_reducible refine goes_rg ?_ ?_; exact termsM _ _ _ _ _; intro _ h₁; replace hF := (RC.trans hF) h₁; clear h₁; simp only [List.size_toArray, List.length_cons, List.length_nil, Nat.reduceAdd, Nat.zero_add, List.range, List.range.loop]))
  (first | ((with_reducible first | refine goes_rend ?_ ?_ | refine goes_sq ?_ ?_ | refine goes_sk ?_ ?_ | refine goes_bl ?_ ?_ | refine goes_lo ?_ ?_ | refine goes_ib ?_ ?_ | refine goes_il ?_ ?_ | refine goes_rt ?_ ?_ | refine goes_en ?_ ?_); exact termsM _ _ _ _ _; intro _ h₁; replace hF := (RC.trans hF) h₁; clear h₁) | (with_reducible refine goes_rg ?_ ?_; exact termsM _ _ _ _ _; intro _ h₁; replace hF := (RC.trans hF) h₁; clear h₁; simp only [List.size_toArray, List.length_cons, List.length_nil, Nat.reduceAdd, Nat.zero_add, List.range, List.range.loop]))
  (refine Goes.step rfl (fun w₁ h₁ => ?_); replace hF := (RC.trans hF) h₁; clear h₁; refine goes_oper_k rfl rfl hk (fun K hK => ?_); skip; go_simp; refine hK _ _ ⟨DM_same (fun e he => ?_), ?_⟩; (focus (have hm := mem_listed he; (simp [go_sem, *] at hm); (try (subst hm; exact hv _)))); (clear hK K); (try walk_nrm))
  (first | ((with_reducible first | refine goes_rend ?_ ?_ | refine goes_sq ?_ ?_ | refine goes_sk ?_ ?_ | refine goes_bl ?_ ?_ | refine goes_lo ?_ ?_ | refine goes_ib ?_ ?_ | refine goes_il ?_ ?_ | refine goes_rt ?_ ?_ | refine goes_en ?_ ?_); exact termsM _ _ _ _ _; intro _ h₁; replace hF := (RC.trans hF) h₁; clear h₁) | (with_reducible refine goes_rg ?_ ?_; exact termsM _ _ _ _ _; intro _ h₁; replace hF := (RC.trans hF) h₁; clear h₁; simp only [List.size_toArray, List.length_cons, List.length_nil, Nat.reduceAdd, Nat.zero_add, List.range, List.range.loop]))
  (first | ((with_reducible first | refine goes_rend ?_ ?_ | refine goes_sq ?_ ?_ | refine goes_sk ?_ ?_ | refine goes_bl ?_ ?_ | refine goes_lo ?_ ?_ | refine goes_ib ?_ ?_ | refine goes_il ?_ ?_ | refine goes_rt ?_ ?_ | refine goes_en ?_ ?_); exact termsM _ _ _ _ _; intro _ h₁; replace hF := (RC.trans hF) h₁; clear h₁) | (with_reducible refine goes_rg ?_ ?_; exact termsM _ _ _ _ _; intro _ h₁; replace hF := (RC.trans hF) h₁; clear h₁; simp only [List.size_toArray, List.length_cons, List.length_nil, Nat.reduceAdd, Nat.zero_add, List.range, List.range.loop]))
  (first | ((with_reducible first | refine goes_rend ?_ ?_ | refine goes_sq ?_ ?_ | refine goes_sk ?_ ?_ | refine goes_bl ?_ ?_ | refine goes_lo ?_ ?_ | refine goes_ib ?_ ?_ | refine goes_il ?_ ?_ | refine goes_rt ?_ ?_ | refine goes_en ?_ ?_); exact termsM _ _ _ _ _; intro _ h₁; replace hF := (RC.trans hF) h₁; clear h₁) | (with_reducible refine goes_rg ?_ ?_; exact termsM _ _ _ _ _; intro _ h₁; replace hF := (RC.trans hF) h₁; clear h₁; simp only [List.size_toArray, List.length_cons, List.length_nil, Nat.reduceAdd, Nat.zero_add, List.range, List.range.loop]))
  refine Goes.mono (n := m + 60 * (n + 1)) ?_ (by omega)
  exact h1 _ _ _ _ _ _ _ _ _ _ _ _ _ _ _ _ hF
end
end Go.Proofs.Ytplndihadjfliaa.Mix
/-
  CREW: the document's Relay, in company.
-/
set_option linter.unusedSimpArgs false
set_option linter.unusedVariables false
set_option maxHeartbeats 2000000
namespace Go.Proofs.Ytplndihadjfliaa.Mix
open Go Go.Conc Go.ConcN Go.Proofs Go.RowKit

theorem IR.grows {ch : List Nat} {a0 : Option Addr} {n : Nat} {xs : List Int} {w w₁ : World} (h : IR ch a0 n xs w) (g : Grows ch none w w₁) : IR ch a0 n xs w₁ :=
  ⟨h.len, h.max, h.ex, h.nch, fun j a hj ha => by
    have hc := h.cell j a hj ha
    have hlt := World.block_lt_of_cell? w _ hc
    rw [addBlock] at hlt
    exact (World.cell?_of_block (by rw [addBlock]; exact g.block _ hlt (h.nch a ha (by omega)) (by simp))).trans hc⟩

/-- A row that is being built. -/
structure KO (ch : List Nat) (w0 : World) (lo : Nat) (out : Value) (xs : List Value) (w : World) : Prop where
  g : Grows ch none w0 w
  own : w.ownsRow lo 3 1 out xs.length xs
  nch : ∀ k, out.ownBlock = some k → k ∉ ch
theorem KO.rely {Wg : Nat} {ch : List Nat} {w0 : World} {lo : Nat} {out : Value} {xs : List Value} {w w₁ : World} (h : KO ch w0 lo out xs w) (r : RC (0, false) Wg ch w w₁) : KO ch w0 lo out xs w₁ := ⟨h.g.rely r, own_rely h.own h.nch r, h.nch⟩
/-- All that is built lies from lo on: what was there ahead of it is as it was. -/
theorem KO.push {ch : List Nat} {w0 : World} {out v' : Value} {xs : List Value} {x : Int} {w w' : World} (h : KO ch w0 w0.heap.size out xs w) (p : Push ch w0.heap.size out xs x w v' w') : KO ch w0 w0.heap.size v' (xs ++ [iv x]) w' :=
  ⟨⟨p.g.os.trans h.g.os, p.g.tape.trans h.g.tape, p.g.output.trans h.g.output, Nat.le_trans h.g.size p.g.size, fun b hb hc _ => (p.g.block b (by have := h.g.size; omega) hc (fun e => by have := (h.own.lt b e.symm).1; omega)).trans (h.g.block b hb hc (by simp))⟩, p.own, p.nch⟩

end Go.Proofs.Ytplndihadjfliaa.Mix
