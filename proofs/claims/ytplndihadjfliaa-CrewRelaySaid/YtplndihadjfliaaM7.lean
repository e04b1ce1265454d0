/-
  CREW: what a call of Relay does to what goroutine 0 knows; the row's plain law.
-/
import Derived.Test.YtplndihadjfliaaM6
import Derived.Test.YtplndihadjfliaaM4
import Derived.Conc.CrowdRun
set_option linter.unusedSimpArgs false
set_option linter.unusedVariables false
set_option maxHeartbeats 2000000
namespace Go.Proofs.Ytplndihadjfliaa.Net
open Go Go.Conc Go.ConcN Go.Proofs Go.RowKit

/-! ### the plain law -/
theorem addI_addI (s d x : Int) : addI d (addI s x) = addI (IntKind.i64.wrap (s + d)) x := by
  simp only [addI, IntKind.wrap_i64]; omega
theorem rowOut_sum : ∀ (ds xs : List Int) (s : Int), rowOut (xs.map (addI s)) ds = xs.map (addI (sumW ds s))
  | [], xs, s => rfl
  | d :: ds, xs, s => by
    rw [rowOut, List.map_map, sumW]
    have : (addI d ∘ addI s) = addI (IntKind.i64.wrap (s + d)) := by funext x; exact addI_addI s d x
    rw [this, rowOut_sum ds]
theorem addI_zero {x : Int} (h : (Lit.int .i64 x).wf = true) : addI 0 x = x := by
  have : -9223372036854775808 ≤ x ∧ x ≤ 9223372036854775807 := by simpa [Lit.wf, IntKind.min, IntKind.max, IntKind.signed, IntKind.bits] using h
  simp only [addI, IntKind.wrap_i64]; omega
theorem rowOut_ref {zs ds : List Int} (hz : ∀ x ∈ zs, (Lit.int .i64 x).wf = true) (hd : ds.length ≤ 64) : rowOut zs ds = refOut zs ds := by
  have h0 : zs.map (addI 0) = zs := by
    conv => rhs; rw [← List.map_id zs]
    exact List.map_congr_left fun x hx => addI_zero (hz x hx)
  have := rowOut_sum ds zs 0
  rw [h0] at this
  rw [this, refOut, if_neg (by omega)]

/-! ### what a call does -/
structure Eff (T ch vb : List Nat) (w : World) (T2 ch2 : List Nat) (w2 : World) (out : Value) (ys : List Value) : Prop where
  os : w2.os = w.os
  tape : w2.tape = w.tape
  output : w2.output = w.output
  size : w.heap.size ≤ w2.heap.size
  block : ∀ b, b < w.heap.size → b ∉ ch → w2.heap[b]? = w.heap[b]?
  t2 : ∀ b ∈ T2, b ∈ T ∨ b ∈ vb ∨ w.heap.size ≤ b
  t2s : ∀ b ∈ T2, b < w2.heap.size
  c2 : ∀ c ∈ ch2, c ∈ ch ∨ w.heap.size ≤ c
  c2s : ∀ c ∈ ch2, c < w2.heap.size
  own : w2.ownsRow w.heap.size 3 1 out ys.length ys
  nch : ∀ k, out.ownBlock = some k → k ∉ ch2 ∧ k ∉ T2

/-- What goroutine 0 of the law knows: W: the world at its entry. -/
structure SR (W : World) (T ch : List Nat) (want vv ww : Value) (zs ds ref : List Int) (ans : List Value) (w : World) : Prop where
  below : Below W.heap.size W w
  chb : ∀ c ∈ ch, W.heap.size ≤ c ∧ c < w.heap.size
  tb : ∀ b ∈ T, b < w.heap.size
  rw0 : Row3 T ch W.heap.size want ref.length (ref.map iv) w
  rv : Row3 [] ch W.heap.size vv zs.length (zs.map iv) w
  rd : Row3 [] ch W.heap.size ww ds.length (ds.map iv) w
  ra : ∀ a ∈ ans, Row3 T ch W.heap.size a ref.length (ref.map iv) w
  nd : ((want :: vv :: ww :: ans).filterMap Value.ownBlock).Nodup

section
variable {W : World} {T ch T2 ch2 : List Nat} {want vv ww out : Value} {zs ds ref : List Int} {ans : List Value} {w w₁ w2 : World}
theorem SR.rely (h : SR W T ch want vv ww zs ds ref ans w) (r : RC ch w w₁) : SR W T ch want vv ww zs ds ref ans w₁ :=
  ⟨⟨r.os.trans h.below.os, r.tape.trans h.below.tape, r.output.trans h.below.output, by rw [r.size]; exact h.below.size, fun b hb => (r.block b fun hc => by have := (h.chb b hc).1; omega).trans (h.below.block b hb)⟩,
    fun c hc => by rw [r.size]; exact h.chb c hc, fun b hb => by rw [r.size]; exact h.tb b hb, h.rw0.rely r, h.rv.rely r, h.rd.rely r, fun a ha => (h.ra a ha).rely r, h.nd⟩

theorem Row3.step {lo n : Nat} {v : Value} {ys ys' : List Value} {vb : List Nat} (h : Row3 T ch lo v n ys w) (e : Eff T ch vb w T2 ch2 w2 out ys') (hv : ∀ k, v.ownBlock = some k → k ∉ vb) : Row3 T2 ch2 lo v n ys w2 := by
  refine ⟨own_grows (ch := ch) (but := none) h.own (fun k hk => ⟨(h.nch k hk).1, by simp⟩) ⟨e.os, e.tape, e.output, e.size, fun b hb hc _ => e.block b hb hc⟩, fun k hk => ⟨fun hc => ?_, fun ht => ?_⟩⟩
  · rcases e.c2 k hc with h1 | h1
    · exact (h.nch k hk).1 h1
    · have := h.lt k hk; omega
  · rcases e.t2 k ht with h1 | h1 | h1
    · exact (h.nch k hk).2 h1
    · exact hv k hk h1
    · have := h.lt k hk; omega
theorem Row3.step0 {lo n : Nat} {v : Value} {ys ys' : List Value} {vb : List Nat} (h : Row3 [] ch lo v n ys w) (e : Eff T ch vb w T2 ch2 w2 out ys') : Row3 [] ch2 lo v n ys w2 := by
  refine ⟨own_grows (ch := ch) (but := none) h.own (fun k hk => ⟨(h.nch k hk).1, by simp⟩) ⟨e.os, e.tape, e.output, e.size, fun b hb hc _ => e.block b hb hc⟩, fun k hk => ⟨fun hc => ?_, by simp⟩⟩
  rcases e.c2 k hc with h1 | h1
  · exact (h.nch k hk).1 h1
  · have := h.lt k hk; omega

theorem SR.step {vb : List Nat} (h : SR W T ch want vv ww zs ds ref ans w) (e : Eff T ch vb w T2 ch2 w2 out (ref.map iv)) (hvb : ∀ b ∈ vb, vv.ownBlock = some b) : SR W T2 ch2 want vv ww zs ds ref (ans ++ [out]) w2 := by
  have hsz := h.below.size
  have nv : ∀ (v : Value), v ∈ want :: ans → ∀ k, v.ownBlock = some k → k ∉ vb := by
    intro v hv k hk hb
    have h1 := hvb k hb
    have hn := h.nd
    rcases List.mem_cons.1 hv with rfl | hv
    · simp only [List.filterMap_cons, hk, h1, List.nodup_cons] at hn
      exact hn.1 (by simp)
    · simp only [List.filterMap_cons, h1] at hn
      have hm : k ∈ ans.filterMap Value.ownBlock := List.mem_filterMap.2 ⟨v, hv, hk⟩
      cases hw : want.ownBlock <;> cases hd : ww.ownBlock <;> simp only [hw, hd, List.nodup_cons, List.mem_cons, not_or] at hn <;> simp_all
  refine ⟨⟨e.os.trans h.below.os, e.tape.trans h.below.tape, e.output.trans h.below.output, by have := e.size; omega, fun b hb => (e.block b (by omega) fun hc => by have := (h.chb b hc).1; omega).trans (h.below.block b hb)⟩,
    fun c hc => ⟨by rcases e.c2 c hc with h1 | h1; exact (h.chb c h1).1; omega, e.c2s c hc⟩, e.t2s, h.rw0.step e (nv _ (by simp)), h.rv.step0 e, h.rd.step0 e, fun a ha => ?_, ?_⟩
  · rcases List.mem_append.1 ha with ha | ha
    · exact (h.ra a ha).step e (nv _ (by simp [ha]))
    · obtain rfl : a = out := by simpa using ha
      have := own_base e.own (lo' := W.heap.size) (fun k hk => by have := (e.own.lt k hk).1; omega)
      exact ⟨by simpa using this, e.nch⟩
  · have : (want :: vv :: ww :: (ans ++ [out])) = (want :: vv :: ww :: ans) ++ [out] := by simp
    rw [this, List.filterMap_append]
    refine List.nodup_append.2 ⟨h.nd, ?_, ?_⟩
    · cases ho : out.ownBlock <;> simp [ho]
    · intro k hk k' hk' heq
      subst heq
      obtain ⟨v, hv, hvk⟩ := List.mem_filterMap.1 hk
      have hlt : k < w.heap.size := by
        rcases List.mem_cons.1 hv with rfl | hv
        · exact h.rw0.lt k hvk
        rcases List.mem_cons.1 hv with rfl | hv
        · exact h.rv.lt k hvk
        rcases List.mem_cons.1 hv with rfl | hv
        · exact h.rd.lt k hvk
        exact (h.ra v hv).lt k hvk
      have hko : out.ownBlock = some k := by simpa using hk'
      have := (e.own.lt k hko).1
      omega

/-- A row of goroutines does this. -/
theorem RK.eff {a0 b0 : Option Addr} {n cap m : Nat} {ys : List Value} (h : RK w.heap.size w ch a0 n cap b0 m ds (w.heap.size + 3 + m) out ys w2) (hT : ∀ b ∈ T, b < w.heap.size) (ha : ∀ ad, a0 = some ad → 0 < n → ad.block < w.heap.size) :
    Eff T ch (vblk a0 n) w (srcT w.heap.size a0 n ++ T) (chL w.heap.size ch m) w2 out ys := by
  have hsz := h.size
  have hsrc : ∀ b ∈ srcT w.heap.size a0 n ++ T, b < w.heap.size + 3 ∧ (b ∈ T ∨ b ∈ vblk a0 n ∨ w.heap.size ≤ b) := by
    intro b hb
    rcases List.mem_append.1 hb with hb | hb
    · simp only [srcT, List.mem_cons] at hb
      rcases hb with hb | hb | hb
      · exact ⟨by omega, .inr (.inr (by omega))⟩
      · exact ⟨by omega, .inr (.inr (by omega))⟩
      · obtain ⟨ad, h1, h2, h3⟩ := vblk_mem hb
        have := ha ad h1 h2
        exact ⟨by omega, .inr (.inl hb)⟩
    · have := hT b hb
      exact ⟨by omega, .inl hb⟩
  have hch : ∀ c ∈ chL w.heap.size ch m, (c ∈ ch ∨ w.heap.size ≤ c) ∧ c < w.heap.size + 3 + m := by
    intro c hc
    rcases chL_mem hc with h1 | h1 | h1
    · have := h.chN c h1; exact ⟨.inl h1, by omega⟩
    · exact ⟨.inr (by omega), by omega⟩
    · exact ⟨.inr (by omega), by omega⟩
  refine ⟨h.os, h.tape, h.output, by omega, h.old, fun b hb => (hsrc b hb).2, fun b hb => by have := (hsrc b hb).1; omega, fun c hc => (hch c hc).1, fun c hc => by have := (hch c hc).2; omega, own_base h.own (fun k hk => by have := (h.own.lt k hk).1; omega), fun k hk => ?_⟩
  have hk1 := (h.own.lt k hk).1
  exact ⟨fun hc => by have := (hch k hc).2; omega, fun hb => by have := (hsrc k hb).1; omega⟩
end


section
variable (T ch : List Nat)
set_option maxRecDepth 100000 in
/-- TOO MANY ADDS: nothing. -/
theorem relay_nil_c {a0 b0 : Option Addr} {n cap m capb : Nat} {w0 : World} (hm : 64 < m) (hT : ∀ b ∈ T, b < w0.heap.size) (hch : ∀ b ∈ ch, b < w0.heap.size) :
    CallsC Try.prog true (RC ch) (DM T ch) 8 #[.slice a0 n cap, .slice b0 m capb] 40 w0 fun v w' => v = .slice none 0 0 ∧ Grows ch none w0 w' := by
  refine callsC_of_wpC Try.func8 (by simp [Try.f8]) (show Try.f8.body = some body8 by simp [Try.f8, body8]) ?_
  have hTl : ∀ b ∈ T, b < 0 ∨ 0 = 0 := fun _ _ => .inr rfl
  have hcl : ∀ b ∈ ch, b < 0 ∨ 0 = 0 := fun _ _ => .inr rfl
  have hF : Grows ch none w0 w0 := .refl _ _ _
  have hm' : (64 : Int) < (m : Int) := by omega
  have e : (#[.slice a0 n cap, .slice b0 m capb] : Array Value) ++ Array.replicate (Try.f8.ntmps - (#[.slice a0 n cap, .slice b0 m capb] : Array Value).size) undef = #[.slice a0 n cap, .slice b0 m capb, undef, undef, undef, undef, undef, undef, undef, undef, undef, undef, undef, undef, undef, undef, undef, undef, undef, undef, undef, undef, undef, undef, undef, undef, undef, undef, undef, undef, undef, undef, undef, undef, undef, undef, undef, undef, undef] := by simp only [Try.f8]; walk_nrm
  rw [e]
  intro b k cs Stop q hb hk hc
  have hfin : ∀ (t : Array Value) (w' : World) (todo : List Item), t.getD 4 undef = .slice none 0 0 → Grows ch none w0 w' → Goes Try.prog true (RC ch) (DM T ch) Stop q (G { b.at ⟨t, []⟩ todo with mode := .returning } cs) w' :=
    fun t w' todo h h' => hc .ret ⟨t, []⟩ w' ⟨rfl, _, resultsC_tmp (t := 4) (by simp only [Try.f8]) t, h, h'⟩ todo
  clear hc e
  simp only [body8, Try.f8, Option.getD_some]
  (refine Goes.step rfl (fun _ h₁ => ?_); walk_rw; refine ⟨DM_of_below (B := 0) hTl hcl (Below.refl _ _) (by simp), ?_⟩; replace hF := (Grows.rely hF) h₁; clear h₁)
  (refine Goes.step rfl (fun _ h₁ => ?_); walk_rw; refine ⟨DM_of_below (B := 0) hTl hcl (Below.refl _ _) (by simp), ?_⟩; replace hF := (Grows.rely hF) h₁; clear h₁)
  refine Goes.step rfl (fun w₁ h₁ => ?_)
  replace hF := Grows.rely hF h₁
  clear h₁
  have hsz := hF.size
  refine goes_oper_k rfl rfl hk (fun K hK => ?_)
  go_simp
  refine hK _ _ ⟨DM_of_grows (World.grownBy_alloc w₁ _ none) (fun b hb => ⟨by have := hT b hb; omega, by simp⟩) (fun b hb => ⟨by have := hch b hb; omega, by simp⟩) (fun e he => ?_), ?_⟩
  · have hm := mem_listed he
    simp [go_sem] at hm
  clear hK K
  replace hF := hF.trans (Grows.alloc w₁ (.cells #[.slice a0 n cap] 22) ch none)
  try walk_nrm
  repeat (first | (refine Goes.step rfl (fun _ h₁ => ?_); walk_rw; refine ⟨DM_of_below (B := 0) hTl hcl (Below.refl _ _) (by simp), ?_⟩; replace hF := (Grows.rely hF) h₁; clear h₁) | (refine Goes.step rfl (fun w₁ h₁ => ?_); replace hF := (Grows.rely hF) h₁; clear h₁; refine goes_oper_k rfl rfl hk (fun K hK => ?_); skip; go_simp; refine hK _ _ ⟨DM_of_below (B := 0) hTl hcl (Below.refl _ _) (fun e he => ?_), ?_⟩; (focus (have hm := mem_listed he; (simp [go_sem, *] at hm); (try (subst hm; exact evM_read _ _ (by simp))))); (clear hK K); (try walk_nrm)))
  (refine Goes.step rfl (fun _ h₁ => ?_); rw [stepG_cond (t := true) rfl]; simp only [goes_go, if_true, if_false, Bool.false_eq_true, ↓reduceIte]; refine ⟨DM_of_below (B := 0) hTl hcl (Below.refl _ _) (by simp), ?_⟩; replace hF := (Grows.rely hF) h₁; clear h₁)
  repeat (first | (refine Goes.step rfl (fun _ h₁ => ?_); walk_rw; refine ⟨DM_of_below (B := 0) hTl hcl (Below.refl _ _) (by simp), ?_⟩; replace hF := (Grows.rely hF) h₁; clear h₁) | (refine Goes.step rfl (fun w₁ h₁ => ?_); replace hF := (Grows.rely hF) h₁; clear h₁; refine goes_oper_k rfl rfl hk (fun K hK => ?_); skip; go_simp; refine hK _ _ ⟨DM_of_below (B := 0) hTl hcl (Below.refl _ _) (fun e he => ?_), ?_⟩; (focus (have hm := mem_listed he; (simp [go_sem, *] at hm); (try (subst hm; exact evM_read _ _ (by simp))))); (clear hK K); (try walk_nrm)))
  refine Goes.mono (n := q) ?_ (by omega)
  exact hfin _ _ _ rfl hF
end
end Go.Proofs.Ytplndihadjfliaa.Net
/-
  A NET OF GOROUTINES: the end; a call behind a call; the beginning.
-/
set_option linter.unusedSimpArgs false
set_option linter.unusedVariables false
namespace Go.Proofs.Ytplndihadjfliaa.Net
open Go Go.Conc Go.ConcN

/-- Goroutine 0 stands at its return. -/
def AtRet (P : Program) (Q : Value → World → Prop) (T _ch : List Nat) (g : Goroutine) (w : World) : Prop := ∃ v es, stepG P true g w = .ended (.done v) w es ∧ (∀ e ∈ es, EvM T e) ∧ Q v w

section
variable {P : Program} {z : Nat → Value} {Post Post' : List Nat → List Nat → Goroutine → World → Prop} {K K' : Abs → Prop} {rank : Abs → Nat} {a : Abs} {f : Nat → Option Nat} {T : List Nat} {Ts : Nat → List Nat} {gs : Array Goroutine} {w : World} {t : Trace}

/-- WHERE GOROUTINE 0 STANDS AT ITS RETURN: whoever else is picked, it is picked in the end. -/
theorem net_end (L : Law K rank) {Q : Value → World → Prop} : ∀ (μ : Nat × Nat) {f : Nat → Option Nat} {gs : Array Goroutine} {w : World} {t : Trace} (N : Net P z Post K a f T Ts gs w t) (sl : Option (Nat × Nat)) (g : Goroutine), mu rank a f = μ → a.sc 0 = [] → gs[0]? = some g →
    (∀ w₁, RC a.ch w w₁ → AtEnd (AtRet P Q) T a.ch g w₁) → ∃ n last o w' t', runNT P (n + 1) (crowd gs w sl) t = (.ended o w', t') ∧ runN P n (crowd gs w sl) = .next last ∧ step P last = .ended o w' ∧ Go.Conc.Good P Q last o w' t' := by
  intro μ
  induction μ using (Prod.lex Nat.lt_wfRel Nat.lt_wfRel).wf.induction with
  | _ μ ih =>
  intro f gs w t N sl g hμ hsi hg hend
  have hrun0 : g.status = .running := (hend w (RC.refl _ _)).1
  obtain ⟨i, x, d, sl', hx, hrun, hst⟩ := crowd_pick (P := P) (w := w) (sl := sl) N.awake ⟨0, g, hg, hrun0⟩
  have hi : i < a.n := by rw [← N.size]; exact (Array.getElem?_eq_some_iff.1 hx).1
  by_cases h0 : i = 0
  · subst h0
    rw [hg] at hx
    obtain rfl := Option.some.inj hx
    obtain ⟨_, v, es, hstep, hes, hQ⟩ := hend (w.at d) (RC.at _ _ d)
    obtain ⟨o, w', ops, h1, h2⟩ := N.good L (Q := Q) (sl := sl) (sl' := sl') hg hsi hstep hes hQ
    have hT : stepT P (crowd gs w sl) = (.ended o w', ops) := hst.trans h1
    refine ⟨0, crowd gs w sl, o, w', t ++ ops, ?_, rfl, ?_, h2⟩
    · simp [runNT, hT]
    · show (stepT P _).1 = _
      rw [hT]
  · obtain ⟨y, hy, hs⟩ := N.sit i hi
    rw [hx] at hy
    obtain rfl := Option.some.inj hy
    have hlast := (L.last a N.k hsi i hi h0).1
    rw [hlast] at hs
    generalize hfi : f i = fi at hs
    cases hs with
    | ret h _ => exact absurd h h0
    | quit h1 h =>
      rename_i n
      cases n with
      | zero => rw [show x.status = .finished from h] at hrun; cases hrun
      | succ n =>
        rcases h with h | ⟨_, x', hgo, hq⟩
        · rw [h] at hrun; cases hrun
        · have hb : (i == 0) = false := by simpa using h0
          obtain ⟨gs', f', h1, h2, h3, h4⟩ := N.own L hi hx hfi (Nat.lt_succ_self n) (sl := sl') (d := d) (by rw [hb]; exact hgo _) (fun j _ _ => RR.refl _ _) (fun c _ => rfl) (by rw [hlast]; exact .quit h0 hq) (by
            have : MemOp.ofEvents i x.frame.fn x.frame.place #[] = #[] := by rw [ofEvents_eq]; simp
            rw [this, Array.append_empty]; exact N.tr)
          obtain ⟨n', last, o, w', t', r1, r2, r3, r4⟩ := ih _ (hμ ▸ h2) h3 sl' g rfl hsi (h4 0 g (fun e => h0 e.symm) hg) fun w₁ h₁ => hend w₁ ((RC.at _ _ d).trans h₁)
          have hT := hst.trans h1
          refine ⟨n' + 1, last, o, w', t', ?_, ?_, r3, r4⟩
          · rw [runNT_succ_next hT]; exact r1
          · rw [Nat.add_comm, runN_add, ← runNT_fst P 1 _ t]
            simp only [runNT, hT]
            exact r2

/-! ### a call behind a call -/
/-- Goroutine 0 has a new script; all others have ended. -/
def Abs.again (a : Abs) (al : List Do) : Abs := { a with sc := put a.sc 0 al, shut := fun c => decide (c ∈ a.ch) && a.shut c }

theorem Tr.again (h : Tr Ts a t) (al : List Do) : Tr Ts (a.again al) t := by
  have hs : ∀ j, j ≠ 0 → a.sc j = [] → (a.again al).sc j = [] := fun j h0 hj => by simp [Abs.again, put, h0, hj]
  refine ⟨h.wl, h.ct, fun i j hi hj => ?_, fun c hc => ?_⟩
  · obtain ⟨x1, x2, x3, x4⟩ := h.kn i j hi hj
    exact ⟨x1, x2, hs _ x1 x3, x4⟩
  · have hc : a.shut c = true := by simp only [Abs.again, Bool.and_eq_true] at hc; exact hc.2
    obtain ⟨pc, op, y1, y2, y3⟩ := h.kc c hc
    exact ⟨pc, op, y1, y2, fun j hj => let ⟨x1, x2, x3, x4⟩ := y3 j hj; ⟨x1, x2, hs _ x1 x3, x4⟩⟩

theorem Sit.post {ch : List Nat} {k n : Nat} {g : Goroutine} (k0 : k ≠ 0) (h : Sit P z Post T ch Ts k [] (some n) g w) : Sit P z Post' T ch Ts k [] (some n) g w := by
  cases h with
  | ret h _ => exact absurd h k0
  | quit h h' => exact .quit h h'

theorem Net.again (L : Law K rank) (N : Net P z Post K a f T Ts gs w t) {g : Goroutine} {al : List Do} (hsi : a.sc 0 = []) (hg : gs[0]? = some g) (hF : FollowM P z Post' al T a.ch g w) (hK : K' (a.again al)) :
    ∃ f', Net P z Post' K' (a.again al) f' T Ts gs w t := by
  have hpos := L.pos a N.k
  have hlast := L.last a N.k hsi
  obtain ⟨n0, h0⟩ := sit_of_NN (P := P) (z := z) (Post := Post') (T := T) (ch := a.ch) (Ts := Ts) (i := 0) (g := g) (w := w) (show NN P z Post' T a.ch Ts 0 al g w by simpa [NN] using hF)
  have hf : ∀ j, j ≠ 0 → j < a.n → f j ≠ none := by
    intro j j0 hj hn
    obtain ⟨x, hx, hs⟩ := N.sit j hj
    rw [hn, (hlast j hj j0).1] at hs
    cases hs
  refine ⟨put f 0 (some n0), hK, N.size, fun j hj => ?_, fun c hc => ?_, N.sub, N.apart, fun j c ds hj hfj hsj => ?_, fun i j c v v2 ds bs hi hj hfi hfj => ?_, N.tr.again al⟩
  · by_cases j0 : j = 0
    · subst j0
      refine ⟨g, hg, ?_⟩
      have e : (a.again al).sc 0 = al := by simp [Abs.again, put]
      rw [e]
      simp only [put, if_true]
      exact h0
    · obtain ⟨x, hx, hs⟩ := N.sit j hj
      refine ⟨x, hx, ?_⟩
      have e : (a.again al).sc j = [] := by simp [Abs.again, put, j0, (hlast j hj j0).1]
      rw [e]
      simp only [put, j0, if_false]
      rw [(hlast j hj j0).1] at hs
      cases hfj : f j with
      | none => exact absurd hfj (hf j j0 hj)
      | some m => rw [hfj] at hs; exact hs.post j0
  · obtain ⟨s, r, tm, h⟩ := N.chan c hc
    have hc' : c ∈ a.ch := hc
    exact ⟨s, r, tm, by rw [h]; simp [Abs.again, hc']⟩
  · by_cases j0 : j = 0
    · subst j0; simp [put] at hfj
    · simp only [put, j0, if_false] at hfj; exact absurd hfj (hf j j0 hj)
  · by_cases j0 : i = 0
    · subst j0; simp [put] at hfi
    · simp only [put, j0, if_false] at hfi; exact absurd hfi (hf i j0 hi)

end

/-- What a run has come to: goroutine 0 stands at a stop, all others have ended (or are leaving). -/
structure Came (P : Program) (z : Nat → Value) (Post : List Nat → List Nat → Goroutine → World → Prop) (m₀ : Machine) (t₀ : Trace) : Prop where
  out : ∃ (K : Abs → Prop) (n : Nat) (a : Abs) (f : Nat → Option Nat) (T : List Nat) (Ts : Nat → List Nat) (gs : Array Goroutine) (w : World) (sl : Option (Nat × Nat)) (t : Trace) (g : Goroutine),
    Law K rank ∧ runNT P n m₀ t₀ = (.next (crowd gs w sl), t) ∧ Net P z Post K a f T Ts gs w t ∧ a.sc 0 = [] ∧ gs[0]? = some g ∧ ∀ w₁, RC a.ch w w₁ → AtEnd Post T a.ch g w₁

/-- Nobody has anything to do. -/
def KIdle (a : Abs) : Prop := 0 < a.n ∧ ∀ j, j < a.n → a.sc j = [] ∧ (j ≠ 0 → j ∈ a.kn 0)
theorem kidle_law : Law KIdle rank where
  pos _ h := h.1
  pass _ _ _ _ _ _ _ _ h hi _ hs _ := by rw [(h.2 _ hi).1] at hs; cases hs
  noEof _ _ _ _ _ _ _ h hi _ hs := by rw [(h.2 _ hi).1] at hs; cases hs
  sndOpen _ _ _ _ _ h hi hs := by rw [(h.2 _ hi).1] at hs; cases hs
  rcvOpen _ _ _ _ _ h hi hs := by rw [(h.2 _ hi).1] at hs; cases hs
  eofIn _ _ _ _ h hi hs := by rw [(h.2 _ hi).1] at hs; cases hs
  sndOne _ _ _ _ _ _ _ _ h hi _ hs _ := by rw [(h.2 _ hi).1] at hs; cases hs
  rcvOne _ _ _ _ _ _ _ _ h hi _ hs _ := by rw [(h.2 _ hi).1] at hs; cases hs
  rcvEof _ _ _ _ _ _ _ h hi _ hs := by rw [(h.2 _ hi).1] at hs; cases hs
  eof _ _ _ _ h hi hs _ := by rw [(h.2 _ hi).1] at hs; cases hs
  cls _ _ _ _ h hi hs := by rw [(h.2 _ hi).1] at hs; cases hs
  fork _ _ _ _ _ _ h hi hs := by rw [(h.2 _ hi).1] at hs; cases hs
  live _ h := ⟨0, h.1, .inl ⟨rfl, (h.2 0 h.1).1⟩⟩
  last _ h _ j hj j0 := ⟨(h.2 j hj).1, (h.2 j hj).2 j0⟩

section
variable {P : Program} {z : Nat → Value} {Post Post' : List Nat → List Nat → Goroutine → World → Prop} {m₀ : Machine} {t₀ : Trace}

/-- ON BY A STRETCH WITHOUT A go STATEMENT. -/
theorem Came.walk (h : Came P z Post m₀ t₀) (go : ∀ T ch g w, AtEnd Post T ch g w → FollowM P z Post' [] T ch g w) : Came P z Post' m₀ t₀ := by
  obtain ⟨K, n, a, f, T, Ts, gs, w, sl, t, g, L, hrun, N, hsi, hg, hend⟩ := h.out
  have hlast := L.last a N.k hsi
  have hpos := L.pos a N.k
  obtain ⟨f', N'⟩ := N.again L hsi hg (Post' := Post') (K' := KIdle) (go T a.ch g w (hend w (RC.refl _ _))) ⟨hpos, fun j hj => by
    by_cases j0 : j = 0
    · subst j0; exact ⟨by simp [Abs.again, put], fun h => absurd rfl h⟩
    · exact ⟨by simp [Abs.again, put, j0, (hlast j hj j0).1], fun _ => (hlast j hj j0).2⟩⟩
  obtain ⟨n', a', f'', T', Ts', gs', w', sl', t', g', h1, h2, h3, h4, h5⟩ := net_to kidle_law _ N' sl rfl
  exact ⟨KIdle, n + n', a', f'', T', Ts', gs', w', sl', t', g', kidle_law, by rw [runNT_add, hrun]; exact h1, h2, h3, h4, h5⟩

/-- ON BY A ROW. -/
theorem Came.row (h : Came P z Post m₀ t₀) (go : ∀ T ch g w, AtEnd Post T ch g w → ∃ T' c0 vs l, FollowM P z Post' (.fork T' [c0] (src c0 vs) :: mains c0 vs l) T ch g w ∧ (c0 :: l.map (·.1)).Nodup ∧ ∀ c ∈ c0 :: l.map (·.1), c ∉ ch) : Came P z Post' m₀ t₀ := by
  obtain ⟨K, n, a, f, T, Ts, gs, w, sl, t, g, L, hrun, N, hsi, hg, hend⟩ := h.out
  have hlast := L.last a N.k hsi
  have hpos := L.pos a N.k
  obtain ⟨T', c0, vs, l, hF, hnd, hnew⟩ := go T a.ch g w (hend w (RC.refl _ _))
  obtain ⟨f', N'⟩ := N.again L hsi hg (Post' := Post') (K' := KRow a.n) hF (.start T' c0 vs l rfl hpos (fun j hj j0 => ⟨by simp [Abs.again, put, j0, (hlast j hj j0).1], (hlast j hj j0).2⟩)
    ⟨hnd, fun x hx => by
      have hx' : x.1 ∉ a.ch := by
        rcases List.mem_cons.1 hx with rfl | hx
        · exact hnew _ (by simp)
        · exact hnew _ (List.mem_cons_of_mem _ (List.mem_map_of_mem hx))
      exact ⟨hx', by simp [Abs.again, hx']⟩⟩ (by simp [Abs.again, put]))
  obtain ⟨n', a', f'', T'', Ts', gs', w', sl', t', g', h1, h2, h3, h4, h5⟩ := net_to (krow_law a.n) _ N' sl rfl
  exact ⟨_, n + n', a', f'', T'', Ts', gs', w', sl', t', g', krow_law a.n, by rw [runNT_add, hrun]; exact h1, h2, h3, h4, h5⟩

/-- THE BEGINNING: one goroutine, no trace. -/
theorem came_start {g : Goroutine} {w : World} (hF : FollowM P z Post [] [] [] g w) : Came P z Post (solo g w) #[] := by
  obtain ⟨n0, h0⟩ := hF
  let a : Abs := { n := 1, sc := fun _ => [], ch := [], shut := fun _ => false, kn := fun _ => [], kc := fun _ => [] }
  have hK : KIdle a := ⟨Nat.zero_lt_one, fun j hj => ⟨rfl, fun j0 => by simp only [a] at hj; omega⟩⟩
  have hq : ∀ (i : Nat) (op : MemOp), (#[] : Trace)[i]? = some op → False := fun i op h => by simp at h
  have hct : CT NoSh NoOwn (RdT fun _ => []) #[] (a.n - 1) := CT.lone (fun op h => by simp at h) (fun op h => by simp at h)
  have N : Net P z Post KIdle a (fun _ => some n0) [] (fun _ => []) #[g] w #[] :=
    ⟨hK, rfl, fun i hi => ⟨g, by have : i = 0 := by simp only [a] at hi; omega
                                 subst this; rfl, .ret (by simp only [a] at hi; omega) h0⟩, fun c hc => (by cases hc), fun i _ _ b hb => (by cases hb), fun c hc => (by cases hc), fun i c ds _ hf _ => (by cases hf), fun i j c v v2 ds bs _ _ hf => (by cases hf),
      ⟨fun op hop => (by simp at hop), hct, fun i j _ hj => (by cases hj), fun c hc => (by cases hc)⟩⟩
  obtain ⟨n', a', f', T', Ts', gs', w', sl', t', g', h1, h2, h3, h4, h5⟩ := net_to kidle_law _ N none rfl
  exact ⟨KIdle, n', a', f', T', Ts', gs', w', sl', t', g', kidle_law, h1, h2, h3, h4, h5⟩

/-- THE END. -/
theorem Came.good {Q : Value → World → Prop} (h : Came P z (AtRet P Q) m₀ t₀) : ∃ n last o w' t', runNT P (n + 1) m₀ t₀ = (.ended o w', t') ∧ runN P n m₀ = .next last ∧ step P last = .ended o w' ∧ Go.Conc.Good P Q last o w' t' := by
  obtain ⟨K, n, a, f, T, Ts, gs, w, sl, t, g, L, hrun, N, hsi, hg, hend⟩ := h.out
  obtain ⟨n', last, o, w', t', h1, h2, h3, h4⟩ := net_end L _ N sl g rfl hsi hg hend
  refine ⟨n + n', last, o, w', t', ?_, ?_, h3, h4⟩
  · rw [Nat.add_assoc, runNT_add, hrun]; exact h1
  · rw [runN_add, ← runNT_fst P n _ t₀, hrun]; exact h2
end
end Go.Proofs.Ytplndihadjfliaa.Net
/-
  CREW: the walk of CrewRelay.
-/
set_option linter.unusedSimpArgs false
set_option linter.unusedVariables false
set_option maxHeartbeats 2000000
namespace Go.Proofs.Ytplndihadjfliaa.Net
open Go Go.Conc Go.ConcN Go.Proofs Go.RowKit

theorem lst_fst (N : Nat) : ∀ (ds : List Int) (k : Nat), ((lst N k ds).map (·.1)).Nodup ∧ ∀ c ∈ (lst N k ds).map (·.1), N + 3 + k ≤ c
  | [], k => by simp [lst]
  | d :: ds, k => by
    obtain ⟨h1, h2⟩ := lst_fst N ds (k + 1)
    simp only [lst, List.map_cons, List.nodup_cons, List.mem_cons]
    refine ⟨⟨fun h => by have := h2 _ h; omega, h1⟩, fun c hc => ?_⟩
    rcases hc with rfl | hc
    · omega
    · have := h2 c hc; omega

/-- Rows that are made at the beginning. -/
structure SS (W : World) (rows : List (Value × List Value)) (w : World) : Prop where
  below : Below W.heap.size W w
  row : ∀ r ∈ rows, Row3 [] [] W.heap.size r.1 r.2.length r.2 w
  nd : (rows.filterMap fun r => r.1.ownBlock).Nodup
section
variable {W : World} {rows : List (Value × List Value)} {w w₁ w2 : World}
theorem SS.rely (h : SS W rows w) (r : RC [] w w₁) : SS W rows w₁ :=
  ⟨⟨r.os.trans h.below.os, r.tape.trans h.below.tape, r.output.trans h.below.output, by rw [r.size]; exact h.below.size, fun b hb => (r.block b (by simp)).trans (h.below.block b hb)⟩, fun x hx => (h.row x hx).rely r, h.nd⟩
theorem SS.add {v : Value} {ys : List Value} (h : SS W rows w) (k : KO [] w w.heap.size v ys w2) : SS W (rows ++ [(v, ys)]) w2 := by
  have hsz := h.below.size
  refine ⟨⟨k.g.os.trans h.below.os, k.g.tape.trans h.below.tape, k.g.output.trans h.below.output, Nat.le_trans hsz k.g.size, fun b hb => (k.g.block b (by omega) (by simp) (by simp)).trans (h.below.block b hb)⟩, fun x hx => ?_, ?_⟩
  · rcases List.mem_append.1 hx with hx | hx
    · exact (h.row x hx).grows k.g (fun _ _ => by simp)
    · obtain rfl : x = (v, ys) := by simpa using hx
      exact ⟨own_base k.own (fun b hb => by have := (k.own.lt b hb).1; omega), fun b hb => ⟨by simp, by simp⟩⟩
  · rw [List.filterMap_append]
    refine List.nodup_append.2 ⟨h.nd, ?_, ?_⟩
    · cases ho : v.ownBlock <;> simp [ho]
    · intro b hb b' hb' heq
      subst heq
      obtain ⟨x, hx, hxk⟩ := List.mem_filterMap.1 hb
      have := (h.row x hx).lt b hxk
      have hko : v.ownBlock = some b := by simpa using hb'
      have := (k.own.lt b hko).1
      omega
theorem SS.ir {a0 : Option Addr} {n : Nat} {xs : List Int} (h : SS W rows w) (i : IR [] a0 n xs W) : IR [] a0 n xs w :=
  i.grows ⟨h.below.os, h.below.tape, h.below.output, h.below.size, fun b hb _ _ => h.below.block b hb⟩
theorem SS.sr {want vv ww : Value} {zs ds ref : List Int} (h : SS W ([] ++ [(want, ref.map iv)] ++ [(vv, zs.map iv)] ++ [(ww, ds.map iv)]) w) : SR W [] [] want vv ww zs ds ref [] w := by
  have e : ([] ++ [(want, ref.map iv)] ++ [(vv, zs.map iv)] ++ [(ww, ds.map iv)] : List (Value × List Value)) = [(want, ref.map iv), (vv, zs.map iv), (ww, ds.map iv)] := rfl
  rw [e] at h
  have r1 := h.row (want, ref.map iv) (by simp)
  have r2 := h.row (vv, zs.map iv) (by simp)
  have r3 := h.row (ww, ds.map iv) (by simp)
  refine ⟨h.below, by simp, by simp, by simpa using r1, by simpa using r2, by simpa using r3, by simp, ?_⟩
  have := h.nd
  simpa [List.filterMap_cons] using this
end

/-- The law's state with the number of blocks. -/
structure SN (W : World) (T ch : List Nat) (want vv ww : Value) (zs ds ref : List Int) (ans : List Value) (N : Nat) (w : World) : Prop where
  sr : SR W T ch want vv ww zs ds ref ans w
  sz : w.heap.size = N
section
variable {W : World} {T ch : List Nat} {want vv ww out : Value} {zs ds ref : List Int} {ans : List Value} {w w₁ : World} {N n : Nat}
theorem SN.rely (h : SN W T ch want vv ww zs ds ref ans N w) (r : RC ch w w₁) : SN W T ch want vv ww zs ds ref ans N w₁ := ⟨h.sr.rely r, r.size.trans h.sz⟩
theorem own_slice {lo : Nat} {v : Value} {ys : List Value} (h : w.ownsRow lo 3 1 v n ys) : ∃ a0 cap, v = .slice a0 n cap ∧ (a0 = none → cap = 0) := by
  rcases h.2 with ⟨h0, h1⟩ | ⟨g, cp, cur, h0, _⟩
  · exact ⟨none, 0, by rw [h0, h1], fun _ => rfl⟩
  · exact ⟨_, cp, h0, fun h => by cases h⟩

noncomputable def body4 : Code := Try.f4.body.getD .skip
noncomputable def t44 : Code := match body4 with | .seq _ (.seq _ (.seq _ (.seq _ (.seq _ r)))) => r | _ => .skip
noncomputable def ops44 : Array Oper := match body4 with | .seq _ (.seq _ (.seq _ (.seq _ (.seq (.region _ ops _) _)))) => ops | _ => #[]
noncomputable def t45 : Code := match t44 with | .seq _ r => r | _ => .skip
noncomputable def ops45 : Array Oper := match t44 with | .seq (.region _ ops _) _ => ops | _ => #[]
noncomputable def t46 : Code := match t45 with | .seq _ r => r | _ => .skip
noncomputable def ops46 : Array Oper := match t45 with | .seq (.region _ ops _) _ => ops | _ => #[]

/-- THE CALL OF RELAY, a row started. -/
theorem call_row {Post : List Nat → List Nat → Goroutine → World → Prop} {a : Act} {ops : Array Oper} {i : Nat} {rest : List Nat} {o : Oper} {args : Array Operand} {ats : Array TypeId} {k : List Item}
    (ho : ops[i]? = some o) (hw : Region.wanted o (yielded ops a.tmps) = true) (hop : o.op = .call { callee := .value (.func 8), args := args, argTypes := ats }) (hargs : args.map a.eval = #[vv, ww])
    {va wa : Option Addr} {vc wc : Nat} (hvv : vv = .slice va zs.length vc) (hww : ww = .slice wa ds.length wc) (hm64 : ds.length ≤ 64) (hz8 : zs.length * 8 ≤ 140737488355328) (href : rowOut zs ds = ref) (hF : SN W T ch want vv ww zs ds ref ans N w)
    (hPost : ∀ T2 ch2 out w2, SR W T2 ch2 want vv ww zs ds ref (ans ++ [out]) w2 → Post T2 ch2 (G ((base 4).at (a.put o.dst out) (.inRegion ops rest :: k)) []) w2) :
    Goes Try.prog true (RC ch) (DM T ch) (stopM Try.prog zi Post (.fork (srcT N va zs.length) [N + 1] (src (N + 1) (zs.map iv)) :: mains (N + 1) (zs.map iv) (lst N 0 ds)) T ch) 80 (G ((base 4).at a (.inRegion ops (i :: rest) :: k)) []) w := by
  subst hvv hww
  refine Goes.mono (n := (0 + 60) + 1) (Goes.step rfl (fun w₁ h₁ => ?_)) (by omega)
  replace hF := hF.rely h₁
  clear h₁
  obtain ⟨hS, rfl⟩ := hF
  refine goes_call (f := 8) (fn := Try.f8) (c := body8) ho hw (by decide) hop Try.func8 (by simp [Try.f8]) (by simp [Try.f8, body8]) ⟨⟨fun _ _ => rfl, fun _ _ => rfl, by simp⟩, ?_⟩
  rw [hargs]

  have e : (#[.slice va zs.length vc, .slice wa ds.length wc] : Array Value) ++ Array.replicate (Try.f8.ntmps - (#[.slice va zs.length vc, .slice wa ds.length wc] : Array Value).size) undef = #[.slice va zs.length vc, .slice wa ds.length wc, undef, undef, undef, undef, undef, undef, undef, undef, undef, undef, undef, undef, undef, undef, undef, undef, undef, undef, undef, undef, undef, undef, undef, undef, undef, undef, undef, undef, undef, undef, undef, undef, undef, undef, undef, undef, undef] := by simp only [Try.f8]; walk_nrm
  rw [e]
  have iv0 := hS.rv.ir (by omega)
  have iw0 := hS.rd.ir (by omega)
  have hva : ∀ ad, va = some ad → 0 < zs.length → ad.block < w₁.heap.size ∧ ad.block ∉ ch := fun ad h _ => by subst h; exact ⟨hS.rv.lt _ rfl, (hS.rv.nch _ rfl).1⟩
  have hwa : ∀ ad, wa = some ad → 0 < ds.length → ad.block < w₁.heap.size ∧ ad.block ∉ ch := fun ad h _ => by subst h; exact ⟨hS.rd.lt _ rfl, (hS.rd.nch _ rfl).1⟩
  exact relay_follows w₁.heap.size w₁ ch va zs.length vc wa ds.length wc _ (Post := Post) T hS.tb (fun c hc => (hS.chb c hc).2) hm64 rfl zs ds hz8 rfl rfl iv0.ex iw0.ex hva hwa iv0.cell iw0.cell (base 4) a ops i rest k [] rfl fun out w2 h => by
    have heff := RK.eff (T := T) h hS.tb (fun ad h1 h2 => (hva ad h1 h2).1)
    rw [href] at heff
    have hs := hS.step heff (fun b hb => by obtain ⟨ad, h1, _, h3⟩ := vblk_mem hb; rw [h1, h3]; rfl)
    rw [ho]
    exact hPost _ _ out w2 hs

/-- THE CALL OF RELAY, too many adds. -/
theorem call_nil {Post : List Nat → List Nat → Goroutine → World → Prop} {a : Act} {ops : Array Oper} {i : Nat} {rest : List Nat} {o : Oper} {args : Array Operand} {ats : Array TypeId} {k : List Item}
    (ho : ops[i]? = some o) (hw : Region.wanted o (yielded ops a.tmps) = true) (hop : o.op = .call { callee := .value (.func 8), args := args, argTypes := ats }) (hargs : args.map a.eval = #[vv, ww])
    (hm64 : 64 < ds.length) (href : ref = []) (hF : SN W T ch want vv ww zs ds ref ans N w)
    (hPost : ∀ T2 ch2 out w2, SR W T2 ch2 want vv ww zs ds ref (ans ++ [out]) w2 → Post T2 ch2 (G ((base 4).at (a.put o.dst out) (.inRegion ops rest :: k)) []) w2) :
    Goes Try.prog true (RC ch) (DM T ch) (AtEnd Post T ch) 80 (G ((base 4).at a (.inRegion ops (i :: rest) :: k)) []) w := by
  obtain ⟨va, vc, rfl, hv0⟩ := own_slice hF.sr.rv.own
  obtain ⟨wa, wc, rfl, hw0⟩ := own_slice hF.sr.rd.own
  obtain ⟨hS, rfl⟩ := hF
  refine Goes.mono (n := 0 + 40 + 3) (Goes.call (termsM T ch) ho hw (by decide) hop (nf := 40) (by rw [hargs]; exact relay_nil_c T ch hm64 hS.tb (fun c hc => (hS.chb c hc).2)) fun v w2 hv => ?_) (by omega)
  obtain ⟨rfl, hg⟩ := hv
  subst href
  have heff : Eff T ch [] w T ch w2 (.slice none 0 0) [] := ⟨hg.os, hg.tape, hg.output, hg.size, fun b hb hc => hg.block b hb hc (by simp), fun b hb => .inl hb, fun b hb => by have := hS.tb b hb; have := hg.size; omega, fun c hc => .inl hc, fun c hc => by have := (hS.chb c hc).2; have := hg.size; omega, World.ownsRow_nil _ _ _ _, fun k h => by cases h⟩
  have hs := hS.step heff (fun b hb => by cases hb)
  exact Goes.stop fun w3 h3 => ⟨rfl, hPost _ _ _ w3 (hs.rely h3)⟩
end


section
variable (W : World) (a0 : Option Addr) (n cap : Nat) (b0 : Option Addr) (m capb : Nat) (zs ds ref : List Int)
/-- At the first call; behind each. -/
def P0 (T ch : List Nat) (g : Goroutine) (w : World) : Prop :=
  ∃ want vv ww  u2 u3 u8 u9 u10 u11 u12 u13 u14 u15 u16 u17 u18 u21 u22 u23 u24 u25 u26 u27 u28 u29 u30 u31 u32 u33 u34 u35 u36 u37 u38 u39 u40 u41 u42 u43, SR W T ch want vv ww zs ds ref [] w ∧ g = G ((base 4).at ⟨#[.slice a0 n cap, .slice b0 m capb, u2, u3, .bool false, want, vv, ww, u8, u9, u10, u11, u12, u13, u14, u15, u16, u17, u18, vv, ww, u21, u22, u23, u24, u25, u26, u27, u28, u29, u30, u31, u32, u33, u34, u35, u36, u37, u38, u39, u40, u41, u42, u43], []⟩ [.inRegion ops44 [2, 3], .code t44]) []
def P1 (T ch : List Nat) (g : Goroutine) (w : World) : Prop :=
  ∃ want vv ww o1 u2 u3 u4 u8 u9 u10 u11 u12 u13 u14 u15 u16 u17 u18 u19 u20 u22 u23 u24 u25 u26 u27 u28 u29 u30 u31 u32 u33 u34 u35 u36 u37 u38 u39 u40 u41 u42 u43, SR W T ch want vv ww zs ds ref [o1] w ∧ g = G ((base 4).at ⟨#[.slice a0 n cap, .slice b0 m capb, u2, u3, u4, want, vv, ww, u8, u9, u10, u11, u12, u13, u14, u15, u16, u17, u18, u19, u20, o1, u22, u23, u24, u25, u26, u27, u28, u29, u30, u31, u32, u33, u34, u35, u36, u37, u38, u39, u40, u41, u42, u43], []⟩ [.inRegion ops44 [3], .code t44]) []
def P2 (T ch : List Nat) (g : Goroutine) (w : World) : Prop :=
  ∃ want vv ww o1 o2 u2 u3 u4 u9 u10 u11 u12 u13 u14 u15 u16 u17 u18 u19 u20 u21 u22 u23 u25 u26 u27 u28 u29 u30 u31 u32 u33 u34 u35 u36 u37 u38 u39 u40 u41 u42 u43, SR W T ch want vv ww zs ds ref [o1, o2] w ∧ g = G ((base 4).at ⟨#[.slice a0 n cap, .slice b0 m capb, u2, u3, u4, want, vv, ww, o1, u9, u10, u11, u12, u13, u14, u15, u16, u17, u18, u19, u20, u21, u22, u23, o2, u25, u26, u27, u28, u29, u30, u31, u32, u33, u34, u35, u36, u37, u38, u39, u40, u41, u42, u43], []⟩ [.inRegion ops45 [3], .code t45]) []
def P3 (T ch : List Nat) (g : Goroutine) (w : World) : Prop :=
  ∃ want vv ww o1 o2 o3 u2 u3 u4 u10 u11 u12 u13 u14 u15 u16 u17 u18 u19 u20 u21 u22 u23 u24 u25 u26 u28 u29 u30 u31 u32 u33 u34 u35 u36 u37 u38 u39 u40 u41 u42 u43, SR W T ch want vv ww zs ds ref [o1, o2, o3] w ∧ g = G ((base 4).at ⟨#[.slice a0 n cap, .slice b0 m capb, u2, u3, u4, want, vv, ww, o1, o2, u10, u11, u12, u13, u14, u15, u16, u17, u18, u19, u20, u21, u22, u23, u24, u25, u26, o3, u28, u29, u30, u31, u32, u33, u34, u35, u36, u37, u38, u39, u40, u41, u42, u43], []⟩ [.inRegion ops46 [3], .code t46]) []


set_option maxRecDepth 100000 in
theorem seg41 (T ch : List Nat) (Stop : Goroutine → World → Prop) (n₀ N : Nat) (want vv ww o1 : Value) (u2 u3 u4 u8 u9 u10 u11 u12 u13 u14 u15 u16 u17 u18 u19 u20 u22 u23 u24 u25 u26 u27 u28 u29 u30 u31 u32 u33 u34 u35 u36 u37 u38 u39 u40 u41 u42 u43 : Value) (w : World) (hF : SN W T ch want vv ww zs ds ref [o1] N w)
    (next : ∀ (u2 u3 u4 u9 u10 u11 u12 u13 u14 u15 u16 u17 u18 u19 u20 u21 u24 u25 u26 u27 u28 u29 u30 u31 u32 u33 u34 u35 u36 u37 u38 u39 u40 u41 u42 u43 : Value) w', SN W T ch want vv ww zs ds ref [o1] N w' → Goes Try.prog true (RC ch) (DM T ch) Stop n₀ (G ((base 4).at ⟨#[.slice a0 n cap, .slice b0 m capb, u2, u3, u4, want, vv, ww, o1, u9, u10, u11, u12, u13, u14, u15, u16, u17, u18, u19, u20, u21, vv, ww, u24, u25, u26, u27, u28, u29, u30, u31, u32, u33, u34, u35, u36, u37, u38, u39, u40, u41, u42, u43], []⟩ [.inRegion ops45 [2, 3], .code t45]) []) w') :
    Goes Try.prog true (RC ch) (DM T ch) Stop (n₀ + 20) (G ((base 4).at ⟨#[.slice a0 n cap, .slice b0 m capb, u2, u3, u4, want, vv, ww, u8, u9, u10, u11, u12, u13, u14, u15, u16, u17, u18, u19, u20, o1, u22, u23, u24, u25, u26, u27, u28, u29, u30, u31, u32, u33, u34, u35, u36, u37, u38, u39, u40, u41, u42, u43], []⟩ [.inRegion ops44 [3], .code t44]) []) w := by
  have hTl : ∀ b ∈ T, b < 0 ∨ 0 = 0 := fun _ _ => .inr rfl
  have hcl : ∀ b ∈ ch, b < 0 ∨ 0 = 0 := fun _ _ => .inr rfl
  have hk : (base 4).kind ≠ .early := by decide
  simp only [ops44, ops45, ops46, t46, t45, t44, body4, Try.f4, Option.getD_some] at next ⊢
  (refine Goes.step rfl (fun w₁ h₁ => ?_); replace hF := (SN.rely hF) h₁; clear h₁; refine goes_oper_k rfl rfl hk (fun K hK => ?_); skip; go_simp; refine hK _ _ ⟨DM_of_below (B := 0) hTl hcl (Below.refl _ _) (fun e he => ?_), ?_⟩; (focus (have hm := mem_listed he; (simp [go_sem, *] at hm); (try (subst hm; exact evM_read _ _ (by simp))))); (clear hK K); (try walk_nrm))
  (refine Goes.step rfl (fun _ h₁ => ?_); walk_rw; refine ⟨DM_of_below (B := 0) hTl hcl (Below.refl _ _) (by simp), ?_⟩; replace hF := (SN.rely hF) h₁; clear h₁)
  (refine Goes.step rfl (fun _ h₁ => ?_); walk_rw; refine ⟨DM_of_below (B := 0) hTl hcl (Below.refl _ _) (by simp), ?_⟩; replace hF := (SN.rely hF) h₁; clear h₁)
  (refine Goes.step rfl (fun _ h₁ => ?_); walk_rw; refine ⟨DM_of_below (B := 0) hTl hcl (Below.refl _ _) (by simp), ?_⟩; replace hF := (SN.rely hF) h₁; clear h₁)
  (refine Goes.step rfl (fun w₁ h₁ => ?_); replace hF := (SN.rely hF) h₁; clear h₁; refine goes_oper_k rfl rfl hk (fun K hK => ?_); skip; go_simp; refine hK _ _ ⟨DM_of_below (B := 0) hTl hcl (Below.refl _ _) (fun e he => ?_), ?_⟩; (focus (have hm := mem_listed he; (simp [go_sem, *] at hm); (try (subst hm; exact evM_read _ _ (by simp))))); (clear hK K); (try walk_nrm))
  (refine Goes.step rfl (fun w₁ h₁ => ?_); replace hF := (SN.rely hF) h₁; clear h₁; refine goes_oper_k rfl rfl hk (fun K hK => ?_); skip; go_simp; refine hK _ _ ⟨DM_of_below (B := 0) hTl hcl (Below.refl _ _) (fun e he => ?_), ?_⟩; (focus (have hm := mem_listed he; (simp [go_sem, *] at hm); (try (subst hm; exact evM_read _ _ (by simp))))); (clear hK K); (try walk_nrm))
  refine Goes.mono (n := n₀) ?_ (by omega)
  exact next _ _ _ _ _ _ _ _ _ _ _ _ _ _ _ _ _ _ _ _ _ _ _ _ _ _ _ _ _ _ _ _ _ _ _ _ _ hF


set_option maxRecDepth 100000 in
theorem seg42 (T ch : List Nat) (Stop : Goroutine → World → Prop) (n₀ N : Nat) (want vv ww o1 o2 : Value) (u2 u3 u4 u9 u10 u11 u12 u13 u14 u15 u16 u17 u18 u19 u20 u21 u22 u23 u25 u26 u27 u28 u29 u30 u31 u32 u33 u34 u35 u36 u37 u38 u39 u40 u41 u42 u43 : Value) (w : World) (hF : SN W T ch want vv ww zs ds ref [o1, o2] N w)
    (next : ∀ (u2 u3 u4 u10 u11 u12 u13 u14 u15 u16 u17 u18 u19 u20 u21 u22 u23 u24 u27 u28 u29 u30 u31 u32 u33 u34 u35 u36 u37 u38 u39 u40 u41 u42 u43 : Value) w', SN W T ch want vv ww zs ds ref [o1, o2] N w' → Goes Try.prog true (RC ch) (DM T ch) Stop n₀ (G ((base 4).at ⟨#[.slice a0 n cap, .slice b0 m capb, u2, u3, u4, want, vv, ww, o1, o2, u10, u11, u12, u13, u14, u15, u16, u17, u18, u19, u20, u21, u22, u23, u24, vv, ww, u27, u28, u29, u30, u31, u32, u33, u34, u35, u36, u37, u38, u39, u40, u41, u42, u43], []⟩ [.inRegion ops46 [2, 3], .code t46]) []) w') :
    Goes Try.prog true (RC ch) (DM T ch) Stop (n₀ + 20) (G ((base 4).at ⟨#[.slice a0 n cap, .slice b0 m capb, u2, u3, u4, want, vv, ww, o1, u9, u10, u11, u12, u13, u14, u15, u16, u17, u18, u19, u20, u21, u22, u23, o2, u25, u26, u27, u28, u29, u30, u31, u32, u33, u34, u35, u36, u37, u38, u39, u40, u41, u42, u43], []⟩ [.inRegion ops45 [3], .code t45]) []) w := by
  have hTl : ∀ b ∈ T, b < 0 ∨ 0 = 0 := fun _ _ => .inr rfl
  have hcl : ∀ b ∈ ch, b < 0 ∨ 0 = 0 := fun _ _ => .inr rfl
  have hk : (base 4).kind ≠ .early := by decide
  simp only [ops44, ops45, ops46, t46, t45, t44, body4, Try.f4, Option.getD_some] at next ⊢
  (refine Goes.step rfl (fun w₁ h₁ => ?_); replace hF := (SN.rely hF) h₁; clear h₁; refine goes_oper_k rfl rfl hk (fun K hK => ?_); skip; go_simp; refine hK _ _ ⟨DM_of_below (B := 0) hTl hcl (Below.refl _ _) (fun e he => ?_), ?_⟩; (focus (have hm := mem_listed he; (simp [go_sem, *] at hm); (try (subst hm; exact evM_read _ _ (by simp))))); (clear hK K); (try walk_nrm))
  (refine Goes.step rfl (fun _ h₁ => ?_); walk_rw; refine ⟨DM_of_below (B := 0) hTl hcl (Below.refl _ _) (by simp), ?_⟩; replace hF := (SN.rely hF) h₁; clear h₁)
  (refine Goes.step rfl (fun _ h₁ => ?_); walk_rw; refine ⟨DM_of_below (B := 0) hTl hcl (Below.refl _ _) (by simp), ?_⟩; replace hF := (SN.rely hF) h₁; clear h₁)
  (refine Goes.step rfl (fun _ h₁ => ?_); walk_rw; refine ⟨DM_of_below (B := 0) hTl hcl (Below.refl _ _) (by simp), ?_⟩; replace hF := (SN.rely hF) h₁; clear h₁)
  (refine Goes.step rfl (fun w₁ h₁ => ?_); replace hF := (SN.rely hF) h₁; clear h₁; refine goes_oper_k rfl rfl hk (fun K hK => ?_); skip; go_simp; refine hK _ _ ⟨DM_of_below (B := 0) hTl hcl (Below.refl _ _) (fun e he => ?_), ?_⟩; (focus (have hm := mem_listed he; (simp [go_sem, *] at hm); (try (subst hm; exact evM_read _ _ (by simp))))); (clear hK K); (try walk_nrm))
  (refine Goes.step rfl (fun w₁ h₁ => ?_); replace hF := (SN.rely hF) h₁; clear h₁; refine goes_oper_k rfl rfl hk (fun K hK => ?_); skip; go_simp; refine hK _ _ ⟨DM_of_below (B := 0) hTl hcl (Below.refl _ _) (fun e he => ?_), ?_⟩; (focus (have hm := mem_listed he; (simp [go_sem, *] at hm); (try (subst hm; exact evM_read _ _ (by simp))))); (clear hK K); (try walk_nrm))
  refine Goes.mono (n := n₀) ?_ (by omega)
  exact next _ _ _ _ _ _ _ _ _ _ _ _ _ _ _ _ _ _ _ _ _ _ _ _ _ _ _ _ _ _ _ _ _ _ _ _ hF

end
end Go.Proofs.Ytplndihadjfliaa.Net
/-
  CREW: the walk of CrewRelay: its phases.
-/
set_option linter.unusedSimpArgs false
set_option linter.unusedVariables false
set_option maxHeartbeats 2000000
namespace Go.Proofs.Ytplndihadjfliaa.Net
open Go Go.Conc Go.ConcN Go.Proofs Go.RowKit

section
variable (W : World) (a0 : Option Addr) (n cap : Nat) (b0 : Option Addr) (m capb : Nat) (zs ds ref : List Int)


set_option maxRecDepth 100000 in
theorem row1 (hm64 : ds.length ≤ 64) (hz8 : zs.length * 8 ≤ 140737488355328) (href : rowOut zs ds = ref) (T ch : List Nat) (g : Goroutine) (w : World) (h : AtEnd (P0 W a0 n cap b0 m capb zs ds ref) T ch g w) :
    ∃ T' c0 vs l, FollowM Try.prog zi (P1 W a0 n cap b0 m capb zs ds ref) (.fork T' [c0] (src c0 vs) :: mains c0 vs l) T ch g w ∧ (c0 :: l.map (·.1)).Nodup ∧ ∀ c ∈ c0 :: l.map (·.1), c ∉ ch := by
  obtain ⟨_, want, vv, ww, u2, u3, u8, u9, u10, u11, u12, u13, u14, u15, u16, u17, u18, u21, u22, u23, u24, u25, u26, u27, u28, u29, u30, u31, u32, u33, u34, u35, u36, u37, u38, u39, u40, u41, u42, u43, hS, rfl⟩ := h
  obtain ⟨va, vc, hvv, _⟩ := own_slice hS.rv.own
  obtain ⟨wa, wc, hww, _⟩ := own_slice hS.rd.own
  have hF : SN W T ch want vv ww zs ds ref [] w.heap.size w := ⟨hS, rfl⟩
  obtain ⟨hn1, hn2⟩ := lst_fst w.heap.size ds 0
  refine ⟨srcT w.heap.size va zs.length, w.heap.size + 1, zs.map iv, lst w.heap.size 0 ds, followM_iff.2 ⟨_, (call_row (o := { dst := some 21, op := .call { callee := .value (.func 8), args := #[.tmp 19, .tmp 20], argTypes := #[22, 22] }, type := 22, pos := "law.go:110", after := #[{ on := 0, ground := .data }, { on := 1, ground := .data }], guard := none }) (a := ⟨#[.slice a0 n cap, .slice b0 m capb, u2, u3, .bool false, want, vv, ww, u8, u9, u10, u11, u12, u13, u14, u15, u16, u17, u18, vv, ww, u21, u22, u23, u24, u25, u26, u27, u28, u29, u30, u31, u32, u33, u34, u35, u36, u37, u38, u39, u40, u41, u42, u43], []⟩) (ops := ops44) (i := 2) (rest := [3]) (k := [.code t44]) (args := #[.tmp 19, .tmp 20]) rfl rfl rfl (by simp [Act.eval]) hvv hww hm64 hz8 href hF fun T2 ch2 out w2 hs => ⟨want, vv, ww, out, _, _, _, _, _, _, _, _, _, _, _, _, _, _, _, _, _, _, _, _, _, _, _, _, _, _, _, _, _, _, _, _, _, _, _, _, _, _, by simpa using hs, rfl⟩)⟩, List.nodup_cons.2 ⟨fun h => by have := hn2 _ h; omega, hn1⟩, fun c hc hcc => ?_⟩
  have := (hS.chb c hcc).2
  rcases List.mem_cons.1 hc with rfl | hc
  · omega
  · have := hn2 c hc; omega

set_option maxRecDepth 100000 in
theorem nil1 (hm64 : 64 < ds.length) (href : ref = []) (T ch : List Nat) (g : Goroutine) (w : World) (h : AtEnd (P0 W a0 n cap b0 m capb zs ds ref) T ch g w) : FollowM Try.prog zi (P1 W a0 n cap b0 m capb zs ds ref) [] T ch g w := by
  obtain ⟨_, want, vv, ww, u2, u3, u8, u9, u10, u11, u12, u13, u14, u15, u16, u17, u18, u21, u22, u23, u24, u25, u26, u27, u28, u29, u30, u31, u32, u33, u34, u35, u36, u37, u38, u39, u40, u41, u42, u43, hS, rfl⟩ := h
  have hF : SN W T ch want vv ww zs ds ref [] w.heap.size w := ⟨hS, rfl⟩
  exact ⟨_, (call_nil (o := { dst := some 21, op := .call { callee := .value (.func 8), args := #[.tmp 19, .tmp 20], argTypes := #[22, 22] }, type := 22, pos := "law.go:110", after := #[{ on := 0, ground := .data }, { on := 1, ground := .data }], guard := none }) (a := ⟨#[.slice a0 n cap, .slice b0 m capb, u2, u3, .bool false, want, vv, ww, u8, u9, u10, u11, u12, u13, u14, u15, u16, u17, u18, vv, ww, u21, u22, u23, u24, u25, u26, u27, u28, u29, u30, u31, u32, u33, u34, u35, u36, u37, u38, u39, u40, u41, u42, u43], []⟩) (ops := ops44) (i := 2) (rest := [3]) (k := [.code t44]) (args := #[.tmp 19, .tmp 20]) rfl rfl rfl (by simp [Act.eval]) hm64 href hF fun T2 ch2 out w2 hs => ⟨want, vv, ww, out, _, _, _, _, _, _, _, _, _, _, _, _, _, _, _, _, _, _, _, _, _, _, _, _, _, _, _, _, _, _, _, _, _, _, _, _, _, _, by simpa using hs, rfl⟩)⟩


set_option maxRecDepth 100000 in
theorem row2 (hm64 : ds.length ≤ 64) (hz8 : zs.length * 8 ≤ 140737488355328) (href : rowOut zs ds = ref) (T ch : List Nat) (g : Goroutine) (w : World) (h : AtEnd (P1 W a0 n cap b0 m capb zs ds ref) T ch g w) :
    ∃ T' c0 vs l, FollowM Try.prog zi (P2 W a0 n cap b0 m capb zs ds ref) (.fork T' [c0] (src c0 vs) :: mains c0 vs l) T ch g w ∧ (c0 :: l.map (·.1)).Nodup ∧ ∀ c ∈ c0 :: l.map (·.1), c ∉ ch := by
  obtain ⟨_, want, vv, ww, o1, u2, u3, u4, u8, u9, u10, u11, u12, u13, u14, u15, u16, u17, u18, u19, u20, u22, u23, u24, u25, u26, u27, u28, u29, u30, u31, u32, u33, u34, u35, u36, u37, u38, u39, u40, u41, u42, u43, hS, rfl⟩ := h
  obtain ⟨va, vc, hvv, _⟩ := own_slice hS.rv.own
  obtain ⟨wa, wc, hww, _⟩ := own_slice hS.rd.own
  obtain ⟨hn1, hn2⟩ := lst_fst w.heap.size ds 0
  refine ⟨srcT w.heap.size va zs.length, w.heap.size + 1, zs.map iv, lst w.heap.size 0 ds, followM_iff.2 ⟨_, (seg41 W a0 n cap b0 m capb zs ds ref T ch _ _ w.heap.size want vv ww o1 u2 u3 u4 u8 u9 u10 u11 u12 u13 u14 u15 u16 u17 u18 u19 u20 u22 u23 u24 u25 u26 u27 u28 u29 u30 u31 u32 u33 u34 u35 u36 u37 u38 u39 u40 u41 u42 u43 w ⟨hS, rfl⟩ fun u2 u3 u4 u9 u10 u11 u12 u13 u14 u15 u16 u17 u18 u19 u20 u21 u24 u25 u26 u27 u28 u29 u30 u31 u32 u33 u34 u35 u36 u37 u38 u39 u40 u41 u42 u43 w₁ hF => call_row (o := { dst := some 24, op := .call { callee := .value (.func 8), args := #[.tmp 22, .tmp 23], argTypes := #[22, 22] }, type := 22, pos := "law.go:111", after := #[{ on := 0, ground := .data }, { on := 1, ground := .data }], guard := none }) (a := ⟨#[.slice a0 n cap, .slice b0 m capb, u2, u3, u4, want, vv, ww, o1, u9, u10, u11, u12, u13, u14, u15, u16, u17, u18, u19, u20, u21, vv, ww, u24, u25, u26, u27, u28, u29, u30, u31, u32, u33, u34, u35, u36, u37, u38, u39, u40, u41, u42, u43], []⟩) (ops := ops45) (i := 2) (rest := [3]) (k := [.code t45]) (args := #[.tmp 22, .tmp 23]) rfl rfl rfl (by simp [Act.eval]) hvv hww hm64 hz8 href hF fun T2 ch2 out w2 hs => ⟨want, vv, ww, o1, out, _, _, _, _, _, _, _, _, _, _, _, _, _, _, _, _, _, _, _, _, _, _, _, _, _, _, _, _, _, _, _, _, _, _, _, _, _, by simpa using hs, rfl⟩)⟩, List.nodup_cons.2 ⟨fun h => by have := hn2 _ h; omega, hn1⟩, fun c hc hcc => ?_⟩
  have := (hS.chb c hcc).2
  rcases List.mem_cons.1 hc with rfl | hc
  · omega
  · have := hn2 c hc; omega

set_option maxRecDepth 100000 in
theorem nil2 (hm64 : 64 < ds.length) (href : ref = []) (T ch : List Nat) (g : Goroutine) (w : World) (h : AtEnd (P1 W a0 n cap b0 m capb zs ds ref) T ch g w) : FollowM Try.prog zi (P2 W a0 n cap b0 m capb zs ds ref) [] T ch g w := by
  obtain ⟨_, want, vv, ww, o1, u2, u3, u4, u8, u9, u10, u11, u12, u13, u14, u15, u16, u17, u18, u19, u20, u22, u23, u24, u25, u26, u27, u28, u29, u30, u31, u32, u33, u34, u35, u36, u37, u38, u39, u40, u41, u42, u43, hS, rfl⟩ := h
  exact ⟨_, (seg41 W a0 n cap b0 m capb zs ds ref T ch _ _ w.heap.size want vv ww o1 u2 u3 u4 u8 u9 u10 u11 u12 u13 u14 u15 u16 u17 u18 u19 u20 u22 u23 u24 u25 u26 u27 u28 u29 u30 u31 u32 u33 u34 u35 u36 u37 u38 u39 u40 u41 u42 u43 w ⟨hS, rfl⟩ fun u2 u3 u4 u9 u10 u11 u12 u13 u14 u15 u16 u17 u18 u19 u20 u21 u24 u25 u26 u27 u28 u29 u30 u31 u32 u33 u34 u35 u36 u37 u38 u39 u40 u41 u42 u43 w₁ hF => call_nil (o := { dst := some 24, op := .call { callee := .value (.func 8), args := #[.tmp 22, .tmp 23], argTypes := #[22, 22] }, type := 22, pos := "law.go:111", after := #[{ on := 0, ground := .data }, { on := 1, ground := .data }], guard := none }) (a := ⟨#[.slice a0 n cap, .slice b0 m capb, u2, u3, u4, want, vv, ww, o1, u9, u10, u11, u12, u13, u14, u15, u16, u17, u18, u19, u20, u21, vv, ww, u24, u25, u26, u27, u28, u29, u30, u31, u32, u33, u34, u35, u36, u37, u38, u39, u40, u41, u42, u43], []⟩) (ops := ops45) (i := 2) (rest := [3]) (k := [.code t45]) (args := #[.tmp 22, .tmp 23]) rfl rfl rfl (by simp [Act.eval]) hm64 href hF fun T2 ch2 out w2 hs => ⟨want, vv, ww, o1, out, _, _, _, _, _, _, _, _, _, _, _, _, _, _, _, _, _, _, _, _, _, _, _, _, _, _, _, _, _, _, _, _, _, _, _, _, _, by simpa using hs, rfl⟩)⟩


set_option maxRecDepth 100000 in
theorem row3 (hm64 : ds.length ≤ 64) (hz8 : zs.length * 8 ≤ 140737488355328) (href : rowOut zs ds = ref) (T ch : List Nat) (g : Goroutine) (w : World) (h : AtEnd (P2 W a0 n cap b0 m capb zs ds ref) T ch g w) :
    ∃ T' c0 vs l, FollowM Try.prog zi (P3 W a0 n cap b0 m capb zs ds ref) (.fork T' [c0] (src c0 vs) :: mains c0 vs l) T ch g w ∧ (c0 :: l.map (·.1)).Nodup ∧ ∀ c ∈ c0 :: l.map (·.1), c ∉ ch := by
  obtain ⟨_, want, vv, ww, o1, o2, u2, u3, u4, u9, u10, u11, u12, u13, u14, u15, u16, u17, u18, u19, u20, u21, u22, u23, u25, u26, u27, u28, u29, u30, u31, u32, u33, u34, u35, u36, u37, u38, u39, u40, u41, u42, u43, hS, rfl⟩ := h
  obtain ⟨va, vc, hvv, _⟩ := own_slice hS.rv.own
  obtain ⟨wa, wc, hww, _⟩ := own_slice hS.rd.own
  obtain ⟨hn1, hn2⟩ := lst_fst w.heap.size ds 0
  refine ⟨srcT w.heap.size va zs.length, w.heap.size + 1, zs.map iv, lst w.heap.size 0 ds, followM_iff.2 ⟨_, (seg42 W a0 n cap b0 m capb zs ds ref T ch _ _ w.heap.size want vv ww o1 o2 u2 u3 u4 u9 u10 u11 u12 u13 u14 u15 u16 u17 u18 u19 u20 u21 u22 u23 u25 u26 u27 u28 u29 u30 u31 u32 u33 u34 u35 u36 u37 u38 u39 u40 u41 u42 u43 w ⟨hS, rfl⟩ fun u2 u3 u4 u10 u11 u12 u13 u14 u15 u16 u17 u18 u19 u20 u21 u22 u23 u24 u27 u28 u29 u30 u31 u32 u33 u34 u35 u36 u37 u38 u39 u40 u41 u42 u43 w₁ hF => call_row (o := { dst := some 27, op := .call { callee := .value (.func 8), args := #[.tmp 25, .tmp 26], argTypes := #[22, 22] }, type := 22, pos := "law.go:112", after := #[{ on := 0, ground := .data }, { on := 1, ground := .data }], guard := none }) (a := ⟨#[.slice a0 n cap, .slice b0 m capb, u2, u3, u4, want, vv, ww, o1, o2, u10, u11, u12, u13, u14, u15, u16, u17, u18, u19, u20, u21, u22, u23, u24, vv, ww, u27, u28, u29, u30, u31, u32, u33, u34, u35, u36, u37, u38, u39, u40, u41, u42, u43], []⟩) (ops := ops46) (i := 2) (rest := [3]) (k := [.code t46]) (args := #[.tmp 25, .tmp 26]) rfl rfl rfl (by simp [Act.eval]) hvv hww hm64 hz8 href hF fun T2 ch2 out w2 hs => ⟨want, vv, ww, o1, o2, out, _, _, _, _, _, _, _, _, _, _, _, _, _, _, _, _, _, _, _, _, _, _, _, _, _, _, _, _, _, _, _, _, _, _, _, _, by simpa using hs, rfl⟩)⟩, List.nodup_cons.2 ⟨fun h => by have := hn2 _ h; omega, hn1⟩, fun c hc hcc => ?_⟩
  have := (hS.chb c hcc).2
  rcases List.mem_cons.1 hc with rfl | hc
  · omega
  · have := hn2 c hc; omega

set_option maxRecDepth 100000 in
theorem nil3 (hm64 : 64 < ds.length) (href : ref = []) (T ch : List Nat) (g : Goroutine) (w : World) (h : AtEnd (P2 W a0 n cap b0 m capb zs ds ref) T ch g w) : FollowM Try.prog zi (P3 W a0 n cap b0 m capb zs ds ref) [] T ch g w := by
  obtain ⟨_, want, vv, ww, o1, o2, u2, u3, u4, u9, u10, u11, u12, u13, u14, u15, u16, u17, u18, u19, u20, u21, u22, u23, u25, u26, u27, u28, u29, u30, u31, u32, u33, u34, u35, u36, u37, u38, u39, u40, u41, u42, u43, hS, rfl⟩ := h
  exact ⟨_, (seg42 W a0 n cap b0 m capb zs ds ref T ch _ _ w.heap.size want vv ww o1 o2 u2 u3 u4 u9 u10 u11 u12 u13 u14 u15 u16 u17 u18 u19 u20 u21 u22 u23 u25 u26 u27 u28 u29 u30 u31 u32 u33 u34 u35 u36 u37 u38 u39 u40 u41 u42 u43 w ⟨hS, rfl⟩ fun u2 u3 u4 u10 u11 u12 u13 u14 u15 u16 u17 u18 u19 u20 u21 u22 u23 u24 u27 u28 u29 u30 u31 u32 u33 u34 u35 u36 u37 u38 u39 u40 u41 u42 u43 w₁ hF => call_nil (o := { dst := some 27, op := .call { callee := .value (.func 8), args := #[.tmp 25, .tmp 26], argTypes := #[22, 22] }, type := 22, pos := "law.go:112", after := #[{ on := 0, ground := .data }, { on := 1, ground := .data }], guard := none }) (a := ⟨#[.slice a0 n cap, .slice b0 m capb, u2, u3, u4, want, vv, ww, o1, o2, u10, u11, u12, u13, u14, u15, u16, u17, u18, u19, u20, u21, u22, u23, u24, vv, ww, u27, u28, u29, u30, u31, u32, u33, u34, u35, u36, u37, u38, u39, u40, u41, u42, u43], []⟩) (ops := ops46) (i := 2) (rest := [3]) (k := [.code t46]) (args := #[.tmp 25, .tmp 26]) rfl rfl rfl (by simp [Act.eval]) hm64 href hF fun T2 ch2 out w2 hs => ⟨want, vv, ww, o1, o2, out, _, _, _, _, _, _, _, _, _, _, _, _, _, _, _, _, _, _, _, _, _, _, _, _, _, _, _, _, _, _, _, _, _, _, _, _, by simpa using hs, rfl⟩)⟩

end
end Go.Proofs.Ytplndihadjfliaa.Net
