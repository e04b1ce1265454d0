/- What a policy allows: the document's small functions. -/
import Derived.Test.YtddbebhklmaeoaaM9
import Derived.Test.YtddbebhklmaeoaaM10
import Derived.Test.YtddbebhklmaeoaaM8
set_option linter.unusedVariables false
set_option linter.unusedSimpArgs false
set_option maxRecDepth 10000
namespace Go.Proofs.Ytddbebhklmaeoaa
open Go Go.Proofs.Ytddbebhklmaeoaa.Vc
namespace JG
open Vc.PG JD
theorem inc (i n : Nat) (hn : n ≤ 1000000000) (hi : i ≤ n) : IntKind.i64.wrap ((i : Int) + 1) = ((i + 1 : Nat) : Int) := by rw [i64_id (by omega) (by omega)]; omega
/-- A text of a list. -/
theorem RdL.str {w : World} {x : Sl} {l : List ByteArray} (h : RdL .str w x l) (hp : 0 < x.2.1) : ∃ b o, x.1 = some ⟨b, o, none⟩ ∧ ∀ q, q < x.2.1 → w.cell? ⟨b, o + q * 1, none⟩ = some (.string (l.getD q ByteArray.empty)) := by
  obtain ⟨b, o, h1, h2⟩ := RdL.flat (e := .str) rfl h hp
  exact ⟨b, o, h1, fun q hq => h2 q hq 0 _ rfl⟩
theorem inR {w : World} {x : Sl} {l : List ByteArray} (h : RdL .str w x l) (hn : l.length ≤ 1000000000) (s : ByteArray) : Calls Try.prog 99 #[x.v, .string s] w fun e w' => e = .returned (.bool (memB l s)) ∧ w' = w := by
  obtain ⟨A, n, c⟩ := x
  refine Calls.mono (f99.calls (R := fun v w' => v = .bool (memB l s) ∧ w' = w) ?_) ?_
  · dsimp only [f99.VC]
    have hl : n = l.length := h.1
    refine ⟨fun x w' r => w' = w ∧ ∃ i : Nat, x = (i : Int) ∧ i + r = n ∧ ∀ a, a < i → l.getD a ByteArray.empty ≠ s, ⟨n, rfl, 0, rfl, by omega, fun a ha => by omega⟩, ?_⟩
    rintro d x w1 r ⟨rfl, i, rfl, hir, hno⟩
    refine sel_of (fun hd => ?_) (fun hd => ?_)
    · have hi : i < n := by have := of_decide_eq_true hd; omega
      obtain ⟨b, o, hA, hc⟩ := RdL.str h (show 0 < n by omega)
      refine ⟨by omega, by omega, needPtr_of hA ⟨_, hc i hi, sel_of (fun hs => ?_) (fun hs => ?_)⟩⟩
      · have hs : l.getD i ByteArray.empty = s := of_decide_eq_true hs
        refine ⟨?_, rfl⟩
        rw [(memB_iff l s).2]
        rw [← hs]
        exact (mem_getD ByteArray.empty _ _).2 ⟨i, by omega, rfl⟩
      · have hs : l.getD i ByteArray.empty ≠ s := of_decide_eq_false hs
        rw [inc i n (by omega) (by omega)]
        refine ⟨rfl, r - 1, by omega, rfl, i + 1, rfl, by omega, fun a ha => ?_⟩
        rcases Nat.lt_or_ge a i with h1 | h1
        · exact hno a h1
        · have : a = i := by omega
          subst this; exact hs
    · have hi : i = n := by have := of_decide_eq_false hd; omega
      refine ⟨?_, rfl⟩
      have : memB l s = false := by
        cases hm : memB l s with
        | false => rfl
        | true =>
          obtain ⟨a, ha, he⟩ := (mem_getD ByteArray.empty _ _).1 ((memB_iff l s).1 hm)
          exact absurd he (hno a (by omega))
      rw [this]
  · rintro e w' ⟨v, rfl, rfl, h⟩; exact ⟨rfl, h⟩
theorem passR {w : World} (r : RuleD) (u : Sl) (t : Nat) : Calls Try.prog 106 #[.agg (ruleV r u).toArray, .float .f64 t] w fun e w' => e = .returned (.bool (passP geF ltF r t)) ∧ Fr [] w w' := by
  obtain ⟨dn, who, what, acts, cond, lev, _⟩ := r
  refine Calls.mono (f106.calls (R := fun v w' => v = .bool (passP geF ltF (dn, who, what, acts, cond, lev, ()) t) ∧ Fr [] w w') ?_) ?_
  · dsimp only [f106.VC]
    have hS := (St.start w).alloc #[.bool dn, .string who, .string what, u.v, .int .i8 cond, .float .f64 lev] 88
    generalize World.alloc w (.cells #[.bool dn, .string who, .string what, u.v, .int .i8 cond, .float .f64 lev] 88) = w1 at *
    generalize w.heap.size = b at *
    have hB := hS.blk 0 rfl
    have hf := hS.frame
    have key : passP geF ltF (dn, who, what, acts, cond, lev, ()) t = (decide (cond = 0) || (decide (cond = 1) && geF t lev) || (decide (cond = 2) && ltF t lev)) := rfl
    rw [key]
    refine ⟨_, hB.cell rfl, sel_of (fun h => ?_) (fun h => ?_)⟩
    · have h : cond = 0 := eq_of_beq h
      subst h; exact ⟨by simp, hf⟩
    · have h0 : cond ≠ 0 := beq_eq_false_iff_ne.1 h
      refine ⟨_, hB.cell rfl, sel_of (fun h => ?_) (fun h => ?_)⟩
      · have h : cond = 1 := eq_of_beq h
        subst h
        refine ⟨_, hB.cell rfl, _, fun w' => run_ge _ _ w', sel_of (fun hg => ?_) (fun hg => ?_)⟩
        · exact ⟨by rw [hg]; simp, hf⟩
        · refine ⟨_, hB.cell rfl, sel_of (fun h => by cases h) (fun h => ⟨by rw [hg]; simp, hf⟩)⟩
      · have h1 : cond ≠ 1 := beq_eq_false_iff_ne.1 h
        refine ⟨_, hB.cell rfl, sel_of (fun h => ?_) (fun h => ?_)⟩
        · have h : cond = 2 := eq_of_beq h
          subst h
          exact ⟨_, hB.cell rfl, _, fun w' => run_lt _ _ w', by simp, hf⟩
        · have h2 : cond ≠ 2 := beq_eq_false_iff_ne.1 h
          exact ⟨by simp [h0, h1, h2], hf⟩
  · rintro e w' ⟨v, rfl, rfl, h⟩; exact ⟨rfl, h⟩
/-- A policy's lists are no longer than what may be handed in. -/
structure SmallP (p : PolD) : Prop where
  a : p.1.length ≤ 1100000
  s : p.2.1.length ≤ 1100000
  r : p.2.2.1.length ≤ 1100000
  o : p.2.2.2.1.length ≤ 1100000
  g : p.2.2.2.2.1.length ≤ 1100000
  m : p.2.2.2.2.2.1.length ≤ 1100000
  i : p.2.2.2.2.2.2.1.length ≤ 1100000
  q : p.2.2.2.2.2.2.2.1.length ≤ 1100000
  t : p.2.2.2.2.2.2.2.2.1.length ≤ 1100000
  u : p.2.2.2.2.2.2.2.2.2.1.length ≤ 1100000
  e : p.2.2.2.2.2.2.2.2.2.2.1.length ≤ 1100000
  x : ∀ r ∈ p.2.2.2.2.2.2.2.2.2.1, r.2.2.2.1.length ≤ 1100000
theorem trustOf_drop (l : List SubjD) (s : ByteArray) : ∀ (i : Nat), i ≤ l.length → (∀ a, a < i → (l.getD a (ByteArray.empty, 0, ())).1 ≠ s) → trustOf (l.drop i) s = trustOf l s
  | 0, _, _ => by simp
  | i + 1, h, hno => by
    rw [← trustOf_drop l s i (by omega) (fun a ha => hno a (by omega))]
    rw [drop_cons (ByteArray.empty, 0, ()) l i (by omega), trustOf, if_neg (hno i (by omega))]
theorem trustR {w : World} {v : PV} {p : PolD} (h : InP w v p) (hb : SmallP p) (s : ByteArray) : Calls Try.prog 98 #[v.v, .string s] w fun e w' => e = .returned (.tuple #[.float .f64 ((trustOf (pSub p) s).getD 0), .bool (trustOf (pSub p) s).isSome]) ∧ Fr [] w w' := by
  refine Calls.mono (f98.calls (R := fun v w' => v = .tuple #[.float .f64 ((trustOf (pSub p) s).getD 0), .bool (trustOf (pSub p) s).isSome] ∧ Fr [] w w') ?_) ?_
  · dsimp only [f98.VC]
    have hS := (St.start w).alloc v.cells 28
    generalize World.alloc w (.cells v.cells 28) = w1 at *
    generalize w.heap.size = b at *
    have hl : v.s.2.1 = (pSub p).length := h.s.1
    have hbs := hb.s
    refine ⟨fun x w' r => w' = w1 ∧ ∃ i : Nat, x = (i : Int) ∧ i + r = v.s.2.1 ∧ ∀ a, a < i → ((pSub p).getD a (ByteArray.empty, 0, ())).1 ≠ s, ⟨v.s.2.1, rfl, 0, rfl, by omega, fun a ha => by omega⟩, ?_⟩
    rintro d x w2 r ⟨rfl, i, rfl, hir, hno⟩
    refine ⟨_, _, _, (hS.blk 0 rfl).cell rfl, sel_of (fun hd => ?_) (fun hd => ?_)⟩
    · have hi : i < v.s.2.1 := by have := of_decide_eq_true hd; omega
      obtain ⟨b', o, hA, hc⟩ := RdL.flat (e := subjT) rfl (h.s.fr hS.frame) (by omega)
      refine ⟨_, _, _, (hS.blk 0 rfl).cell rfl, by omega, by omega, needPtr_of hA ⟨_, hc i hi 0 _ rfl, sel_of (fun hs => ?_) (fun hs => ?_)⟩⟩
      · have hs : ((pSub p).getD i (ByteArray.empty, 0, ())).1 = s := of_decide_eq_true hs
        refine ⟨_, _, _, (hS.blk 0 rfl).cell rfl, by omega, by omega, needPtr_of hA ⟨_, hc i hi 1 _ rfl, ?_, hS.frame⟩⟩
        rw [← trustOf_drop (pSub p) s i (by omega) hno, drop_cons (ByteArray.empty, 0, ()) (pSub p) i (by omega), trustOf, if_pos hs]
        rfl
      · have hs : ((pSub p).getD i (ByteArray.empty, 0, ())).1 ≠ s := of_decide_eq_false hs
        rw [inc i v.s.2.1 (by rw [hl]; have : (pSub p).length ≤ 1100000 := hbs; omega) (by omega)]
        refine ⟨rfl, r - 1, by omega, rfl, i + 1, rfl, by omega, fun a ha => ?_⟩
        rcases Nat.lt_or_ge a i with h1 | h1
        · exact hno a h1
        · have : a = i := by omega
          subst this; exact hs
    · have hi : i = v.s.2.1 := by have := of_decide_eq_false hd; omega
      refine ⟨?_, hS.frame⟩
      rw [← trustOf_drop (pSub p) s i (by omega) hno, List.drop_of_length_le (by omega)]; rfl
  · rintro e w' ⟨v, rfl, rfl, h⟩; exact ⟨rfl, h⟩
end JG
end Go.Proofs.Ytddbebhklmaeoaa
/- What a policy allows: who is reached, by the document. -/
set_option linter.unusedVariables false
set_option linter.unusedSimpArgs false
set_option maxRecDepth 10000
namespace Go.Proofs.Ytddbebhklmaeoaa
open Go Go.Proofs.Ytddbebhklmaeoaa.Vc
namespace JG
open Vc.PG JD
abbrev encS (s : ByteArray) : Value := .string s
theorem info9 : ∃ i, Try.prog.info? 9 = some i ∧ i.zero = some (.string ⟨#[]⟩) ∧ i.size = 1 ∧ i.bytes = 16 := ⟨Try.prog.types[9]!, by kernel_rfl, by kernel_rfl, by kernel_rfl, by kernel_rfl⟩
theorem under22 : Try.prog.underlying 22 = some (.slice 9) := by kernel_rfl
theorem appS {S : List Nat} {w0 w : World} {L : List Chunk} (h : St S w0 w L) (i : Nat) {A : Option Addr} {n c : Nat} {l : List ByteArray} (hi : L[i]? = some (Chunk.ls encS 9 (.slice A n c) l)) (a : ByteArray) (hl : l.length ≤ 40000000) :
    ∃ A' n' c' w', (Builtin.append_ #[22, 22] 22 #[.slice A n c, .slice (some ⟨w.heap.size, 0, Option.none⟩) 1 1]).run Try.prog (World.alloc w (.cells #[.string a] 9)) = .ok (.slice A' n' c') w' ∧ St S w0 w' (L.set i (Chunk.ls encS 9 (.slice A' n' c') (l ++ [a]))) := by
  obtain ⟨ti, i1, i2, i3, i4⟩ := info9
  obtain ⟨g', cap', w', h1, h2⟩ := h.app (enc := encS) (P := Try.prog) (t := 22) (ty := 22) (fun _ => rfl) under22 i1 i2 i3 rfl (by omega) i hi a hl
  exact ⟨_, _, _, w', h1, h2⟩
/-- A list written out is owned. -/
theorem sl_of_blk {w : World} {F : List Nat} {b : Nat} {T : TypeId} {s : Nat} (rs : List (List Value)) (hrs : ∀ r ∈ rs, r.length = s) (hm : rs.length ≤ maxLen) (h : (Chunk.blk b rs.flatten.toArray T).holds w F) : (Chunk.sl T s (.slice (some ⟨b, 0, none⟩) rs.length rs.length) rs).holds w F :=
  .inr ⟨b, rs.length, rfl, h.1, ⟨_, h.2, by rw [List.size_toArray, flat_len hrs], Nat.le_refl _, hm, hrs, fun i hi j hj => by rw [List.getElem?_toArray]; exact flat_get hrs i hi j hj⟩⟩
theorem sl_reads {e : Ty} (TE : TypeId) {w : World} {F : List Nat} {x : Sl} {rs : List (List Value)} {l : List (Den e)} (h : (Chunk.sl TE e.w x.v rs).holds w F) (hl : rs.length = l.length) (hr : ∀ q, q < l.length → Rd w e (rs.getD q []) (l.getD q (Den.dflt e))) : RdL e w x l := by
  obtain ⟨A, n, c⟩ := x
  rcases h with ⟨h1, h2, _⟩ | ⟨g, cap, h1, _, h2⟩
  · simp only [Value.slice.injEq] at h1
    obtain ⟨rfl, rfl, rfl⟩ := h1
    subst h2
    exact ⟨hl, Nat.le_refl _, fun hp => absurd hp (by simp)⟩
  · simp only [Value.slice.injEq] at h1
    obtain ⟨rfl, rfl, rfl⟩ := h1
    refine ⟨hl, h2.cap_le, fun hp => ⟨g, 0, rfl, fun q hq => ?_⟩⟩
    have hq : q < rs.length := hq
    have hR := hr q (by omega)
    refine ⟨_, hR, fun j v hv => ?_⟩
    have hj : j < e.w := by
      have := (List.getElem?_eq_some_iff.1 hv).1
      have := hR.len
      omega
    rw [Nat.zero_add]
    exact h2.cell hq hj rfl hv
/-- A list of plain records that is owned is read. -/
theorem lr_reads {e : Ty} (hb : flatB e = true) (TE : TypeId) {w : World} {F : List Nat} {x : Sl} {l : List (Den e)} (h : (Chunk.lr (flatV e) TE e.w x.v l).holds w F) (hf : ∀ d ∈ l, fineB e d = true) : RdL e w x l := by
  refine sl_reads TE h (by simp) fun q hq => ?_
  have e1 : (l.map (flatV e)).getD q [] = flatV e (l.getD q (Den.dflt e)) := by
    simp [List.getD_eq_getElem?_getD, hq]
  rw [e1]
  refine Rd.ofFlat hb ?_
  rw [List.getD_eq_getElem?_getD, List.getElem?_eq_getElem hq]
  exact hf _ (List.getElem_mem hq)
theorem rdS {S : List Nat} {w0 w : World} {L : List Chunk} (h : St S w0 w L) (i : Nat) {A : Option Addr} {n c : Nat} {l : List ByteArray} (hi : L[i]? = some (Chunk.ls encS 9 (.slice A n c) l)) : RdL .str w (A, n, c) l := by
  obtain ⟨F, h1, _⟩ := h.at i hi
  exact lr_reads (e := .str) rfl 9 h1 (fun _ _ => rfl)
theorem nodup_le {α : Type} [DecidableEq α] : ∀ {l r : List α}, l.Nodup → (∀ x ∈ l, x ∈ r) → l.length ≤ r.length
  | [], r, _, _ => by simp
  | a :: l, r, hn, h => by
    rw [List.nodup_cons] at hn
    have ha : a ∈ r := h a (by simp)
    obtain ⟨r1, r2, rfl⟩ := List.append_of_mem ha
    have := nodup_le (l := l) (r := r1 ++ r2) hn.2 (fun x hx => by
      have hne : x ≠ a := fun e => hn.1 (e ▸ hx)
      have := h x (by simp [hx])
      simp only [List.mem_append, List.mem_cons] at this ⊢
      rcases this with h | h | h
      · exact .inl h
      · exact absurd h hne
      · exact .inr h)
    simp only [List.length_append, List.length_cons] at this ⊢
    omega
theorem rch_in {E : List PairD} {s x : ByteArray} (h : Rch E s x) : x ∈ s :: E.map (·.2.1) := by
  cases h with
  | refl => simp
  | step q _ hq _ => exact List.mem_cons_of_mem _ (List.mem_map.2 ⟨q, hq, rfl⟩)
abbrev pd : PairD := (ByteArray.empty, ByteArray.empty, ())
theorem RdL.pair {w : World} {x : Sl} {l : List PairD} (h : RdL pairT w x l) (hp : 0 < x.2.1) : ∃ b o, x.1 = some ⟨b, o, none⟩ ∧ ∀ q, q < x.2.1 → w.cell? ⟨b, o + q * 2, none⟩ = some (.string (l.getD q pd).1) ∧ w.cell? ⟨b, o + q * 2 + 1, none⟩ = some (.string (l.getD q pd).2.1) := by
  obtain ⟨b, o, h1, h2⟩ := RdL.flat (e := pairT) rfl h hp
  exact ⟨b, o, h1, fun q hq => ⟨h2 q hq 0 _ rfl, h2 q hq 1 _ rfl⟩⟩
abbrev sd : SubjD := (ByteArray.empty, 0, ())
theorem RdL.subj {w : World} {x : Sl} {l : List SubjD} (h : RdL subjT w x l) (hp : 0 < x.2.1) : ∃ b o, x.1 = some ⟨b, o, none⟩ ∧ ∀ q, q < x.2.1 → w.cell? ⟨b, o + q * 2, none⟩ = some (.string (l.getD q sd).1) ∧ w.cell? ⟨b, o + q * 2 + 1, none⟩ = some (.float .f64 (l.getD q sd).2.1) := by
  obtain ⟨b, o, h1, h2⟩ := RdL.flat (e := subjT) rfl h hp
  exact ⟨b, o, h1, fun q hq => ⟨h2 q hq 0 _ rfl, h2 q hq 1 _ rfl⟩⟩
abbrev td : TriD := (ByteArray.empty, ByteArray.empty, ByteArray.empty, ())
theorem RdL.tri {w : World} {x : Sl} {l : List TriD} (h : RdL triT w x l) (hp : 0 < x.2.1) : ∃ b o, x.1 = some ⟨b, o, none⟩ ∧ ∀ q, q < x.2.1 → w.cell? ⟨b, o + q * 3, none⟩ = some (.string (l.getD q td).1) ∧ w.cell? ⟨b, o + q * 3 + 1, none⟩ = some (.string (l.getD q td).2.1) ∧ w.cell? ⟨b, o + q * 3 + 1 + 1, none⟩ = some (.string (l.getD q td).2.2.1) := by
  obtain ⟨b, o, h1, h2⟩ := RdL.flat (e := triT) rfl h hp
  exact ⟨b, o, h1, fun q hq => ⟨h2 q hq 0 _ rfl, h2 q hq 1 _ rfl, h2 q hq 2 _ rfl⟩⟩
theorem upsR {w : World} {x y : Sl} {N F : List PairD} (hx : RdL pairT w x N) (hy : RdL pairT w y F) (hN : N.length ≤ 1100000) (hF : F.length ≤ 1100000) (s : ByteArray) :
    Calls Try.prog 101 #[x.v, y.v, .string s] w fun e w' => ∃ (z : Sl) (l : List ByteArray), e = .returned z.v ∧ Fr [] w w' ∧ RdL .str w' z l ∧ IsUps (N ++ F) s l ∧ l.length ≤ 2200001 := by
  obtain ⟨Ax, nx, cx⟩ := x
  obtain ⟨Ay, ny, cy⟩ := y
  have hlx : nx = N.length := hx.1
  have hly : ny = F.length := hy.1
  refine Calls.mono (f101.calls (R := fun v w' => ∃ (z : Sl) (l : List ByteArray), v = z.v ∧ Fr [] w w' ∧ RdL .str w' z l ∧ IsUps (N ++ F) s l ∧ l.length ≤ 2200001) ?_) ?_
  · dsimp only [f101.VC]
    have hE : (N ++ F).length = nx + ny := by rw [List.length_append, hlx, hly]
    have bound : ∀ l : List ByteArray, l.Nodup → (∀ x ∈ l, Rch (N ++ F) s x) → l.length ≤ nx + ny + 1 := by
      intro l h1 h2
      have := nodup_le h1 (fun x hx => rch_in (h2 x hx))
      simp only [List.length_cons, List.length_map] at this
      omega
    refine ⟨fun A n c w' r => ∃ l : List ByteArray, r + l.length = nx + ny + 2 ∧ St [] w w' [Chunk.ls encS 9 (.slice A n c) l] ∧ s ∈ l ∧ (∀ x ∈ l, Rch (N ++ F) s x) ∧ l.Nodup, ⟨nx + ny + 1, [s], by simp, ?_, by simp, ?_, by simp⟩, ?_⟩
    · exact ((St.start w).alloc #[.string s] 9).as 0 rfl _ (fun F h => sl_of_blk [[.string s]] (by simp) (by simp [maxLen]) h)
    · intro x hx; rw [List.mem_singleton] at hx; subst hx; exact .refl
    rintro d A0 n0 c0 w2 r ⟨l0, hr0, hS2, h00, hrc0, hnd0⟩
    have hn0 : n0 = l0.length := hS2.lsLen 0 rfl
    refine ⟨fun A n c x w' ri => ∃ (l : List ByteArray) (i : Nat), x = (i : Int) ∧ ri + i = nx + ny ∧ St [] w w' [Chunk.ls encS 9 (.slice A n c) l] ∧ s ∈ l ∧ (∀ x ∈ l, Rch (N ++ F) s x) ∧ l.Nodup ∧ l0.length ≤ l.length ∧
      (l.length = l0.length → l = l0 ∧ ∀ a, a < i → ((N ++ F).getD a pd).1 ∈ l → ((N ++ F).getD a pd).2.1 ∈ l), ⟨nx + ny, l0, 0, rfl, by omega, hS2, h00, hrc0, hnd0, Nat.le_refl _, fun _ => ⟨rfl, fun a ha => by omega⟩⟩, ?_⟩
    rintro d1 A n c x w3 ri ⟨l, i, rfl, hri, hS3, h0, hr, hnd, hle, hcl⟩
    have hn : n = l.length := hS3.lsLen 0 rfl
    have hlb := bound l hnd hr
    rw [i64_id (x := (nx : Int) + (ny : Int)) (by omega) (by omega)]
    refine sel_of (fun hd => ?_) (fun hd => ?_)
    · have hi : i < nx + ny := by have := of_decide_eq_true hd; omega
      have hS4 := hS3.alloc #[.string ⟨#[]⟩, .string ⟨#[]⟩] 147
      have hx4 := hx.fr hS4.frame
      have hy4 := hy.fr hS4.frame
      generalize World.alloc w3 (.cells #[.string ⟨#[]⟩, .string ⟨#[]⟩] 147) = w4 at *
      generalize w3.heap.size = b4 at *
      refine sel_of (fun hd2 => ?_) (fun hd2 => ?_)
      · have hi2 : i < nx := by have := of_decide_eq_true hd2; omega
        obtain ⟨bb, oo, hA, hc⟩ := RdL.pair hx4 (show 0 < nx by omega)
        have hq : (N ++ F).getD i pd = N.getD i pd := by
          rw [List.getD_eq_getElem?_getD, List.getElem?_append_left (by omega), List.getD_eq_getElem?_getD]
        have hqE : N.getD i pd ∈ N ++ F := by rw [← hq]; exact (mem_getD pd _ _).2 ⟨i, by omega, rfl⟩
        refine ⟨by omega, by omega, needPtr_of hA ⟨_, (hc i hi2).1, _, (hc i hi2).2, ?_⟩⟩
        have hS5 := hS4.over 0 rfl [.string (N.getD i pd).1, .string (N.getD i pd).2.1] rfl
        refine ⟨(hS4.blk 0 rfl).can (by decide), ?_⟩
        generalize setCs w4 b4 0 [.string (N.getD i pd).1, .string (N.getD i pd).2.1] = w5 at *
        have hB5 := hS5.blk 0 rfl
        have hR5 : RdL .str w5 (A, n, c) l := rdS hS5 1 rfl
        refine ⟨_, hB5.cell rfl, Calls.mono (inR hR5 (by omega) _) ?_⟩
        rintro _ w6 ⟨rfl, rfl⟩
        refine ⟨_, rfl, _, hB5.cell rfl, Calls.mono (inR hR5 (by omega) _) ?_⟩
        rintro _ w7 ⟨rfl, rfl⟩
        have hS6 := hS5.tail
        have hinc : IntKind.i64.wrap ((i : Int) + 1) = ((i + 1 : Nat) : Int) := inc i 100000000 (by omega) (by omega)
        rw [hinc]
        refine ⟨_, rfl, sel_of (fun m1 => sel_of (fun m2 => ?_) (fun m2 => ?_)) (fun m1 => ?_)⟩
        · have m1 := (memB_iff _ _).1 m1
          have m2 : ¬ ((N.getD i pd).2.1 ∈ l) := fun hm => by rw [(memB_iff _ _).2 hm] at m2; cases m2
          obtain ⟨A', n', c', w9, hrun, hS9⟩ := appS hS6 0 rfl (N.getD i pd).2.1 (by omega)
          refine ⟨_, hB5.cell rfl, _, _, _, w9, hrun, rfl, ri - 1, by omega, l ++ [(N.getD i pd).2.1], i + 1, rfl, by omega, hS9, by simp [h0], ?_, ?_, by rw [List.length_append]; omega, fun he => ?_⟩
          · intro x hx
            rcases List.mem_append.1 hx with hx | hx
            · exact hr x hx
            · rw [List.mem_singleton] at hx; subst hx; exact .step _ (hr _ m1) hqE rfl
          · rw [List.nodup_append]
            refine ⟨hnd, by simp, ?_⟩
            intro a ha b hb
            rw [List.mem_singleton] at hb; subst hb
            exact fun e => m2 (e ▸ ha)
          · rw [List.length_append, List.length_singleton] at he; omega
        · have m2 : (N.getD i pd).2.1 ∈ l := (memB_iff _ _).1 (by simpa using m2)
          refine ⟨rfl, ri - 1, by omega, l, i + 1, rfl, by omega, hS6, h0, hr, hnd, hle, fun he => ⟨(hcl he).1, fun a ha hm => ?_⟩⟩
          rcases Nat.lt_or_ge a i with h1 | h1
          · exact (hcl he).2 a h1 hm
          · have : a = i := by omega
            subst this; rw [hq]; exact m2
        · have m1 : ¬ ((N.getD i pd).1 ∈ l) := fun hm => by rw [(memB_iff _ _).2 hm] at m1; cases m1
          refine ⟨rfl, ri - 1, by omega, l, i + 1, rfl, by omega, hS6, h0, hr, hnd, hle, fun he => ⟨(hcl he).1, fun a ha hm => ?_⟩⟩
          rcases Nat.lt_or_ge a i with h1 | h1
          · exact (hcl he).2 a h1 hm
          · have : a = i := by omega
            subst this; rw [hq] at hm; exact absurd hm m1
      · have hi2 : nx ≤ i := by have := of_decide_eq_false hd2; omega
        obtain ⟨bb, oo, hA, hc⟩ := RdL.pair hy4 (show 0 < ny by omega)
        have hq : (N ++ F).getD i pd = F.getD (i - nx) pd := by
          rw [List.getD_eq_getElem?_getD, List.getElem?_append_right (by omega), ← hlx, List.getD_eq_getElem?_getD]
        have hqE : F.getD (i - nx) pd ∈ N ++ F := by rw [← hq]; exact (mem_getD pd _ _).2 ⟨i, by omega, rfl⟩
        rw [i64_id (x := (i : Int) - (nx : Int)) (by omega) (by omega), show (i : Int) - (nx : Int) = ((i - nx : Nat) : Int) by omega]
        have hj : i - nx < ny := by omega
        refine ⟨by omega, by omega, needPtr_of hA ⟨_, (hc (i - nx) hj).1, _, (hc (i - nx) hj).2, ?_⟩⟩
        have hS5 := hS4.over 0 rfl [.string (F.getD (i - nx) pd).1, .string (F.getD (i - nx) pd).2.1] rfl
        refine ⟨(hS4.blk 0 rfl).can (by decide), ?_⟩
        generalize setCs w4 b4 0 [.string (F.getD (i - nx) pd).1, .string (F.getD (i - nx) pd).2.1] = w5 at *
        have hB5 := hS5.blk 0 rfl
        have hR5 : RdL .str w5 (A, n, c) l := rdS hS5 1 rfl
        refine ⟨_, hB5.cell rfl, Calls.mono (inR hR5 (by omega) _) ?_⟩
        rintro _ w6 ⟨rfl, rfl⟩
        refine ⟨_, rfl, _, hB5.cell rfl, Calls.mono (inR hR5 (by omega) _) ?_⟩
        rintro _ w7 ⟨rfl, rfl⟩
        have hS6 := hS5.tail
        have hinc : IntKind.i64.wrap ((i : Int) + 1) = ((i + 1 : Nat) : Int) := inc i 100000000 (by omega) (by omega)
        rw [hinc]
        refine ⟨_, rfl, sel_of (fun m1 => sel_of (fun m2 => ?_) (fun m2 => ?_)) (fun m1 => ?_)⟩
        · have m1 := (memB_iff _ _).1 m1
          have m2 : ¬ ((F.getD (i - nx) pd).2.1 ∈ l) := fun hm => by rw [(memB_iff _ _).2 hm] at m2; cases m2
          obtain ⟨A', n', c', w9, hrun, hS9⟩ := appS hS6 0 rfl (F.getD (i - nx) pd).2.1 (by omega)
          refine ⟨_, hB5.cell rfl, _, _, _, w9, hrun, rfl, ri - 1, by omega, l ++ [(F.getD (i - nx) pd).2.1], i + 1, rfl, by omega, hS9, by simp [h0], ?_, ?_, by rw [List.length_append]; omega, fun he => ?_⟩
          · intro x hx
            rcases List.mem_append.1 hx with hx | hx
            · exact hr x hx
            · rw [List.mem_singleton] at hx; subst hx; exact .step _ (hr _ m1) hqE rfl
          · rw [List.nodup_append]
            refine ⟨hnd, by simp, ?_⟩
            intro a ha b hb
            rw [List.mem_singleton] at hb; subst hb
            exact fun e => m2 (e ▸ ha)
          · rw [List.length_append, List.length_singleton] at he; omega
        · have m2 : (F.getD (i - nx) pd).2.1 ∈ l := (memB_iff _ _).1 (by simpa using m2)
          refine ⟨rfl, ri - 1, by omega, l, i + 1, rfl, by omega, hS6, h0, hr, hnd, hle, fun he => ⟨(hcl he).1, fun a ha hm => ?_⟩⟩
          rcases Nat.lt_or_ge a i with h1 | h1
          · exact (hcl he).2 a h1 hm
          · have : a = i := by omega
            subst this; rw [hq]; exact m2
        · have m1 : ¬ ((F.getD (i - nx) pd).1 ∈ l) := fun hm => by rw [(memB_iff _ _).2 hm] at m1; cases m1
          refine ⟨rfl, ri - 1, by omega, l, i + 1, rfl, by omega, hS6, h0, hr, hnd, hle, fun he => ⟨(hcl he).1, fun a ha hm => ?_⟩⟩
          rcases Nat.lt_or_ge a i with h1 | h1
          · exact (hcl he).2 a h1 hm
          · have : a = i := by omega
            subst this; rw [hq] at hm; exact absurd hm m1
    · have hi : i = nx + ny := by have := of_decide_eq_false hd; omega
      refine sel_of (fun he => ?_) (fun he => ?_)
      · have he : n = n0 := by have := eq_of_beq he; omega
        obtain ⟨rfl, hcl2⟩ := hcl (by omega)
        refine ⟨(A, n, c), l, rfl, hS3.frame, rdS hS3 0 rfl, isUps_of h0 hr fun q hq hm => ?_, by omega⟩
        obtain ⟨a, ha, rfl⟩ := (mem_getD pd _ _).1 hq
        exact hcl2 a (by omega) hm
      · have he : n ≠ n0 := fun h => by subst h; rw [beq_self_eq_true] at he; cases he
        exact ⟨rfl, nx + ny + 2 - l.length, by omega, l, by omega, hS3, h0, hr, hnd⟩
  · rintro e w' ⟨v, rfl, z, l, rfl, h⟩; exact ⟨z, l, rfl, h⟩
end JG
end Go.Proofs.Ytddbebhklmaeoaa
