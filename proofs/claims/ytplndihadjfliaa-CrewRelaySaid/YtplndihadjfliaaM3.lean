/-
  CREW: the walk of crew.Relay: goroutine 0 starts the row, and takes what comes out of it.
-/
import Derived.Test.YtplndihadjfliaaM2
import Derived.Conc.AppendWalk
import Derived.OwnWalk
import Derived.Laws.NewBlocks
import Derived.Below
set_option linter.unusedSimpArgs false
set_option linter.unusedVariables false
set_option maxHeartbeats 2000000
namespace Go.Proofs.Ytplndihadjfliaa.Net
open Go Go.Conc Go.ConcN Go.Proofs Go.RowKit

theorem Try.info3 : (Try.prog.info? 3).map (fun i => (i.zero, i.size, i.bytes)) = some (some (.int .i64 0), 1, 8) := by kernel_rfl

noncomputable def body8 : Code := Try.f8.body.getD .skip
noncomputable def tail8a : Code := match body8 with | .seq _ (.seq _ (.seq _ r)) => r | _ => .skip
noncomputable def ops8g : Array Oper := match tail8a with | .seq (.region _ ops _) _ => ops | _ => #[]
noncomputable def tail8b : Code := match tail8a with | .seq _ r => r | _ => .skip
noncomputable def L8a : Code := match tail8b with | .seq _ (.seq (.seq _ (.block _ (.loop c))) _) => c | _ => .skip
noncomputable def rest8 : Code := match tail8b with | .seq _ (.seq _ r) => r | _ => .skip
noncomputable def B8 : Code := match L8a with | .seq _ (.seq _ (.seq (.block _ c) _)) => c | _ => .skip
noncomputable def ops8f : Array Oper := match B8 with | .seq _ (.seq _ (.seq (.region _ ops _) _)) => ops | _ => #[]
noncomputable def B8r : Code := match B8 with | .seq _ (.seq _ (.seq _ r)) => r | _ => .skip
noncomputable def R8 : Code := match L8a with | .seq _ (.seq _ (.seq _ r)) => r | _ => .skip
noncomputable def L8b : Code := match rest8 with | .seq _ (.seq (.seq _ (.block _ (.loop c))) _) => c | _ => .skip
noncomputable def ops8r : Array Oper := match L8b with | .seq (.region _ ops _) _ => ops | _ => #[]
noncomputable def L8br : Code := match L8b with | .seq _ r => r | _ => .skip
noncomputable def end8 : Code := match rest8 with | .seq _ (.seq _ r) => r | _ => .skip

/-- The row's channels: the source's, then one a hand. -/
def chL (N : Nat) (ch : List Nat) : Nat → List Nat
  | 0 => (N + 1) :: ch
  | k + 1 => (N + 3 + k) :: chL N ch k
def chA (N : Nat) : Nat → Nat
  | 0 => N + 1
  | k + 1 => N + 3 + k
/-- What the row's hands are still to be. -/
def lst (N : Nat) : Nat → List Int → List (Nat × (Value → Value))
  | _, [] => []
  | k, d :: ds => (N + 3 + k, addV d) :: lst N (k + 1) ds

theorem chL_mem {N : Nat} {ch : List Nat} : ∀ {k c : Nat}, c ∈ chL N ch k → c ∈ ch ∨ c = N + 1 ∨ (N + 3 ≤ c ∧ c < N + 3 + k)
  | 0, c, h => by
    rcases List.mem_cons.1 h with h | h
    · exact .inr (.inl h)
    · exact .inl h
  | k + 1, c, h => by
    rcases List.mem_cons.1 h with h | h
    · exact .inr (.inr (by omega))
    · rcases chL_mem h with h | h | h
      · exact .inl h
      · exact .inr (.inl h)
      · exact .inr (.inr (by omega))

theorem DM_of_below {B : Nat} {T ch : List Nat} (hT : ∀ b ∈ T, b < B ∨ B = 0) (hc : ∀ c ∈ ch, c < B ∨ B = 0) {w w' : World} {es : Array Event} (h : Below B w w') (he : ∀ e ∈ es, EvM T e) (h0 : B = 0 → w' = w := by intro _; first | rfl | omega) : DM T ch w w' es :=
  ⟨fun b hb => by rcases hT b hb with h1 | h1; exact h.block b h1; rw [h0 h1], fun b hb => by rcases hc b hb with h1 | h1; exact h.block b h1; rw [h0 h1], he⟩

theorem evM_read {T : List Nat} (l : Loc) (s : Bool) (h : ∀ m, l = .mark m → Neutral m) : EvM T ⟨l, false, s⟩ := ⟨h, fun h => by cases h⟩
theorem evM_write {T : List Nat} (a : Addr) (s : Bool) (h : a.block ∉ T) : EvM T ⟨.cell a, true, s⟩ :=
  ⟨fun m h => (by cases h), fun _ hi => by
    rcases hi with ⟨b, hb, hT⟩ | ⟨c, hc⟩
    · cases hb; exact h hT
    · cases hc⟩

/-- WHAT GOROUTINE 0 KNOWS OF THE WORLD in Relay. W: the world at the call's entry, of N blocks; ch: the channels that were there; lo: where what it makes itself begins. -/
structure RK (N : Nat) (W : World) (ch : List Nat) (a0 : Option Addr) (n cap : Nat) (b0 : Option Addr) (m : Nat) (ds : List Int) (lo : Nat) (out : Value) (xs : List Value) (w : World) : Prop where
  os : w.os = W.os
  tape : w.tape = W.tape
  output : w.output = W.output
  lo3 : N + 3 ≤ lo
  size : lo ≤ w.heap.size
  old : ∀ b, b < N → b ∉ ch → w.heap[b]? = W.heap[b]?
  bxv : w.cell? ⟨N, 0, none⟩ = some (.slice a0 n cap)
  clv : w.cell? ⟨N + 2, 0, none⟩ = some (.chan (some (N + 1)))
  chN : ∀ c ∈ ch, c < N
  adb : ∀ ad, b0 = some ad → 0 < m → ad.block < N ∧ ad.block ∉ ch
  adl : ∀ j ad, j < m → b0 = some ad → w.cell? (ad.add j) = some (.int .i64 (ds[j]?.getD 0))
  own : w.ownsRow lo 3 1 out xs.length xs

section
variable {N : Nat} {W : World} {ch : List Nat} {a0 : Option Addr} {n cap : Nat} {b0 : Option Addr} {m : Nat} {ds : List Int} {lo : Nat} {out : Value} {xs : List Value} {w w₁ : World}

theorem RK.rely {ch' : List Nat} (hc : ∀ c ∈ ch', c ∈ ch ∨ c = N + 1 ∨ (N + 3 ≤ c ∧ c < lo)) (h : RK N W ch a0 n cap b0 m ds lo out xs w) (r : RC ch' w w₁) : RK N W ch a0 n cap b0 m ds lo out xs w₁ := by
  have hb : ∀ b, b < N → b ∉ ch → b ∉ ch' := fun b h1 h2 h3 => by rcases hc b h3 with h4 | h4 | h4 <;> first | exact h2 h4 | omega
  have hl := h.lo3
  have hchN := h.chN
  refine ⟨r.os.trans h.os, r.tape.trans h.tape, r.output.trans h.output, h.lo3, by rw [r.size]; exact h.size, fun b h1 h2 => (r.block b (hb b h1 h2)).trans (h.old b h1 h2), ?_, ?_, h.chN, h.adb, fun j ad hj ha => ?_, h.own.1, ?_⟩
  · exact (World.cell?_of_block (r.block N fun h3 => by rcases hc N h3 with h4 | h4 | h4 <;> first | (have := hchN _ h4; omega) | omega)).trans h.bxv
  · exact (World.cell?_of_block (r.block (N + 2) fun h3 => by rcases hc (N + 2) h3 with h4 | h4 | h4 <;> first | (have := hchN _ h4; omega) | omega)).trans h.clv
  · obtain ⟨h1, h2⟩ := h.adb ad ha (by omega)
    exact (World.cell?_of_block (by rw [addBlock]; exact r.block _ (hb _ h1 h2))).trans (h.adl j ad hj ha)
  · rcases h.own.2 with h0 | ⟨g, cp, cur, e, hg, hh, x⟩
    · exact .inl h0
    · exact .inr ⟨g, cp, cur, e, hg, (r.block g fun h3 => by rcases hc g h3 with h4 | h4 | h4 <;> first | (have := hchN _ h4; omega) | omega).trans hh, x⟩

theorem RK.below {B : Nat} {out' : Value} {xs' : List Value} (h : RK N W ch a0 n cap b0 m ds lo out xs w) (hb : Below B w w₁) (hB : N + 3 ≤ B) (ho : w₁.ownsRow lo 3 1 out' xs'.length xs') : RK N W ch a0 n cap b0 m ds lo out' xs' w₁ :=
  ⟨hb.os.trans h.os, hb.tape.trans h.tape, hb.output.trans h.output, h.lo3, Nat.le_trans h.size hb.size, fun b h1 h2 => (hb.block b (by omega)).trans (h.old b h1 h2), (hb.cell (by show N < B; omega)).trans h.bxv, (hb.cell (by show N + 2 < B; omega)).trans h.clv, h.chN, h.adb,
    fun j ad hj ha => (hb.cell (by rw [addBlock]; have := (h.adb ad ha (by omega)).1; omega)).trans (h.adl j ad hj ha), ho⟩

theorem RK.alloc (h : RK N W ch a0 n cap b0 m ds lo out xs w) (o : Obj) : RK N W ch a0 n cap b0 m ds lo out xs (w.alloc o) :=
  h.below (B := lo) ((Below.refl _ _).alloc h.size o) h.lo3 (h.own.alloc o)

/-- Ahead of the first append what it makes begins where it likes. -/
theorem RK.up {lo' : Nat} (h : RK N W ch a0 n cap b0 m ds lo (.slice none 0 0) [] w) (hl : lo ≤ lo') (hs : lo' ≤ w.heap.size) : RK N W ch a0 n cap b0 m ds lo' (.slice none 0 0) [] w :=
  ⟨h.os, h.tape, h.output, Nat.le_trans h.lo3 hl, hs, h.old, h.bxv, h.clv, h.chN, h.adb, h.adl, World.ownsRow_nil _ _ _ _⟩
end

/-- Where goroutine 0 stands that has this script to follow. -/
def stopM (P : Program) (z : Nat → Value) (Post : List Nat → List Nat → Goroutine → World → Prop) : List Do → List Nat → List Nat → Goroutine → World → Prop
  | [] => fun T ch => AtEnd Post T ch
  | .pr p :: al => fun T ch g' w' => AtP P z true (RC ch) (EvM T) (FollowM P z Post al T ch) g' w' p
  | .fork T' cs kid :: al => fun T ch => AtFork P z T ch T' cs kid (FollowM P z Post al (T' ++ T) (cs ++ ch))
theorem followM_iff {P : Program} {z : Nat → Value} {Post : List Nat → List Nat → Goroutine → World → Prop} {al : List Do} {T ch : List Nat} {g : Goroutine} {w : World} :
    FollowM P z Post al T ch g w ↔ ∃ n, Goes P true (RC ch) (DM T ch) (stopM P z Post al T ch) n g w := by
  cases al with
  | nil => exact Iff.rfl
  | cons x al => cases x <;> exact Iff.rfl


section
variable (N : Nat) (W : World) (T ch : List Nat) (a0 : Option Addr) (n cap : Nat) (b0 : Option Addr) (m capb : Nat) (ds : List Int) (cs : List Frame)

noncomputable def head8a (ci k : Nat) (u3 u4 u7 u8 u9 u10 u11 u12 u13 u14 u15 u16 u17 u21 u22 u23 u24 u25 u26 u27 u28 u29 u30 u31 u32 u33 u34 u35 u36 u37 u38 : Value) : Goroutine :=
  G ((base 8).at ⟨#[.slice a0 n cap, .slice b0 m capb, .pointer (some ⟨N, 0, none⟩), u3, u4, .pointer (some ⟨N + 2, 0, none⟩), .chan (some ci), u7, u8, u9, u10, u11, u12, u13, u14, u15, u16, u17, .slice b0 m capb, .int .i64 m, .int .i64 k, u21, u22, u23, u24, u25, u26, u27, u28, u29, u30, u31, u32, u33, u34, u35, u36, u37, u38], []⟩ [.code L8a, .inLoop L8a, .inBlock 0, .code rest8]) cs
noncomputable def fork8 (ci k : Nat) (u3 u4 u7 u10 u11 u12 u13 u14 u15 u16 u17 u21 u22 u23 u24 u28 u29 u30 u31 u32 u33 u34 u35 u36 u37 u38 : Value) (rest : List Nat) : Goroutine :=
  G ((base 8).at ⟨#[.slice a0 n cap, .slice b0 m capb, .pointer (some ⟨N, 0, none⟩), u3, u4, .pointer (some ⟨N + 2, 0, none⟩), .chan (some ci), u7, iv (ds[k]?.getD 0), .chan (some (N + 3 + k)), u10, u11, u12, u13, u14, u15, u16, u17, .slice b0 m capb, .int .i64 m, .int .i64 k, u21, u22, u23, u24, iv (ds[k]?.getD 0), .chan (some ci), .chan (some (N + 3 + k)), u28, u29, u30, u31, u32, u33, u34, u35, u36, u37, u38], []⟩ [.inRegion ops8f rest, .code B8r, .inBlock 1, .code R8, .inLoop L8a, .inBlock 0, .code rest8]) cs
noncomputable def head8b (ci : Nat) (out : Value) (u0 u1 u2 u3 u4 u5 u6 u7 u8 u9 u11 u12 u13 u14 u15 u16 u17 u18 u19 u20 u21 u22 u23 u24 u25 u26 u27 u28 u29 u31 u32 u33 u34 u35 u36 u37 u38 : Value) : Goroutine :=
  G ((base 8).at ⟨#[u0, u1, u2, u3, u4, u5, u6, u7, u8, u9, out, u11, u12, u13, u14, u15, u16, u17, u18, u19, u20, u21, u22, u23, u24, u25, u26, u27, u28, u29, .chan (some ci), u31, u32, u33, u34, u35, u36, u37, u38], []⟩ [.code L8b, .inLoop L8b, .inBlock 2, .code end8]) cs
noncomputable def rcv8 (ci : Nat) (out : Value) (u0 u1 u2 u3 u4 u5 u6 u7 u8 u9 u11 u12 u13 u14 u15 u16 u17 u18 u19 u20 u21 u22 u23 u24 u25 u26 u27 u28 u29 u31 u32 u33 u34 u35 u36 u37 u38 : Value) (rest : List Nat) : Goroutine :=
  G ((base 8).at ⟨#[u0, u1, u2, u3, u4, u5, u6, u7, u8, u9, out, u11, u12, u13, u14, u15, u16, u17, u18, u19, u20, u21, u22, u23, u24, u25, u26, u27, u28, u29, .chan (some ci), u31, u32, u33, u34, u35, u36, u37, u38], []⟩ [.inRegion ops8r rest, .code L8br, .inLoop L8b, .inBlock 2, .code end8]) cs


set_option maxRecDepth 100000 in
/-- From the head to the receive. -/
theorem seg8_rcv (T' ch' : List Nat) (Stop : Goroutine → World → Prop) (n₀ ci lo : Nat) (out : Value) (xs : List Value) (hcs : ∀ c ∈ ch', c ∈ ch ∨ c = N + 1 ∨ (N + 3 ≤ c ∧ c < lo)) (u0 u1 u2 u3 u4 u5 u6 u7 u8 u9 u11 u12 u13 u14 u15 u16 u17 u18 u19 u20 u21 u22 u23 u24 u25 u26 u27 u28 u29 u31 u32 u33 u34 u35 u36 u37 u38 : Value) (w : World) (hF : RK N W ch a0 n cap b0 m ds lo out xs w)
    (next : ∀ (u0 u1 u2 u3 u4 u5 u6 u7 u8 u9 u11 u12 u13 u14 u15 u16 u17 u18 u19 u20 u21 u22 u23 u24 u25 u26 u27 u28 u29 u31 u32 u33 u34 u35 u36 u37 u38 : Value) w', RK N W ch a0 n cap b0 m ds lo out xs w' → Goes Try.prog true (RC ch') (DM T' ch') Stop n₀ (rcv8 cs ci out u0 u1 u2 u3 u4 u5 u6 u7 u8 u9 u11 u12 u13 u14 u15 u16 u17 u18 u19 u20 u21 u22 u23 u24 u25 u26 u27 u28 u29 u31 u32 u33 u34 u35 u36 u37 u38 [0, 1]) w') : Goes Try.prog true (RC ch') (DM T' ch') Stop (n₀ + 10) (head8b cs ci out u0 u1 u2 u3 u4 u5 u6 u7 u8 u9 u11 u12 u13 u14 u15 u16 u17 u18 u19 u20 u21 u22 u23 u24 u25 u26 u27 u28 u29 u31 u32 u33 u34 u35 u36 u37 u38) w := by
  have hTl : ∀ b ∈ T', b < 0 ∨ 0 = 0 := fun _ _ => .inr rfl
  have hcl : ∀ b ∈ ch', b < 0 ∨ 0 = 0 := fun _ _ => .inr rfl
  simp only [head8b, rcv8, ops8r, L8br, L8b, end8, rest8, tail8b, tail8a, body8, Try.f8, Option.getD_some] at next ⊢
  (refine Goes.step rfl (fun _ h₁ => ?_); walk_rw; refine ⟨DM_of_below (B := 0) hTl hcl (Below.refl _ _) (by simp), ?_⟩; replace hF := hF.rely hcs h₁; clear h₁)
  (refine Goes.step rfl (fun _ h₁ => ?_); walk_rw; refine ⟨DM_of_below (B := 0) hTl hcl (Below.refl _ _) (by simp), ?_⟩; replace hF := hF.rely hcs h₁; clear h₁)
  refine Goes.mono (n := n₀) ?_ (by omega)
  exact next _ _ _ _ _ _ _ _ _ _ _ _ _ _ _ _ _ _ _ _ _ _ _ _ _ _ _ _ _ _ _ _ _ _ _ _ _ _ hF

set_option maxRecDepth 100000 in
/-- ONE ROUND: from behind the receive of x to the head: out owns one value more. -/
theorem seg8_round (T' ch' : List Nat) (Stop : Goroutine → World → Prop) (n₀ ci lo : Nat) (out : Value) (xs : List Value) (x : Int) (hcs : ∀ c ∈ ch', c ∈ ch ∨ c = N + 1 ∨ (N + 3 ≤ c ∧ c < lo)) (hT : ∀ b ∈ T', b < lo) (hlen : (xs.length + 1) * 8 ≤ 140737488355328)
    (u0 u1 u2 u3 u4 u5 u6 u7 u8 u9 u11 u12 u13 u14 u15 u16 u17 u18 u19 u20 u21 u22 u23 u24 u25 u26 u27 u28 u29 u32 u33 u34 u35 u36 u37 u38 : Value) (w : World) (hF : RK N W ch a0 n cap b0 m ds lo out xs w)
    (next : ∀ (out : Value) (u0 u1 u2 u3 u4 u5 u6 u7 u8 u9 u11 u12 u13 u14 u15 u16 u17 u18 u19 u20 u21 u22 u23 u24 u25 u26 u27 u28 u29 u31 u32 u33 u34 u35 u36 u37 u38 : Value) w', RK N W ch a0 n cap b0 m ds lo out (xs ++ [iv x]) w' → Goes Try.prog true (RC ch') (DM T' ch') Stop n₀ (head8b cs ci out u0 u1 u2 u3 u4 u5 u6 u7 u8 u9 u11 u12 u13 u14 u15 u16 u17 u18 u19 u20 u21 u22 u23 u24 u25 u26 u27 u28 u29 u31 u32 u33 u34 u35 u36 u37 u38) w') : Goes Try.prog true (RC ch') (DM T' ch') Stop (n₀ + 60) (rcv8 cs ci out u0 u1 u2 u3 u4 u5 u6 u7 u8 u9 u11 u12 u13 u14 u15 u16 u17 u18 u19 u20 u21 u22 u23 u24 u25 u26 u27 u28 u29 (.tuple #[iv x, .bool true]) u32 u33 u34 u35 u36 u37 u38 [1]) w := by
  have hTl : ∀ b ∈ T', b < 0 ∨ 0 = 0 := fun _ _ => .inr rfl
  have hcl : ∀ b ∈ ch', b < 0 ∨ 0 = 0 := fun _ _ => .inr rfl
  have hT2 : ∀ b ∈ T', b < lo ∨ lo = 0 := fun b hb => .inl (hT b hb)
  have hc2 : ∀ b ∈ ch', b < lo ∨ lo = 0 := fun b hb => .inl (by have := hF.lo3; rcases hcs b hb with h | h | h <;> first | (have := hF.chN b h; omega) | omega)
  have hlo : lo = 0 → False := fun h => by have := hF.lo3; omega
  simp only [head8b, rcv8, ops8r, L8br, L8b, end8, rest8, tail8b, tail8a, body8, Try.f8, Option.getD_some] at next ⊢
  repeat (first | (refine Goes.step rfl (fun _ h₁ => ?_); walk_rw; refine ⟨DM_of_below (B := 0) hTl hcl (Below.refl _ _) (by simp), ?_⟩; replace hF := hF.rely hcs h₁; clear h₁) | (refine Goes.step rfl (fun w₁ h₁ => ?_); replace hF := hF.rely hcs h₁; clear h₁; refine goes_oper_k rfl rfl (by decide) (fun K hK => ?_); have hx := hF.bxv; have hch := hF.clv; have hel := hF.adl; go_simp; refine hK _ _ ⟨DM_of_below (B := 0) hTl hcl (Below.refl _ _) (fun e he => ?_), ?_⟩; (focus (have hm := mem_listed he; (simp [go_sem, *] at hm); (try (subst hm; exact evM_read _ _ (by simp))))); (clear hK K hx hch hel); (try walk_nrm)))
  (refine Goes.step rfl (fun _ h₁ => ?_); rw [stepG_cond (t := true) rfl]; simp only [goes_go, if_true, if_false, Bool.false_eq_true, ↓reduceIte]; refine ⟨DM_of_below (B := 0) hTl hcl (Below.refl _ _) (by simp), ?_⟩; replace hF := hF.rely hcs h₁; clear h₁)
  repeat (first | (refine Goes.step rfl (fun _ h₁ => ?_); walk_rw; refine ⟨DM_of_below (B := 0) hTl hcl (Below.refl _ _) (by simp), ?_⟩; replace hF := hF.rely hcs h₁; clear h₁) | (refine Goes.step rfl (fun w₁ h₁ => ?_); replace hF := hF.rely hcs h₁; clear h₁; refine goes_oper_k rfl rfl (by decide) (fun K hK => ?_); have hx := hF.bxv; have hch := hF.clv; have hel := hF.adl; go_simp; refine hK _ _ ⟨DM_of_below (B := 0) hTl hcl (Below.refl _ _) (fun e he => ?_), ?_⟩; (focus (have hm := mem_listed he; (simp [go_sem, *] at hm); (try (subst hm; exact evM_read _ _ (by simp))))); (clear hK K hx hch hel); (try walk_nrm)))
  refine Goes.step rfl (fun w₁ h₁ => ?_)
  replace hF := hF.rely hcs h₁
  clear h₁
  refine goes_oper_k rfl rfl (by decide) (fun K hK => ?_)
  go_simp
  refine hK _ _ ⟨DM_of_below hT2 hc2 ((Below.refl _ _).alloc hF.size _) (fun e he => ?_) (fun h => (hlo h).elim), ?_⟩
  · have hm := mem_listed he
    simp [go_sem] at hm
  clear hK K
  have hsz := hF.size
  have hnew : (w₁.alloc (.cells #[.int .i64 x] 3)).cell? ⟨w₁.heap.size, 0, none⟩ = some (.int .i64 x) := by
    rw [World.cell?_alloc_at _ _ _ _ rfl]; rfl
  replace hF := hF.alloc (.cells #[.int .i64 x] 3)
  refine Goes.step rfl (fun w₂ h₂ => ?_)
  replace hF := hF.rely hcs h₂
  have hnc : w₁.heap.size ∉ ch' := fun h => by have := hF.lo3; rcases hcs _ h with h | h | h <;> first | (have := hF.chN _ h; omega) | omega
  replace hnew : w₂.cell? ⟨w₁.heap.size, 0, none⟩ = some (.int .i64 x) := (World.cell?_of_block (h₂.block _ hnc)).trans hnew
  clear h₂
  obtain ⟨i0, hi, hz0, hz1, hz2⟩ := info_parts Try.info3
  have hnews : ∀ j u, [Value.int .i64 x][j]? = some u → w₂.cell? ((⟨w₁.heap.size, 0, none⟩ : Addr).add j) = some u := by
    intro j u hj
    match j, hj with
    | 0, hj => simp at hj; subst hj; simpa [Addr.add] using hnew
  have h1 : ∀ u ∈ [Value.int .i64 x], u.oneCell' = true := by intro u hu; simp at hu; subst hu; rfl
  have h63 : xs.length + 1 ≤ maxLen := by simp only [maxLen]; omega
  obtain ⟨out', w₃, hr, hown', hgrow, _⟩ := run_append_own (P := Try.prog) w₂ lo 22 22 3 i0 (.int .i64 0) 1 8 Try.underlying22 hi hz0 hz1 hz2 rfl (by decide) out xs.length xs hF.own ⟨w₁.heap.size, 0, none⟩ 1 1 [.int .i64 x] rfl hnews h1 h63 hlen hF.size
  have hevs := events_append_own (P := Try.prog) w₂ lo 22 22 3 i0 (.int .i64 0) 1 8 Try.underlying22 hi hz0 hz1 hz2 out xs.length xs hF.own ⟨w₁.heap.size, 0, none⟩ 1 1 [.int .i64 x] rfl hnews h1 h63 hlen
  have hbel : Below lo w₂ w₃ := (Below.refl _ _).grown hgrow hF.size (fun k hk => (hF.own.lt k hk).1)
  refine goes_oper_k rfl rfl (by decide) (fun K hK => ?_)
  refine uponK_append (.tmp 34) (.tmp 36) 22 rfl rfl rfl hr (hK _ _ ⟨DM_of_below hT2 hc2 hbel (fun e he => ?_) (fun h => (hlo h).elim), ?_⟩)
  · have hm := mem_listed he
    rw [events_append_op (.tmp 34) (.tmp 36) 22 rfl rfl rfl] at hm
    rcases hevs e hm with ⟨ad, h2, h3⟩ | ⟨ad, h2, h3⟩ | ⟨m, rfl, hn⟩
    · obtain ⟨l, wr, sy⟩ := e
      simp only at h2 h3
      subst h2 h3
      exact evM_read _ _ (by simp)
    · obtain ⟨l, wr, sy⟩ := e
      simp only at h2
      subst h2
      refine ⟨fun m h => (by cases h), fun _ hi => ?_⟩
      rcases hi with ⟨b, hb, hb2⟩ | ⟨c, hc⟩
      · cases hb; have := hT _ hb2; have := (hF.own.lt _ h3.symm).1; omega
      · cases hc
    · exact ⟨fun m' h' => (by cases h'; exact hn), fun hw => (by cases hw)⟩
  clear hK K
  replace hF : RK N W ch a0 n cap b0 m ds lo out' (xs ++ [.int .i64 x]) w₃ := hF.below hbel hF.lo3 (by simpa using hown')
  clear hr hown' hgrow hevs hnews hnew hbel
  (refine Goes.step rfl (fun w₁ h₁ => ?_); replace hF := hF.rely hcs h₁; clear h₁; refine goes_oper_k rfl rfl (by decide) (fun K hK => ?_); have hx := hF.bxv; have hch := hF.clv; have hel := hF.adl; go_simp; refine hK _ _ ⟨DM_of_below (B := 0) hTl hcl (Below.refl _ _) (fun e he => ?_), ?_⟩; (focus (have hm := mem_listed he; (simp [go_sem, *] at hm); (try (subst hm; exact evM_read _ _ (by simp))))); (clear hK K hx hch hel); (try walk_nrm))
  (refine Goes.step rfl (fun _ h₁ => ?_); walk_rw; refine ⟨DM_of_below (B := 0) hTl hcl (Below.refl _ _) (by simp), ?_⟩; replace hF := hF.rely hcs h₁; clear h₁)
  (refine Goes.step rfl (fun _ h₁ => ?_); walk_rw; refine ⟨DM_of_below (B := 0) hTl hcl (Below.refl _ _) (by simp), ?_⟩; replace hF := hF.rely hcs h₁; clear h₁)
  (refine Goes.step rfl (fun _ h₁ => ?_); walk_rw; refine ⟨DM_of_below (B := 0) hTl hcl (Below.refl _ _) (by simp), ?_⟩; replace hF := hF.rely hcs h₁; clear h₁)
  refine Goes.mono (n := n₀) ?_ (by omega)
  exact next _ _ _ _ _ _ _ _ _ _ _ _ _ _ _ _ _ _ _ _ _ _ _ _ _ _ _ _ _ _ _ _ _ _ _ _ _ _ _ hF

set_option maxRecDepth 100000 in
/-- From behind the receive that found the channel closed to the caller. -/
theorem seg8_end (T' ch' : List Nat) (Stop : Goroutine → World → Prop) (n₀ ci lo : Nat) (out : Value) (xs : List Value) (hcs : ∀ c ∈ ch', c ∈ ch ∨ c = N + 1 ∨ (N + 3 ≤ c ∧ c < lo))
    (bC : Frame) (aC : Act) (opsC : Array Oper) (iC : Nat) (restC : List Nat) (kC : List Item) (csC : List Frame) (hcs0 : cs = bC.at aC (.inRegion opsC (iC :: restC) :: kC) :: csC)
    (u0 u1 u2 u3 u4 u5 u6 u7 u8 u9 u11 u12 u13 u14 u15 u16 u17 u18 u19 u20 u21 u22 u23 u24 u25 u26 u27 u28 u29 u32 u33 u34 u35 u36 u37 u38 : Value) (w : World) (hF : RK N W ch a0 n cap b0 m ds lo out xs w)
    (next : ∀ w', RK N W ch a0 n cap b0 m ds lo out xs w' → Goes Try.prog true (RC ch') (DM T' ch') Stop n₀ (G (bC.at (aC.put ((opsC[iC]?).bind (·.dst)) out) (.inRegion opsC restC :: kC)) csC) w') : Goes Try.prog true (RC ch') (DM T' ch') Stop (n₀ + 40) (rcv8 cs ci out u0 u1 u2 u3 u4 u5 u6 u7 u8 u9 u11 u12 u13 u14 u15 u16 u17 u18 u19 u20 u21 u22 u23 u24 u25 u26 u27 u28 u29 (.tuple #[iv 0, .bool false]) u32 u33 u34 u35 u36 u37 u38 [1]) w := by
  have hTl : ∀ b ∈ T', b < 0 ∨ 0 = 0 := fun _ _ => .inr rfl
  have hcl : ∀ b ∈ ch', b < 0 ∨ 0 = 0 := fun _ _ => .inr rfl
  subst hcs0
  simp only [rcv8, ops8r, L8br, L8b, end8, rest8, tail8b, tail8a, body8, Try.f8, Option.getD_some]
  repeat (first | (refine Goes.step rfl (fun _ h₁ => ?_); walk_rw; refine ⟨DM_of_below (B := 0) hTl hcl (Below.refl _ _) (by simp), ?_⟩; replace hF := hF.rely hcs h₁; clear h₁) | (refine Goes.step rfl (fun w₁ h₁ => ?_); replace hF := hF.rely hcs h₁; clear h₁; refine goes_oper_k rfl rfl (by decide) (fun K hK => ?_); have hx := hF.bxv; have hch := hF.clv; have hel := hF.adl; go_simp; refine hK _ _ ⟨DM_of_below (B := 0) hTl hcl (Below.refl _ _) (fun e he => ?_), ?_⟩; (focus (have hm := mem_listed he; (simp [go_sem, *] at hm); (try (subst hm; exact evM_read _ _ (by simp))))); (clear hK K hx hch hel); (try walk_nrm)))
  (refine Goes.step rfl (fun _ h₁ => ?_); rw [stepG_cond (t := false) rfl]; simp only [goes_go, if_true, if_false, Bool.false_eq_true, ↓reduceIte]; refine ⟨DM_of_below (B := 0) hTl hcl (Below.refl _ _) (by simp), ?_⟩; replace hF := hF.rely hcs h₁; clear h₁)
  (refine Goes.step rfl (fun _ h₁ => ?_); apply goes_exit; (focus rfl); refine ⟨DM_of_below (B := 0) hTl hcl (Below.refl _ _) (by simp), ?_⟩; replace hF := hF.rely hcs h₁; clear h₁)
  repeat (first | (refine Goes.step rfl (fun _ h₁ => ?_); walk_rw; refine ⟨DM_of_below (B := 0) hTl hcl (Below.refl _ _) (by simp), ?_⟩; replace hF := hF.rely hcs h₁; clear h₁) | (refine Goes.step rfl (fun w₁ h₁ => ?_); replace hF := hF.rely hcs h₁; clear h₁; refine goes_oper_k rfl rfl (by decide) (fun K hK => ?_); have hx := hF.bxv; have hch := hF.clv; have hel := hF.adl; go_simp; refine hK _ _ ⟨DM_of_below (B := 0) hTl hcl (Below.refl _ _) (fun e he => ?_), ?_⟩; (focus (have hm := mem_listed he; (simp [go_sem, *] at hm); (try (subst hm; exact evM_read _ _ (by simp))))); (clear hK K hx hch hel); (try walk_nrm)))
  refine Goes.step rfl (fun w₁ h₁ => ?_)
  replace hF := hF.rely hcs h₁
  apply goes_leave1 rfl rfl Try.func8 (by simp only [Try.f8]; rfl)
  refine ⟨DM_of_below (B := 0) hTl hcl (Below.refl _ _) (by simp), ?_⟩
  refine Goes.mono (n := n₀) ?_ (by omega)
  exact next _ hF

set_option maxRecDepth 100000 in
theorem at8_rcv {Post : List Nat → List Nat → Goroutine → World → Prop} (T' ch' : List Nat) (ci : Nat) (out : Value) (x : Int) (al : List Do) (u0 u1 u2 u3 u4 u5 u6 u7 u8 u9 u11 u12 u13 u14 u15 u16 u17 u18 u19 u20 u21 u22 u23 u24 u25 u26 u27 u28 u29 u31 u32 u33 u34 u35 u36 u37 u38 : Value) (w : World)
    (next : ∀ w₂, RC ch' w w₂ → FollowM Try.prog zi Post al T' ch' (rcv8 cs ci out u0 u1 u2 u3 u4 u5 u6 u7 u8 u9 u11 u12 u13 u14 u15 u16 u17 u18 u19 u20 u21 u22 u23 u24 u25 u26 u27 u28 u29 (.tuple #[iv x, .bool true]) u32 u33 u34 u35 u36 u37 u38 [1]) w₂) :
    stopM Try.prog zi Post (.pr (.rcv ci (iv x)) :: al) T' ch' (rcv8 cs ci out u0 u1 u2 u3 u4 u5 u6 u7 u8 u9 u11 u12 u13 u14 u15 u16 u17 u18 u19 u20 u21 u22 u23 u24 u25 u26 u27 u28 u29 u31 u32 u33 u34 u35 u36 u37 u38 [0, 1]) w :=
  atRcv_of (z := zi) (ops := ops8r) (o := { dst := some 31, op := .recv 34 (.tmp 30) true, type := 0, pos := "crew.go:82", after := #[], guard := none }) rfl rfl (by decide) (by simp [go_sem, rcase, zi]) (by simp [go_sem]) fun w₂ h₂ => next w₂ h₂

set_option maxRecDepth 100000 in
theorem at8_eof {Post : List Nat → List Nat → Goroutine → World → Prop} (T' ch' : List Nat) (ci : Nat) (out : Value) (al : List Do) (u0 u1 u2 u3 u4 u5 u6 u7 u8 u9 u11 u12 u13 u14 u15 u16 u17 u18 u19 u20 u21 u22 u23 u24 u25 u26 u27 u28 u29 u31 u32 u33 u34 u35 u36 u37 u38 : Value) (w : World)
    (next : ∀ w₂, RC ch' w w₂ → FollowM Try.prog zi Post al T' ch' (rcv8 cs ci out u0 u1 u2 u3 u4 u5 u6 u7 u8 u9 u11 u12 u13 u14 u15 u16 u17 u18 u19 u20 u21 u22 u23 u24 u25 u26 u27 u28 u29 (.tuple #[iv 0, .bool false]) u32 u33 u34 u35 u36 u37 u38 [1]) w₂) :
    stopM Try.prog zi Post (.pr (.eof ci) :: al) T' ch' (rcv8 cs ci out u0 u1 u2 u3 u4 u5 u6 u7 u8 u9 u11 u12 u13 u14 u15 u16 u17 u18 u19 u20 u21 u22 u23 u24 u25 u26 u27 u28 u29 u31 u32 u33 u34 u35 u36 u37 u38 [0, 1]) w :=
  atEof_of (z := zi) (ops := ops8r) (o := { dst := some 31, op := .recv 34 (.tmp 30) true, type := 0, pos := "crew.go:82", after := #[], guard := none }) rfl rfl (by decide) (by simp [go_sem, rcase, zi]) (by simp [go_sem]) fun w₂ h₂ => next w₂ h₂

/-- IT TAKES ALL THAT COMES. -/
theorem loop8b {Post : List Nat → List Nat → Goroutine → World → Prop} (T' ch' : List Nat) (ci lo : Nat) (hcs : ∀ c ∈ ch', c ∈ ch ∨ c = N + 1 ∨ (N + 3 ≤ c ∧ c < lo)) (hT : ∀ b ∈ T', b < lo)
    (bC : Frame) (aC : Act) (opsC : Array Oper) (iC : Nat) (restC : List Nat) (kC : List Item) (csC : List Frame) (hcs0 : cs = bC.at aC (.inRegion opsC (iC :: restC) :: kC) :: csC) (all : List Value)
    (hPost : ∀ out w, RK N W ch a0 n cap b0 m ds lo out all w → Post T' ch' (G (bC.at (aC.put ((opsC[iC]?).bind (·.dst)) out) (.inRegion opsC restC :: kC)) csC) w) :
    ∀ (ys : List Int) (xs : List Value), xs ++ ys.map iv = all → (xs.length + ys.length) * 8 ≤ 140737488355328 → ∃ n₁, ∀ (out : Value) (u0 u1 u2 u3 u4 u5 u6 u7 u8 u9 u11 u12 u13 u14 u15 u16 u17 u18 u19 u20 u21 u22 u23 u24 u25 u26 u27 u28 u29 u31 u32 u33 u34 u35 u36 u37 u38 : Value) w, RK N W ch a0 n cap b0 m ds lo out xs w →
      Goes Try.prog true (RC ch') (DM T' ch') (stopM Try.prog zi Post (mains ci (ys.map iv) []) T' ch') n₁ (head8b cs ci out u0 u1 u2 u3 u4 u5 u6 u7 u8 u9 u11 u12 u13 u14 u15 u16 u17 u18 u19 u20 u21 u22 u23 u24 u25 u26 u27 u28 u29 u31 u32 u33 u34 u35 u36 u37 u38) w := by
  intro ys
  induction ys with
  | nil =>
    intro xs hall hlen
    have hall : xs = all := by simpa using hall
    subst hall
    refine ⟨0 + 10, fun out u0 u1 u2 u3 u4 u5 u6 u7 u8 u9 u11 u12 u13 u14 u15 u16 u17 u18 u19 u20 u21 u22 u23 u24 u25 u26 u27 u28 u29 u31 u32 u33 u34 u35 u36 u37 u38 w hF => seg8_rcv N W ch a0 n cap b0 m ds cs T' ch' _ 0 ci lo out xs hcs u0 u1 u2 u3 u4 u5 u6 u7 u8 u9 u11 u12 u13 u14 u15 u16 u17 u18 u19 u20 u21 u22 u23 u24 u25 u26 u27 u28 u29 u31 u32 u33 u34 u35 u36 u37 u38 w hF fun u0 u1 u2 u3 u4 u5 u6 u7 u8 u9 u11 u12 u13 u14 u15 u16 u17 u18 u19 u20 u21 u22 u23 u24 u25 u26 u27 u28 u29 u31 u32 u33 u34 u35 u36 u37 u38 w' hF => Goes.stop fun w₁ h₁ => at8_eof cs T' ch' ci out [] u0 u1 u2 u3 u4 u5 u6 u7 u8 u9 u11 u12 u13 u14 u15 u16 u17 u18 u19 u20 u21 u22 u23 u24 u25 u26 u27 u28 u29 u31 u32 u33 u34 u35 u36 u37 u38 w₁ fun w₂ h₂ => ?_⟩
    refine followM_iff.2 ⟨0 + 40, seg8_end N W ch a0 n cap b0 m ds cs T' ch' _ 0 ci lo out xs hcs bC aC opsC iC restC kC csC hcs0 u0 u1 u2 u3 u4 u5 u6 u7 u8 u9 u11 u12 u13 u14 u15 u16 u17 u18 u19 u20 u21 u22 u23 u24 u25 u26 u27 u28 u29 u32 u33 u34 u35 u36 u37 u38 w₂ ((hF.rely hcs h₁).rely hcs h₂) fun w' hF => Goes.stop fun w₃ h₃ => ⟨rfl, hPost out w₃ (hF.rely hcs h₃)⟩⟩
  | cons y ys ih =>
    intro xs hall hlen
    have hlen' : (xs.length + 1) * 8 ≤ 140737488355328 := by simp only [List.length_cons] at hlen; omega
    obtain ⟨n₁, ih⟩ := ih (xs ++ [iv y]) (by simpa using hall) (by simp only [List.length_cons, List.length_append, List.length_nil] at hlen ⊢; omega)
    refine ⟨0 + 10, fun out u0 u1 u2 u3 u4 u5 u6 u7 u8 u9 u11 u12 u13 u14 u15 u16 u17 u18 u19 u20 u21 u22 u23 u24 u25 u26 u27 u28 u29 u31 u32 u33 u34 u35 u36 u37 u38 w hF => seg8_rcv N W ch a0 n cap b0 m ds cs T' ch' _ 0 ci lo out xs hcs u0 u1 u2 u3 u4 u5 u6 u7 u8 u9 u11 u12 u13 u14 u15 u16 u17 u18 u19 u20 u21 u22 u23 u24 u25 u26 u27 u28 u29 u31 u32 u33 u34 u35 u36 u37 u38 w hF fun u0 u1 u2 u3 u4 u5 u6 u7 u8 u9 u11 u12 u13 u14 u15 u16 u17 u18 u19 u20 u21 u22 u23 u24 u25 u26 u27 u28 u29 u31 u32 u33 u34 u35 u36 u37 u38 w' hF => Goes.stop fun w₁ h₁ => at8_rcv cs T' ch' ci out y (mains ci (ys.map iv) []) u0 u1 u2 u3 u4 u5 u6 u7 u8 u9 u11 u12 u13 u14 u15 u16 u17 u18 u19 u20 u21 u22 u23 u24 u25 u26 u27 u28 u29 u31 u32 u33 u34 u35 u36 u37 u38 w₁ fun w₂ h₂ => ?_⟩
    refine followM_iff.2 ⟨n₁ + 60, seg8_round N W ch a0 n cap b0 m ds cs T' ch' _ n₁ ci lo out xs y hcs hT hlen' u0 u1 u2 u3 u4 u5 u6 u7 u8 u9 u11 u12 u13 u14 u15 u16 u17 u18 u19 u20 u21 u22 u23 u24 u25 u26 u27 u28 u29 u32 u33 u34 u35 u36 u37 u38 w₂ ((hF.rely hcs h₁).rely hcs h₂) fun out u0 u1 u2 u3 u4 u5 u6 u7 u8 u9 u11 u12 u13 u14 u15 u16 u17 u18 u19 u20 u21 u22 u23 u24 u25 u26 u27 u28 u29 u31 u32 u33 u34 u35 u36 u37 u38 w' hF => ih out u0 u1 u2 u3 u4 u5 u6 u7 u8 u9 u11 u12 u13 u14 u15 u16 u17 u18 u19 u20 u21 u22 u23 u24 u25 u26 u27 u28 u29 u31 u32 u33 u34 u35 u36 u37 u38 w' hF⟩

end
end Go.Proofs.Ytplndihadjfliaa.Net
/-
  CREW: the walk of crew.Relay: goroutine 0 starts the hands.
-/
set_option linter.unusedSimpArgs false
set_option linter.unusedVariables false
set_option maxHeartbeats 2000000
namespace Go.Proofs.Ytplndihadjfliaa.Net
open Go Go.Conc Go.ConcN Go.Proofs Go.RowKit

/-- What the row makes of the numbers. -/
def addI (d x : Int) : Int := IntKind.i64.wrap (x + d)
def rowOut : List Int → List Int → List Int
  | xs, [] => xs
  | xs, d :: ds => rowOut (xs.map (addI d)) ds
theorem rowOut_length : ∀ (ds xs : List Int), (rowOut xs ds).length = xs.length
  | [], xs => rfl
  | d :: ds, xs => by rw [rowOut, rowOut_length ds, List.length_map]
theorem map_addV (d : Int) (xs : List Int) : (xs.map iv).map (addV d) = (xs.map (addI d)).map iv := by
  rw [List.map_map, List.map_map]; rfl

/-- k hands have been started. -/
structure RZ (N : Nat) (W : World) (ch : List Nat) (a0 : Option Addr) (n cap : Nat) (b0 : Option Addr) (m : Nat) (ds : List Int) (k : Nat) (w : World) : Prop where
  rk : RK N W ch a0 n cap b0 m ds (N + 3 + k) (.slice none 0 0) [] w
  sz : w.heap.size = N + 3 + k
/-- .. and the next one's channel has been made. -/
structure RF (N : Nat) (W : World) (ch : List Nat) (a0 : Option Addr) (n cap : Nat) (b0 : Option Addr) (m : Nat) (ds : List Int) (k : Nat) (w : World) : Prop where
  rk : RK N W ch a0 n cap b0 m ds (N + 3 + (k + 1)) (.slice none 0 0) [] w
  sz : w.heap.size = N + 3 + (k + 1)
  chn : ∃ s r tm, w.heap[N + 3 + k]? = some (.chan 0 #[] false s r tm)

section
variable {N : Nat} {W : World} {ch : List Nat} {a0 : Option Addr} {n cap : Nat} {b0 : Option Addr} {m : Nat} {ds : List Int} {k : Nat} {w w₁ : World}
theorem RZ.rely {ch' : List Nat} (hc : ∀ c ∈ ch', c ∈ ch ∨ c = N + 1 ∨ (N + 3 ≤ c ∧ c < N + 3 + k)) (h : RZ N W ch a0 n cap b0 m ds k w) (r : RC ch' w w₁) : RZ N W ch a0 n cap b0 m ds k w₁ := ⟨h.rk.rely hc r, r.size.trans h.sz⟩
theorem RZ.bxv (h : RZ N W ch a0 n cap b0 m ds k w) : w.cell? ⟨N, 0, none⟩ = some (.slice a0 n cap) := h.rk.bxv
theorem RZ.clv (h : RZ N W ch a0 n cap b0 m ds k w) : w.cell? ⟨N + 2, 0, none⟩ = some (.chan (some (N + 1))) := h.rk.clv
theorem RZ.adl (h : RZ N W ch a0 n cap b0 m ds k w) : ∀ j ad, j < m → b0 = some ad → w.cell? (ad.add j) = some (.int .i64 (ds[j]?.getD 0)) := h.rk.adl
theorem RF.rely {ch' : List Nat} (hc : ∀ c ∈ ch', c ∈ ch ∨ c = N + 1 ∨ (N + 3 ≤ c ∧ c < N + 3 + k)) (h : RF N W ch a0 n cap b0 m ds k w) (r : RC ch' w w₁) : RF N W ch a0 n cap b0 m ds k w₁ := by
  obtain ⟨s, r', tm, hcn⟩ := h.chn
  have hchN := h.rk.chN
  refine ⟨h.rk.rely (fun c hc' => by rcases hc c hc' with h | h | h <;> first | exact .inl h | omega) r, r.size.trans h.sz, s, r', tm, (r.block _ fun h3 => ?_).trans hcn⟩
  rcases hc _ h3 with h4 | h4 | h4 <;> first | (have := hchN _ h4; omega) | omega
theorem RF.bxv (h : RF N W ch a0 n cap b0 m ds k w) : w.cell? ⟨N, 0, none⟩ = some (.slice a0 n cap) := h.rk.bxv
theorem RF.clv (h : RF N W ch a0 n cap b0 m ds k w) : w.cell? ⟨N + 2, 0, none⟩ = some (.chan (some (N + 1))) := h.rk.clv
theorem RF.adl (h : RF N W ch a0 n cap b0 m ds k w) : ∀ j ad, j < m → b0 = some ad → w.cell? (ad.add j) = some (.int .i64 (ds[j]?.getD 0)) := h.rk.adl
theorem RZ.made (h : RZ N W ch a0 n cap b0 m ds k w) (s r : Nat) (tm : Bool) : RF N W ch a0 n cap b0 m ds k (w.alloc (.chan 0 #[] false s r tm)) :=
  ⟨(h.rk.alloc _).up (by omega) (by simp [h.sz]; omega), by simp [h.sz]; omega, s, r, tm, by rw [← h.sz]; exact heap_alloc_new w _⟩
theorem RF.next (h : RF N W ch a0 n cap b0 m ds k w) : RZ N W ch a0 n cap b0 m ds (k + 1) w := ⟨h.rk, h.sz⟩
end


section
variable (N : Nat) (W : World) (ch : List Nat) (a0 : Option Addr) (n cap : Nat) (b0 : Option Addr) (m capb : Nat) (ds : List Int) (cs : List Frame)

set_option maxRecDepth 100000 in
/-- From the head to the go statement. -/
theorem seg8_fork (T' ch' : List Nat) (Stop : Goroutine → World → Prop) (n₀ ci k : Nat) (hk : k < m) (hnil : ∃ ad, b0 = some ad) (hcs : ∀ c ∈ ch', c ∈ ch ∨ c = N + 1 ∨ (N + 3 ≤ c ∧ c < N + 3 + k)) (hT : ∀ b ∈ T', b < N + 3)
    (u3 u4 u7 u8 u9 u10 u11 u12 u13 u14 u15 u16 u17 u21 u22 u23 u24 u25 u26 u27 u28 u29 u30 u31 u32 u33 u34 u35 u36 u37 u38 : Value) (w : World) (hF : RZ N W ch a0 n cap b0 m ds k w)
    (next : ∀ (u3 u4 u7 u10 u11 u12 u13 u14 u15 u16 u17 u21 u22 u23 u24 u28 u29 u30 u31 u32 u33 u34 u35 u36 u37 u38 : Value) w', RF N W ch a0 n cap b0 m ds k w' → Goes Try.prog true (RC ch') (DM T' ch') Stop n₀ (fork8 N a0 n cap b0 m capb ds cs ci k u3 u4 u7 u10 u11 u12 u13 u14 u15 u16 u17 u21 u22 u23 u24 u28 u29 u30 u31 u32 u33 u34 u35 u36 u37 u38 [3]) w') : Goes Try.prog true (RC ch') (DM T' ch') Stop (n₀ + 60) (head8a N a0 n cap b0 m capb cs ci k u3 u4 u7 u8 u9 u10 u11 u12 u13 u14 u15 u16 u17 u21 u22 u23 u24 u25 u26 u27 u28 u29 u30 u31 u32 u33 u34 u35 u36 u37 u38) w := by
  have hTl : ∀ b ∈ T', b < 0 ∨ 0 = 0 := fun _ _ => .inr rfl
  have hcl : ∀ b ∈ ch', b < 0 ∨ 0 = 0 := fun _ _ => .inr rfl
  have hT2 : ∀ b ∈ T', b < N + 3 + k ∨ N + 3 + k = 0 := fun b hb => .inl (by have := hT b hb; omega)
  have hc2 : ∀ b ∈ ch', b < N + 3 + k ∨ N + 3 + k = 0 := fun b hb => .inl (by rcases hcs b hb with h | h | h <;> first | (have := hF.rk.chN b h; omega) | omega)
  obtain ⟨ad, rfl⟩ := hnil
  simp only [head8a, fork8, ops8f, B8r, B8, R8, L8a, rest8, tail8b, tail8a, body8, Try.f8, Option.getD_some] at next ⊢
  repeat (first | (refine Goes.step rfl (fun _ h₁ => ?_); walk_rw; refine ⟨DM_of_below (B := 0) hTl hcl (Below.refl _ _) (by simp), ?_⟩; replace hF := hF.rely hcs h₁; clear h₁) | (refine Goes.step rfl (fun w₁ h₁ => ?_); replace hF := hF.rely hcs h₁; clear h₁; refine goes_oper_k rfl rfl (by decide) (fun K hK => ?_); have hx := hF.bxv; have hch := hF.clv; have hel := hF.adl; go_simp; refine hK _ _ ⟨DM_of_below (B := 0) hTl hcl (Below.refl _ _) (fun e he => ?_), ?_⟩; (focus (have hm := mem_listed he; (simp [go_sem, *] at hm); (try (subst hm; exact evM_read _ _ (by simp))))); (clear hK K hx hch hel); (try walk_nrm)))
  (refine Goes.step rfl (fun _ h₁ => ?_); rw [stepG_cond (t := true) rfl]; simp only [goes_go, if_true, if_false, Bool.false_eq_true, ↓reduceIte]; refine ⟨DM_of_below (B := 0) hTl hcl (Below.refl _ _) (by simp), ?_⟩; replace hF := hF.rely hcs h₁; clear h₁)
  (refine Goes.step rfl (fun _ h₁ => ?_); walk_rw; refine ⟨DM_of_below (B := 0) hTl hcl (Below.refl _ _) (by simp), ?_⟩; replace hF := hF.rely hcs h₁; clear h₁)
  (refine Goes.step rfl (fun _ h₁ => ?_); walk_rw; refine ⟨DM_of_below (B := 0) hTl hcl (Below.refl _ _) (by simp), ?_⟩; replace hF := hF.rely hcs h₁; clear h₁)
  (refine Goes.step rfl (fun _ h₁ => ?_); walk_rw; refine ⟨DM_of_below (B := 0) hTl hcl (Below.refl _ _) (by simp), ?_⟩; replace hF := hF.rely hcs h₁; clear h₁)
  (refine Goes.step rfl (fun _ h₁ => ?_); walk_rw; refine ⟨DM_of_below (B := 0) hTl hcl (Below.refl _ _) (by simp), ?_⟩; replace hF := hF.rely hcs h₁; clear h₁)
  (refine Goes.step rfl (fun _ h₁ => ?_); walk_rw; refine ⟨DM_of_below (B := 0) hTl hcl (Below.refl _ _) (by simp), ?_⟩; replace hF := hF.rely hcs h₁; clear h₁)
  (refine Goes.step rfl (fun w₁ h₁ => ?_); replace hF := hF.rely hcs h₁; clear h₁; refine goes_oper_k rfl rfl (by decide) (fun K hK => ?_); have hx := hF.bxv; have hch := hF.clv; have hel := hF.adl; go_simp; refine hK _ _ ⟨DM_of_below (B := 0) hTl hcl (Below.refl _ _) (fun e he => ?_), ?_⟩; (focus (have hm := mem_listed he; (simp [go_sem, *] at hm); (try (subst hm; exact evM_read _ _ (by simp))))); (clear hK K hx hch hel); (try walk_nrm))
  (refine Goes.step rfl (fun w₁ h₁ => ?_); replace hF := hF.rely hcs h₁; clear h₁; refine goes_oper_k rfl rfl (by decide) (fun K hK => ?_); have hx := hF.bxv; have hch := hF.clv; have hel := hF.adl; go_simp; refine hK _ _ ⟨DM_of_below (B := 0) hTl hcl (Below.refl _ _) (fun e he => ?_), ?_⟩; (focus (have hm := mem_listed he; (simp [go_sem, *] at hm); (try (subst hm; exact evM_read _ _ (by simp))))); (clear hK K hx hch hel); (try walk_nrm))
  (refine Goes.step rfl (fun w₁ h₁ => ?_); replace hF := hF.rely hcs h₁; clear h₁; refine goes_oper_k rfl rfl (by decide) (fun K hK => ?_); have hx := hF.bxv; have hch := hF.clv; have hel := hF.adl; go_simp; refine hK _ _ ⟨DM_of_below (B := 0) hTl hcl (Below.refl _ _) (fun e he => ?_), ?_⟩; (focus (have hm := mem_listed he; (simp [go_sem, *] at hm); (try (subst hm; exact evM_read _ _ (by simp))))); (clear hK K hx hch hel); (try walk_nrm))
  (refine Goes.step rfl (fun _ h₁ => ?_); walk_rw; refine ⟨DM_of_below (B := 0) hTl hcl (Below.refl _ _) (by simp), ?_⟩; replace hF := hF.rely hcs h₁; clear h₁)
  (refine Goes.step rfl (fun _ h₁ => ?_); walk_rw; refine ⟨DM_of_below (B := 0) hTl hcl (Below.refl _ _) (by simp), ?_⟩; replace hF := hF.rely hcs h₁; clear h₁)
  (refine Goes.step rfl (fun _ h₁ => ?_); walk_rw; refine ⟨DM_of_below (B := 0) hTl hcl (Below.refl _ _) (by simp), ?_⟩; replace hF := hF.rely hcs h₁; clear h₁)
  refine Goes.step rfl (fun w₁ h₁ => ?_)
  replace hF := hF.rely hcs h₁
  clear h₁
  refine goes_oper_k rfl rfl (by decide) (fun K hK => ?_)
  go_simp
  refine hK _ _ ⟨DM_of_below hT2 hc2 ((Below.refl _ _).alloc (by rw [hF.sz]; exact Nat.le_refl _) _) (fun e he => ?_) (fun h => absurd h (by omega)), ?_⟩
  · have hm := mem_listed he
    simp [go_sem] at hm
  clear hK K
  rw [hF.sz]
  replace hF := hF.made 0 0 false
  (refine Goes.step rfl (fun w₁ h₁ => ?_); replace hF := hF.rely hcs h₁; clear h₁; refine goes_oper_k rfl rfl (by decide) (fun K hK => ?_); have hx := hF.bxv; have hch := hF.clv; have hel := hF.adl; go_simp; refine hK _ _ ⟨DM_of_below (B := 0) hTl hcl (Below.refl _ _) (fun e he => ?_), ?_⟩; (focus (have hm := mem_listed he; (simp [go_sem, *] at hm); (try (subst hm; exact evM_read _ _ (by simp))))); (clear hK K hx hch hel); (try walk_nrm))
  (refine Goes.step rfl (fun _ h₁ => ?_); walk_rw; refine ⟨DM_of_below (B := 0) hTl hcl (Below.refl _ _) (by simp), ?_⟩; replace hF := hF.rely hcs h₁; clear h₁)
  (refine Goes.step rfl (fun _ h₁ => ?_); walk_rw; refine ⟨DM_of_below (B := 0) hTl hcl (Below.refl _ _) (by simp), ?_⟩; replace hF := hF.rely hcs h₁; clear h₁)
  (refine Goes.step rfl (fun _ h₁ => ?_); walk_rw; refine ⟨DM_of_below (B := 0) hTl hcl (Below.refl _ _) (by simp), ?_⟩; replace hF := hF.rely hcs h₁; clear h₁)
  (refine Goes.step rfl (fun w₁ h₁ => ?_); replace hF := hF.rely hcs h₁; clear h₁; refine goes_oper_k rfl rfl (by decide) (fun K hK => ?_); have hx := hF.bxv; have hch := hF.clv; have hel := hF.adl; go_simp; refine hK _ _ ⟨DM_of_below (B := 0) hTl hcl (Below.refl _ _) (fun e he => ?_), ?_⟩; (focus (have hm := mem_listed he; (simp [go_sem, *] at hm); (try (subst hm; exact evM_read _ _ (by simp))))); (clear hK K hx hch hel); (try walk_nrm))
  (refine Goes.step rfl (fun w₁ h₁ => ?_); replace hF := hF.rely hcs h₁; clear h₁; refine goes_oper_k rfl rfl (by decide) (fun K hK => ?_); have hx := hF.bxv; have hch := hF.clv; have hel := hF.adl; go_simp; refine hK _ _ ⟨DM_of_below (B := 0) hTl hcl (Below.refl _ _) (fun e he => ?_), ?_⟩; (focus (have hm := mem_listed he; (simp [go_sem, *] at hm); (try (subst hm; exact evM_read _ _ (by simp))))); (clear hK K hx hch hel); (try walk_nrm))
  (refine Goes.step rfl (fun w₁ h₁ => ?_); replace hF := hF.rely hcs h₁; clear h₁; refine goes_oper_k rfl rfl (by decide) (fun K hK => ?_); have hx := hF.bxv; have hch := hF.clv; have hel := hF.adl; go_simp; refine hK _ _ ⟨DM_of_below (B := 0) hTl hcl (Below.refl _ _) (fun e he => ?_), ?_⟩; (focus (have hm := mem_listed he; (simp [go_sem, *] at hm); (try (subst hm; exact evM_read _ _ (by simp))))); (clear hK K hx hch hel); (try walk_nrm))
  refine Goes.mono (n := n₀) ?_ (by omega)
  exact next _ _ _ _ _ _ _ _ _ _ _ _ _ _ _ _ _ _ _ _ _ _ _ _ _ _ _ hF

set_option maxRecDepth 100000 in
/-- From behind the go statement to the head. -/
theorem seg8_next (T' ch' : List Nat) (Stop : Goroutine → World → Prop) (n₀ ci k : Nat) (hk : k < m) (hm64 : m ≤ 64) (hcs : ∀ c ∈ ch', c ∈ ch ∨ c = N + 1 ∨ (N + 3 ≤ c ∧ c < N + 3 + (k + 1)))
    (u3 u4 u7 u10 u11 u12 u13 u14 u15 u16 u17 u21 u22 u23 u24 u28 u29 u30 u31 u32 u33 u34 u35 u36 u37 u38 : Value) (w : World) (hF : RZ N W ch a0 n cap b0 m ds (k + 1) w)
    (next : ∀ (u3 u4 u7 u8 u9 u10 u11 u12 u13 u14 u15 u16 u17 u21 u22 u23 u24 u25 u26 u27 u28 u29 u30 u31 u32 u33 u34 u35 u36 u37 u38 : Value) w', RZ N W ch a0 n cap b0 m ds (k + 1) w' → Goes Try.prog true (RC ch') (DM T' ch') Stop n₀ (head8a N a0 n cap b0 m capb cs (N + 3 + k) (k + 1) u3 u4 u7 u8 u9 u10 u11 u12 u13 u14 u15 u16 u17 u21 u22 u23 u24 u25 u26 u27 u28 u29 u30 u31 u32 u33 u34 u35 u36 u37 u38) w') : Goes Try.prog true (RC ch') (DM T' ch') Stop (n₀ + 20) (fork8 N a0 n cap b0 m capb ds cs ci k u3 u4 u7 u10 u11 u12 u13 u14 u15 u16 u17 u21 u22 u23 u24 u28 u29 u30 u31 u32 u33 u34 u35 u36 u37 u38 []) w := by
  have hTl : ∀ b ∈ T', b < 0 ∨ 0 = 0 := fun _ _ => .inr rfl
  have hcl : ∀ b ∈ ch', b < 0 ∨ 0 = 0 := fun _ _ => .inr rfl
  have hwr : IntKind.i64.wrap ((k : Int) + 1) = ((k + 1 : Nat) : Int) := by rw [IntKind.wrap_i64]; omega
  simp only [head8a, fork8, ops8f, B8r, B8, R8, L8a, rest8, tail8b, tail8a, body8, Try.f8, Option.getD_some] at next ⊢
  (refine Goes.step rfl (fun _ h₁ => ?_); walk_rw; refine ⟨DM_of_below (B := 0) hTl hcl (Below.refl _ _) (by simp), ?_⟩; replace hF := hF.rely hcs h₁; clear h₁)
  (refine Goes.step rfl (fun _ h₁ => ?_); walk_rw; refine ⟨DM_of_below (B := 0) hTl hcl (Below.refl _ _) (by simp), ?_⟩; replace hF := hF.rely hcs h₁; clear h₁)
  (refine Goes.step rfl (fun w₁ h₁ => ?_); replace hF := hF.rely hcs h₁; clear h₁; refine goes_oper_k rfl rfl (by decide) (fun K hK => ?_); have hx := hF.bxv; have hch := hF.clv; have hel := hF.adl; go_simp; refine hK _ _ ⟨DM_of_below (B := 0) hTl hcl (Below.refl _ _) (fun e he => ?_), ?_⟩; (focus (have hm := mem_listed he; (simp [go_sem, *] at hm); (try (subst hm; exact evM_read _ _ (by simp))))); (clear hK K hx hch hel); (try walk_nrm))
  (refine Goes.step rfl (fun w₁ h₁ => ?_); replace hF := hF.rely hcs h₁; clear h₁; refine goes_oper_k rfl rfl (by decide) (fun K hK => ?_); have hx := hF.bxv; have hch := hF.clv; have hel := hF.adl; go_simp; refine hK _ _ ⟨DM_of_below (B := 0) hTl hcl (Below.refl _ _) (fun e he => ?_), ?_⟩; (focus (have hm := mem_listed he; (simp [go_sem, *] at hm); (try (subst hm; exact evM_read _ _ (by simp))))); (clear hK K hx hch hel); (try walk_nrm))
  (refine Goes.step rfl (fun _ h₁ => ?_); walk_rw; refine ⟨DM_of_below (B := 0) hTl hcl (Below.refl _ _) (by simp), ?_⟩; replace hF := hF.rely hcs h₁; clear h₁)
  (refine Goes.step rfl (fun _ h₁ => ?_); walk_rw; refine ⟨DM_of_below (B := 0) hTl hcl (Below.refl _ _) (by simp), ?_⟩; replace hF := hF.rely hcs h₁; clear h₁)
  (refine Goes.step rfl (fun _ h₁ => ?_); walk_rw; refine ⟨DM_of_below (B := 0) hTl hcl (Below.refl _ _) (by simp), ?_⟩; replace hF := hF.rely hcs h₁; clear h₁)
  (refine Goes.step rfl (fun w₁ h₁ => ?_); replace hF := hF.rely hcs h₁; clear h₁; refine goes_oper_k rfl rfl (by decide) (fun K hK => ?_); have hx := hF.bxv; have hch := hF.clv; have hel := hF.adl; go_simp; refine hK _ _ ⟨DM_of_below (B := 0) hTl hcl (Below.refl _ _) (fun e he => ?_), ?_⟩; (focus (have hm := mem_listed he; (simp [go_sem, *] at hm); (try (subst hm; exact evM_read _ _ (by simp))))); (clear hK K hx hch hel); (try walk_nrm))
  (refine Goes.step rfl (fun w₁ h₁ => ?_); replace hF := hF.rely hcs h₁; clear h₁; refine goes_oper_k rfl rfl (by decide) (fun K hK => ?_); have hx := hF.bxv; have hch := hF.clv; have hel := hF.adl; go_simp; refine hK _ _ ⟨DM_of_below (B := 0) hTl hcl (Below.refl _ _) (fun e he => ?_), ?_⟩; (focus (have hm := mem_listed he; (simp [go_sem, *] at hm); (try (subst hm; exact evM_read _ _ (by simp))))); (clear hK K hx hch hel); (try walk_nrm))
  (refine Goes.step rfl (fun _ h₁ => ?_); walk_rw; refine ⟨DM_of_below (B := 0) hTl hcl (Below.refl _ _) (by simp), ?_⟩; replace hF := hF.rely hcs h₁; clear h₁)
  (refine Goes.step rfl (fun _ h₁ => ?_); walk_rw; refine ⟨DM_of_below (B := 0) hTl hcl (Below.refl _ _) (by simp), ?_⟩; replace hF := hF.rely hcs h₁; clear h₁)
  refine Goes.mono (n := n₀) ?_ (by omega)
  exact next _ _ _ _ _ _ _ _ _ _ _ _ _ _ _ _ _ _ _ _ _ _ _ _ _ _ _ _ _ _ _ _ hF

set_option maxRecDepth 100000 in
/-- From the head, all hands started, to the second loop's head. -/
theorem seg8_exit (T' ch' : List Nat) (Stop : Goroutine → World → Prop) (n₀ ci : Nat) (hcs : ∀ c ∈ ch', c ∈ ch ∨ c = N + 1 ∨ (N + 3 ≤ c ∧ c < N + 3 + m))
    (u3 u4 u7 u8 u9 u10 u11 u12 u13 u14 u15 u16 u17 u21 u22 u23 u24 u25 u26 u27 u28 u29 u30 u31 u32 u33 u34 u35 u36 u37 u38 : Value) (w : World) (hF : RZ N W ch a0 n cap b0 m ds m w)
    (next : ∀ (u0 u1 u2 u3 u4 u5 u6 u7 u8 u9 u11 u12 u13 u14 u15 u16 u17 u18 u19 u20 u21 u22 u23 u24 u25 u26 u27 u28 u29 u31 u32 u33 u34 u35 u36 u37 u38 : Value) w', RZ N W ch a0 n cap b0 m ds m w' → Goes Try.prog true (RC ch') (DM T' ch') Stop n₀ (head8b cs ci (.slice none 0 0) u0 u1 u2 u3 u4 u5 u6 u7 u8 u9 u11 u12 u13 u14 u15 u16 u17 u18 u19 u20 u21 u22 u23 u24 u25 u26 u27 u28 u29 u31 u32 u33 u34 u35 u36 u37 u38) w') : Goes Try.prog true (RC ch') (DM T' ch') Stop (n₀ + 40) (head8a N a0 n cap b0 m capb cs ci m u3 u4 u7 u8 u9 u10 u11 u12 u13 u14 u15 u16 u17 u21 u22 u23 u24 u25 u26 u27 u28 u29 u30 u31 u32 u33 u34 u35 u36 u37 u38) w := by
  have hTl : ∀ b ∈ T', b < 0 ∨ 0 = 0 := fun _ _ => .inr rfl
  have hcl : ∀ b ∈ ch', b < 0 ∨ 0 = 0 := fun _ _ => .inr rfl
  simp only [head8a, head8b, L8b, end8, L8a, rest8, tail8b, tail8a, body8, Try.f8, Option.getD_some] at next ⊢
  repeat (first | (refine Goes.step rfl (fun _ h₁ => ?_); walk_rw; refine ⟨DM_of_below (B := 0) hTl hcl (Below.refl _ _) (by simp), ?_⟩; replace hF := hF.rely hcs h₁; clear h₁) | (refine Goes.step rfl (fun w₁ h₁ => ?_); replace hF := hF.rely hcs h₁; clear h₁; refine goes_oper_k rfl rfl (by decide) (fun K hK => ?_); have hx := hF.bxv; have hch := hF.clv; have hel := hF.adl; go_simp; refine hK _ _ ⟨DM_of_below (B := 0) hTl hcl (Below.refl _ _) (fun e he => ?_), ?_⟩; (focus (have hm := mem_listed he; (simp [go_sem, *] at hm); (try (subst hm; exact evM_read _ _ (by simp))))); (clear hK K hx hch hel); (try walk_nrm)))
  (refine Goes.step rfl (fun _ h₁ => ?_); rw [stepG_cond (t := false) rfl]; simp only [goes_go, if_true, if_false, Bool.false_eq_true, ↓reduceIte]; refine ⟨DM_of_below (B := 0) hTl hcl (Below.refl _ _) (by simp), ?_⟩; replace hF := hF.rely hcs h₁; clear h₁)
  (refine Goes.step rfl (fun _ h₁ => ?_); apply goes_exit; (focus rfl); refine ⟨DM_of_below (B := 0) hTl hcl (Below.refl _ _) (by simp), ?_⟩; replace hF := hF.rely hcs h₁; clear h₁)
  (refine Goes.step rfl (fun _ h₁ => ?_); walk_rw; refine ⟨DM_of_below (B := 0) hTl hcl (Below.refl _ _) (by simp), ?_⟩; replace hF := hF.rely hcs h₁; clear h₁)
  (refine Goes.step rfl (fun _ h₁ => ?_); walk_rw; refine ⟨DM_of_below (B := 0) hTl hcl (Below.refl _ _) (by simp), ?_⟩; replace hF := hF.rely hcs h₁; clear h₁)
  (refine Goes.step rfl (fun w₁ h₁ => ?_); replace hF := hF.rely hcs h₁; clear h₁; refine goes_oper_k rfl rfl (by decide) (fun K hK => ?_); have hx := hF.bxv; have hch := hF.clv; have hel := hF.adl; go_simp; refine hK _ _ ⟨DM_of_below (B := 0) hTl hcl (Below.refl _ _) (fun e he => ?_), ?_⟩; (focus (have hm := mem_listed he; (simp [go_sem, *] at hm); (try (subst hm; exact evM_read _ _ (by simp))))); (clear hK K hx hch hel); (try walk_nrm))
  (refine Goes.step rfl (fun _ h₁ => ?_); walk_rw; refine ⟨DM_of_below (B := 0) hTl hcl (Below.refl _ _) (by simp), ?_⟩; replace hF := hF.rely hcs h₁; clear h₁)
  (refine Goes.step rfl (fun _ h₁ => ?_); walk_rw; refine ⟨DM_of_below (B := 0) hTl hcl (Below.refl _ _) (by simp), ?_⟩; replace hF := hF.rely hcs h₁; clear h₁)
  (refine Goes.step rfl (fun _ h₁ => ?_); walk_rw; refine ⟨DM_of_below (B := 0) hTl hcl (Below.refl _ _) (by simp), ?_⟩; replace hF := hF.rely hcs h₁; clear h₁)
  (refine Goes.step rfl (fun _ h₁ => ?_); walk_rw; refine ⟨DM_of_below (B := 0) hTl hcl (Below.refl _ _) (by simp), ?_⟩; replace hF := hF.rely hcs h₁; clear h₁)
  (refine Goes.step rfl (fun w₁ h₁ => ?_); replace hF := hF.rely hcs h₁; clear h₁; refine goes_oper_k rfl rfl (by decide) (fun K hK => ?_); have hx := hF.bxv; have hch := hF.clv; have hel := hF.adl; go_simp; refine hK _ _ ⟨DM_of_below (B := 0) hTl hcl (Below.refl _ _) (fun e he => ?_), ?_⟩; (focus (have hm := mem_listed he; (simp [go_sem, *] at hm); (try (subst hm; exact evM_read _ _ (by simp))))); (clear hK K hx hch hel); (try walk_nrm))
  (refine Goes.step rfl (fun _ h₁ => ?_); walk_rw; refine ⟨DM_of_below (B := 0) hTl hcl (Below.refl _ _) (by simp), ?_⟩; replace hF := hF.rely hcs h₁; clear h₁)
  (refine Goes.step rfl (fun _ h₁ => ?_); walk_rw; refine ⟨DM_of_below (B := 0) hTl hcl (Below.refl _ _) (by simp), ?_⟩; replace hF := hF.rely hcs h₁; clear h₁)
  (refine Goes.step rfl (fun _ h₁ => ?_); walk_rw; refine ⟨DM_of_below (B := 0) hTl hcl (Below.refl _ _) (by simp), ?_⟩; replace hF := hF.rely hcs h₁; clear h₁)
  refine Goes.mono (n := n₀) ?_ (by omega)
  exact next _ _ _ _ _ _ _ _ _ _ _ _ _ _ _ _ _ _ _ _ _ _ _ _ _ _ _ _ _ _ _ _ _ _ _ _ _ _ hF

/-- A go statement that names its function. -/
theorem run_go_func {P : Program} {a : Act} {o : Oper} {f : FuncId} {args : Array Operand} {ats : Array TypeId} (hop : o.op = .go { callee := .value (.func f), args, argTypes := ats }) (w : World) :
    (execOp a.eval o).run P w = .ok (.spawn { target := .fn (.func f) #[], args := args.map a.eval }) w ∧ (execOp a.eval o).events P w #[] = #[] := by
  have ef : a.eval (.func f) = .func (.func f) #[] #[] := rfl
  constructor
  · unfold execOp
    simp [hop, resolve, Deferred.ofValue, ef]
  · unfold execOp
    simp [hop, resolve, Deferred.ofValue, ef]

set_option maxRecDepth 100000 in
/-- AT THE go STATEMENT. -/
theorem at8_fork {Post : List Nat → List Nat → Goroutine → World → Prop} (T' ch' : List Nat) (ci k : Nat) (hcs : ∀ c ∈ ch', c ∈ ch ∨ c = N + 1 ∨ (N + 3 ≤ c ∧ c < N + 3 + k)) (hT : ∀ b ∈ T', b < N + 3) (xs : List Int) (al : List Do)
    (u3 u4 u7 u10 u11 u12 u13 u14 u15 u16 u17 u21 u22 u23 u24 u28 u29 u30 u31 u32 u33 u34 u35 u36 u37 u38 : Value) (w : World) (hF : RF N W ch a0 n cap b0 m ds k w)
    (next : FollowM Try.prog zi Post al T' ((N + 3 + k) :: ch') (fork8 N a0 n cap b0 m capb ds cs ci k u3 u4 u7 u10 u11 u12 u13 u14 u15 u16 u17 u21 u22 u23 u24 u28 u29 u30 u31 u32 u33 u34 u35 u36 u37 u38 []) w) :
    stopM Try.prog zi Post (.fork [] [N + 3 + k] (hnd ci (N + 3 + k) (addV (ds[k]?.getD 0)) (xs.map iv)) :: al) T' ch' (fork8 N a0 n cap b0 m capb ds cs ci k u3 u4 u7 u10 u11 u12 u13 u14 u15 u16 u17 u21 u22 u23 u24 u28 u29 u30 u31 u32 u33 u34 u35 u36 u37 u38 [3]) w := by
  obtain ⟨hr, he⟩ := run_go_func (P := Try.prog) (a := ⟨#[.slice a0 n cap, .slice b0 m capb, .pointer (some ⟨N, 0, none⟩), u3, u4, .pointer (some ⟨N + 2, 0, none⟩), .chan (some ci), u7, iv (ds[k]?.getD 0), .chan (some (N + 3 + k)), u10, u11, u12, u13, u14, u15, u16, u17, .slice b0 m capb, .int .i64 m, .int .i64 k, u21, u22, u23, u24, iv (ds[k]?.getD 0), .chan (some ci), .chan (some (N + 3 + k)), u28, u29, u30, u31, u32, u33, u34, u35, u36, u37, u38], []⟩) (o := { dst := none, op := .go { callee := .value (.func 20), args := #[.tmp 25, .tmp 26, .tmp 27], argTypes := #[3, 34, 54] }, type := 0, pos := "crew.go:78", after := #[{ on := 0, ground := .data }, { on := 1, ground := .data }, { on := 2, ground := .data }], guard := none }) rfl w
  have ha : (#[.tmp 25, .tmp 26, .tmp 27] : Array Operand).map (Act.eval ⟨#[.slice a0 n cap, .slice b0 m capb, .pointer (some ⟨N, 0, none⟩), u3, u4, .pointer (some ⟨N + 2, 0, none⟩), .chan (some ci), u7, iv (ds[k]?.getD 0), .chan (some (N + 3 + k)), u10, u11, u12, u13, u14, u15, u16, u17, .slice b0 m capb, .int .i64 m, .int .i64 k, u21, u22, u23, u24, iv (ds[k]?.getD 0), .chan (some ci), .chan (some (N + 3 + k)), u28, u29, u30, u31, u32, u33, u34, u35, u36, u37, u38], []⟩) = #[iv (ds[k]?.getD 0), .chan (some ci), .chan (some (N + 3 + k))] := by simp [Act.eval]
  rw [ha] at hr
  have hst : stepG Try.prog true (fork8 N a0 n cap b0 m capb ds cs ci k u3 u4 u7 u10 u11 u12 u13 u14 u15 u16 u17 u21 u22 u23 u24 u28 u29 u30 u31 u32 u33 u34 u35 u36 u37 u38 [3]) w = .spawn (fork8 N a0 n cap b0 m capb ds cs ci k u3 u4 u7 u10 u11 u12 u13 u14 u15 u16 u17 u21 u22 u23 u24 u28 u29 u30 u31 u32 u33 u34 u35 u36 u37 u38 []) (born Try.prog { target := .fn (.func 20) #[], args := #[iv (ds[k]?.getD 0), .chan (some ci), .chan (some (N + 3 + k))] }) w (listed Try.prog 8 ⟨#[.slice a0 n cap, .slice b0 m capb, .pointer (some ⟨N, 0, none⟩), u3, u4, .pointer (some ⟨N + 2, 0, none⟩), .chan (some ci), u7, iv (ds[k]?.getD 0), .chan (some (N + 3 + k)), u10, u11, u12, u13, u14, u15, u16, u17, .slice b0 m capb, .int .i64 m, .int .i64 k, u21, u22, u23, u24, iv (ds[k]?.getD 0), .chan (some ci), .chan (some (N + 3 + k)), u28, u29, u30, u31, u32, u33, u34, u35, u36, u37, u38], []⟩ { dst := none, op := .go { callee := .value (.func 20), args := #[.tmp 25, .tmp 26, .tmp 27], argTypes := #[3, 34, 54] }, type := 0, pos := "crew.go:78", after := #[{ on := 0, ground := .data }, { on := 1, ground := .data }, { on := 2, ground := .data }], guard := none } w) :=
    stepG_spawn (b := base 8) (ops := ops8f) (i := 3) (rest := []) (main := true) (k := [.code B8r, .inBlock 1, .code R8, .inLoop L8a, .inBlock 0, .code rest8]) (cs := cs) rfl rfl (by decide) hr rfl
  have hl : listed Try.prog 8 ⟨#[.slice a0 n cap, .slice b0 m capb, .pointer (some ⟨N, 0, none⟩), u3, u4, .pointer (some ⟨N + 2, 0, none⟩), .chan (some ci), u7, iv (ds[k]?.getD 0), .chan (some (N + 3 + k)), u10, u11, u12, u13, u14, u15, u16, u17, .slice b0 m capb, .int .i64 m, .int .i64 k, u21, u22, u23, u24, iv (ds[k]?.getD 0), .chan (some ci), .chan (some (N + 3 + k)), u28, u29, u30, u31, u32, u33, u34, u35, u36, u37, u38], []⟩ { dst := none, op := .go { callee := .value (.func 20), args := #[.tmp 25, .tmp 26, .tmp 27], argTypes := #[3, 34, 54] }, type := 0, pos := "crew.go:78", after := #[{ on := 0, ground := .data }, { on := 1, ground := .data }, { on := 2, ground := .data }], guard := none } w = #[] := listed_nil he
  rw [hl] at hst
  refine ⟨rfl, _, _, w, #[], hst, by simp, fun _ _ => rfl, fun _ _ => rfl, fun c hc => ?_, fun b hb => (by cases hb), rfl, hand_follows _ _ _ xs w, next⟩
  obtain rfl : c = N + 3 + k := by simpa using hc
  refine ⟨fun h => ?_, fun h => ?_, hF.chn⟩
  · have := hT _ (by simpa using h); omega
  · rcases hcs _ h with h | h | h <;> first | (have := hF.rk.chN _ h; omega) | omega

/-- IT STARTS THE HANDS, and takes all that comes. -/
theorem loop8a {Post : List Nat → List Nat → Goroutine → World → Prop} (T' : List Nat) (hT : ∀ b ∈ T', b < N + 3) (hm64 : m ≤ 64) (hnil : 0 < m → ∃ ad, b0 = some ad)
    (bC : Frame) (aC : Act) (opsC : Array Oper) (iC : Nat) (restC : List Nat) (kC : List Item) (csC : List Frame) (hcs0 : cs = bC.at aC (.inRegion opsC (iC :: restC) :: kC) :: csC) (all : List Int)
    (hPost : ∀ out w, RK N W ch a0 n cap b0 m ds (N + 3 + m) out (all.map iv) w → Post T' (chL N ch m) (G (bC.at (aC.put ((opsC[iC]?).bind (·.dst)) out) (.inRegion opsC restC :: kC)) csC) w) :
    ∀ (rem : List Int) (k : Nat) (xs : List Int), ds.drop k = rem → k + rem.length = m → rowOut xs rem = all → xs.length * 8 ≤ 140737488355328 → ∃ n₁, ∀ (u3 u4 u7 u8 u9 u10 u11 u12 u13 u14 u15 u16 u17 u21 u22 u23 u24 u25 u26 u27 u28 u29 u30 u31 u32 u33 u34 u35 u36 u37 u38 : Value) w, RZ N W ch a0 n cap b0 m ds k w →
      Goes Try.prog true (RC (chL N ch k)) (DM T' (chL N ch k)) (stopM Try.prog zi Post (mains (chA N k) (xs.map iv) (lst N k rem)) T' (chL N ch k)) n₁ (head8a N a0 n cap b0 m capb cs (chA N k) k u3 u4 u7 u8 u9 u10 u11 u12 u13 u14 u15 u16 u17 u21 u22 u23 u24 u25 u26 u27 u28 u29 u30 u31 u32 u33 u34 u35 u36 u37 u38) w := by
  intro rem
  induction rem with
  | nil =>
    intro k xs hd hk hall hlen
    obtain rfl : k = m := by simpa using hk
    have hall : xs = all := hall
    subst hall
    obtain ⟨n₁, h₁⟩ := loop8b N W ch a0 n cap b0 k ds cs (Post := Post) T' (chL N ch k) (chA N k) (N + 3 + k) (fun c hc => chL_mem hc) (fun b hb => by have := hT b hb; omega) bC aC opsC iC restC kC csC hcs0 (xs.map iv) hPost xs [] (by simp) (by simpa using hlen)
    exact ⟨n₁ + 40, fun u3 u4 u7 u8 u9 u10 u11 u12 u13 u14 u15 u16 u17 u21 u22 u23 u24 u25 u26 u27 u28 u29 u30 u31 u32 u33 u34 u35 u36 u37 u38 w hF => seg8_exit N W ch a0 n cap b0 k capb ds cs T' (chL N ch k) _ n₁ (chA N k) (fun c hc => chL_mem hc) u3 u4 u7 u8 u9 u10 u11 u12 u13 u14 u15 u16 u17 u21 u22 u23 u24 u25 u26 u27 u28 u29 u30 u31 u32 u33 u34 u35 u36 u37 u38 w hF fun u0 u1 u2 u3 u4 u5 u6 u7 u8 u9 u11 u12 u13 u14 u15 u16 u17 u18 u19 u20 u21 u22 u23 u24 u25 u26 u27 u28 u29 u31 u32 u33 u34 u35 u36 u37 u38 w' hF => h₁ _ u0 u1 u2 u3 u4 u5 u6 u7 u8 u9 u11 u12 u13 u14 u15 u16 u17 u18 u19 u20 u21 u22 u23 u24 u25 u26 u27 u28 u29 u31 u32 u33 u34 u35 u36 u37 u38 w' hF.rk⟩
  | cons d rem ih =>
    intro k xs hd hk hall hlen
    have hkm : k < m := by simp only [List.length_cons] at hk; omega
    have hkl : k < ds.length := by
      rcases Nat.lt_or_ge k ds.length with h | h
      · exact h
      · rw [List.drop_eq_nil_of_le h] at hd; cases hd
    have hcons := List.drop_eq_getElem_cons hkl
    rw [hd] at hcons
    have hdk : ds[k]?.getD 0 = d := by rw [List.getElem?_eq_getElem hkl]; exact (List.cons.inj hcons).1.symm
    obtain ⟨n₁, h₁⟩ := ih (k + 1) (xs.map (addI d)) (List.cons.inj hcons).2.symm (by simp only [List.length_cons] at hk; omega) hall (by simpa using hlen)
    refine ⟨0 + 60, fun u3 u4 u7 u8 u9 u10 u11 u12 u13 u14 u15 u16 u17 u21 u22 u23 u24 u25 u26 u27 u28 u29 u30 u31 u32 u33 u34 u35 u36 u37 u38 w hF => seg8_fork N W ch a0 n cap b0 m capb ds cs T' (chL N ch k) _ 0 (chA N k) k hkm (hnil (by omega)) (fun c hc => chL_mem hc) hT u3 u4 u7 u8 u9 u10 u11 u12 u13 u14 u15 u16 u17 u21 u22 u23 u24 u25 u26 u27 u28 u29 u30 u31 u32 u33 u34 u35 u36 u37 u38 w hF fun u3 u4 u7 u10 u11 u12 u13 u14 u15 u16 u17 u21 u22 u23 u24 u28 u29 u30 u31 u32 u33 u34 u35 u36 u37 u38 w' hF => Goes.stop fun w₂ h₂ => ?_⟩
    have hF2 := hF.rely (fun c hc => chL_mem hc) h₂
    have e : mains (chA N k) (xs.map iv) (lst N k (d :: rem)) = .fork [] [N + 3 + k] (hnd (chA N k) (N + 3 + k) (addV (ds[k]?.getD 0)) (xs.map iv)) :: mains (chA N (k + 1)) ((xs.map (addI d)).map iv) (lst N (k + 1) rem) := by
      rw [hdk, ← map_addV]; rfl
    rw [e]
    refine at8_fork N W ch a0 n cap b0 m capb ds cs T' (chL N ch k) (chA N k) k (fun c hc => chL_mem hc) hT xs _ u3 u4 u7 u10 u11 u12 u13 u14 u15 u16 u17 u21 u22 u23 u24 u28 u29 u30 u31 u32 u33 u34 u35 u36 u37 u38 w₂ hF2 ?_
    exact followM_iff.2 ⟨n₁ + 20, seg8_next N W ch a0 n cap b0 m capb ds cs T' (chL N ch (k + 1)) _ n₁ (chA N k) k hkm hm64 (fun c hc => chL_mem hc) u3 u4 u7 u10 u11 u12 u13 u14 u15 u16 u17 u21 u22 u23 u24 u28 u29 u30 u31 u32 u33 u34 u35 u36 u37 u38 w₂ hF2.next fun u3 u4 u7 u8 u9 u10 u11 u12 u13 u14 u15 u16 u17 u21 u22 u23 u24 u25 u26 u27 u28 u29 u30 u31 u32 u33 u34 u35 u36 u37 u38 w' hF => h₁ u3 u4 u7 u8 u9 u10 u11 u12 u13 u14 u15 u16 u17 u21 u22 u23 u24 u25 u26 u27 u28 u29 u30 u31 u32 u33 u34 u35 u36 u37 u38 w' hF⟩
end
end Go.Proofs.Ytplndihadjfliaa.Net
