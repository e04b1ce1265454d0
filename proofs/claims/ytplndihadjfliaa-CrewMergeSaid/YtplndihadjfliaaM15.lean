/-
  CREW: the walk of crew.Merge: its stops; the loops.
-/
import Derived.Test.YtplndihadjfliaaM14
import Derived.Conc.TokenWalk
set_option linter.unusedSimpArgs false
set_option linter.unusedVariables false
set_option maxHeartbeats 4000000
namespace Go.Proofs.Ytplndihadjfliaa.Mix
open Go Go.Conc Go.ConcN Go.Proofs Go.RowKit
open Go.ConcR (KK wgBlock WgAt stA smA rd wr mk)

/-- A list's block. -/
def vblk (a0 : Option Addr) (n : Nat) : List Nat := if 0 < n then (match a0 with | some ad => [ad.block] | none => []) else []
theorem vblk_mem {a0 : Option Addr} {n b : Nat} (h : b ∈ vblk a0 n) : ∃ ad, a0 = some ad ∧ 0 < n ∧ b = ad.block := by
  unfold vblk at h
  split at h
  · rename_i hn
    cases a0 with
    | none => cases h
    | some ad => exact ⟨ad, rfl, hn, by simpa using h⟩
  · cases h
theorem vblk_in {a0 : Option Addr} {n : Nat} (ad : Addr) (h : a0 = some ad) (hn : 0 < n) : ad.block ∈ vblk a0 n := by
  subst h; simp [vblk, hn]
/-- What the senders read. -/
def tL (pa : Nat → Option Addr) (pn : Nat → Nat) (T : List Nat) : Nat → List Nat
  | 0 => T
  | k + 1 => vblk (pa k) (pn k) ++ tL pa pn T k

/-- What a go statement that names its function does. -/
theorem run_go_func {P : Program} {a : Act} {o : Oper} {f : FuncId} {args : Array Operand} {ats : Array TypeId} (hop : o.op = .go { callee := .value (.func f), args, argTypes := ats }) (w : World) :
    (execOp a.eval o).run P w = .ok (.spawn { target := .fn (.func f) #[], args := args.map a.eval }) w ∧ (execOp a.eval o).events P w #[] = #[] := by
  have ef : a.eval (.func f) = .func (.func f) #[] #[] := rfl
  constructor
  · unfold execOp
    simp [hop, resolve, Deferred.ofValue, ef]
  · unfold execOp
    simp [hop, resolve, Deferred.ofValue, ef]

/-- The parts, and the turns. -/
structure Parts (N : Nat) (W : World) (ch : List Nat) (pA : Option Addr) (M : Nat) (pa : Nat → Option Addr) (pn pc : Nat → Nat) (zs : Nat → List Int) : Prop where
  sz : W.heap.size = N
  max : M ≤ 64
  ex : 0 < M → ∃ ad, pA = some ad
  nch : ∀ ad, pA = some ad → 0 < M → ad.block ∉ ch
  pv : ∀ p ad, p < M → pA = some ad → W.cell? (ad.add p) = some (.slice (pa p) (pn p) (pc p))
  ir : ∀ p, p < M → IR ch (pa p) (pn p) (zs p) W
section
variable {N : Nat} {W : World} {ch : List Nat} {pA : Option Addr} {M : Nat} {pa : Nat → Option Addr} {pn pc : Nat → Nat} {zs : Nat → List Int}
theorem Parts.lt (h : Parts N W ch pA M pa pn pc zs) {ad : Addr} (ha : pA = some ad) (hM : 0 < M) : ad.block < N := by
  have := lt_of_cell (h.pv 0 ad hM ha)
  rw [addBlock, h.sz] at this; exact this
theorem IR.lt {ch : List Nat} {a0 : Option Addr} {n : Nat} {xs : List Int} {w : World} (h : IR ch a0 n xs w) {ad : Addr} (ha : a0 = some ad) (hn : 0 < n) : ad.block < w.heap.size := by
  have := lt_of_cell (h.cell 0 ad hn ha)
  rw [addBlock] at this; exact this
theorem tL_lt (h : Parts N W ch pA M pa pn pc zs) {T : List Nat} (hT : ∀ b ∈ T, b < N) : ∀ k, k ≤ M → ∀ b ∈ tL pa pn T k, b < N
  | 0, _, b, hb => hT b hb
  | k + 1, hk, b, hb => by
    rcases List.mem_append.1 hb with hb | hb
    · obtain ⟨ad, h1, h2, rfl⟩ := vblk_mem hb
      have := (h.ir k (by omega)).lt h1 h2
      rw [h.sz] at this; exact this
    · exact tL_lt h hT k (by omega) b hb
end

section
variable (N : Nat) (W : World) (ch GG : List Nat) (pA : Option Addr) (M pcap : Nat) (pa : Nat → Option Addr) (pn pc : Nat → Nat) (tA : Option Addr) (tn tcap : Nat) (cs : List Frame) {Post : List Nat → List Nat → List Nat → Goroutine → World → Prop}

set_option maxRecDepth 100000 in
/-- AT THE CALL OF Add. -/
theorem at14_add (T' ch' : List Nat) (hN : N ∈ ch') (k : Nat) (al : List Do) (n₀ : Nat) (u2 u3 u10 u11 u12 u13 u14 u15 u16 u17 u18 u19 u20 u21 u25 u26 u27 u28 u29 u30 u31 u32 u33 u34 u35 u36 u37 u38 u39 u40 u41 u42 u43 u44 u45 u46 u47 u48 u49 u50 u51 u52 u53 u54 u55 u56 u57 u58 u59 u60 u61 u62 u63 u64 u65 u66 u67 u68 u69 u70 u71 : Value) (w : World) (hL : WgLive 47 N w)
    (next : ∀ w', RC (47, true) N ch' w w' → GoM Post N T' ch' (N :: GG) al n₀ (add14 N pA M pcap pa pn pc tA tn tcap cs k u2 u3 u10 u11 u12 u13 u14 u15 u16 u17 u18 u19 u20 u21 u25 u26 u27 u28 u29 u30 u31 u32 (.tuple #[]) u34 u35 u36 u37 u38 u39 u40 u41 u42 u43 u44 u45 u46 u47 u48 u49 u50 u51 u52 u53 u54 u55 u56 u57 u58 u59 u60 u61 u62 u63 u64 u65 u66 u67 u68 u69 u70 u71 []) w') :
    GoM Post N T' ch' (N :: GG) (.pr (.say .disable) :: .pr .inc :: .pr (.say .enable) :: al) (0 + 41) (add14 N pA M pcap pa pn pc tA tn tcap cs k u2 u3 u10 u11 u12 u13 u14 u15 u16 u17 u18 u19 u20 u21 u25 u26 u27 u28 u29 u30 u31 u32 u33 u34 u35 u36 u37 u38 u39 u40 u41 u42 u43 u44 u45 u46 u47 u48 u49 u50 u51 u52 u53 u54 u55 u56 u57 u58 u59 u60 u61 u62 u63 u64 u65 u66 u67 u68 u69 u70 u71 [0]) w := by
  unfold add14
  refine goes_in (n := 0 + 40) (termsM (47, true) N T' ch' (N :: GG)) (o := { dst := some 33, op := .call { callee := .value (.func 23), args := #[.tmp 5, .const (.int .i64 1)], argTypes := #[47, 3] }, type := 0, pos := "crew.go:111", after := #[], guard := none }) rfl rfl (by decide) rfl Try.func23 (by simp [Try.f23]) (c := body23) (by simp [Try.f23, body23]) (fun w₁ h₁ => ?_)
  have e : (#[.tmp 5, .const (.int .i64 1)] : Array Operand).map (Act.eval ⟨#[.slice pA M pcap, .slice tA tn tcap, u2, u3, .slice none 0 0, .pointer (some ⟨N, 0, none⟩), .chan (some (N + 1)), .slice (some ⟨N + 2, 0, none⟩) M M, .int .i64 k, .slice (pa k) (pn k) (pc k), u10, u11, u12, u13, u14, u15, u16, u17, u18, u19, u20, u21, .slice pA M pcap, .int .i64 M, .int .i64 k, u25, u26, u27, u28, u29, u30, u31, u32, u33, u34, u35, u36, u37, u38, u39, u40, u41, u42, u43, u44, u45, u46, u47, u48, u49, u50, u51, u52, u53, u54, u55, u56, u57, u58, u59, u60, u61, u62, u63, u64, u65, u66, u67, u68, u69, u70, u71], []⟩) = #[.pointer (some ⟨N, 0, none⟩), .int .i64 1] := by simp [Act.eval]
  rw [e]
  have e2 : (#[.pointer (some ⟨N, 0, none⟩), .int .i64 1] : Array Value) ++ Array.replicate (Try.f23.ntmps - (#[.pointer (some ⟨N, 0, none⟩), .int .i64 1] : Array Value).size) undef = #[.pointer (some ⟨N, 0, none⟩), .int .i64 1, undef, undef, undef, undef, undef, undef, undef, undef, undef, undef, undef, undef, undef, undef, undef, undef, undef, undef, undef, undef, undef, undef, undef, undef, undef, undef, undef, undef, undef, undef, undef, undef, undef, undef, undef, undef, undef, undef, undef, undef, undef, undef, undef, undef, undef, undef, undef, undef, undef, undef, undef, undef, undef, undef, undef, undef, undef, undef, undef, undef, undef, undef, undef, undef, undef, undef, undef, undef, undef, undef, undef, undef, undef, undef, undef, undef, undef, undef, undef, undef, undef, undef, undef, undef, undef, undef, undef, undef, undef, undef, undef, undef, undef, undef, undef, undef, undef, undef, undef, undef, undef, undef, undef, undef, undef, undef, undef, undef, undef, undef, undef, undef, undef, undef, undef] := by simp only [Try.f23]; walk_nrm
  rw [e2]
  refine add_goes Post T' ch' (N :: GG) N (by simp) hN (base 14) ⟨#[.slice pA M pcap, .slice tA tn tcap, u2, u3, .slice none 0 0, .pointer (some ⟨N, 0, none⟩), .chan (some (N + 1)), .slice (some ⟨N + 2, 0, none⟩) M M, .int .i64 k, .slice (pa k) (pn k) (pc k), u10, u11, u12, u13, u14, u15, u16, u17, u18, u19, u20, u21, .slice pA M pcap, .int .i64 M, .int .i64 k, u25, u26, u27, u28, u29, u30, u31, u32, u33, u34, u35, u36, u37, u38, u39, u40, u41, u42, u43, u44, u45, u46, u47, u48, u49, u50, u51, u52, u53, u54, u55, u56, u57, u58, u59, u60, u61, u62, u63, u64, u65, u66, u67, u68, u69, u70, u71], []⟩ ops14c 0 [] [.code G14, .inBlock 1, .code R14a, .inLoop L14a, .inBlock 0, .code rest14] cs n₀ al w hL (fun w' h => ?_) w₁ h₁
  have e3 : Act.put ⟨#[.slice pA M pcap, .slice tA tn tcap, u2, u3, .slice none 0 0, .pointer (some ⟨N, 0, none⟩), .chan (some (N + 1)), .slice (some ⟨N + 2, 0, none⟩) M M, .int .i64 k, .slice (pa k) (pn k) (pc k), u10, u11, u12, u13, u14, u15, u16, u17, u18, u19, u20, u21, .slice pA M pcap, .int .i64 M, .int .i64 k, u25, u26, u27, u28, u29, u30, u31, u32, u33, u34, u35, u36, u37, u38, u39, u40, u41, u42, u43, u44, u45, u46, u47, u48, u49, u50, u51, u52, u53, u54, u55, u56, u57, u58, u59, u60, u61, u62, u63, u64, u65, u66, u67, u68, u69, u70, u71], []⟩ ((ops14c[0]?).bind (·.dst)) (.tuple #[]) = ⟨#[.slice pA M pcap, .slice tA tn tcap, u2, u3, .slice none 0 0, .pointer (some ⟨N, 0, none⟩), .chan (some (N + 1)), .slice (some ⟨N + 2, 0, none⟩) M M, .int .i64 k, .slice (pa k) (pn k) (pc k), u10, u11, u12, u13, u14, u15, u16, u17, u18, u19, u20, u21, .slice pA M pcap, .int .i64 M, .int .i64 k, u25, u26, u27, u28, u29, u30, u31, u32, .tuple #[], u34, u35, u36, u37, u38, u39, u40, u41, u42, u43, u44, u45, u46, u47, u48, u49, u50, u51, u52, u53, u54, u55, u56, u57, u58, u59, u60, u61, u62, u63, u64, u65, u66, u67, u68, u69, u70, u71], []⟩ := by simp only [ops14c, A14, B14a, L14a, t14c, t14b, t14a, body14, Try.f14, Option.getD_some]; rfl
  rw [e3]
  exact next w' h

set_option maxRecDepth 100000 in
/-- AT THE go STATEMENT. -/
theorem at14_go (T' ch' : List Nat) (k : Nat) {zs : Nat → List Int} (hP : Parts N W ch pA M pa pn pc zs) (hk : k < M) (hG : ∀ b ∈ GG, b ∈ ch) (hcs : ∀ c ∈ ch', c ∈ ch ∨ c = N ∨ c = N + 1 ∨ (N + 3 ≤ c ∧ c < N + 3 + k)) (hT : ∀ b ∈ T', b < N) (al : List Do)
    (u2 u3 u10 u11 u12 u13 u14 u15 u16 u17 u18 u19 u20 u21 u25 u26 u27 u28 u29 u30 u31 u32 u33 u35 u36 u37 u40 u41 u42 u43 u44 u45 u46 u47 u48 u49 u50 u51 u52 u53 u54 u55 u56 u57 u58 u59 u60 u61 u62 u63 u64 u65 u66 u67 u68 u69 u70 u71 : Value) (w : World) (hF : MF N W ch M (k + 1) k w)
    (next : FollowM Try.prog zi (47, true) N Post al (vblk (pa k) (pn k) ++ T') ((N + 3 + k) :: ch') (N :: GG) (go14 N pA M pcap pa pn pc tA tn tcap cs k u2 u3 u10 u11 u12 u13 u14 u15 u16 u17 u18 u19 u20 u21 u25 u26 u27 u28 u29 u30 u31 u32 u33 u35 u36 u37 u40 u41 u42 u43 u44 u45 u46 u47 u48 u49 u50 u51 u52 u53 u54 u55 u56 u57 u58 u59 u60 u61 u62 u63 u64 u65 u66 u67 u68 u69 u70 u71 []) w) :
    stopM Try.prog zi (47, true) N Post (.fork (vblk (pa k) (pn k)) [N + 3 + k] (kidS (N + 1) N (N + 3 + k) ((zs k).map iv)) :: al) T' ch' (N :: GG) (go14 N pA M pcap pa pn pc tA tn tcap cs k u2 u3 u10 u11 u12 u13 u14 u15 u16 u17 u18 u19 u20 u21 u25 u26 u27 u28 u29 u30 u31 u32 u33 u35 u36 u37 u40 u41 u42 u43 u44 u45 u46 u47 u48 u49 u50 u51 u52 u53 u54 u55 u56 u57 u58 u59 u60 u61 u62 u63 u64 u65 u66 u67 u68 u69 u70 u71 [6]) w := by
  obtain ⟨hr, he⟩ := run_go_func (P := Try.prog) (a := ⟨#[.slice pA M pcap, .slice tA tn tcap, u2, u3, .slice none 0 0, .pointer (some ⟨N, 0, none⟩), .chan (some (N + 1)), .slice (some ⟨N + 2, 0, none⟩) M M, .int .i64 k, .slice (pa k) (pn k) (pc k), u10, u11, u12, u13, u14, u15, u16, u17, u18, u19, u20, u21, .slice pA M pcap, .int .i64 M, .int .i64 k, u25, u26, u27, u28, u29, u30, u31, u32, u33, .slice (pa k) (pn k) (pc k), u35, u36, u37, .chan (some (N + 3 + k)), .chan (some (N + 1)), u40, u41, u42, u43, u44, u45, u46, u47, u48, u49, u50, u51, u52, u53, u54, u55, u56, u57, u58, u59, u60, u61, u62, u63, u64, u65, u66, u67, u68, u69, u70, u71], []⟩) (o := { dst := none, op := .go { callee := .value (.func 24), args := #[.tmp 34, .tmp 38, .tmp 39, .tmp 5], argTypes := #[22, 54, 67, 52] }, type := 0, pos := "crew.go:112", after := #[{ on := 0, ground := .data }, { on := 4, ground := .data }, { on := 5, ground := .data }], guard := none }) rfl w
  have ha : (#[.tmp 34, .tmp 38, .tmp 39, .tmp 5] : Array Operand).map (Act.eval ⟨#[.slice pA M pcap, .slice tA tn tcap, u2, u3, .slice none 0 0, .pointer (some ⟨N, 0, none⟩), .chan (some (N + 1)), .slice (some ⟨N + 2, 0, none⟩) M M, .int .i64 k, .slice (pa k) (pn k) (pc k), u10, u11, u12, u13, u14, u15, u16, u17, u18, u19, u20, u21, .slice pA M pcap, .int .i64 M, .int .i64 k, u25, u26, u27, u28, u29, u30, u31, u32, u33, .slice (pa k) (pn k) (pc k), u35, u36, u37, .chan (some (N + 3 + k)), .chan (some (N + 1)), u40, u41, u42, u43, u44, u45, u46, u47, u48, u49, u50, u51, u52, u53, u54, u55, u56, u57, u58, u59, u60, u61, u62, u63, u64, u65, u66, u67, u68, u69, u70, u71], []⟩) = #[.slice (pa k) (pn k) (pc k), .chan (some (N + 3 + k)), .chan (some (N + 1)), .pointer (some ⟨N, 0, none⟩)] := by simp [Act.eval]
  rw [ha] at hr
  have hst : stepG Try.prog true (go14 N pA M pcap pa pn pc tA tn tcap cs k u2 u3 u10 u11 u12 u13 u14 u15 u16 u17 u18 u19 u20 u21 u25 u26 u27 u28 u29 u30 u31 u32 u33 u35 u36 u37 u40 u41 u42 u43 u44 u45 u46 u47 u48 u49 u50 u51 u52 u53 u54 u55 u56 u57 u58 u59 u60 u61 u62 u63 u64 u65 u66 u67 u68 u69 u70 u71 [6]) w = .spawn (go14 N pA M pcap pa pn pc tA tn tcap cs k u2 u3 u10 u11 u12 u13 u14 u15 u16 u17 u18 u19 u20 u21 u25 u26 u27 u28 u29 u30 u31 u32 u33 u35 u36 u37 u40 u41 u42 u43 u44 u45 u46 u47 u48 u49 u50 u51 u52 u53 u54 u55 u56 u57 u58 u59 u60 u61 u62 u63 u64 u65 u66 u67 u68 u69 u70 u71 []) (born Try.prog { target := .fn (.func 24) #[], args := #[.slice (pa k) (pn k) (pc k), .chan (some (N + 3 + k)), .chan (some (N + 1)), .pointer (some ⟨N, 0, none⟩)] }) w (listed Try.prog 14 ⟨#[.slice pA M pcap, .slice tA tn tcap, u2, u3, .slice none 0 0, .pointer (some ⟨N, 0, none⟩), .chan (some (N + 1)), .slice (some ⟨N + 2, 0, none⟩) M M, .int .i64 k, .slice (pa k) (pn k) (pc k), u10, u11, u12, u13, u14, u15, u16, u17, u18, u19, u20, u21, .slice pA M pcap, .int .i64 M, .int .i64 k, u25, u26, u27, u28, u29, u30, u31, u32, u33, .slice (pa k) (pn k) (pc k), u35, u36, u37, .chan (some (N + 3 + k)), .chan (some (N + 1)), u40, u41, u42, u43, u44, u45, u46, u47, u48, u49, u50, u51, u52, u53, u54, u55, u56, u57, u58, u59, u60, u61, u62, u63, u64, u65, u66, u67, u68, u69, u70, u71], []⟩ { dst := none, op := .go { callee := .value (.func 24), args := #[.tmp 34, .tmp 38, .tmp 39, .tmp 5], argTypes := #[22, 54, 67, 52] }, type := 0, pos := "crew.go:112", after := #[{ on := 0, ground := .data }, { on := 4, ground := .data }, { on := 5, ground := .data }], guard := none } w) :=
    stepG_spawn (b := base 14) (ops := ops14g) (i := 6) (rest := []) (main := true) (k := [.inBlock 1, .code R14a, .inLoop L14a, .inBlock 0, .code rest14]) (cs := cs) rfl rfl (by decide) hr rfl
  have hl : listed Try.prog 14 ⟨#[.slice pA M pcap, .slice tA tn tcap, u2, u3, .slice none 0 0, .pointer (some ⟨N, 0, none⟩), .chan (some (N + 1)), .slice (some ⟨N + 2, 0, none⟩) M M, .int .i64 k, .slice (pa k) (pn k) (pc k), u10, u11, u12, u13, u14, u15, u16, u17, u18, u19, u20, u21, .slice pA M pcap, .int .i64 M, .int .i64 k, u25, u26, u27, u28, u29, u30, u31, u32, u33, .slice (pa k) (pn k) (pc k), u35, u36, u37, .chan (some (N + 3 + k)), .chan (some (N + 1)), u40, u41, u42, u43, u44, u45, u46, u47, u48, u49, u50, u51, u52, u53, u54, u55, u56, u57, u58, u59, u60, u61, u62, u63, u64, u65, u66, u67, u68, u69, u70, u71], []⟩ { dst := none, op := .go { callee := .value (.func 24), args := #[.tmp 34, .tmp 38, .tmp 39, .tmp 5], argTypes := #[22, 54, 67, 52] }, type := 0, pos := "crew.go:112", after := #[{ on := 0, ground := .data }, { on := 4, ground := .data }, { on := 5, ground := .data }], guard := none } w = #[] := listed_nil he
  rw [hl] at hst
  have hir := hP.ir k hk
  have hv : ∀ ad, pa k = some ad → 0 < pn k → ad.block < N ∧ ad.block ∉ ch := fun ad h1 h2 => ⟨by have := hir.lt h1 h2; rw [hP.sz] at this; exact this, hir.nch ad h1 h2⟩
  have hS : SndK (vblk (pa k) (pn k)) N (pa k) (pn k) (zs k) w := ⟨fun j ad hj h0 => (hF.kn.cellOld (by rw [addBlock]; exact (hv ad h0 (by omega)).1) (by rw [addBlock]; exact (hv ad h0 (by omega)).2)).trans (hir.cell j ad hj h0), fun ad h0 hn => vblk_in ad h0 hn, hF.kn.lv⟩
  have hchN := hF.kn.chN
  have hsz := hF.sz
  refine ⟨rfl, _, _, w, #[], hst, DM_nil, fun c hc => ?_, fun b hb => ?_, rfl, snd_follows _ _ _ _ _ _ _ (zs k) hir.max hir.len hir.ex w hS, next⟩
  · obtain rfl : c = N + 3 + k := by simpa using hc
    refine ⟨fun h => ?_, fun h => ?_, hF.chn⟩
    · rcases List.mem_append.1 h with h | h
      · obtain ⟨ad, h1, h2, h3⟩ := vblk_mem h
        have := (hv ad h1 h2).1; omega
      · have := hT _ h; omega
    · rcases hcs _ h with h | h | h | h <;> first | (have := hchN _ h; omega) | omega
  · obtain ⟨ad, h1, h2, rfl⟩ := vblk_mem hb
    obtain ⟨h3, h4⟩ := hv ad h1 h2
    refine ⟨fun h => ?_, fun h => ?_, by omega⟩
    · rcases List.mem_append.1 h with h | h
      · have : ad.block = N + 3 + k := by simpa using h
        omega
      · rcases hcs _ h with h | h | h | h <;> first | exact h4 h | omega
    · rcases List.mem_cons.1 h with h | h
      · omega
      · exact h4 (hG _ h)

set_option maxRecDepth 100000 in
theorem at14_rcv (T' ch' G' : List Nat) (out : Value) (j p : Nat) (x : Int) (al : List Do) (u1 u2 u3 u4 u8 u9 u11 u12 u13 u14 u15 u16 u17 u18 u19 u20 u21 u22 u23 u24 u25 u26 u27 u28 u29 u30 u31 u32 u33 u34 u35 u36 u37 u38 u39 u40 u44 u45 u46 u47 u48 u49 u50 u51 u52 u53 u54 u55 u56 u57 u58 u60 u61 u62 u63 u64 u65 u66 u67 u68 u69 u70 u71 : Value) (w : World)
    (next : ∀ w₂, RC (47, true) N ch' w w₂ → FollowM Try.prog zi (47, true) N Post al T' ch' G' (rcv14 N pA M pcap tA tn tcap cs out j p u1 u2 u3 u4 u8 u9 u11 u12 u13 u14 u15 u16 u17 u18 u19 u20 u21 u22 u23 u24 u25 u26 u27 u28 u29 u30 u31 u32 u33 u34 u35 u36 u37 u38 u39 u40 u44 u45 u46 u47 u48 u49 u50 u51 u52 u53 u54 u55 u56 u57 u58 (.tuple #[iv x, .bool true]) u61 u62 u63 u64 u65 u66 u67 u68 u69 u70 u71 [5, 6, 7, 8, 9]) w₂) :
    stopM Try.prog zi (47, true) N Post (.pr (.rcv (N + 3 + p) (iv x)) :: al) T' ch' G' (rcv14 N pA M pcap tA tn tcap cs out j p u1 u2 u3 u4 u8 u9 u11 u12 u13 u14 u15 u16 u17 u18 u19 u20 u21 u22 u23 u24 u25 u26 u27 u28 u29 u30 u31 u32 u33 u34 u35 u36 u37 u38 u39 u40 u44 u45 u46 u47 u48 u49 u50 u51 u52 u53 u54 u55 u56 u57 u58 u60 u61 u62 u63 u64 u65 u66 u67 u68 u69 u70 u71 [4, 5, 6, 7, 8, 9]) w :=
  show AtP Try.prog zi (47, true) N true (RC (47, true) N ch') (EvM T' G') (FollowM Try.prog zi (47, true) N Post al T' ch' G') (FollowM Try.prog zi (47, true) N Post al T' ch' G') (fun _ => FollowM Try.prog zi (47, true) N Post al T' ch' G') _ w (.rcv (N + 3 + p) (iv x)) from
  atRcv_of (b := base 14) (a := ⟨#[.slice pA M pcap, u1, u2, u3, u4, .pointer (some ⟨N, 0, none⟩), .chan (some (N + 1)), .slice (some ⟨N + 2, 0, none⟩) M M, u8, u9, out, u11, u12, u13, u14, u15, u16, u17, u18, u19, u20, u21, u22, u23, u24, u25, u26, u27, u28, u29, u30, u31, u32, u33, u34, u35, u36, u37, u38, u39, u40, .slice tA tn tcap, .int .i64 tn, .int .i64 j, u44, u45, u46, u47, u48, u49, u50, u51, u52, u53, u54, u55, u56, u57, u58, .chan (some (N + 3 + p)), u60, u61, u62, u63, u64, u65, u66, u67, u68, u69, u70, u71], []⟩) (z := zi) (ops := ops14r) (o := { dst := some 60, op := .recv 33 (.tmp 59) true, type := 53, pos := "crew.go:119", after := #[{ on := 3, ground := .data }], guard := none }) rfl rfl (by decide) (by simp [go_sem, rcase, zi]) (by simp [go_sem]) fun w₂ h₂ => next w₂ h₂

set_option maxRecDepth 100000 in
theorem at14_eof (T' ch' G' : List Nat) (out : Value) (j p : Nat) (al : List Do) (u1 u2 u3 u4 u8 u9 u11 u12 u13 u14 u15 u16 u17 u18 u19 u20 u21 u22 u23 u24 u25 u26 u27 u28 u29 u30 u31 u32 u33 u34 u35 u36 u37 u38 u39 u40 u44 u45 u46 u47 u48 u49 u50 u51 u52 u53 u54 u55 u56 u57 u58 u60 u61 u62 u63 u64 u65 u66 u67 u68 u69 u70 u71 : Value) (w : World)
    (next : ∀ w₂, RC (47, true) N ch' w w₂ → FollowM Try.prog zi (47, true) N Post al T' ch' G' (rcv14 N pA M pcap tA tn tcap cs out j p u1 u2 u3 u4 u8 u9 u11 u12 u13 u14 u15 u16 u17 u18 u19 u20 u21 u22 u23 u24 u25 u26 u27 u28 u29 u30 u31 u32 u33 u34 u35 u36 u37 u38 u39 u40 u44 u45 u46 u47 u48 u49 u50 u51 u52 u53 u54 u55 u56 u57 u58 (.tuple #[iv 0, .bool false]) u61 u62 u63 u64 u65 u66 u67 u68 u69 u70 u71 [5, 6, 7, 8, 9]) w₂) :
    stopM Try.prog zi (47, true) N Post (.pr (.eof (N + 3 + p)) :: al) T' ch' G' (rcv14 N pA M pcap tA tn tcap cs out j p u1 u2 u3 u4 u8 u9 u11 u12 u13 u14 u15 u16 u17 u18 u19 u20 u21 u22 u23 u24 u25 u26 u27 u28 u29 u30 u31 u32 u33 u34 u35 u36 u37 u38 u39 u40 u44 u45 u46 u47 u48 u49 u50 u51 u52 u53 u54 u55 u56 u57 u58 u60 u61 u62 u63 u64 u65 u66 u67 u68 u69 u70 u71 [4, 5, 6, 7, 8, 9]) w :=
  show AtP Try.prog zi (47, true) N true (RC (47, true) N ch') (EvM T' G') (FollowM Try.prog zi (47, true) N Post al T' ch' G') (FollowM Try.prog zi (47, true) N Post al T' ch' G') (fun _ => FollowM Try.prog zi (47, true) N Post al T' ch' G') _ w (.eof (N + 3 + p)) from
  atEof_of (b := base 14) (a := ⟨#[.slice pA M pcap, u1, u2, u3, u4, .pointer (some ⟨N, 0, none⟩), .chan (some (N + 1)), .slice (some ⟨N + 2, 0, none⟩) M M, u8, u9, out, u11, u12, u13, u14, u15, u16, u17, u18, u19, u20, u21, u22, u23, u24, u25, u26, u27, u28, u29, u30, u31, u32, u33, u34, u35, u36, u37, u38, u39, u40, .slice tA tn tcap, .int .i64 tn, .int .i64 j, u44, u45, u46, u47, u48, u49, u50, u51, u52, u53, u54, u55, u56, u57, u58, .chan (some (N + 3 + p)), u60, u61, u62, u63, u64, u65, u66, u67, u68, u69, u70, u71], []⟩) (z := zi) (ops := ops14r) (o := { dst := some 60, op := .recv 33 (.tmp 59) true, type := 53, pos := "crew.go:119", after := #[{ on := 3, ground := .data }], guard := none }) rfl rfl (by decide) (by simp [go_sem, rcase, zi]) (by simp [go_sem]) fun w₂ h₂ => next w₂ h₂

set_option maxRecDepth 100000 in
/-- AT THE CLOSE. -/
theorem at14_cls (T' ch' G' : List Nat) (out : Value) (al : List Do) (u0 u1 u2 u3 u4 u6 u7 u8 u9 u11 u12 u13 u14 u15 u16 u17 u18 u19 u20 u21 u22 u23 u24 u25 u26 u27 u28 u29 u30 u31 u32 u33 u34 u35 u36 u37 u38 u39 u40 u41 u42 u43 u44 u45 u46 u47 u48 u49 u50 u51 u52 u53 u54 u55 u56 u57 u58 u59 u60 u61 u62 u63 u64 u65 u66 u67 u68 u70 u71 : Value) (w : World)
    (next : ∀ s r tm w₂, w.heap[N + 1]? = some (.chan 0 #[] false s r tm) → RC (47, true) N ch' (w.shut (N + 1) s r tm) w₂ → FollowM Try.prog zi (47, true) N Post al T' ch' G' (cls14 N cs out u0 u1 u2 u3 u4 u6 u7 u8 u9 u11 u12 u13 u14 u15 u16 u17 u18 u19 u20 u21 u22 u23 u24 u25 u26 u27 u28 u29 u30 u31 u32 u33 u34 u35 u36 u37 u38 u39 u40 u41 u42 u43 u44 u45 u46 u47 u48 u49 u50 u51 u52 u53 u54 u55 u56 u57 u58 u59 u60 u61 u62 u63 u64 u65 u66 u67 u68 u70 u71 []) w₂) :
    stopM Try.prog zi (47, true) N Post (.pr (.cls (N + 1)) :: al) T' ch' G' (cls14 N cs out u0 u1 u2 u3 u4 u6 u7 u8 u9 u11 u12 u13 u14 u15 u16 u17 u18 u19 u20 u21 u22 u23 u24 u25 u26 u27 u28 u29 u30 u31 u32 u33 u34 u35 u36 u37 u38 u39 u40 u41 u42 u43 u44 u45 u46 u47 u48 u49 u50 u51 u52 u53 u54 u55 u56 u57 u58 u59 u60 u61 u62 u63 u64 u65 u66 u67 u68 u70 u71 [1]) w := by
  refine ⟨rfl, by simp [mayWake, cls14, G, Frame.at, ops14x, end14, rest14, t14c, t14b, t14a, body14, Try.f14], fun s r tm hc => ?_⟩
  have hst := stepG_close (P := Try.prog) (main := true) (w := w) (b := base 14) (a := ⟨#[u0, u1, u2, u3, u4, .pointer (some ⟨N, 0, none⟩), u6, u7, u8, u9, out, u11, u12, u13, u14, u15, u16, u17, u18, u19, u20, u21, u22, u23, u24, u25, u26, u27, u28, u29, u30, u31, u32, u33, u34, u35, u36, u37, u38, u39, u40, u41, u42, u43, u44, u45, u46, u47, u48, u49, u50, u51, u52, u53, u54, u55, u56, u57, u58, u59, u60, u61, u62, u63, u64, u65, u66, u67, u68, .chan (some (N + 1)), u70, u71], []⟩) (ops := ops14x) (i := 1) (rest := []) (kk := [.code E14]) (cs := cs) (x := .tmp 69) (ats := #[48]) (o := { dst := none, op := .call { callee := .builtin .close, args := #[.tmp 69], argTypes := #[48] }, type := 0, pos := "crew.go:123", after := #[{ on := 0, ground := .data }], guard := none }) rfl rfl (by decide) rfl (c := N + 1) rfl hc (by simp [base, Try.func14, Try.f14])
  refine ⟨_, #[⟨.obj (N + 1), false, true⟩], hst.trans (by rfl), .inl rfl, fun e he => ?_, fun w₂ h₂ => next s r tm w₂ hc h₂⟩
  have : e = ⟨.obj (N + 1), false, true⟩ := by simpa using he
  subst this
  exact .inr ⟨fun m h => (by cases h), fun h => (by cases h), fun ad h => (by cases h)⟩
end
end Go.Proofs.Ytplndihadjfliaa.Mix
/-
  CREW: the walk of crew.Merge: its loops; its end.
-/
set_option linter.unusedSimpArgs false
set_option linter.unusedVariables false
set_option maxHeartbeats 4000000
namespace Go.Proofs.Ytplndihadjfliaa.Mix
open Go Go.Conc Go.ConcN Go.Proofs Go.RowKit
open Go.ConcR (KK wgBlock WgAt stA smA rd wr mk)

/-- What the turns take: of which part, and what (if there is something). -/
def mrun (M : Nat) : (Nat → List Int) → List Int → List (Nat × Option Int)
  | _, [] => []
  | e, t :: r => if 0 ≤ t ∧ t < (M : Int) then (match e t.toNat with | [] => (t.toNat, none) :: mrun M e r | v :: l => (t.toNat, some v) :: mrun M (put e t.toNat l) r) else mrun M e r
def mout (M : Nat) (e : Nat → List Int) (ts : List Int) : List Int := (mrun M e ts).filterMap (·.2)
def lift (x : Nat × Option Int) : Nat × Option Value := (x.1, x.2.map iv)
theorem mrun_out {M : Nat} {e : Nat → List Int} {t : Int} {r : List Int} (h : ¬ (0 ≤ t ∧ t < (M : Int))) : mrun M e (t :: r) = mrun M e r := by rw [mrun, if_neg h]
theorem mrun_nil {M : Nat} {e : Nat → List Int} {p : Nat} {r : List Int} (h : p < M) (he : e p = []) : mrun M e ((p : Int) :: r) = (p, none) :: mrun M e r := by
  rw [mrun, if_pos ⟨by omega, by omega⟩]; simp [he]
theorem mrun_cons {M : Nat} {e : Nat → List Int} {p : Nat} {v : Int} {l r : List Int} (h : p < M) (he : e p = v :: l) : mrun M e ((p : Int) :: r) = (p, some v) :: mrun M (put e p l) r := by
  rw [mrun, if_pos ⟨by omega, by omega⟩]; simp [he]
theorem mrun_ok {M : Nat} : ∀ (ts : List Int) (e : Nat → List Int), okT M (fun p => (e p).map iv) ((mrun M e ts).map lift)
  | [], e => by simp [mrun, okT]
  | t :: r, e => by
    by_cases h : 0 ≤ t ∧ t < (M : Int)
    · obtain ⟨p, rfl⟩ : ∃ p : Nat, t = (p : Int) := ⟨t.toNat, by omega⟩
      have hp : p < M := by omega
      cases he : e p with
      | nil =>
        rw [mrun_nil hp he]
        simp only [List.map_cons, lift, Option.map_none, okT, he, List.map_nil]
        exact ⟨hp, trivial, mrun_ok r e⟩
      | cons v l =>
        rw [mrun_cons hp he]
        simp only [List.map_cons, lift, Option.map_some, okT, he]
        refine ⟨hp, _, rfl, ?_⟩
        have e1 : put (fun q => (e q).map iv) p (l.map iv) = fun q => ((put e p l) q).map iv := by
          funext q
          by_cases hq : q = p
          · subst hq; simp [put]
          · simp [put, hq]
        rw [e1]
        exact mrun_ok r (put e p l)
    · rw [mrun_out h]; exact mrun_ok r e

section
variable (N : Nat) (W : World) (ch GG : List Nat) (pA : Option Addr) (M pcap : Nat) (pa : Nat → Option Addr) (pn pc : Nat → Nat) (tA : Option Addr) (tn tcap : Nat) (cs : List Frame) {Post : List Nat → List Nat → List Nat → Goroutine → World → Prop}

set_option maxRecDepth 100000 in
/-- From behind the close to the caller. -/
theorem end14_goes (T' ch' : List Nat) (hN : N ∈ ch') (hcs : ∀ c ∈ ch', c ∈ ch ∨ c = N ∨ c = N + 1 ∨ (N + 3 ≤ c ∧ c < N + 3 + M)) (bC : Frame) (aC : Act) (opsC : Array Oper) (iC : Nat) (restC : List Nat) (kC : List Item) (csC : List Frame) (hcs0 : cs = bC.at aC (.inRegion opsC (iC :: restC) :: kC) :: csC) (out : Value) (xs : List Value)
    (hPost : ∀ w, MQ N W ch M out xs w → Post T' ch' (N :: GG) (G (bC.at (aC.put ((opsC[iC]?).bind (·.dst)) out) (.inRegion opsC restC :: kC)) csC) w) (u0 u1 u2 u3 u4 u6 u7 u8 u9 u11 u12 u13 u14 u15 u16 u17 u18 u19 u20 u21 u22 u23 u24 u25 u26 u27 u28 u29 u30 u31 u32 u33 u34 u35 u36 u37 u38 u39 u40 u41 u42 u43 u44 u45 u46 u47 u48 u49 u50 u51 u52 u53 u54 u55 u56 u57 u58 u59 u60 u61 u62 u63 u64 u65 u66 u67 u68 u70 u71 : Value) (w : World) (hF : MQ N W ch M out xs w) :
    GoM Post N T' ch' (N :: GG) (.pr (.say .disable) :: .pr (.wld M) :: endX N) ((0 + 20) + 4) (cls14 N cs out u0 u1 u2 u3 u4 u6 u7 u8 u9 u11 u12 u13 u14 u15 u16 u17 u18 u19 u20 u21 u22 u23 u24 u25 u26 u27 u28 u29 u30 u31 u32 u33 u34 u35 u36 u37 u38 u39 u40 u41 u42 u43 u44 u45 u46 u47 u48 u49 u50 u51 u52 u53 u54 u55 u56 u57 u58 u59 u60 u61 u62 u63 u64 u65 u66 u67 u68 u70 u71 []) w := by
  simp only [cls14, E14, end14, rest14, t14c, t14b, t14a, body14, Try.f14, Option.getD_some]
  (first | ((with_reducible first | refine goes_rend ?_ ?_ | refine goes_sq ?_ ?_ | refine goes_sk ?_ ?_ | refine goes_bl ?_ ?_ | refine goes_lo ?_ ?_ | refine goes_ib ?_ ?_ | refine goes_il ?_ ?_ | refine goes_rt ?_ ?_ | refine goes_en ?_ ?_); exact termsM _ _ _ _ _; intro _ h₁; replace hF := hF.rely hcs h₁; clear h₁) | (with_reducible refine goes_rg ?_ ?_; exact termsM _ _ _ _ _; intro _ h₁; replace hF := hF.rely hcs h₁; clear h₁; simp only [List.size_toArray, List.length_cons, List.length_nil, Nat.reduceAdd, Nat.zero_add, List.range, List.range.loop]))
  (first | ((with_reducible first | refine goes_rend ?_ ?_ | refine goes_sq ?_ ?_ | refine goes_sk ?_ ?_ | refine goes_bl ?_ ?_ | refine goes_lo ?_ ?_ | refine goes_ib ?_ ?_ | refine goes_il ?_ ?_ | refine goes_rt ?_ ?_ | refine goes_en ?_ ?_); exact termsM _ _ _ _ _; intro _ h₁; replace hF := hF.rely hcs h₁; clear h₁) | (with_reducible refine goes_rg ?_ ?_; exact termsM _ _ _ _ _; intro _ h₁; replace hF := hF.rely hcs h₁; clear h₁; simp only [List.size_toArray, List.length_cons, List.length_nil, Nat.reduceAdd, Nat.zero_add, List.range, List.range.loop]))
  (first | ((with_reducible first | refine goes_rend ?_ ?_ | refine goes_sq ?_ ?_ | refine goes_sk ?_ ?_ | refine goes_bl ?_ ?_ | refine goes_lo ?_ ?_ | refine goes_ib ?_ ?_ | refine goes_il ?_ ?_ | refine goes_rt ?_ ?_ | refine goes_en ?_ ?_); exact termsM _ _ _ _ _; intro _ h₁; replace hF := hF.rely hcs h₁; clear h₁) | (with_reducible refine goes_rg ?_ ?_; exact termsM _ _ _ _ _; intro _ h₁; replace hF := hF.rely hcs h₁; clear h₁; simp only [List.size_toArray, List.length_cons, List.length_nil, Nat.reduceAdd, Nat.zero_add, List.range, List.range.loop]))
  refine goes_in (n := 0 + 20) (termsM (47, true) N T' ch' (N :: GG)) rfl rfl (by decide) rfl Try.func25 (by simp [Try.f25]) (c := body25) (by simp [Try.f25, body25]) (fun w₁ h₁ => ?_)
  replace hF := hF.rely hcs h₁
  clear h₁
  have e : (#[.tmp 5] : Array Operand).map (Act.eval ⟨#[u0, u1, u2, u3, u4, .pointer (some ⟨N, 0, none⟩), u6, u7, u8, u9, out, u11, u12, u13, u14, u15, u16, u17, u18, u19, u20, u21, u22, u23, u24, u25, u26, u27, u28, u29, u30, u31, u32, u33, u34, u35, u36, u37, u38, u39, u40, u41, u42, u43, u44, u45, u46, u47, u48, u49, u50, u51, u52, u53, u54, u55, u56, u57, u58, u59, u60, u61, u62, u63, u64, u65, u66, u67, u68, .chan (some (N + 1)), u70, u71], []⟩) = #[.pointer (some ⟨N, 0, none⟩)] := by simp [Act.eval]
  rw [e]
  have e2 : (#[.pointer (some ⟨N, 0, none⟩)] : Array Value) ++ Array.replicate (Try.f25.ntmps - (#[.pointer (some ⟨N, 0, none⟩)] : Array Value).size) undef = #[.pointer (some ⟨N, 0, none⟩), undef, undef, undef, undef, undef, undef, undef, undef, undef, undef, undef, undef, undef, undef, undef, undef, undef, undef, undef, undef, undef, undef, undef, undef, undef, undef, undef, undef, undef, undef, undef, undef, undef, undef, undef, undef, undef, undef, undef, undef, undef, undef, undef, undef, undef, undef, undef, undef, undef, undef, undef, undef, undef, undef, undef, undef, undef, undef, undef, undef, undef, undef, undef, undef, undef, undef, undef, undef, undef, undef, undef, undef, undef, undef, undef, undef, undef, undef, undef, undef, undef, undef, undef] := by simp only [Try.f25]; walk_nrm
  rw [e2]
  clear e e2
  refine wait_goes Post T' ch' (N :: GG) N (by simp) hN (base 14) _ _ 0 [] _ cs (0 + 20) [] w₁ hF.kn.lv (fun w' h => ?_) M w₁ (RC.refl _ _)
  replace hF := hF.rely hcs h
  clear h
  walk_nrm
  (repeat (first | ((with_reducible first | refine goes_rend ?_ ?_ | refine goes_sq ?_ ?_ | refine goes_sk ?_ ?_ | refine goes_bl ?_ ?_ | refine goes_lo ?_ ?_ | refine goes_ib ?_ ?_ | refine goes_il ?_ ?_ | refine goes_rt ?_ ?_ | refine goes_en ?_ ?_); exact termsM _ _ _ _ _; intro _ h₁; replace hF := hF.rely hcs h₁; clear h₁) | (with_reducible refine goes_rg ?_ ?_; exact termsM _ _ _ _ _; intro _ h₁; replace hF := hF.rely hcs h₁; clear h₁; simp only [List.size_toArray, List.length_cons, List.length_nil, Nat.reduceAdd, Nat.zero_add, List.range, List.range.loop])))
  (refine Goes.step rfl (fun w₁ h₁ => ?_); replace hF := hF.rely hcs h₁; clear h₁; refine goes_oper_k rfl rfl (by decide) (fun K hK => ?_); skip; go_simp; refine hK _ _ ⟨DM_same (fun e he => ?_), ?_⟩; (focus (have hm := mem_listed he; (simp [go_sem, *] at hm); (try (subst hm; skip)))); (clear hK K); (try walk_nrm))
  (refine Goes.step rfl (fun w₁ h₁ => ?_); replace hF := hF.rely hcs h₁; clear h₁; refine goes_oper_k rfl rfl (by decide) (fun K hK => ?_); skip; go_simp; refine hK _ _ ⟨DM_same (fun e he => ?_), ?_⟩; (focus (have hm := mem_listed he; (simp [go_sem, *] at hm); (try (subst hm; skip)))); (clear hK K); (try walk_nrm))
  (repeat (first | ((with_reducible first | refine goes_rend ?_ ?_ | refine goes_sq ?_ ?_ | refine goes_sk ?_ ?_ | refine goes_bl ?_ ?_ | refine goes_lo ?_ ?_ | refine goes_ib ?_ ?_ | refine goes_il ?_ ?_ | refine goes_rt ?_ ?_ | refine goes_en ?_ ?_); exact termsM _ _ _ _ _; intro _ h₁; replace hF := hF.rely hcs h₁; clear h₁) | (with_reducible refine goes_rg ?_ ?_; exact termsM _ _ _ _ _; intro _ h₁; replace hF := hF.rely hcs h₁; clear h₁; simp only [List.size_toArray, List.length_cons, List.length_nil, Nat.reduceAdd, Nat.zero_add, List.range, List.range.loop])))
  subst hcs0
  (refine goes_l1 (termsM (47, true) N T' ch' (N :: GG)) rfl rfl Try.func14 (by simp only [Try.f14]; rfl) (fun _ h₁ => ?_); replace hF := hF.rely hcs h₁; clear h₁; (try walk_nrm))
  refine Goes.stop fun w₂ h₂ => ⟨rfl, ?_⟩
  exact hPost w₂ (hF.rely hcs h₂)

/-- IT TAKES BY TURNS. -/
theorem loop14b (T' ch' : List Nat) {zs : Nat → List Int} (hP : Parts N W ch pA M pa pn pc zs) (hG : ∀ b ∈ GG, b ∈ ch) (hN : N ∈ ch') (hs : N + 1 ∈ ch') (hold : ∀ c ∈ ch, c ∈ ch') (hT : ∀ b ∈ T', b < N) (hcs : ∀ c ∈ ch', c ∈ ch ∨ c = N ∨ c = N + 1 ∨ (N + 3 ≤ c ∧ c < N + 3 + M)) (bC : Frame) (aC : Act) (opsC : Array Oper) (iC : Nat) (restC : List Nat) (kC : List Item) (csC : List Frame) (hcs0 : cs = bC.at aC (.inRegion opsC (iC :: restC) :: kC) :: csC) (ts : List Int) (hts : IR ch tA tn ts W) (all : List Value)
    (hPost : ∀ out w, MQ N W ch M out all w → Post T' ch' (N :: GG) (G (bC.at (aC.put ((opsC[iC]?).bind (·.dst)) out) (.inRegion opsC restC :: kC)) csC) w) :
    ∀ (rem : List Int) (j : Nat) (e : Nat → List Int) (xs : List Value), ts.drop j = rem → j + rem.length = tn → xs ++ (mout M e rem).map iv = all → (xs.length + rem.length) * 8 ≤ 140737488355328 → ∃ n₁, ∀ (out : Value) (u1 u2 u3 u4 u8 u9 u11 u12 u13 u14 u15 u16 u17 u18 u19 u20 u21 u22 u23 u24 u25 u26 u27 u28 u29 u30 u31 u32 u33 u34 u35 u36 u37 u38 u39 u40 u44 u45 u46 u47 u48 u49 u50 u51 u52 u53 u54 u55 u56 u57 u58 u59 u60 u61 u62 u63 u64 u65 u66 u67 u68 u69 u70 u71 : Value) w, MQ N W ch M out xs w →
      GoM Post N T' ch' (N :: GG) (trn (fun p => N + 3 + p) ((mrun M e rem).map lift) ++ cloS (N + 1) N M) n₁ (head14b N pA M pcap tA tn tcap cs out j u1 u2 u3 u4 u8 u9 u11 u12 u13 u14 u15 u16 u17 u18 u19 u20 u21 u22 u23 u24 u25 u26 u27 u28 u29 u30 u31 u32 u33 u34 u35 u36 u37 u38 u39 u40 u44 u45 u46 u47 u48 u49 u50 u51 u52 u53 u54 u55 u56 u57 u58 u59 u60 u61 u62 u63 u64 u65 u66 u67 u68 u69 u70 u71) w := by
  intro rem
  induction rem with
  | nil =>
    intro j e xs hd hj hall hlen
    obtain rfl : j = tn := by simpa using hj
    have hall : xs = all := by simpa [mout, mrun] using hall
    subst hall
    refine ⟨0 + 30, fun out u1 u2 u3 u4 u8 u9 u11 u12 u13 u14 u15 u16 u17 u18 u19 u20 u21 u22 u23 u24 u25 u26 u27 u28 u29 u30 u31 u32 u33 u34 u35 u36 u37 u38 u39 u40 u44 u45 u46 u47 u48 u49 u50 u51 u52 u53 u54 u55 u56 u57 u58 u59 u60 u61 u62 u63 u64 u65 u66 u67 u68 u69 u70 u71 w hF => seg14_cls N W ch GG pA M pcap tA j tcap cs T' ch' _ 0 out xs hcs u1 u2 u3 u4 u8 u9 u11 u12 u13 u14 u15 u16 u17 u18 u19 u20 u21 u22 u23 u24 u25 u26 u27 u28 u29 u30 u31 u32 u33 u34 u35 u36 u37 u38 u39 u40 u44 u45 u46 u47 u48 u49 u50 u51 u52 u53 u54 u55 u56 u57 u58 u59 u60 u61 u62 u63 u64 u65 u66 u67 u68 u69 u70 u71 w hF fun u0 u1 u2 u3 u4 u6 u7 u8 u9 u11 u12 u13 u14 u15 u16 u17 u18 u19 u20 u21 u22 u23 u24 u25 u26 u27 u28 u29 u30 u31 u32 u33 u34 u35 u36 u37 u38 u39 u40 u41 u42 u43 u44 u45 u46 u47 u48 u49 u50 u51 u52 u53 u54 u55 u56 u57 u58 u59 u60 u61 u62 u63 u64 u65 u66 u67 u68 u70 u71 w' hF => Goes.stop fun w₁ h₁ => ?_⟩
    refine at14_cls N cs T' ch' (N :: GG) out _ u0 u1 u2 u3 u4 u6 u7 u8 u9 u11 u12 u13 u14 u15 u16 u17 u18 u19 u20 u21 u22 u23 u24 u25 u26 u27 u28 u29 u30 u31 u32 u33 u34 u35 u36 u37 u38 u39 u40 u41 u42 u43 u44 u45 u46 u47 u48 u49 u50 u51 u52 u53 u54 u55 u56 u57 u58 u59 u60 u61 u62 u63 u64 u65 u66 u67 u68 u70 u71 w₁ fun s r tm w₂ hc h₂ => fM (n := (0 + 20) + 4) ?_
    exact end14_goes N W ch GG M cs T' ch' hN hcs bC aC opsC iC restC kC csC hcs0 out xs (hPost out) u0 u1 u2 u3 u4 u6 u7 u8 u9 u11 u12 u13 u14 u15 u16 u17 u18 u19 u20 u21 u22 u23 u24 u25 u26 u27 u28 u29 u30 u31 u32 u33 u34 u35 u36 u37 u38 u39 u40 u41 u42 u43 u44 u45 u46 u47 u48 u49 u50 u51 u52 u53 u54 u55 u56 u57 u58 u59 u60 u61 u62 u63 u64 u65 u66 u67 u68 u70 u71 w₂ (((hF.rely hcs h₁).rely hcs (RC.put hs hc _)).rely hcs h₂)
  | cons t rem ih =>
    intro j e xs hd hj hall hlen
    have hj' : j < tn := by simp only [List.length_cons] at hj; omega
    have htn := hts.max
    obtain ⟨td, htd⟩ := hts.ex (by omega)
    have htN : td.block < N := by have := hts.lt htd (by omega); rw [hP.sz] at this; exact this
    have htc := hts.nch td htd (by omega)
    have hget : ts[j]? = some t := by
      have := congrArg (fun l => l[0]?) hd
      simpa [List.getElem?_drop] using this
    have htv := hts.cell j td hj' htd
    rw [hget] at htv
    have hd' : ts.drop (j + 1) = rem := by rw [← List.drop_drop, hd]; rfl
    have hj2 : (j + 1) + rem.length = tn := by simp only [List.length_cons] at hj; omega
    have hl2 : (xs.length + rem.length) * 8 ≤ 140737488355328 := by simp only [List.length_cons] at hlen; omega
    by_cases h : 0 ≤ t ∧ t < (M : Int)
    · obtain ⟨p, rfl⟩ : ∃ p : Nat, t = (p : Int) := ⟨t.toNat, by omega⟩
      have hp : p < M := by omega
      cases he : e p with
      | nil =>
        have em := mrun_nil (r := rem) hp he
        obtain ⟨n₁, ih⟩ := ih (j + 1) e xs hd' hj2 (by rw [← hall, mout, mout, em]; simp) hl2
        rw [em]
        refine ⟨0 + 50, fun out u1 u2 u3 u4 u8 u9 u11 u12 u13 u14 u15 u16 u17 u18 u19 u20 u21 u22 u23 u24 u25 u26 u27 u28 u29 u30 u31 u32 u33 u34 u35 u36 u37 u38 u39 u40 u44 u45 u46 u47 u48 u49 u50 u51 u52 u53 u54 u55 u56 u57 u58 u59 u60 u61 u62 u63 u64 u65 u66 u67 u68 u69 u70 u71 w hF => seg14_rcv N W ch GG pA M pcap tA tn tcap cs T' ch' _ 0 hT out xs j p hj' htn td htd htN htc _ htv hG rfl hp hcs u1 u2 u3 u4 u8 u9 u11 u12 u13 u14 u15 u16 u17 u18 u19 u20 u21 u22 u23 u24 u25 u26 u27 u28 u29 u30 u31 u32 u33 u34 u35 u36 u37 u38 u39 u40 u44 u45 u46 u47 u48 u49 u50 u51 u52 u53 u54 u55 u56 u57 u58 u59 u60 u61 u62 u63 u64 u65 u66 u67 u68 u69 u70 u71 w hF fun u1 u2 u3 u4 u8 u9 u11 u12 u13 u14 u15 u16 u17 u18 u19 u20 u21 u22 u23 u24 u25 u26 u27 u28 u29 u30 u31 u32 u33 u34 u35 u36 u37 u38 u39 u40 u44 u45 u46 u47 u48 u49 u50 u51 u52 u53 u54 u55 u56 u57 u58 u60 u61 u62 u63 u64 u65 u66 u67 u68 u69 u70 u71 w' hF => Goes.stop fun w₁ h₁ => ?_⟩
        refine at14_eof N pA M pcap tA tn tcap cs T' ch' (N :: GG) out j p _ u1 u2 u3 u4 u8 u9 u11 u12 u13 u14 u15 u16 u17 u18 u19 u20 u21 u22 u23 u24 u25 u26 u27 u28 u29 u30 u31 u32 u33 u34 u35 u36 u37 u38 u39 u40 u44 u45 u46 u47 u48 u49 u50 u51 u52 u53 u54 u55 u56 u57 u58 u60 u61 u62 u63 u64 u65 u66 u67 u68 u69 u70 u71 w₁ fun w₂ h₂ => fM (n := n₁ + 60) ?_
        exact seg14_eof N W ch GG pA M pcap tA tn tcap cs T' ch' _ n₁ out xs j p hj' htn hcs u1 u2 u3 u4 u8 u9 u11 u12 u13 u14 u15 u16 u17 u18 u19 u20 u21 u22 u23 u24 u25 u26 u27 u28 u29 u30 u31 u32 u33 u34 u35 u36 u37 u38 u39 u40 u44 u45 u46 u47 u48 u49 u50 u51 u52 u53 u54 u55 u56 u57 u58 u60 u61 u62 u63 u64 u65 u66 u67 u68 u69 u70 u71 w₂ ((hF.rely hcs h₁).rely hcs h₂) fun u1 u2 u3 u4 u8 u9 u11 u12 u13 u14 u15 u16 u17 u18 u19 u20 u21 u22 u23 u24 u25 u26 u27 u28 u29 u30 u31 u32 u33 u34 u35 u36 u37 u38 u39 u40 u44 u45 u46 u47 u48 u49 u50 u51 u52 u53 u54 u55 u56 u57 u58 u59 u60 u61 u62 u63 u64 u65 u66 u67 u68 u69 u70 u71 w' hF => ih out u1 u2 u3 u4 u8 u9 u11 u12 u13 u14 u15 u16 u17 u18 u19 u20 u21 u22 u23 u24 u25 u26 u27 u28 u29 u30 u31 u32 u33 u34 u35 u36 u37 u38 u39 u40 u44 u45 u46 u47 u48 u49 u50 u51 u52 u53 u54 u55 u56 u57 u58 u59 u60 u61 u62 u63 u64 u65 u66 u67 u68 u69 u70 u71 w' hF
      | cons v l =>
        have em := mrun_cons (r := rem) hp he
        obtain ⟨n₁, ih⟩ := ih (j + 1) (put e p l) (xs ++ [iv v]) hd' hj2 (by rw [← hall, mout, mout, em]; simp) (by simp only [List.length_cons, List.length_append, List.length_nil] at hlen ⊢; omega)
        rw [em]
        refine ⟨0 + 50, fun out u1 u2 u3 u4 u8 u9 u11 u12 u13 u14 u15 u16 u17 u18 u19 u20 u21 u22 u23 u24 u25 u26 u27 u28 u29 u30 u31 u32 u33 u34 u35 u36 u37 u38 u39 u40 u44 u45 u46 u47 u48 u49 u50 u51 u52 u53 u54 u55 u56 u57 u58 u59 u60 u61 u62 u63 u64 u65 u66 u67 u68 u69 u70 u71 w hF => seg14_rcv N W ch GG pA M pcap tA tn tcap cs T' ch' _ 0 hT out xs j p hj' htn td htd htN htc _ htv hG rfl hp hcs u1 u2 u3 u4 u8 u9 u11 u12 u13 u14 u15 u16 u17 u18 u19 u20 u21 u22 u23 u24 u25 u26 u27 u28 u29 u30 u31 u32 u33 u34 u35 u36 u37 u38 u39 u40 u44 u45 u46 u47 u48 u49 u50 u51 u52 u53 u54 u55 u56 u57 u58 u59 u60 u61 u62 u63 u64 u65 u66 u67 u68 u69 u70 u71 w hF fun u1 u2 u3 u4 u8 u9 u11 u12 u13 u14 u15 u16 u17 u18 u19 u20 u21 u22 u23 u24 u25 u26 u27 u28 u29 u30 u31 u32 u33 u34 u35 u36 u37 u38 u39 u40 u44 u45 u46 u47 u48 u49 u50 u51 u52 u53 u54 u55 u56 u57 u58 u60 u61 u62 u63 u64 u65 u66 u67 u68 u69 u70 u71 w' hF => Goes.stop fun w₁ h₁ => ?_⟩
        refine at14_rcv N pA M pcap tA tn tcap cs T' ch' (N :: GG) out j p v _ u1 u2 u3 u4 u8 u9 u11 u12 u13 u14 u15 u16 u17 u18 u19 u20 u21 u22 u23 u24 u25 u26 u27 u28 u29 u30 u31 u32 u33 u34 u35 u36 u37 u38 u39 u40 u44 u45 u46 u47 u48 u49 u50 u51 u52 u53 u54 u55 u56 u57 u58 u60 u61 u62 u63 u64 u65 u66 u67 u68 u69 u70 u71 w₁ fun w₂ h₂ => fM (n := n₁ + 60) ?_
        exact seg14_got N W ch GG pA M pcap tA tn tcap cs T' ch' _ n₁ hG hN hold hT out xs v (by simp only [List.length_cons] at hlen; omega) j p hj' htn hcs u1 u2 u3 u4 u8 u9 u11 u12 u13 u14 u15 u16 u17 u18 u19 u20 u21 u22 u23 u24 u25 u26 u27 u28 u29 u30 u31 u32 u33 u34 u35 u36 u37 u38 u39 u40 u44 u45 u46 u47 u48 u49 u50 u51 u52 u53 u54 u55 u56 u57 u58 u60 u61 u62 u63 u64 u65 u66 u67 u68 u69 u70 u71 w₂ ((hF.rely hcs h₁).rely hcs h₂) fun out u1 u2 u3 u4 u8 u9 u11 u12 u13 u14 u15 u16 u17 u18 u19 u20 u21 u22 u23 u24 u25 u26 u27 u28 u29 u30 u31 u32 u33 u34 u35 u36 u37 u38 u39 u40 u44 u45 u46 u47 u48 u49 u50 u51 u52 u53 u54 u55 u56 u57 u58 u59 u60 u61 u62 u63 u64 u65 u66 u67 u68 u69 u70 u71 w' hF => ih out u1 u2 u3 u4 u8 u9 u11 u12 u13 u14 u15 u16 u17 u18 u19 u20 u21 u22 u23 u24 u25 u26 u27 u28 u29 u30 u31 u32 u33 u34 u35 u36 u37 u38 u39 u40 u44 u45 u46 u47 u48 u49 u50 u51 u52 u53 u54 u55 u56 u57 u58 u59 u60 u61 u62 u63 u64 u65 u66 u67 u68 u69 u70 u71 w' hF
    · have em := mrun_out (e := e) (r := rem) h
      obtain ⟨n₁, ih⟩ := ih (j + 1) e xs hd' hj2 (by rw [← hall, mout, mout, em]) hl2
      rw [em]
      by_cases h0 : t < 0
      · exact ⟨n₁ + 50, fun out u1 u2 u3 u4 u8 u9 u11 u12 u13 u14 u15 u16 u17 u18 u19 u20 u21 u22 u23 u24 u25 u26 u27 u28 u29 u30 u31 u32 u33 u34 u35 u36 u37 u38 u39 u40 u44 u45 u46 u47 u48 u49 u50 u51 u52 u53 u54 u55 u56 u57 u58 u59 u60 u61 u62 u63 u64 u65 u66 u67 u68 u69 u70 u71 w hF => seg14_neg N W ch GG pA M pcap tA tn tcap cs T' ch' _ n₁ out xs j hj' htn td htd htN htc t htv hG h0 hcs u1 u2 u3 u4 u8 u9 u11 u12 u13 u14 u15 u16 u17 u18 u19 u20 u21 u22 u23 u24 u25 u26 u27 u28 u29 u30 u31 u32 u33 u34 u35 u36 u37 u38 u39 u40 u44 u45 u46 u47 u48 u49 u50 u51 u52 u53 u54 u55 u56 u57 u58 u59 u60 u61 u62 u63 u64 u65 u66 u67 u68 u69 u70 u71 w hF fun u1 u2 u3 u4 u8 u9 u11 u12 u13 u14 u15 u16 u17 u18 u19 u20 u21 u22 u23 u24 u25 u26 u27 u28 u29 u30 u31 u32 u33 u34 u35 u36 u37 u38 u39 u40 u44 u45 u46 u47 u48 u49 u50 u51 u52 u53 u54 u55 u56 u57 u58 u59 u60 u61 u62 u63 u64 u65 u66 u67 u68 u69 u70 u71 w' hF => ih out u1 u2 u3 u4 u8 u9 u11 u12 u13 u14 u15 u16 u17 u18 u19 u20 u21 u22 u23 u24 u25 u26 u27 u28 u29 u30 u31 u32 u33 u34 u35 u36 u37 u38 u39 u40 u44 u45 u46 u47 u48 u49 u50 u51 u52 u53 u54 u55 u56 u57 u58 u59 u60 u61 u62 u63 u64 u65 u66 u67 u68 u69 u70 u71 w' hF⟩
      · exact ⟨n₁ + 50, fun out u1 u2 u3 u4 u8 u9 u11 u12 u13 u14 u15 u16 u17 u18 u19 u20 u21 u22 u23 u24 u25 u26 u27 u28 u29 u30 u31 u32 u33 u34 u35 u36 u37 u38 u39 u40 u44 u45 u46 u47 u48 u49 u50 u51 u52 u53 u54 u55 u56 u57 u58 u59 u60 u61 u62 u63 u64 u65 u66 u67 u68 u69 u70 u71 w hF => seg14_far N W ch GG pA M pcap tA tn tcap cs T' ch' _ n₁ out xs j hj' htn td htd htN htc t htv hG (by omega) hcs u1 u2 u3 u4 u8 u9 u11 u12 u13 u14 u15 u16 u17 u18 u19 u20 u21 u22 u23 u24 u25 u26 u27 u28 u29 u30 u31 u32 u33 u34 u35 u36 u37 u38 u39 u40 u44 u45 u46 u47 u48 u49 u50 u51 u52 u53 u54 u55 u56 u57 u58 u59 u60 u61 u62 u63 u64 u65 u66 u67 u68 u69 u70 u71 w hF fun u1 u2 u3 u4 u8 u9 u11 u12 u13 u14 u15 u16 u17 u18 u19 u20 u21 u22 u23 u24 u25 u26 u27 u28 u29 u30 u31 u32 u33 u34 u35 u36 u37 u38 u39 u40 u44 u45 u46 u47 u48 u49 u50 u51 u52 u53 u54 u55 u56 u57 u58 u59 u60 u61 u62 u63 u64 u65 u66 u67 u68 u69 u70 u71 w' hF => ih out u1 u2 u3 u4 u8 u9 u11 u12 u13 u14 u15 u16 u17 u18 u19 u20 u21 u22 u23 u24 u25 u26 u27 u28 u29 u30 u31 u32 u33 u34 u35 u36 u37 u38 u39 u40 u44 u45 u46 u47 u48 u49 u50 u51 u52 u53 u54 u55 u56 u57 u58 u59 u60 u61 u62 u63 u64 u65 u66 u67 u68 u69 u70 u71 w' hF⟩

/-- IT STARTS THE SENDERS. -/
theorem loop14a (T : List Nat) (hT : ∀ b ∈ T, b < N) {zs : Nat → List Int} (hP : Parts N W ch pA M pa pn pc zs) (hG : ∀ b ∈ GG, b ∈ ch) (al : List Do) (n₂ : Nat)
    (next : ∀ (u2 u3 u8 u9 u10 u11 u12 u13 u14 u15 u16 u17 u18 u19 u20 u21 u25 u26 u27 u28 u29 u30 u31 u32 u33 u34 u35 u36 u37 u38 u39 u40 u41 u42 u43 u44 u45 u46 u47 u48 u49 u50 u51 u52 u53 u54 u55 u56 u57 u58 u59 u60 u61 u62 u63 u64 u65 u66 u67 u68 u69 u70 u71 : Value) w, MZ N W ch M M w → GoM Post N (tL pa pn T M) (chM N ch M) (N :: GG) al n₂ (head14a N pA M pcap tA tn tcap cs M u2 u3 u8 u9 u10 u11 u12 u13 u14 u15 u16 u17 u18 u19 u20 u21 u25 u26 u27 u28 u29 u30 u31 u32 u33 u34 u35 u36 u37 u38 u39 u40 u41 u42 u43 u44 u45 u46 u47 u48 u49 u50 u51 u52 u53 u54 u55 u56 u57 u58 u59 u60 u61 u62 u63 u64 u65 u66 u67 u68 u69 u70 u71) w) :
    ∀ (r k : Nat), k + r = M → ∃ n₁, ∀ (u2 u3 u8 u9 u10 u11 u12 u13 u14 u15 u16 u17 u18 u19 u20 u21 u25 u26 u27 u28 u29 u30 u31 u32 u33 u34 u35 u36 u37 u38 u39 u40 u41 u42 u43 u44 u45 u46 u47 u48 u49 u50 u51 u52 u53 u54 u55 u56 u57 u58 u59 u60 u61 u62 u63 u64 u65 u66 u67 u68 u69 u70 u71 : Value) w, MZ N W ch M k w → GoM Post N (tL pa pn T k) (chM N ch k) (N :: GG) (fks (N + 1) N M (fun p => N + 3 + p) (fun p => vblk (pa p) (pn p)) (fun p => (zs p).map iv) r ++ al) n₁ (head14a N pA M pcap tA tn tcap cs k u2 u3 u8 u9 u10 u11 u12 u13 u14 u15 u16 u17 u18 u19 u20 u21 u25 u26 u27 u28 u29 u30 u31 u32 u33 u34 u35 u36 u37 u38 u39 u40 u41 u42 u43 u44 u45 u46 u47 u48 u49 u50 u51 u52 u53 u54 u55 u56 u57 u58 u59 u60 u61 u62 u63 u64 u65 u66 u67 u68 u69 u70 u71) w := by
  intro r
  induction r with
  | zero =>
    intro k hk
    obtain rfl : k = M := by omega
    exact ⟨n₂, fun u2 u3 u8 u9 u10 u11 u12 u13 u14 u15 u16 u17 u18 u19 u20 u21 u25 u26 u27 u28 u29 u30 u31 u32 u33 u34 u35 u36 u37 u38 u39 u40 u41 u42 u43 u44 u45 u46 u47 u48 u49 u50 u51 u52 u53 u54 u55 u56 u57 u58 u59 u60 u61 u62 u63 u64 u65 u66 u67 u68 u69 u70 u71 w hF => next u2 u3 u8 u9 u10 u11 u12 u13 u14 u15 u16 u17 u18 u19 u20 u21 u25 u26 u27 u28 u29 u30 u31 u32 u33 u34 u35 u36 u37 u38 u39 u40 u41 u42 u43 u44 u45 u46 u47 u48 u49 u50 u51 u52 u53 u54 u55 u56 u57 u58 u59 u60 u61 u62 u63 u64 u65 u66 u67 u68 u69 u70 u71 w hF⟩
  | succ r ih =>
    intro k hk
    obtain ⟨n₁, ih⟩ := ih (k + 1) (by omega)
    have hkM : k < M := by omega
    obtain ⟨pd, hpd⟩ := hP.ex (by omega)
    have ek : M - (r + 1) = k := by omega
    simp only [fks, ek, List.cons_append]
    refine ⟨(0 + 41) + 60, fun u2 u3 u8 u9 u10 u11 u12 u13 u14 u15 u16 u17 u18 u19 u20 u21 u25 u26 u27 u28 u29 u30 u31 u32 u33 u34 u35 u36 u37 u38 u39 u40 u41 u42 u43 u44 u45 u46 u47 u48 u49 u50 u51 u52 u53 u54 u55 u56 u57 u58 u59 u60 u61 u62 u63 u64 u65 u66 u67 u68 u69 u70 u71 w hF => seg14_add N W ch GG pA M pcap pa pn pc tA tn tcap cs (tL pa pn T k) (chM N ch k) _ (0 + 41) k hkM hP.max pd hpd (hP.lt hpd (by omega)) (hP.nch pd hpd (by omega)) (hP.pv k pd hkM hpd) hG (tL_lt hP hT k (by omega)) (chM_N k) (fun c hc => chM_mem hc) u2 u3 u8 u9 u10 u11 u12 u13 u14 u15 u16 u17 u18 u19 u20 u21 u25 u26 u27 u28 u29 u30 u31 u32 u33 u34 u35 u36 u37 u38 u39 u40 u41 u42 u43 u44 u45 u46 u47 u48 u49 u50 u51 u52 u53 u54 u55 u56 u57 u58 u59 u60 u61 u62 u63 u64 u65 u66 u67 u68 u69 u70 u71 w hF fun u2 u3 u10 u11 u12 u13 u14 u15 u16 u17 u18 u19 u20 u21 u25 u26 u27 u28 u29 u30 u31 u32 u33 u34 u35 u36 u37 u38 u39 u40 u41 u42 u43 u44 u45 u46 u47 u48 u49 u50 u51 u52 u53 u54 u55 u56 u57 u58 u59 u60 u61 u62 u63 u64 u65 u66 u67 u68 u69 u70 u71 w' hF => ?_⟩
    refine at14_add N pA M pcap pa pn pc tA tn tcap cs (GG := GG) (tL pa pn T k) (chM N ch k) (chM_N k) k _ (0 + 20) u2 u3 u10 u11 u12 u13 u14 u15 u16 u17 u18 u19 u20 u21 u25 u26 u27 u28 u29 u30 u31 u32 u33 u34 u35 u36 u37 u38 u39 u40 u41 u42 u43 u44 u45 u46 u47 u48 u49 u50 u51 u52 u53 u54 u55 u56 u57 u58 u59 u60 u61 u62 u63 u64 u65 u66 u67 u68 u69 u70 u71 w' hF.kn.lv fun w₁ h₁ => ?_
    refine seg14_go N W ch GG pA M pcap pa pn pc tA tn tcap cs (tL pa pn T k) (chM N ch k) _ 0 k hkM hG (tL_lt hP hT k (by omega)) (fun c hc => chM_mem hc) u2 u3 u10 u11 u12 u13 u14 u15 u16 u17 u18 u19 u20 u21 u25 u26 u27 u28 u29 u30 u31 u32 (.tuple #[]) u34 u35 u36 u37 u38 u39 u40 u41 u42 u43 u44 u45 u46 u47 u48 u49 u50 u51 u52 u53 u54 u55 u56 u57 u58 u59 u60 u61 u62 u63 u64 u65 u66 u67 u68 u69 u70 u71 w₁ (hF.rely (fun c hc => chM_mem hc) h₁) fun u2 u3 u10 u11 u12 u13 u14 u15 u16 u17 u18 u19 u20 u21 u25 u26 u27 u28 u29 u30 u31 u32 u33 u35 u36 u37 u40 u41 u42 u43 u44 u45 u46 u47 u48 u49 u50 u51 u52 u53 u54 u55 u56 u57 u58 u59 u60 u61 u62 u63 u64 u65 u66 u67 u68 u69 u70 u71 w₂ hF => Goes.stop fun w₃ h₃ => ?_
    have hF3 := hF.rely (fun c hc => chM_mem hc) h₃
    refine at14_go N W ch GG pA M pcap pa pn pc tA tn tcap cs (tL pa pn T k) (chM N ch k) k hP hkM hG (fun c hc => chM_mem hc) (tL_lt hP hT k (by omega)) _ u2 u3 u10 u11 u12 u13 u14 u15 u16 u17 u18 u19 u20 u21 u25 u26 u27 u28 u29 u30 u31 u32 u33 u35 u36 u37 u40 u41 u42 u43 u44 u45 u46 u47 u48 u49 u50 u51 u52 u53 u54 u55 u56 u57 u58 u59 u60 u61 u62 u63 u64 u65 u66 u67 u68 u69 u70 u71 w₃ hF3 (fM (n := n₁ + 20) ?_)
    exact seg14_next N W ch GG pA M pcap pa pn pc tA tn tcap cs (tL pa pn T (k + 1)) (chM N ch (k + 1)) _ n₁ k hkM hP.max (fun c hc => chM_mem hc) u2 u3 u10 u11 u12 u13 u14 u15 u16 u17 u18 u19 u20 u21 u25 u26 u27 u28 u29 u30 u31 u32 u33 u35 u36 u37 u40 u41 u42 u43 u44 u45 u46 u47 u48 u49 u50 u51 u52 u53 u54 u55 u56 u57 u58 u59 u60 u61 u62 u63 u64 u65 u66 u67 u68 u69 u70 u71 w₃ hF3.next fun u2 u3 u8 u9 u10 u11 u12 u13 u14 u15 u16 u17 u18 u19 u20 u21 u25 u26 u27 u28 u29 u30 u31 u32 u33 u34 u35 u36 u37 u38 u39 u40 u41 u42 u43 u44 u45 u46 u47 u48 u49 u50 u51 u52 u53 u54 u55 u56 u57 u58 u59 u60 u61 u62 u63 u64 u65 u66 u67 u68 u69 u70 u71 w' hF => ih u2 u3 u8 u9 u10 u11 u12 u13 u14 u15 u16 u17 u18 u19 u20 u21 u25 u26 u27 u28 u29 u30 u31 u32 u33 u34 u35 u36 u37 u38 u39 u40 u41 u42 u43 u44 u45 u46 u47 u48 u49 u50 u51 u52 u53 u54 u55 u56 u57 u58 u59 u60 u61 u62 u63 u64 u65 u66 u67 u68 u69 u70 u71 w' hF
end
end Go.Proofs.Ytplndihadjfliaa.Mix
