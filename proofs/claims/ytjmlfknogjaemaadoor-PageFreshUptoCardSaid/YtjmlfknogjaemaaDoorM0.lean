/- A walk's rules, once for all programs: from a function's code to a plain statement over values and the world (wpV), and that it is enough; regions that draw their order too. -/
import Derived.Orders
import Derived.Tactics
import Derived.WalkKit
namespace Go.Proofs.YtjmlfknogjaemaaDoor.Vc
open Go

/-! ### Environments -/
abbrev Env := Nat → Value
def upd (e : Env) (i : Nat) (v : Value) : Env := fun j => match Nat.beq j i with | true => v | false => e j
def putE (e : Env) (d : Option Tmp) (v : Value) : Env := match d with | some d => upd e d v | none => e
def ev (e : Env) : Operand → Value
  | .tmp t => e t
  | .const v => v
  | .global g => .pointer (some ⟨g, 0, none⟩)
  | .func f => .func (.func f) #[] #[]

structure Rep (n : Nat) (a : Act) (e : Env) : Prop where
  size : a.tmps.size = n
  defers : a.defers = []
  val : ∀ t, a.tmps.getD t undef = e t

theorem Rep.eval {n : Nat} {a : Act} {e : Env} (h : Rep n a e) (x : Operand) : a.eval x = ev e x := by
  cases x <;> simp [Act.eval, ev, h.val]
theorem Rep.evals {n : Nat} {a : Act} {e : Env} (h : Rep n a e) : a.eval = ev e := funext h.eval

theorem upd_same (e : Env) (i : Nat) (v : Value) : upd e i v i = v := by simp [upd]
theorem upd_other (e : Env) (i j : Nat) (v : Value) (h : j ≠ i) : upd e i v j = e j := by
  have : Nat.beq j i = false := by
    cases hb : Nat.beq j i with
    | false => rfl
    | true => exact absurd (Nat.eq_of_beq_eq_true hb) h
  simp [upd, this]
theorem upd_id (e : Env) (i : Nat) : upd e i (e i) = e := by
  funext j
  by_cases h : j = i
  · subst h; exact upd_same _ _ _
  · exact upd_other _ _ _ _ h

theorem Rep.put {n : Nat} {a : Act} {e : Env} (h : Rep n a e) (dst : Option Tmp) (v : Value) (hd : ∀ d, dst = some d → d < n) : Rep n (a.put dst v) (putE e dst v) := by
  cases dst with
  | none => exact h
  | some d =>
    have hlt := hd d rfl
    refine ⟨by simp [Act.put, h.size], h.defers, fun t => ?_⟩
    by_cases ht : t = d
    · subst ht
      have hs : t < a.tmps.size := by rw [h.size]; exact hlt
      simp [Act.put, putE, upd_same, Array.getD_eq_getD_getElem?, hs]
    · rw [putE, upd_other _ _ _ _ ht, ← h.val t]
      simp [Act.put, Array.getD_eq_getD_getElem?, Array.getElem?_setIfInBounds_ne (Ne.symm ht)]

theorem Rep.fix {n : Nat} {a : Act} {e : Env} (h : Rep n a e) (d : Nat) (v : Value) (hv : e d = v) : Rep n a (upd e d v) := by
  rw [← hv, upd_id]; exact h

/-! ### Two ways -/
def sel (b : Bool) (x y : Prop) : Prop := match b with | true => x | false => y
theorem sel_of {b : Bool} {x y : Prop} (ht : b = true → x) (hf : b = false → y) : sel b x y := by
  cases b
  · exact hf rfl
  · exact ht rfl
theorem sel_true {b : Bool} {x y : Prop} (hb : b = true) (h : x) : sel b x y := by subst hb; exact h
theorem sel_false {b : Bool} {x y : Prop} (hb : b = false) (h : y) : sel b x y := by subst hb; exact h

/-! ### Shapes of values -/
inductive Shape where
  | int (k : IntKind) | bool | str | slice | ptr | blk | map | flt (k : FloatKind) | fn | any
def Shape.ex : Shape → (Value → Prop) → Prop
  | .int k, F => ∃ n : Int, F (.int k n)
  | .bool, F => ∃ b : Bool, F (.bool b)
  | .str, F => ∃ s : ByteArray, F (.string s)
  | .slice, F => ∃ (A : Option Addr) (n c : Nat), F (.slice A n c)
  | .ptr, F => ∃ p : Option Addr, F (.pointer p)
  | .blk, F => ∃ b o : Nat, F (.pointer (some ⟨b, o, none⟩))
  | .map, F => ∃ r : Option Nat, F (.map r)
  | .flt k, F => ∃ b : Nat, F (.float k b)
  | .fn, F => ∃ (f : FuncId) (first cap : Array Value), F (.func (.func f) first cap)
  | .any, F => ∃ v : Value, F v
theorem Shape.ex_some {s : Shape} {F : Value → Prop} (h : s.ex F) : ∃ v, F v := by
  cases s <;> simp only [Shape.ex] at h
  case slice => obtain ⟨A, n, c, h⟩ := h; exact ⟨_, h⟩
  case blk => obtain ⟨b, o, h⟩ := h; exact ⟨_, h⟩
  case fn => obtain ⟨f, a, b, h⟩ := h; exact ⟨_, h⟩
  all_goals (obtain ⟨x, h⟩ := h; exact ⟨_, h⟩)
def shapeOf (P : Program) (t : TypeId) : Shape :=
  match P.underlying t with
  | some (.int k) => .int k
  | some .bool => .bool
  | some .string => .str
  | some (.slice _) => .slice
  | some (.pointer _) => .ptr
  | some (.map _ _) => .map
  | some (.float k) => .flt k
  | some (.func _ _ _) => .fn
  | _ => .any
def leaves (P : Program) : Nat → TypeId → List Shape
  | 0, _ => []
  | n + 1, t =>
    match P.underlying t with
    | some (.struct fs) => fs.toList.flatMap fun f => leaves P n f.type
    | some (.array len e) => (List.replicate len (leaves P n e)).flatten
    | _ => [shapeOf P t]
def aggT (P : Program) (t : TypeId) : Bool :=
  match P.underlying t with
  | some (.struct _) => true
  | some (.array _ _) => true
  | _ => false
def sizeT (P : Program) (t : TypeId) : Nat := match P.info? t with | some i => i.size | none => 0
def hasT (P : Program) (t : TypeId) : Bool := match P.underlying t, P.info? t with | some _, some _ => true | _, _ => false

/-- Cells that lie in a row. -/
def exCells (w : World) (b : Nat) : List Shape → Nat → (List Value → Prop) → Prop
  | [], _, F => F []
  | s :: l, o, F => s.ex fun v => w.cell? ⟨b, o, none⟩ = some v ∧ exCells w b l (o + 1) fun vs => F (v :: vs)
theorem exCells_spec {w : World} {b : Nat} : ∀ {l : List Shape} {o : Nat} {F : List Value → Prop}, exCells w b l o F →
    ∃ vs : List Value, vs.length = l.length ∧ (∀ i, i < l.length → w.cell? ⟨b, o + i, none⟩ = vs[i]?) ∧ F vs := by
  intro l
  induction l with
  | nil => intro o F h; exact ⟨[], rfl, fun i hi => absurd hi (by simp), h⟩
  | cons s l ih =>
    intro o F h
    obtain ⟨v, h⟩ := Shape.ex_some h
    obtain ⟨hv, h⟩ := h
    obtain ⟨vs, h1, h2, h3⟩ := ih h
    refine ⟨v :: vs, by simp [h1], fun i hi => ?_, h3⟩
    cases i with
    | zero => simpa using hv
    | succ i =>
      have := h2 i (by simpa using hi)
      rw [show o + (i + 1) = o + 1 + i by omega]
      simpa using this

/-! ### Addresses -/
def needPtr (p : Option Addr) (K : Nat → Nat → Prop) : Prop :=
  match p with
  | some ⟨b, o, none⟩ => K b o
  | _ => False
theorem needPtr_of {p : Option Addr} {K : Nat → Nat → Prop} {b o : Nat} (hp : p = some ⟨b, o, none⟩) (h : K b o) : needPtr p K := by subst hp; exact h
theorem needPtr_spec {p : Option Addr} {K : Nat → Nat → Prop} (h : needPtr p K) : ∃ b o, p = some ⟨b, o, none⟩ ∧ K b o := by
  unfold needPtr at h
  split at h
  · exact ⟨_, _, rfl, h⟩
  · exact h.elim

/-! ### Operations -/
def fieldOff (P : Program) (s : TypeId) (f : Nat) : Option Nat :=
  match P.underlying s with
  | some (.struct fs) => match fs[f]? with
    | some fd => match sizeT P fd.type with
      | 0 => none
      | _ + 1 => some fd.offset
    | none => none
  | _ => none
def zeroOf (P : Program) (t : TypeId) : Option Value := match P.info? t with | some i => i.zero | none => none

def runV (r : Result Next) (K : Value → World → Prop) : Prop :=
  match r with
  | .ok (.value v) w => K v w
  | .ok .skip w => K undef w
  | _ => False
def semV (P : Program) (s : Sem Value) (w : World) (K : Value → World → Prop) : Prop := ∃ v w', s.run P w = .ok v w' ∧ K v w'
def semU (P : Program) (s : Sem Unit) (w : World) (K : Value → World → Prop) : Prop := ∃ w', s.run P w = .ok () w' ∧ K undef w'
/-- What hangs on the values alone. -/
def pureV (P : Program) (s : Sem Value) (w : World) (K : Value → World → Prop) : Prop := ∃ v, (∀ w', s.run P w' = .ok v w') ∧ K v w
def boolV (P : Program) (s : Sem Value) (w : World) (K : Value → World → Prop) : Prop := ∃ b : Bool, (∀ w', s.run P w' = .ok (.bool b) w') ∧ K (.bool b) w

def exVals : List Shape → (List Value → Prop) → Prop
  | [], F => F []
  | s :: l, F => s.ex fun v => exVals l fun vs => F (v :: vs)
theorem exVals_some : ∀ {l : List Shape} {F : List Value → Prop}, exVals l F → ∃ vs, F vs
  | [], _, h => ⟨[], h⟩
  | _ :: _, _, h => by
    obtain ⟨v, h⟩ := Shape.ex_some h
    obtain ⟨vs, h⟩ := exVals_some h
    exact ⟨v :: vs, h⟩
def oneV (P : Program) (t : TypeId) (F : Value → Prop) : Prop :=
  match aggT P t with
  | true => exVals (leaves P 20 t) fun vs => F (.agg vs.toArray)
  | false => (shapeOf P t).ex F
theorem oneV_some {P : Program} {t : TypeId} {F : Value → Prop} (h : oneV P t F) : ∃ v, F v := by
  unfold oneV at h
  split at h
  · obtain ⟨vs, h⟩ := exVals_some h; exact ⟨_, h⟩
  · exact Shape.ex_some h
def tupV (P : Program) : List TypeId → (List Value → Prop) → Prop
  | [], F => F []
  | t :: ts, F => oneV P t fun v => tupV P ts fun vs => F (v :: vs)
theorem tupV_some {P : Program} : ∀ {l : List TypeId} {F : List Value → Prop}, tupV P l F → ∃ vs, F vs
  | [], _, h => ⟨[], h⟩
  | _ :: _, _, h => by
    obtain ⟨v, h⟩ := oneV_some h
    obtain ⟨vs, h⟩ := tupV_some h
    exact ⟨v :: vs, h⟩
def resV (P : Program) (t : TypeId) (F : Value → Prop) : Prop :=
  match P.underlying t with
  | some (.tuple ts) => tupV P ts.toList fun vs => F (.tuple vs.toArray)
  | _ => oneV P t F
theorem resV_some {P : Program} {t : TypeId} {F : Value → Prop} (h : resV P t F) : ∃ v, F v := by
  unfold resV at h
  split at h
  · obtain ⟨vs, h⟩ := tupV_some h; exact ⟨_, h⟩
  · exact oneV_some h

def entersB (P : Program) (f : FuncId) : Bool :=
  match P.funcs[f]? with
  | some fn => match fn.body with
    | some _ => !(fn.name == "runtime.NumGoroutine")
    | none => false
  | none => false
/-- A call of a function value. -/
def callT (P : Program) (fv : Value) (args : Array Value) (w : World) (post : Ending → World → Prop) : Prop :=
  match fv with
  | .func (.func f) first cap => match entersB P f with
    | true => Calls P f (first ++ args ++ cap) w post
    | false => False
  | _ => False
def callV (P : Program) (fv : Value) (args : Array Value) (t : TypeId) (w : World) (K : Value → World → Prop) : Prop :=
  callT P fv args w fun e w' => resV P t fun v => e = .returned v ∧ K v w'
/-- The same, the values' shapes by the type. -/
def semT (P : Program) (t : TypeId) (s : Sem Value) (w : World) (K : Value → World → Prop) : Prop := resV P t fun v => ∃ w', s.run P w = .ok v w' ∧ K v w'
def pureT (P : Program) (t : TypeId) (s : Sem Value) (w : World) (K : Value → World → Prop) : Prop := resV P t fun v => (∀ w', s.run P w' = .ok v w') ∧ K v w
theorem sem_of_T {P : Program} {t : TypeId} {s : Sem Value} {w : World} {K : Value → World → Prop} (h : semT P t s w K) : semV P s w K := by
  obtain ⟨v, w', hr, hk⟩ := resV_some h
  exact ⟨v, w', hr, hk⟩
theorem pure_of_T {P : Program} {t : TypeId} {s : Sem Value} {w : World} {K : Value → World → Prop} (h : pureT P t s w K) : pureV P s w K := by
  obtain ⟨v, hr, hk⟩ := resV_some h
  exact ⟨v, hr, hk⟩
def pickB (t x y : Bool) : Bool := match t with | true => x | false => y

def canStore (w : World) (b o n : Nat) : Prop := ∃ cs T, w.heap[b]? = some (.cells cs T (0, 0)) ∧ o + n ≤ cs.size
def setCs (w : World) (b : Nat) : Nat → List Value → World
  | _, [] => w
  | o, v :: vs => setCs (w.setCell ⟨b, o, none⟩ v) b (o + 1) vs
def plainV : Value → Bool
  | .agg _ => false
  | .tuple _ => false
  | _ => true
def allPlain : List Value → Bool
  | [] => true
  | v :: l => match plainV v with | true => allPlain l | false => false
def cellsV : Value → List Value
  | .agg cs => cs.toList
  | v => [v]
def cutA (A : Option Addr) (c lo sz : Nat) : Option Addr := if c = lo then A else A.map (·.add (lo * sz))

def builtinV (P : Program) (b : Builtin) (ats : Array TypeId) (t : TypeId) (args : Array Value) (w : World) (K : Value → World → Prop) : Prop :=
  match b with
  | .append => semT P t (Builtin.append_ ats t args) w K
  | .copy => semT P t (Builtin.copy_ ats t args) w K
  | .delete => semT P t (Builtin.delete_ ats t args) w K
  | .cap => semT P t (Builtin.cap_ ats t args) w K
  | .clear => semT P t (Builtin.clear_ ats t args) w K
  | .max => semT P t (Builtin.max_ ats t args) w K
  | .min => semT P t (Builtin.min_ ats t args) w K
  | .len => match args.toList, ats.toList.map P.underlying with
    | [.slice _ n _], [some (.slice _)] => K (.int .i64 n) w
    | [.string s], [some .string] => K (.int .i64 s.size) w
    | _, _ => semT P t (Builtin.len_ ats t args) w K
  | _ => False

def bitsI (op : BinOp) (k : IntKind) (x y : Int) : Int :=
  match op with
  | .and => k.wrap (BitVec.ofInt k.bits x &&& BitVec.ofInt k.bits y).toNat
  | .or => k.wrap (BitVec.ofInt k.bits x ||| BitVec.ofInt k.bits y).toNat
  | .xor => k.wrap (BitVec.ofInt k.bits x ^^^ BitVec.ofInt k.bits y).toNat
  | _ => k.wrap (BitVec.ofInt k.bits x &&& ~~~ (BitVec.ofInt k.bits y)).toNat
def shlI (k : IntKind) (x n : Int) : Int := k.wrap (x * 2 ^ (min n.toNat k.bits))
def shrI (k : IntKind) (x n : Int) : Int := x.fdiv (2 ^ (min n.toNat k.bits))
/-- Two whole numbers of one kind. -/
def intV (op : BinOp) (k : IntKind) (a b : Int) (w : World) (K : Value → World → Prop) : Prop :=
  match op with
  | .add => K (.int k (k.wrap (a + b))) w
  | .sub => K (.int k (k.wrap (a - b))) w
  | .mul => K (.int k (k.wrap (a * b))) w
  | .quo => b ≠ 0 ∧ K (.int k (k.wrap (Int.tdiv a b))) w
  | .rem => b ≠ 0 ∧ K (.int k (Int.tmod a b)) w
  | .lss => K (.bool (decide (a < b))) w
  | .leq => K (.bool (decide (a ≤ b))) w
  | .gtr => K (.bool (decide (b < a))) w
  | .geq => K (.bool (decide (b ≤ a))) w
  | .eql => K (.bool (a == b)) w
  | .neq => K (.bool (a != b)) w
  | .and => K (.int k (bitsI .and k a b)) w
  | .or => K (.int k (bitsI .or k a b)) w
  | .xor => K (.int k (bitsI .xor k a b)) w
  | .andNot => K (.int k (bitsI .andNot k a b)) w
  | .shl => 0 ≤ b ∧ K (.int k (shlI k a b)) w
  | .shr => 0 ≤ b ∧ K (.int k (shrI k a b)) w
def sameKind (op : BinOp) (k k' : IntKind) : Bool :=
  match op with
  | .shl => true
  | .shr => true
  | _ => decide (k = k')
def otherV (P : Program) (op : BinOp) (rt t : TypeId) (ox oy : Operand) (x y : Value) (w : World) (K : Value → World → Prop) : Prop :=
  match op with
  | .eql => boolV P (do eqGuard .eql t ox oy x y; binOp .eql t x y) w K
  | .neq => boolV P (do eqGuard .neq t ox oy x y; binOp .neq t x y) w K
  | .lss => boolV P (binOp .lss t x y) w K
  | .leq => boolV P (binOp .leq t x y) w K
  | .gtr => boolV P (binOp .gtr t x y) w K
  | .geq => boolV P (binOp .geq t x y) w K
  | op => semT P rt (binOp op t x y) w K
def binV (P : Program) (op : BinOp) (rt t : TypeId) (ox oy : Operand) (x y : Value) (w : World) (K : Value → World → Prop) : Prop :=
  match x, y with
  | .int k a, .int k' b => match sameKind op k k' with
    | true => intV op k a b w K
    | false => False
  | .string a, .string b => match op with
    | .eql => K (.bool (decide (a = b))) w
    | .neq => K (.bool (!decide (a = b))) w
    | .add => a.size + b.size ≤ 9223372036854775807 ∧ K (.string (a ++ b)) w
    | op => otherV P op rt t ox oy x y w K
  | .bool a, .bool b => match op, P.underlying t with
    | .eql, some .bool => K (.bool (a == b)) w
    | .neq, some .bool => K (.bool (!(a == b))) w
    | op, _ => otherV P op rt t ox oy x y w K
  | .pointer p, .pointer none => match op, P.underlying t with
    | .eql, some (.pointer _) => K (.bool p.isNone) w
    | .neq, some (.pointer _) => K (.bool (!p.isNone)) w
    | op, _ => otherV P op rt t ox oy x y w K
  | .slice A _ _, .slice none _ _ => match op, P.underlying t with
    | .eql, some (.slice _) => K (.bool A.isNone) w
    | .neq, some (.slice _) => K (.bool (!A.isNone)) w
    | op, _ => otherV P op rt t ox oy x y w K
  | .map r, .map none => match op, P.underlying t with
    | .eql, some (.map _ _) => K (.bool r.isNone) w
    | .neq, some (.map _ _) => K (.bool (!r.isNone)) w
    | op, _ => otherV P op rt t ox oy x y w K
  | x, y => otherV P op rt t ox oy x y w K

def nilV (v : Value) (w : World) (K : Value → World → Prop) : Prop :=
  match v with
  | .pointer p => needPtr p fun b o => K (.pointer (some ⟨b, o, none⟩)) w
  | .func (.func f) x c => K (.func (.func f) x c) w
  | .iface t v => K (.iface t v) w
  | _ => False
def boundV (v : Option Value) (dflt : Nat) (F : Int → Prop) : Prop :=
  match v with
  | none => F dflt
  | some (.int _ i) => F i
  | _ => False
/-- x[lo:hi] -/
def sliceV (P : Program) (rt t : TypeId) (x : Value) (lo hi mx : Option Value) (w : World) (K : Value → World → Prop) : Prop :=
  match mx, P.underlying t, x with
  | none, some (.slice el), .slice A n c => match hi, lo with
    | none, none => match hasT P el with
      | true => n ≤ c ∧ K (.slice A n c) w
      | false => False
    | some (.int _ h), none => match hasT P el with
      | true => 0 ≤ h ∧ h ≤ c ∧ K (.slice A h.toNat c) w
      | false => False
    | none, some (.int _ l) => match hasT P el with
      | true => 0 ≤ l ∧ l ≤ n ∧ n ≤ c ∧ K (.slice (cutA A c l.toNat (sizeT P el)) (n - l.toNat) (c - l.toNat)) w
      | false => False
    | some (.int _ h), some (.int _ l) => match hasT P el with
      | true => 0 ≤ h ∧ h ≤ c ∧ 0 ≤ l ∧ l ≤ h ∧ K (.slice (cutA A c l.toNat (sizeT P el)) (h.toNat - l.toNat) (c - l.toNat)) w
      | false => False
    | _, _ => False
  | none, some .string, .string s => boundV hi s.size fun h => boundV lo 0 fun l => 0 ≤ h ∧ h ≤ s.size ∧ 0 ≤ l ∧ l ≤ h ∧ K (.string (s.extract l.toNat h.toNat)) w
  | mx, _, x => pureT P rt (Instr.sliceAt t x lo hi mx) w K

/-- A map's entry, made if it is not there: its value and its stamp. -/
def entryV (P : Program) (t : TypeId) (m k : Value) (w : World) (K : Value → World → Prop) : Prop :=
  match P.underlying t with
  | some (.map _ el) => oneV P el fun v => ∃ (n : Int) (w' : World), (Instr.mapEntry t m k).run P w = .ok (.tuple #[v, .int .i64 n]) w' ∧ K (.tuple #[v, .int .i64 n]) w'
  | _ => False
/-- A slice seen as an array. -/
def arrV (P : Program) (t : TypeId) (x : Value) (w : World) (K : Value → World → Prop) : Prop :=
  match P.underlying t, x with
  | some (.array n _), .slice A len _ => n ≤ len ∧ needPtr A fun b s => K (.pointer (some ⟨b, s, none⟩)) w
  | _, _ => False
def fieldV (P : Program) (t : TypeId) (x : Value) (f : Nat) (w : World) (K : Value → World → Prop) : Prop :=
  match P.underlying t, x with
  | some (.struct fs), .agg cs => match fs[f]? with
    | some fd => match aggT P fd.type, hasT P fd.type with
      | true, true => K (.agg (cs.extract fd.offset (fd.offset + sizeT P fd.type))) w
      | false, true => match cs[fd.offset]? with
        | some v => K v w
        | none => False
      | _, _ => False
    | none => False
  | _, _ => False
def pureBin (op : BinOp) (x y : Value) : Bool :=
  match x, y with
  | .int _ _, .int _ _ => true
  | .string _, .string _ => match op with
    | .eql | .neq | .add | .lss | .leq | .gtr | .geq => true
    | _ => false
  | _, _ => match op with
    | .eql | .neq | .lss | .leq | .gtr | .geq => true
    | _ => false

/-- One operation, its operands' values at hand. -/
def opV (P : Program) (o : Oper) (e : Env) (w : World) (K : Value → World → Prop) : Prop :=
  match o.op with
  | .move x => K (ev e x) w
  | .assign x => K (ev e x) w
  | .pick c a b => match ev e c, ev e a, ev e b with
    | .bool t, .bool x, .bool y => K (.bool (pickB t x y)) w
    | .bool t, va, vb => sel t (K va w) (K vb w)
    | _, _, _ => False
  | .nilCheck x => nilV (ev e x) w K
  | .fieldAddr s x f => match ev e x, fieldOff P s f with
    | .pointer (some ⟨b, i, none⟩), some off => K (.pointer (some ⟨b, i + off, none⟩)) w
    | _, _ => False
  | .indexAddr t x i => match P.underlying t, ev e x, ev e i with
    | some (.slice el), .slice A n _, .int _ j => match hasT P el with
      | true => 0 ≤ j ∧ j < n ∧ needPtr A fun b s => K (.pointer (some ⟨b, s + j.toNat * sizeT P el, none⟩)) w
      | false => False
    | some (.array len el), .pointer (some ⟨b, s, none⟩), .int _ j => match hasT P el with
      | true => 0 ≤ j ∧ j < len ∧ K (.pointer (some ⟨b, s + j.toNat * sizeT P el, none⟩)) w
      | false => False
    | _, _, _ => False
  | .load t x => match ev e x with
    | .pointer (some ⟨b, s, none⟩) => match aggT P t with
      | true => match Nat.beq (leaves P 20 t).length (sizeT P t) with
        | true => exCells w b (leaves P 20 t) s fun vs => K (.agg vs.toArray) w
        | false => False
      | false => match hasT P t with
        | true => (shapeOf P t).ex fun v => w.cell? ⟨b, s, none⟩ = some v ∧ K v w
        | false => False
    | _ => False
  | .store t x v => match ev e x with
    | .pointer (some ⟨b, s, none⟩) => match Nat.beq (cellsV (ev e v)).length (sizeT P t), hasT P t, allPlain (cellsV (ev e v)) with
      | true, true, true => canStore w b s (sizeT P t) ∧ K undef (setCs w b s (cellsV (ev e v)))
      | _, _, _ => False
    | _ => False
  | .alloc t => match zeroOf P t with
    | some z => K (.pointer (some ⟨w.heap.size, 0, none⟩)) (w.alloc (.cells z.cells t))
    | none => False
  | .box t v => K (.pointer (some ⟨w.heap.size, 0, none⟩)) (w.alloc (.cells (ev e v).cells t))
  | .binOp op t x y _ => binV P op o.type t x y (ev e x) (ev e y) w K
  | .slice t x lo hi mx => sliceV P o.type t (ev e x) (lo.map (ev e)) (hi.map (ev e)) (mx.map (ev e)) w K
  | .convert s d x => match P.underlying s, P.underlying d, ev e x with
    | some _, some (.int k), .int _ n => K (.int k (k.wrap n)) w
    | _, _, x => semT P o.type (convert s d x) w K
  | .lookup t x i ok => semT P o.type (Instr.lookup t (ev e x) (ev e i) ok) w K
  | .mapUpdate t m k x => semU P (Instr.mapUpdate t (ev e m) (ev e k) (ev e x)) w K
  | .insert t m k x => semU P (Instr.mapUpdate t (ev e m) (ev e k) (ev e x)) w K
  | .mapEntry t m k => entryV P t (ev e m) (ev e k) w K
  | .entryStore t m s x => semU P (Instr.entryStore t (ev e m) (ev e s) (ev e x)) w K
  | .makeSlice t l c => semT P o.type (Instr.makeSlice t (ev e l) (ev e c)) w K
  | .range t x => semT P o.type (Instr.range t (ev e x)) w K
  | .next x s => semT P o.type (Instr.next (ev e x) s o.type) w K
  | .entry x => semT P o.type (Instr.entry (ev e x)) w K
  | .index t x i => pureT P o.type (Instr.index t (ev e x) (ev e i)) w K
  | .sliceToArrayPointer a x => arrV P a (ev e x) w K
  | .typeAssert x t u ok => pureT P o.type (Instr.typeAssert (ev e x) t u ok) w K
  | .makeFunc fn x c => K (.func fn (x.map (ev e)) (c.map (ev e))) w
  | .call c => match c.callee with
    | .value f => callV P (ev e f) (c.args.map (ev e)) o.type w K
    | .builtin b => builtinV P b c.argTypes o.type (c.args.map (ev e)) w K
    | .invoke _ _ => False
  | .go _ => False
  | .defer _ => False
  | .panic _ => False
  | .send _ _ => False
  | .recv _ _ _ => False
  | .select _ _ => False
  | .unOp op _ x => match op, ev e x with
    | .not, .bool b => K (.bool (!b)) w
    | .neg, .int k n => K (.int k (k.wrap (0 - n))) w
    | op, x => pureT P o.type (Op.unary op x) w K
  | .extract x i => match ev e x with
    | .tuple vs => match vs[i]? with
      | some v => K v w
      | none => False
    | _ => False
  | .build t parts => match P.built t (parts.map fun (i, x) => (i, ev e x)).toList with
    | some cells => K (.agg cells) w
    | none => False
  | .field t x f => fieldV P t (ev e x) f w K
  | .makeInterface t x => match P.underlying t with
    | none => False
    | some (.interface _) => False
    | some _ => K (.iface t (ev e x)) w
  | _ => runV ((execOp (ev e) o).run P w) K

/-- Does an operation hang on its operands' values alone? -/
def pureB (P : Program) (o : Oper) (e : Env) : Bool :=
  match o.op with
  | .move _ => true
  | .assign _ => true
  | .pick c _ _ => match ev e c with | .bool _ => true | _ => false
  | .nilCheck _ => true
  | .fieldAddr _ _ _ => true
  | .indexAddr _ _ _ => true
  | .binOp op _ x y _ => pureBin op (ev e x) (ev e y)
  | .slice _ _ _ _ _ => true
  | .convert s d x => match P.underlying s, P.underlying d, ev e x with
    | some _, some (.int _), .int _ _ => true
    | _, _, _ => false
  | .unOp _ _ _ => true
  | .extract _ _ => true
  | .build _ _ => true
  | .field _ _ _ => true
  | .makeInterface _ _ => true
  | .makeFunc _ _ _ => true
  | .index _ _ _ => true
  | .sliceToArrayPointer _ _ => true
  | .typeAssert _ _ _ _ => true
  | .call c => match c.callee with
    | .builtin .len => match (c.args.map (ev e)).toList, c.argTypes.toList.map P.underlying with
      | [.slice _ _ _], [some (.slice _)] => true
      | [.string _], [some .string] => true
      | _, _ => false
    | _ => false
  | _ => false
/-- What may, by its kind, stand in any order beside its kin. -/
def softK (o : Oper) : Bool :=
  match o.op with
  | .move _ | .assign _ | .pick _ _ _ | .nilCheck _ | .fieldAddr _ _ _ | .indexAddr _ _ _ | .binOp _ _ _ _ _ | .slice _ _ _ _ _ | .convert _ _ _ | .unOp _ _ _
  | .extract _ _ | .build _ _ | .field _ _ _ | .makeInterface _ _ | .makeFunc _ _ _ | .index _ _ _ | .load _ _ => true
  | .call c => match c.callee with
    | .builtin .len => true
    | _ => false
  | _ => false
/-- What lays new blocks and does nothing else. -/
def growK (o : Oper) : Bool :=
  match o.op with
  | .alloc _ => true
  | .box _ _ => true
  | .buildSlice _ _ _ => true
  | .makeMap _ none => true
  | _ => false
def isLoad (o : Oper) : Bool := match o.op with | .load _ _ => true | _ => false
def isSelect (o : Oper) : Bool := match o.op with | .select _ _ => true | _ => false

/-! ### Regions -/
section
variable (P : Program) (ops : Array Oper)
/-- An operation, its guard looked at. -/
def goV (o : Oper) (e : Env) (w : World) (K : Env → World → Prop) : Prop :=
  match o.guard with
  | none => opV P o e w fun v w' => K (putE e o.dst v) w'
  | some (g, want) => match (ops[g]?).bind (·.dst) with
    | some t => match e t with
      | .bool b => sel b
        (match want with | true => opV P o (upd e t (.bool true)) w fun v w' => K (putE (upd e t (.bool true)) o.dst v) w' | false => K (putE (upd e t (.bool true)) o.dst undef) w)
        (match want with | false => opV P o (upd e t (.bool false)) w fun v w' => K (putE (upd e t (.bool false)) o.dst v) w' | true => K (putE (upd e t (.bool false)) o.dst undef) w)
      | _ => K (putE e o.dst undef) w
    | none => K (putE e o.dst undef) w
def listV : List Oper → Env → World → (Env → World → Prop) → Prop
  | [], e, w, K => K e w
  | o :: l, e, w, K => goV P ops o e w fun e' w' => listV l e' w' K

/-- Whom an operation waits for, through others too (a bit each). -/
def masks : List Nat := ops.toList.foldl (fun acc o => acc ++ [o.after.toList.foldl (fun s e => match Region.binds .any e with | true => s ||| 2 ^ e.on ||| acc.getD e.on 0 | false => s) 0]) []
def maskOk (ms : List Nat) : Bool :=
  (List.range ops.size).all fun k => (List.range ops.size).all fun j => match (ms.getD k 0).testBit j with
    | false => true
    | true => match ops[k]? with
      | some o => o.after.toList.any fun e => match Region.binds .any e, Nat.blt e.on k with
        | true, true => Nat.beq e.on j || (ms.getD e.on 0).testBit j
        | _, _ => false
      | none => false
def unl (listed : Array Bool) (j : Nat) : Bool := match listed.getD j true with | true => false | false => true
/-- May i be taken first, whatever the others are? -/
def freeB (listed : Array Bool) (i : Nat) : Bool :=
  match ops[i]? with
  | none => false
  | some oi => (List.range ops.size).all fun j => match unl listed j with
    | false => true
    | true => Nat.beq j i || match ops[j]? with
      | none => true
      | some oj => (oj.after.toList.any fun e => Region.binds .any e && Nat.beq e.on i) || oi.apart ops oj
/-- May i be taken first, if it only reads? -/
def softB (ms : List Nat) (listed : Array Bool) (i : Nat) : Bool :=
  match ops[i]? with
  | none => false
  | some oi => softK oi && (List.range ops.size).all fun j => match unl listed j with
    | false => true
    | true => Nat.beq j i || (ms.getD j 0).testBit i || match ops[j]? with
      | none => true
      | some oj => (softK oj || growK oj) && oi.apart ops oj
/-- Its guard is known, and says no. -/
def skipB (e : Env) (o : Oper) : Bool :=
  match o.guard with
  | none => false
  | some (g, want) => match (ops[g]?).bind (·.dst) with
    | none => false
    | some t => match e t with
      | .bool b => (match b, want with | true, false => true | false, true => true | _, _ => false)
      | _ => true
def pureAt (e : Env) (i : Nat) : Bool := match ops[i]? with | some o => pureB P o e || skipB ops e o | none => false
def wellB (e : Env) (i : Nat) : Bool := match ops[i]? with | some o => !softK o || isLoad o || pureB P o e || skipB ops e o | none => false
def stepV (e : Env) (w : World) (i : Nat) (K : Env → World → Prop) : Prop :=
  match ops[i]? with
  | some o => goV P ops o e w K
  | none => False
def allOf : List Nat → (Nat → Prop) → Prop
  | [], _ => True
  | i :: l, F => F i ∧ allOf l F
/-- Written out at once: what the kernel reads again and again is then a literal. -/
def normL : List Bool → (List Bool → Prop) → Prop
  | [], k => k []
  | true :: l, k => normL l fun r => k (true :: r)
  | false :: l, k => normL l fun r => k (false :: r)
def normA (a : Array Bool) (k : Array Bool → Prop) : Prop := normL a.toList fun l => k l.toArray
theorem normL_eq : ∀ (l : List Bool) (k : List Bool → Prop), normL l k = k l
  | [], k => rfl
  | true :: l, k => by rw [normL, normL_eq l]
  | false :: l, k => by rw [normL, normL_eq l]
theorem normA_eq (a : Array Bool) (k : Array Bool → Prop) : normA a k = k a := by rw [normA, normL_eq]
/-- A guard that is not known yet is told first (of an operation that is not plain). -/
def settleV (r : Nat) (e : Env) (k : Env → Prop) : Prop :=
  match ops[r]? with
  | none => k e
  | some o => match pureB P o e with
    | true => k e
    | false => match o.guard with
      | none => k e
      | some (g, _) => match (ops[g]?).bind (·.dst) with
        | none => k e
        | some t => match e t with
          | .bool b => sel b (k (upd e t (.bool true))) (k (upd e t (.bool false)))
          | _ => k e
def planV (ms : List Nat) : Nat → Array Bool → Env → World → (Env → World → Prop) → Prop
  | 0, listed, e, w, K => match Region.ready .any ops listed with
    | [] => K e w
    | _ :: _ => False
  | fuel + 1, listed, e, w, K => match Region.ready .any ops listed with
    | [] => K e w
    | r :: rs => settleV P ops r e fun e => match (r :: rs).find? fun i => pureAt P ops e i && freeB ops listed i with
      | some i => stepV P ops e w i fun e' w' => normA (listed.setIfInBounds i true) fun l => planV ms fuel l e' w' K
      | none => match (r :: rs).all fun i => wellB P ops e i with
        | false => False
        | true => match (r :: rs).find? fun i => softB ops ms listed i with
          | some i => stepV P ops e w i fun e' w' => normA (listed.setIfInBounds i true) fun l => planV ms fuel l e' w' K
          | none => match rs with
            | [] => stepV P ops e w r fun e' w' => normA (listed.setIfInBounds r true) fun l => planV ms fuel l e' w' K
            | _ :: _ => allOf (r :: rs) fun i => stepV P ops e w i fun e' w' => normA (listed.setIfInBounds i true) fun l => planV ms fuel l e' w' K
def drawV (e : Env) (w : World) (K : Env → World → Prop) : Prop :=
  match maskOk ops (masks ops), ops.toList.any isSelect with
  | true, false => planV P ops (masks ops) ops.size (Array.replicate ops.size false) e w.drew K
  | _, _ => False
def regionV (draw : Bool) (e : Env) (w : World) (K : Env → World → Prop) : Prop :=
  match draw with
  | false => listV P ops ops.toList e w K
  | true => drawV P ops e w K
/-- Of which kinds a load may be watched. -/
def watchT (t : TypeId) : Bool := match aggT P t with | true => Nat.beq (leaves P 20 t).length (sizeT P t) | false => hasT P t
def stillC (w : World) (b : Nat) : List Value → Nat → Prop
  | [], _ => True
  | v :: l, o => w.cell? ⟨b, o, none⟩ = some v ∧ stillC w b l (o + 1)
/-- A cell that was read: it still says the same. -/
def stillV (t : TypeId) (x v : Value) (w : World) : Prop :=
  match x with
  | .pointer (some ⟨b, s, none⟩) => match watchT P t, aggT P t with
    | true, false => w.cell? ⟨b, s, none⟩ = some v
    | true, true => match v with
      | .agg vs => match Nat.beq vs.size (sizeT P t) with
        | true => stillC w b vs.toList s
        | false => False
      | _ => False
    | false, _ => False
  | _ => False
/-- The same, of a load that has a guard: where it was not wanted nothing is said. -/
def stillG (o : Oper) (t : TypeId) (xv : Value) (d : Nat) (e : Env) (w : World) : Prop :=
  match o.guard with
  | none => stillV P t xv (e d) w
  | some (g, want) => match (ops[g]?).bind (·.dst) with
    | some tt => match e tt with
      | .bool b => match b, want with
        | true, true => stillV P t xv (e d) w
        | false, false => stillV P t xv (e d) w
        | _, _ => True
      | _ => True
    | none => True
/-- The guard's own place is another one. -/
def guardOk (o : Oper) (d : Nat) : Bool :=
  match o.guard with
  | none => true
  | some (g, _) => match (ops[g]?).bind (·.dst) with
    | some tt => (match Nat.beq tt d with | true => false | false => true)
    | none => false
/-- Whom nobody that may come ahead of it gets in the way of. -/
def watchB (listed : Array Bool) (i : Nat) : Bool :=
  match ops[i]? with
  | none => false
  | some oi => isLoad oi && freeB ops listed i
/-- The plan: whatever reads a cell is taken first; whoever comes behind leaves that cell as it is (J). -/
def planW : Nat → Array Bool → Env → World → (World → Prop) → (Env → World → Prop) → Prop
  | 0, listed, e, w, _, K => match Region.ready .any ops listed with
    | [] => K e w
    | _ :: _ => False
  | fuel + 1, listed, e, w, J, K => match Region.ready .any ops listed with
    | [] => K e w
    | r :: rs => settleV P ops r e fun e => match (r :: rs).find? fun i => pureAt P ops e i && freeB ops listed i with
      | some i => stepV P ops e w i fun e' w' => normA (listed.setIfInBounds i true) fun l => planW fuel l e' w' J K
      | none => match (r :: rs).all fun i => wellB P ops e i with
        | false => False
        | true => match (r :: rs).find? fun i => watchB ops listed i with
          | some i => match ops[i]? with
            | some o => match o.dst, o.op with
              | some d, .load t x => match watchT P t, guardOk ops o d with
                | true, true => stepV P ops e w i fun e' w' => normA (listed.setIfInBounds i true) fun l => planW fuel l e' w' (fun w2 => stillG P ops o t (ev e x) d e' w2 ∧ J w2) K
                | _, _ => False
              | _, _ => False
            | none => False
          | none => match rs with
            | [] => stepV P ops e w r fun e' w' => J w' ∧ normA (listed.setIfInBounds r true) fun l => planW fuel l e' w' J K
            | _ :: _ => allOf (r :: rs) fun i => stepV P ops e w i fun e' w' => J w' ∧ normA (listed.setIfInBounds i true) fun l => planW fuel l e' w' J K
def eqL : List Bool → List Bool → Bool
  | [], [] => true
  | true :: a, true :: b => eqL a b
  | false :: a, false :: b => eqL a b
  | _, _ => false
def subL : List Bool → List Bool → Bool
  | [], [] => true
  | false :: a, _ :: b => subL a b
  | true :: a, true :: b => subL a b
  | _, _ => false
def freeN : List Bool → Nat
  | [] => 0
  | true :: l => freeN l
  | false :: l => freeN l + 1
/-- Whoever is not in S comes behind each that is. -/
def barB (ms : List Nat) (S : List Bool) : Bool := Nat.beq S.length ops.size && (List.range ops.size).all fun j => match S.getD j true with
  | true => true
  | false => (List.range ops.size).all fun i => match S.getD i false with
    | false => true
    | true => (ms.getD j 0).testBit i
/-- The same, up to a meeting point S. -/
def planT (S : List Bool) (f2 : Nat) : Nat → Array Bool → Env → World → (World → Prop) → (Env → World → Prop) → Prop
  | 0, listed, e, w, _, K => match eqL listed.toList S, f2 with
    | true, 0 => K e w
    | _, _ => False
  | fuel + 1, listed, e, w, J, K => match eqL listed.toList S with
    | true => (match Nat.ble f2 (fuel + 1) with | true => K e w | false => False)
    | false => match Region.ready .any ops listed with
      | [] => False
      | r :: rs => settleV P ops r e fun e => match (r :: rs).find? fun i => pureAt P ops e i && freeB ops listed i with
        | some i => stepV P ops e w i fun e' w' => normA (listed.setIfInBounds i true) fun l => planT S f2 fuel l e' w' J K
        | none => match (r :: rs).all fun i => wellB P ops e i with
          | false => False
          | true => match (r :: rs).find? fun i => watchB ops listed i with
            | some i => match ops[i]? with
              | some o => match o.dst, o.op with
                | some d, .load t x => match watchT P t, guardOk ops o d with
                  | true, true => stepV P ops e w i fun e' w' => normA (listed.setIfInBounds i true) fun l => planT S f2 fuel l e' w' (fun w2 => stillG P ops o t (ev e x) d e' w2 ∧ J w2) K
                  | _, _ => False
                | _, _ => False
              | none => False
            | none => match rs with
              | [] => stepV P ops e w r fun e' w' => J w' ∧ normA (listed.setIfInBounds r true) fun l => planT S f2 fuel l e' w' J K
              | _ :: _ => allOf (r :: rs) fun i => stepV P ops e w i fun e' w' => J w' ∧ normA (listed.setIfInBounds i true) fun l => planT S f2 fuel l e' w' J K
def regionW (draw : Bool) (e : Env) (w : World) (K : Env → World → Prop) : Prop :=
  match draw, ops.toList.any isSelect with
  | true, false => planW P ops ops.size (Array.replicate ops.size false) e w.drew (fun _ => True) K
  | _, _ => False
end

/-! ### Code -/
def Shape.Fn : Shape → Type → Type
  | .int _, α => Int → α
  | .bool, α => Bool → α
  | .str, α => ByteArray → α
  | .slice, α => Option Addr → Nat → Nat → α
  | .ptr, α => Option Addr → α
  | .blk, α => Nat → Nat → α
  | .map, α => Option Nat → α
  | .flt _, α => Nat → α
  | .fn, α => FuncId → Array Value → Array Value → α
  | .any, α => Value → α
def Shape.atV {α : Type} : (s : Shape) → s.Fn α → Value → (α → Prop) → Prop
  | .int k, f, .int k' x, F => match decide (k = k') with | true => F (f x) | false => False
  | .bool, f, .bool x, F => F (f x)
  | .str, f, .string x, F => F (f x)
  | .slice, f, .slice A n c, F => F (f A n c)
  | .ptr, f, .pointer p, F => F (f p)
  | .blk, f, .pointer p, F => match p with | some ⟨b, o, none⟩ => F (f b o) | _ => False
  | .map, f, .map r, F => F (f r)
  | .flt k, f, .float k' x, F => match decide (k = k') with | true => F (f x) | false => False
  | .fn, f, .func g fi ca, F => match g with | .func g => F (f g fi ca) | _ => False
  | .any, f, v, F => F (f v)
  | _, _, _, _ => False
def Shape.allV {α : Type} : (s : Shape) → s.Fn α → (Value → α → Prop) → Prop
  | .int k, f, F => ∀ x : Int, F (.int k x) (f x)
  | .bool, f, F => ∀ x : Bool, F (.bool x) (f x)
  | .str, f, F => ∀ x : ByteArray, F (.string x) (f x)
  | .slice, f, F => ∀ (A : Option Addr) (n c : Nat), F (.slice A n c) (f A n c)
  | .ptr, f, F => ∀ p : Option Addr, F (.pointer p) (f p)
  | .blk, f, F => ∀ b o : Nat, F (.pointer (some ⟨b, o, none⟩)) (f b o)
  | .map, f, F => ∀ r : Option Nat, F (.map r) (f r)
  | .flt k, f, F => ∀ x : Nat, F (.float k x) (f x)
  | .fn, f, F => ∀ (g : FuncId) (fi ca : Array Value), F (.func (.func g) fi ca) (f g fi ca)
  | .any, f, F => ∀ v : Value, F v (f v)
def FnV : List (Nat × Shape) → Type → Type
  | [], α => α
  | (_, s) :: l, α => s.Fn (FnV l α)
def appV {α : Type} : (l : List (Nat × Shape)) → FnV l α → Env → (α → Prop) → Prop
  | [], I, _, F => F I
  | (t, s) :: l, I, e, F => s.atV I (e t) fun I' => appV l I' e F
def allV {α : Type} : (l : List (Nat × Shape)) → FnV l α → Env → (Env → α → Prop) → Prop
  | [], I, e, F => F e I
  | (t, s) :: l, I, e, F => s.allV I fun v I' => allV l I' (upd e t v) F
def memN : List Nat → Nat → Bool
  | [], _ => false
  | x :: l, t => match Nat.beq t x with | true => true | false => memN l t
/-- What stands as it stood (keep); all else is what it is. -/
def keepE (e : Env) (keep : List Nat) (d : Env) : Env := fun t => match memN keep t with | true => e t | false => d t
def valsE (l : List Nat) (e : Env) : List Value := l.map e
structure Ann where
  live : List (Nat × Shape)
  keep : List Nat
def firstReg : Code → Option Nat
  | .region id _ _ => some id
  | .seq a b => match firstReg a with | some i => some i | none => firstReg b
  | .cond _ a b => match firstReg a with | some i => some i | none => firstReg b
  | .block _ c => firstReg c
  | .loop c => firstReg c
  | _ => none
def annOf (A : Nat → Option Ann) (c : Code) : Option Ann := match firstReg c with | some r => A r | none => none

/-- Meeting points of a region, one behind the other. -/
def meetsV (P : Program) (ops : Array Oper) (ms : List Nat) : List (List Nat × Ann) → Array Bool → Nat → Env → World → (Env → World → Prop) → Prop
  | [], listed, fuel, e, w, K => planW P ops fuel listed e w (fun _ => True) K
  | (s, an) :: l, listed, fuel, e, w, K => normL ((List.range ops.size).map (memN s)) fun S => match barB ops ms S, subL listed.toList S with
    | true, true => ∃ M : FnV an.live (World → Prop),
        planT P ops S (freeN S) fuel listed e w (fun _ => True) (fun e' w' => valsE an.keep e' = valsE an.keep e ∧ appV an.live M e' (fun J => J w')) ∧
        ∀ d : Env, allV an.live M (keepE e an.keep d) fun e' J => ∀ w', J w' → meetsV P ops ms l S.toArray (freeN S) e' w' K
    | _, _ => False
def meetsOf (AC : Nat → Option Ann) (id : Nat) : Nat → Nat → List (List Nat × Ann)
  | 0, _ => []
  | fuel + 1, k => match AC (id + k) with
    | none => []
    | some an => match AC (id + k + 1000000) with
      | none => []
      | some s => (s.keep, an) :: meetsOf AC id fuel (k + 2000000)
def regionM (P : Program) (ops : Array Oper) (l : List (List Nat × Ann)) (draw : Bool) (e : Env) (w : World) (K : Env → World → Prop) : Prop :=
  match draw, maskOk ops (masks ops), ops.toList.any isSelect with
  | true, true, false => meetsV P ops (masks ops) l (Array.replicate ops.size false) ops.size e w.drew K
  | _, _, _ => False

def wpV (P : Program) (AL AC : Nat → Option Ann) : Code → (Exit → Env → World → Prop) → Env → World → Prop
  | .skip, Q, e, w => Q .normal e w
  | .label _, Q, e, w => Q .normal e w
  | .region id ops draw, Q, e, w => match AC (id + 1000000) with
    | none => (match AC (id + 2000000) with
      | none => regionV P ops draw e w (Q .normal)
      | some _ => regionM P ops (meetsOf AC id 8 2000000) draw e w (Q .normal))
    | some _ => regionW P ops draw e w (Q .normal)
  | .seq a b, Q, e, w => match annOf AC b with
    | none => wpV P AL AC a (fun ex e' w' => match ex with | .normal => wpV P AL AC b Q e' w' | ex => Q ex e' w') e w
    | some an => ∃ M : FnV an.live (World → Prop),
        wpV P AL AC a (fun ex e' w' => match ex with | .normal => valsE an.keep e' = valsE an.keep e ∧ appV an.live M e' (fun J => J w') | ex => Q ex e' w') e w ∧
        ∀ d : Env, allV an.live M (keepE e an.keep d) fun e' J => ∀ w', J w' → wpV P AL AC b Q e' w'
  | .cond c a b, Q, e, w => match ev e c with
    | .bool t => sel t (wpV P AL AC a Q e w) (wpV P AL AC b Q e w)
    | _ => False
  | .block id c, Q, e, w => wpV P AL AC c (fun ex e' w' => match ex with
    | .exit i => match Nat.beq i id with | true => Q .normal e' w' | false => Q (.exit i) e' w'
    | ex => Q ex e' w') e w
  | .loop c, Q, e, w => match annOf AL c with
    | none => False
    | some an => ∃ I : FnV an.live (World → Nat → Prop), (∃ n, appV an.live I e fun J => J w n) ∧
        ∀ d : Env, allV an.live I (keepE e an.keep d) fun e' J => ∀ w' n, J w' n →
          wpV P AL AC c (fun ex e'' w'' => match ex with | .normal => valsE an.keep e'' = valsE an.keep e ∧ ∃ m, m < n ∧ appV an.live I e'' (fun J => J w'' m) | ex => Q ex e'' w'') e' w'
  | .exit id, Q, e, w => Q (.exit id) e w
  | .goto l, Q, e, w => Q (.goto l) e w
  | .ret, Q, e, w => Q .ret e w
  | .rangeFunc _ _ _ _, _, _, _ => False
  | .scope _, _, _, _ => False
  | .refuse _, _, _, _ => False

def retsV (P : Program) (e : Env) (w : World) : List ResultVar → (List Value → Prop) → Prop
  | [], F => F []
  | .tmp t :: l, F => retsV P e w l fun vs => F (e t :: vs)
  | .cell p t :: l, F => match e p with
    | .pointer (some ⟨b, s, none⟩) => match aggT P t with
      | true => match Nat.beq (leaves P 20 t).length (sizeT P t) with
        | true => exCells w b (leaves P 20 t) s fun cs => retsV P e w l fun vs => F (.agg cs.toArray :: vs)
        | false => False
      | false => match hasT P t with
        | true => (shapeOf P t).ex fun v => w.cell? ⟨b, s, none⟩ = some v ∧ retsV P e w l fun vs => F (v :: vs)
        | false => False
    | _ => False
def tupled : List Value → Value
  | [v] => v
  | vs => .tuple vs.toArray
def retV (P : Program) (fn : Func) (R : Value → World → Prop) : Exit → Env → World → Prop := fun ex e w =>
  match ex with
  | .normal => retsV P e w fn.results.toList fun vs => R (tupled vs) w
  | .ret => retsV P e w fn.results.toList fun vs => R (tupled vs) w
  | _ => False
def argsE (args : Array Value) : Env := fun t => args.getD t undef
/-- All slots that code writes lie in the frame. -/
def dstsOk (n : Nat) : Code → Bool
  | .region _ ops _ => ops.toList.all fun o => match o.dst with | some d => Nat.blt d n | none => true
  | .seq a b => dstsOk n a && dstsOk n b
  | .cond _ a b => dstsOk n a && dstsOk n b
  | .block _ c => dstsOk n c
  | .loop c => dstsOk n c
  | _ => true
/-- The whole statement of a function. -/
def funV (P : Program) (fn : Func) (AL AC : Nat → Option Ann) (args : Array Value) (w : World) (R : Value → World → Prop) : Prop :=
  match fn.body with
  | some c => match dstsOk fn.ntmps c, Nat.ble args.size fn.ntmps with
    | true, true => wpV P AL AC c (retV P fn R) (argsE args) w
    | _, _ => False
  | none => False

end Go.Proofs.YtjmlfknogjaemaaDoor.Vc
