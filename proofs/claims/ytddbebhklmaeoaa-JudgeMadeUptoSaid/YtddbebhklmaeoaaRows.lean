/-
  No cell of these rows narrows 'for every input' (looked for: loops, veiled, ifaces, maps, wideKeys, modest, calm, conditions, laid).
  DERIVED. THE GIVEN ROWS OF THIS SEAT. 4 by the template 'for every input the law returns true; each argument reads behind the call as it read before'; 0 by the template 'total and deterministic' (their statements: YtddbebhklmaeoaaTotals.lean).
  GIVEN WITH THE SEED: the statements are not yours to turn. If you find one false, say at which input.
  Laid BY PROGRAM, IN A SANDBOX (cutbox-rows.mjs): the forced cells as the released guide's own fill.sh prints them over the translation 991ceedfaa08dcab… (all of the seat's roots in one cut). By AI agents, Wed Nov 11 2026. No macro, syntax, notation, axiom, sorry.
-/
import Derived.Test.YtddbebhklmaeoaaChecked
import GoSem.Claim
import GoSem.ClaimJoined
import GoSem.ClaimMapViews
import Derived.JoinedTies
import Derived.KernelRfl
namespace Go.Proofs.Ytddbebhklmaeoaa
/- THE CELL 'sum', in the pinned program and in every row, IS THE sha256 OF THE DUMP (.gsa) THAT YtddbebhklmaeoaaProg.lean LOADS. Nothing in Lean hashes anything: it is a label: what it is worth is what the hold of that sum in a sandbox is worth. -/
noncomputable def Try.pinned : Pinned := { name := "ytddbebhklmaeoaa", sum := "991ceedfaa08dcab027beab2569e061979646c60441512018c3c5759d1be7017", checked := Try.checked }
namespace Rows
def none {H : Type} : Left H := { results := [], args := [] }

/-- 'gatehouselaw27.JudgeLinear': WHATEVER THE INPUT: true; the input reads as it did. -/
def judgeLinearSpec : ChangeSpec := { name := "judgeLinear", fn := fun _ => fun
  | [d1, d2] => { results := [.lit (.bool true)], args := [d1, d2] }
  | _ => none }
def judgeLinearRow : OpenClaim := { program := "ytddbebhklmaeoaa", sum := "991ceedfaa08dcab027beab2569e061979646c60441512018c3c5759d1be7017", func := "gatehouse/gatehouselaw27.JudgeLinear", spec := "judgeLinear", unfollowed := true, recurses := true, plainKeys := false, apart := false }
def JudgeLinearSaid : Prop := judgeLinearRow.holds Try.pinned (OpenSpec.ofChange judgeLinearSpec)

/-- ITS FALSE NEIGHBOUR: 'it returns false'. Refute it at one input. -/
def judgeLinearWrong : ChangeSpec := { name := "judgeLinear", fn := fun _ => fun
  | [d1, d2] => { results := [.lit (.bool false)], args := [d1, d2] }
  | _ => none }
def JudgeLinearWrongFalsely : Prop := judgeLinearRow.holds Try.pinned (OpenSpec.ofChange judgeLinearWrong)

/-- 'gatehouselaw27.JudgeFollows': WHATEVER THE INPUT: true; the input reads as it did. -/
def judgeFollowsSpec : ChangeSpec := { name := "judgeFollows", fn := fun _ => fun
  | [d1, d2, d3] => { results := [.lit (.bool true)], args := [d1, d2, d3] }
  | _ => none }
def judgeFollowsRow : OpenClaim := { program := "ytddbebhklmaeoaa", sum := "991ceedfaa08dcab027beab2569e061979646c60441512018c3c5759d1be7017", func := "gatehouse/gatehouselaw27.JudgeFollows", spec := "judgeFollows", unfollowed := true, recurses := true, plainKeys := false, apart := false }
def JudgeFollowsSaid : Prop := judgeFollowsRow.holds Try.pinned (OpenSpec.ofChange judgeFollowsSpec)

/-- ITS FALSE NEIGHBOUR: 'it returns false'. Refute it at one input. -/
def judgeFollowsWrong : ChangeSpec := { name := "judgeFollows", fn := fun _ => fun
  | [d1, d2, d3] => { results := [.lit (.bool false)], args := [d1, d2, d3] }
  | _ => none }
def JudgeFollowsWrongFalsely : Prop := judgeFollowsRow.holds Try.pinned (OpenSpec.ofChange judgeFollowsWrong)

/-- 'gatehouselaw27.JudgeMade': WHATEVER THE INPUT: true; the input reads as it did. -/
def judgeMadeSpec : ChangeSpec := { name := "judgeMade", fn := fun _ => fun
  | [d1, d2, d3] => { results := [.lit (.bool true)], args := [d1, d2, d3] }
  | _ => none }
def judgeMadeRow : OpenClaim := { program := "ytddbebhklmaeoaa", sum := "991ceedfaa08dcab027beab2569e061979646c60441512018c3c5759d1be7017", func := "gatehouse/gatehouselaw27.JudgeMade", spec := "judgeMade", unfollowed := true, recurses := true, plainKeys := false, apart := false }
def JudgeMadeSaid : Prop := judgeMadeRow.holds Try.pinned (OpenSpec.ofChange judgeMadeSpec)

/-- ITS FALSE NEIGHBOUR: 'it returns false'. Refute it at one input. -/
def judgeMadeWrong : ChangeSpec := { name := "judgeMade", fn := fun _ => fun
  | [d1, d2, d3] => { results := [.lit (.bool false)], args := [d1, d2, d3] }
  | _ => none }
def JudgeMadeWrongFalsely : Prop := judgeMadeRow.holds Try.pinned (OpenSpec.ofChange judgeMadeWrong)

/-- 'gatehouselaw27.JudgeWrong': WHATEVER THE INPUT: true; the input reads as it did. -/
def judgeWrongSpec : ChangeSpec := { name := "judgeWrong", fn := fun _ => fun
  | [d1, d2, d3, d4] => { results := [.lit (.bool true)], args := [d1, d2, d3, d4] }
  | _ => none }
def judgeWrongRow : OpenClaim := { program := "ytddbebhklmaeoaa", sum := "991ceedfaa08dcab027beab2569e061979646c60441512018c3c5759d1be7017", func := "gatehouse/gatehouselaw27.JudgeWrong", spec := "judgeWrong", unfollowed := true, recurses := true, plainKeys := false, apart := false }
def JudgeWrongSaid : Prop := judgeWrongRow.holds Try.pinned (OpenSpec.ofChange judgeWrongSpec)

/-- ITS FALSE NEIGHBOUR: 'it returns false'. Refute it at one input. -/
def judgeWrongWrong : ChangeSpec := { name := "judgeWrong", fn := fun _ => fun
  | [d1, d2, d3, d4] => { results := [.lit (.bool false)], args := [d1, d2, d3, d4] }
  | _ => none }
def JudgeWrongWrongFalsely : Prop := judgeWrongRow.holds Try.pinned (OpenSpec.ofChange judgeWrongWrong)

/- THE SECOND FORM. 'bulk': how many values and letters a reading holds, each counted each time it is reached (what is shared counts as often as it is met; a slice's spare places count too). A statement '..UptoSaid' is the law's where the arguments, and the package variables that the reading takes, are together of bulk at most 1048576: NARROWER than '..Said'. Prove '..Said' where nothing that the law and all that it calls make is longer than what came in: it says more and counts as full. Else prove '..UptoSaid'. A law counts once. -/
mutual
def uptoBulk {H : Type} : DataW H → Nat
  | .lit (.string bytes) => bytes.length + 1
  | .lit _ => 1
  | .nil => 1
  | .ptr d => uptoBulk d + 1
  | .slice elems spare => uptoBulkAll elems + uptoBulkAll spare + 1
  | .agg parts => uptoBulkAll parts + 1
  | .iface _ d => uptoBulk d + 1
  | .map entries => uptoBulkEntries entries + 1
  | .held _ => 1
def uptoBulkAll {H : Type} : List (DataW H) → Nat
  | [] => 0
  | d :: r => uptoBulk d + uptoBulkAll r
def uptoBulkEntries {H : Type} : List (Lit × DataW H) → Nat
  | [] => 0
  | x :: r => uptoBulkEntry x + uptoBulkEntries r
def uptoBulkEntry {H : Type} : Lit × DataW H → Nat
  | (.string bytes, d) => bytes.length + uptoBulk d + 1
  | (_, d) => uptoBulk d + 1
 end
def uptoSmall : (H : Type) → List (DataW H) → Bool := fun _ ds => decide (uptoBulkAll ds ≤ 1048576)
def OpenSpec.upto (s : _root_.Go.ChangeSpec) : _root_.Go.OpenSpec := { _root_.Go.OpenSpec.ofChange s with cond := some uptoSmall }

/-- 'gatehouselaw27.JudgeLinear', WHERE WHAT IT READS IS OF BULK AT MOST 1048576: true; the input reads as it did. -/
def judgeLinearUptoRow : OpenClaim := { program := "ytddbebhklmaeoaa", sum := "991ceedfaa08dcab027beab2569e061979646c60441512018c3c5759d1be7017", func := "gatehouse/gatehouselaw27.JudgeLinear", spec := "judgeLinear", unfollowed := true, recurses := true, plainKeys := false, apart := false, narrowed := true }
def JudgeLinearUptoSaid : Prop := judgeLinearUptoRow.holds Try.pinned (OpenSpec.upto judgeLinearSpec)

/-- 'gatehouselaw27.JudgeFollows', WHERE WHAT IT READS IS OF BULK AT MOST 1048576: true; the input reads as it did. -/
def judgeFollowsUptoRow : OpenClaim := { program := "ytddbebhklmaeoaa", sum := "991ceedfaa08dcab027beab2569e061979646c60441512018c3c5759d1be7017", func := "gatehouse/gatehouselaw27.JudgeFollows", spec := "judgeFollows", unfollowed := true, recurses := true, plainKeys := false, apart := false, narrowed := true }
def JudgeFollowsUptoSaid : Prop := judgeFollowsUptoRow.holds Try.pinned (OpenSpec.upto judgeFollowsSpec)

/-- 'gatehouselaw27.JudgeMade', WHERE WHAT IT READS IS OF BULK AT MOST 1048576: true; the input reads as it did. -/
def judgeMadeUptoRow : OpenClaim := { program := "ytddbebhklmaeoaa", sum := "991ceedfaa08dcab027beab2569e061979646c60441512018c3c5759d1be7017", func := "gatehouse/gatehouselaw27.JudgeMade", spec := "judgeMade", unfollowed := true, recurses := true, plainKeys := false, apart := false, narrowed := true }
def JudgeMadeUptoSaid : Prop := judgeMadeUptoRow.holds Try.pinned (OpenSpec.upto judgeMadeSpec)

/-- 'gatehouselaw27.JudgeWrong', WHERE WHAT IT READS IS OF BULK AT MOST 1048576: true; the input reads as it did. -/
def judgeWrongUptoRow : OpenClaim := { program := "ytddbebhklmaeoaa", sum := "991ceedfaa08dcab027beab2569e061979646c60441512018c3c5759d1be7017", func := "gatehouse/gatehouselaw27.JudgeWrong", spec := "judgeWrong", unfollowed := true, recurses := true, plainKeys := false, apart := false, narrowed := true }
def JudgeWrongUptoSaid : Prop := judgeWrongUptoRow.holds Try.pinned (OpenSpec.upto judgeWrongSpec)

end Rows
end Go.Proofs.Ytddbebhklmaeoaa
