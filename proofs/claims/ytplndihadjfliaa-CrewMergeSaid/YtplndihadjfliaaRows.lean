/-
  No cell of these rows narrows 'for every input' (looked for: loops, veiled, ifaces, maps, wideKeys, modest, calm, conditions, laid).
  DERIVED. THE GIVEN ROWS OF THIS SEAT. 5 by the template 'for every input the law returns true; each argument reads behind the call as it read before'; 0 by the template 'total and deterministic' (their statements: YtplndihadjfliaaTotals.lean).
  GIVEN WITH THE SEED: the statements are not yours to turn. If you find one false, say at which input.
  Laid BY PROGRAM, IN A SANDBOX (cutbox-rows.mjs): the forced cells as the released guide's own fill.sh prints them over the translation c454687203a8fe99… (all of the seat's roots in one cut). By AI agents, Wed Nov 11 2026. No macro, syntax, notation, axiom, sorry.
-/
import Derived.Test.YtplndihadjfliaaChecked
import GoSem.Claim
import GoSem.ClaimJoined
import GoSem.ClaimMapViews
import Derived.JoinedTies
import Derived.KernelRfl
namespace Go.Proofs.Ytplndihadjfliaa
/- THE CELL 'sum', in the pinned program and in every row, IS THE sha256 OF THE DUMP (.gsa) THAT YtplndihadjfliaaProg.lean LOADS. Nothing in Lean hashes anything: it is a label: what it is worth is what the hold of that sum in a sandbox is worth. -/
noncomputable def Try.pinned : Pinned := { name := "ytplndihadjfliaa", sum := "c454687203a8fe997f7c2c7e78d34973af9c6ea91630f437fe79c4aa7ccbf84f", checked := Try.checked }
namespace Rows
def none {H : Type} : Left H := { results := [], args := [] }

/-- 'gatehouselaw26.CrewNames': WHATEVER THE INPUT: true; the input reads as it did. -/
def crewNamesSpec : ChangeSpec := { name := "crewNames", fn := fun _ => fun
  | [] => { results := [.lit (.bool true)], args := [] }
  | _ => none }
def crewNamesRow : OpenClaim := { program := "ytplndihadjfliaa", sum := "c454687203a8fe997f7c2c7e78d34973af9c6ea91630f437fe79c4aa7ccbf84f", func := "gatehouse/gatehouselaw26.CrewNames", spec := "crewNames", unfollowed := true, recurses := true, leaving := true, apart := false }
def CrewNamesSaid : Prop := crewNamesRow.holds Try.pinned (OpenSpec.ofChange crewNamesSpec)

/-- ITS FALSE NEIGHBOUR: 'it returns false'. Refute it at one input. -/
def crewNamesWrong : ChangeSpec := { name := "crewNames", fn := fun _ => fun
  | [] => { results := [.lit (.bool false)], args := [] }
  | _ => none }
def CrewNamesWrongFalsely : Prop := crewNamesRow.holds Try.pinned (OpenSpec.ofChange crewNamesWrong)

/-- 'gatehouselaw26.CrewRelay': WHATEVER THE INPUT: true; the input reads as it did. -/
def crewRelaySpec : ChangeSpec := { name := "crewRelay", fn := fun _ => fun
  | [d1, d2] => { results := [.lit (.bool true)], args := [d1, d2] }
  | _ => none }
def crewRelayRow : OpenClaim := { program := "ytplndihadjfliaa", sum := "c454687203a8fe997f7c2c7e78d34973af9c6ea91630f437fe79c4aa7ccbf84f", func := "gatehouse/gatehouselaw26.CrewRelay", spec := "crewRelay", unfollowed := true, recurses := true, leaving := true, apart := false }
def CrewRelaySaid : Prop := crewRelayRow.holds Try.pinned (OpenSpec.ofChange crewRelaySpec)

/-- ITS FALSE NEIGHBOUR: 'it returns false'. Refute it at one input. -/
def crewRelayWrong : ChangeSpec := { name := "crewRelay", fn := fun _ => fun
  | [d1, d2] => { results := [.lit (.bool false)], args := [d1, d2] }
  | _ => none }
def CrewRelayWrongFalsely : Prop := crewRelayRow.holds Try.pinned (OpenSpec.ofChange crewRelayWrong)

/-- 'gatehouselaw26.CrewMerge': WHATEVER THE INPUT: true; the input reads as it did. -/
def crewMergeSpec : ChangeSpec := { name := "crewMerge", fn := fun _ => fun
  | [d1, d2] => { results := [.lit (.bool true)], args := [d1, d2] }
  | _ => none }
def crewMergeRow : OpenClaim := { program := "ytplndihadjfliaa", sum := "c454687203a8fe997f7c2c7e78d34973af9c6ea91630f437fe79c4aa7ccbf84f", func := "gatehouse/gatehouselaw26.CrewMerge", spec := "crewMerge", inPlace := ["(*sync.WaitGroup).Add", "internal/race.ReleaseMerge", "internal/race.Disable", "internal/race.Enable", "internal/synctest.IsInBubble", "internal/synctest.Associate[sync.WaitGroup]", "sync.fatal", "sync/atomic.OrUint64", "sync/atomic.AddUint64", "internal/race.Read", "sync/atomic.LoadUint64", "sync/atomic.StoreUint64", "internal/synctest.Disassociate[sync.WaitGroup]", "sync.runtime_Semrelease", "(*sync.WaitGroup).Done", "(*sync.WaitGroup).Wait", "internal/race.Acquire", "internal/synctest.IsAssociated[sync.WaitGroup]", "sync/atomic.CompareAndSwapUint64", "internal/race.Write", "sync.runtime_SemacquireWaitGroup"], leaving := true, apart := false }
def CrewMergeSaid : Prop := crewMergeRow.holds Try.pinned (OpenSpec.ofChange crewMergeSpec)

/-- ITS FALSE NEIGHBOUR: 'it returns false'. Refute it at one input. -/
def crewMergeWrong : ChangeSpec := { name := "crewMerge", fn := fun _ => fun
  | [d1, d2] => { results := [.lit (.bool false)], args := [d1, d2] }
  | _ => none }
def CrewMergeWrongFalsely : Prop := crewMergeRow.holds Try.pinned (OpenSpec.ofChange crewMergeWrong)

/-- 'gatehouselaw26.CrewRows': WHATEVER THE INPUT: true; the input reads as it did. -/
def crewRowsSpec : ChangeSpec := { name := "crewRows", fn := fun _ => fun
  | [d1, d2, d3] => { results := [.lit (.bool true)], args := [d1, d2, d3] }
  | _ => none }
def crewRowsRow : OpenClaim := { program := "ytplndihadjfliaa", sum := "c454687203a8fe997f7c2c7e78d34973af9c6ea91630f437fe79c4aa7ccbf84f", func := "gatehouse/gatehouselaw26.CrewRows", spec := "crewRows", inPlace := ["(*sync.WaitGroup).Add", "internal/race.ReleaseMerge", "internal/race.Disable", "internal/race.Enable", "internal/synctest.IsInBubble", "internal/synctest.Associate[sync.WaitGroup]", "sync.fatal", "sync/atomic.OrUint64", "sync/atomic.AddUint64", "internal/race.Read", "sync/atomic.LoadUint64", "sync/atomic.StoreUint64", "internal/synctest.Disassociate[sync.WaitGroup]", "sync.runtime_Semrelease", "(*sync.WaitGroup).Done", "(*sync.WaitGroup).Wait", "internal/race.Acquire", "internal/synctest.IsAssociated[sync.WaitGroup]", "sync/atomic.CompareAndSwapUint64", "internal/race.Write", "sync.runtime_SemacquireWaitGroup"], unfollowed := true, recurses := true, leaving := true, apart := false }
def CrewRowsSaid : Prop := crewRowsRow.holds Try.pinned (OpenSpec.ofChange crewRowsSpec)

/-- ITS FALSE NEIGHBOUR: 'it returns false'. Refute it at one input. -/
def crewRowsWrong : ChangeSpec := { name := "crewRows", fn := fun _ => fun
  | [d1, d2, d3] => { results := [.lit (.bool false)], args := [d1, d2, d3] }
  | _ => none }
def CrewRowsWrongFalsely : Prop := crewRowsRow.holds Try.pinned (OpenSpec.ofChange crewRowsWrong)

/-- 'gatehouselaw26.CrewParts': WHATEVER THE INPUT: true; the input reads as it did. -/
def crewPartsSpec : ChangeSpec := { name := "crewParts", fn := fun _ => fun
  | [d1, d2] => { results := [.lit (.bool true)], args := [d1, d2] }
  | _ => none }
def crewPartsRow : OpenClaim := { program := "ytplndihadjfliaa", sum := "c454687203a8fe997f7c2c7e78d34973af9c6ea91630f437fe79c4aa7ccbf84f", func := "gatehouse/gatehouselaw26.CrewParts", spec := "crewParts", inPlace := ["(*sync.WaitGroup).Add", "internal/race.ReleaseMerge", "internal/race.Disable", "internal/race.Enable", "internal/synctest.IsInBubble", "internal/synctest.Associate[sync.WaitGroup]", "sync.fatal", "sync/atomic.OrUint64", "sync/atomic.AddUint64", "internal/race.Read", "sync/atomic.LoadUint64", "sync/atomic.StoreUint64", "internal/synctest.Disassociate[sync.WaitGroup]", "sync.runtime_Semrelease", "(*sync.WaitGroup).Done", "(*sync.WaitGroup).Wait", "internal/race.Acquire", "internal/synctest.IsAssociated[sync.WaitGroup]", "sync/atomic.CompareAndSwapUint64", "internal/race.Write", "sync.runtime_SemacquireWaitGroup"], unfollowed := true, recurses := true, leaving := true, apart := false }
def CrewPartsSaid : Prop := crewPartsRow.holds Try.pinned (OpenSpec.ofChange crewPartsSpec)

/-- ITS FALSE NEIGHBOUR: 'it returns false'. Refute it at one input. -/
def crewPartsWrong : ChangeSpec := { name := "crewParts", fn := fun _ => fun
  | [d1, d2] => { results := [.lit (.bool false)], args := [d1, d2] }
  | _ => none }
def CrewPartsWrongFalsely : Prop := crewPartsRow.holds Try.pinned (OpenSpec.ofChange crewPartsWrong)

/- THE SECOND FORM. 'bulk': how many values and letters a reading holds, each counted each time it is reached (what is shared counts as often as it is met; a slice's spare places count too). A statement '..UptoSaid' is the law's where the arguments, and the package variables that the reading takes, are together of bulk at most 1048576: NARROWER than '..Said'. Prove '..Said' where nothing that the law and all that it calls make is longer than what came in: it says more and counts as full. Else prove '..UptoSaid'. A law counts once. -/
mutual
def uptoBulk {H : Type} : DataW H → Nat
  | .lit (.string bytes) => bytes.length + 1
  | .lit _ => 1
  | .nil => 1
  | .ptr d => uptoBulk d + 1
  | .slice elems spare => uptoBulkAll elems + uptoBulkAll spare + 1
  | .agg parts => uptoBulkAll parts + 1
  | .iface _ d => uptoBulk d + 1
  | .map entries => uptoBulkEntries entries + 1
  | .held _ => 1
def uptoBulkAll {H : Type} : List (DataW H) → Nat
  | [] => 0
  | d :: r => uptoBulk d + uptoBulkAll r
def uptoBulkEntries {H : Type} : List (Lit × DataW H) → Nat
  | [] => 0
  | x :: r => uptoBulkEntry x + uptoBulkEntries r
def uptoBulkEntry {H : Type} : Lit × DataW H → Nat
  | (.string bytes, d) => bytes.length + uptoBulk d + 1
  | (_, d) => uptoBulk d + 1
 end
def uptoSmall : (H : Type) → List (DataW H) → Bool := fun _ ds => decide (uptoBulkAll ds ≤ 1048576)
def OpenSpec.upto (s : _root_.Go.ChangeSpec) : _root_.Go.OpenSpec := { _root_.Go.OpenSpec.ofChange s with cond := some uptoSmall }

/-- 'gatehouselaw26.CrewNames', WHERE WHAT IT READS IS OF BULK AT MOST 1048576: true; the input reads as it did. -/
def crewNamesUptoRow : OpenClaim := { program := "ytplndihadjfliaa", sum := "c454687203a8fe997f7c2c7e78d34973af9c6ea91630f437fe79c4aa7ccbf84f", func := "gatehouse/gatehouselaw26.CrewNames", spec := "crewNames", unfollowed := true, recurses := true, leaving := true, apart := false, narrowed := true }
def CrewNamesUptoSaid : Prop := crewNamesUptoRow.holds Try.pinned (OpenSpec.upto crewNamesSpec)

/-- 'gatehouselaw26.CrewRelay', WHERE WHAT IT READS IS OF BULK AT MOST 1048576: true; the input reads as it did. -/
def crewRelayUptoRow : OpenClaim := { program := "ytplndihadjfliaa", sum := "c454687203a8fe997f7c2c7e78d34973af9c6ea91630f437fe79c4aa7ccbf84f", func := "gatehouse/gatehouselaw26.CrewRelay", spec := "crewRelay", unfollowed := true, recurses := true, leaving := true, apart := false, narrowed := true }
def CrewRelayUptoSaid : Prop := crewRelayUptoRow.holds Try.pinned (OpenSpec.upto crewRelaySpec)

/-- 'gatehouselaw26.CrewMerge', WHERE WHAT IT READS IS OF BULK AT MOST 1048576: true; the input reads as it did. -/
def crewMergeUptoRow : OpenClaim := { program := "ytplndihadjfliaa", sum := "c454687203a8fe997f7c2c7e78d34973af9c6ea91630f437fe79c4aa7ccbf84f", func := "gatehouse/gatehouselaw26.CrewMerge", spec := "crewMerge", inPlace := ["(*sync.WaitGroup).Add", "internal/race.ReleaseMerge", "internal/race.Disable", "internal/race.Enable", "internal/synctest.IsInBubble", "internal/synctest.Associate[sync.WaitGroup]", "sync.fatal", "sync/atomic.OrUint64", "sync/atomic.AddUint64", "internal/race.Read", "sync/atomic.LoadUint64", "sync/atomic.StoreUint64", "internal/synctest.Disassociate[sync.WaitGroup]", "sync.runtime_Semrelease", "(*sync.WaitGroup).Done", "(*sync.WaitGroup).Wait", "internal/race.Acquire", "internal/synctest.IsAssociated[sync.WaitGroup]", "sync/atomic.CompareAndSwapUint64", "internal/race.Write", "sync.runtime_SemacquireWaitGroup"], leaving := true, apart := false, narrowed := true }
def CrewMergeUptoSaid : Prop := crewMergeUptoRow.holds Try.pinned (OpenSpec.upto crewMergeSpec)

/-- 'gatehouselaw26.CrewRows', WHERE WHAT IT READS IS OF BULK AT MOST 1048576: true; the input reads as it did. -/
def crewRowsUptoRow : OpenClaim := { program := "ytplndihadjfliaa", sum := "c454687203a8fe997f7c2c7e78d34973af9c6ea91630f437fe79c4aa7ccbf84f", func := "gatehouse/gatehouselaw26.CrewRows", spec := "crewRows", inPlace := ["(*sync.WaitGroup).Add", "internal/race.ReleaseMerge", "internal/race.Disable", "internal/race.Enable", "internal/synctest.IsInBubble", "internal/synctest.Associate[sync.WaitGroup]", "sync.fatal", "sync/atomic.OrUint64", "sync/atomic.AddUint64", "internal/race.Read", "sync/atomic.LoadUint64", "sync/atomic.StoreUint64", "internal/synctest.Disassociate[sync.WaitGroup]", "sync.runtime_Semrelease", "(*sync.WaitGroup).Done", "(*sync.WaitGroup).Wait", "internal/race.Acquire", "internal/synctest.IsAssociated[sync.WaitGroup]", "sync/atomic.CompareAndSwapUint64", "internal/race.Write", "sync.runtime_SemacquireWaitGroup"], unfollowed := true, recurses := true, leaving := true, apart := false, narrowed := true }
def CrewRowsUptoSaid : Prop := crewRowsUptoRow.holds Try.pinned (OpenSpec.upto crewRowsSpec)

/-- 'gatehouselaw26.CrewParts', WHERE WHAT IT READS IS OF BULK AT MOST 1048576: true; the input reads as it did. -/
def crewPartsUptoRow : OpenClaim := { program := "ytplndihadjfliaa", sum := "c454687203a8fe997f7c2c7e78d34973af9c6ea91630f437fe79c4aa7ccbf84f", func := "gatehouse/gatehouselaw26.CrewParts", spec := "crewParts", inPlace := ["(*sync.WaitGroup).Add", "internal/race.ReleaseMerge", "internal/race.Disable", "internal/race.Enable", "internal/synctest.IsInBubble", "internal/synctest.Associate[sync.WaitGroup]", "sync.fatal", "sync/atomic.OrUint64", "sync/atomic.AddUint64", "internal/race.Read", "sync/atomic.LoadUint64", "sync/atomic.StoreUint64", "internal/synctest.Disassociate[sync.WaitGroup]", "sync.runtime_Semrelease", "(*sync.WaitGroup).Done", "(*sync.WaitGroup).Wait", "internal/race.Acquire", "internal/synctest.IsAssociated[sync.WaitGroup]", "sync/atomic.CompareAndSwapUint64", "internal/race.Write", "sync.runtime_SemacquireWaitGroup"], unfollowed := true, recurses := true, leaving := true, apart := false, narrowed := true }
def CrewPartsUptoSaid : Prop := crewPartsUptoRow.holds Try.pinned (OpenSpec.upto crewPartsSpec)

end Rows
end Go.Proofs.Ytplndihadjfliaa
