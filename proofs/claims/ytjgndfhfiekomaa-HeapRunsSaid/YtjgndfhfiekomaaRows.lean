/-
  No cell of these rows narrows 'for every input' (looked for: loops, veiled, ifaces, maps, wideKeys, modest, calm, conditions, laid).
  DERIVED. THE GIVEN ROWS OF THIS SEAT. 8 by the template 'for every input the law returns true; each argument reads behind the call as it read before'; 0 by the template 'total and deterministic' (their statements: YtjgndfhfiekomaaTotals.lean).
  GIVEN WITH THE SEED: the statements are not yours to turn. If you find one false, say at which input.
  Laid BY PROGRAM, IN A SANDBOX (cutbox-rows.mjs): the forced cells as the released guide's own fill.sh prints them over the translation a702b8803247bdbd… (all of the seat's roots in one cut). By AI agents, Wed Nov 11 2026. No macro, syntax, notation, axiom, sorry.
-/
import Derived.Test.YtjgndfhfiekomaaChecked
import GoSem.Claim
import GoSem.ClaimJoined
import GoSem.ClaimMapViews
import Derived.JoinedTies
import Derived.KernelRfl
namespace Go.Proofs.Ytjgndfhfiekomaa
/- THE CELL 'sum', in the pinned program and in every row, IS THE sha256 OF THE DUMP (.gsa) THAT YtjgndfhfiekomaaProg.lean LOADS. Nothing in Lean hashes anything: it is a label: what it is worth is what the hold of that sum in a sandbox is worth. -/
noncomputable def Try.pinned : Pinned := { name := "ytjgndfhfiekomaa", sum := "a702b8803247bdbda567259c3e593a60bb65656735f7276e501c65ebfba756b7", checked := Try.checked }
namespace Rows
def none {H : Type} : Left H := { results := [], args := [] }

/-- 'distafflaw15.HeapRuns': WHATEVER THE INPUT: true; the input reads as it did. -/
def heapRunsSpec : ChangeSpec := { name := "heapRuns", fn := fun _ => fun
  | [d1, d2] => { results := [.lit (.bool true)], args := [d1, d2] }
  | _ => none }
def heapRunsRow : OpenClaim := { program := "ytjgndfhfiekomaa", sum := "a702b8803247bdbda567259c3e593a60bb65656735f7276e501c65ebfba756b7", func := "distaff/distafflaw15.HeapRuns", spec := "heapRuns", unfollowed := true, recurses := true, apart := false }
def HeapRunsSaid : Prop := heapRunsRow.holds Try.pinned (OpenSpec.ofChange heapRunsSpec)

/-- ITS FALSE NEIGHBOUR: 'it returns false'. Refute it at one input. -/
def heapRunsWrong : ChangeSpec := { name := "heapRuns", fn := fun _ => fun
  | [d1, d2] => { results := [.lit (.bool false)], args := [d1, d2] }
  | _ => none }
def HeapRunsWrongFalsely : Prop := heapRunsRow.holds Try.pinned (OpenSpec.ofChange heapRunsWrong)

/-- 'distafflaw16.CollectNames': WHATEVER THE INPUT: true; the input reads as it did. -/
def collectNamesSpec : ChangeSpec := { name := "collectNames", fn := fun _ => fun
  | [] => { results := [.lit (.bool true)], args := [] }
  | _ => none }
def collectNamesRow : OpenClaim := { program := "ytjgndfhfiekomaa", sum := "a702b8803247bdbda567259c3e593a60bb65656735f7276e501c65ebfba756b7", func := "distaff/distafflaw16.CollectNames", spec := "collectNames", unfollowed := true, recurses := true, apart := false }
def CollectNamesSaid : Prop := collectNamesRow.holds Try.pinned (OpenSpec.ofChange collectNamesSpec)

/-- ITS FALSE NEIGHBOUR: 'it returns false'. Refute it at one input. -/
def collectNamesWrong : ChangeSpec := { name := "collectNames", fn := fun _ => fun
  | [] => { results := [.lit (.bool false)], args := [] }
  | _ => none }
def CollectNamesWrongFalsely : Prop := collectNamesRow.holds Try.pinned (OpenSpec.ofChange collectNamesWrong)

/-- 'distafflaw16.CollectStacks': WHATEVER THE INPUT: true; the input reads as it did. -/
def collectStacksSpec : ChangeSpec := { name := "collectStacks", fn := fun _ => fun
  | [d1, d2] => { results := [.lit (.bool true)], args := [d1, d2] }
  | _ => none }
def collectStacksRow : OpenClaim := { program := "ytjgndfhfiekomaa", sum := "a702b8803247bdbda567259c3e593a60bb65656735f7276e501c65ebfba756b7", func := "distaff/distafflaw16.CollectStacks", spec := "collectStacks", unfollowed := true, recurses := true, apart := false }
def CollectStacksSaid : Prop := collectStacksRow.holds Try.pinned (OpenSpec.ofChange collectStacksSpec)

/-- ITS FALSE NEIGHBOUR: 'it returns false'. Refute it at one input. -/
def collectStacksWrong : ChangeSpec := { name := "collectStacks", fn := fun _ => fun
  | [d1, d2] => { results := [.lit (.bool false)], args := [d1, d2] }
  | _ => none }
def CollectStacksWrongFalsely : Prop := collectStacksRow.holds Try.pinned (OpenSpec.ofChange collectStacksWrong)

/-- 'distafflaw16.CollectKeeps': WHATEVER THE INPUT: true; the input reads as it did. -/
def collectKeepsSpec : ChangeSpec := { name := "collectKeeps", fn := fun _ => fun
  | [d1, d2] => { results := [.lit (.bool true)], args := [d1, d2] }
  | _ => none }
def collectKeepsRow : OpenClaim := { program := "ytjgndfhfiekomaa", sum := "a702b8803247bdbda567259c3e593a60bb65656735f7276e501c65ebfba756b7", func := "distaff/distafflaw16.CollectKeeps", spec := "collectKeeps", unfollowed := true, recurses := true, apart := false }
def CollectKeepsSaid : Prop := collectKeepsRow.holds Try.pinned (OpenSpec.ofChange collectKeepsSpec)

/-- ITS FALSE NEIGHBOUR: 'it returns false'. Refute it at one input. -/
def collectKeepsWrong : ChangeSpec := { name := "collectKeeps", fn := fun _ => fun
  | [d1, d2] => { results := [.lit (.bool false)], args := [d1, d2] }
  | _ => none }
def CollectKeepsWrongFalsely : Prop := collectKeepsRow.holds Try.pinned (OpenSpec.ofChange collectKeepsWrong)

/-- 'distafflaw16.CollectPlans': WHATEVER THE INPUT: true; the input reads as it did. -/
def collectPlansSpec : ChangeSpec := { name := "collectPlans", fn := fun _ => fun
  | [d1, d2, d3] => { results := [.lit (.bool true)], args := [d1, d2, d3] }
  | _ => none }
def collectPlansRow : OpenClaim := { program := "ytjgndfhfiekomaa", sum := "a702b8803247bdbda567259c3e593a60bb65656735f7276e501c65ebfba756b7", func := "distaff/distafflaw16.CollectPlans", spec := "collectPlans", unfollowed := true, recurses := true, apart := false }
def CollectPlansSaid : Prop := collectPlansRow.holds Try.pinned (OpenSpec.ofChange collectPlansSpec)

/-- ITS FALSE NEIGHBOUR: 'it returns false'. Refute it at one input. -/
def collectPlansWrong : ChangeSpec := { name := "collectPlans", fn := fun _ => fun
  | [d1, d2, d3] => { results := [.lit (.bool false)], args := [d1, d2, d3] }
  | _ => none }
def CollectPlansWrongFalsely : Prop := collectPlansRow.holds Try.pinned (OpenSpec.ofChange collectPlansWrong)

/-- 'distafflaw16.CollectFrees': WHATEVER THE INPUT: true; the input reads as it did. -/
def collectFreesSpec : ChangeSpec := { name := "collectFrees", fn := fun _ => fun
  | [d1, d2, d3] => { results := [.lit (.bool true)], args := [d1, d2, d3] }
  | _ => none }
def collectFreesRow : OpenClaim := { program := "ytjgndfhfiekomaa", sum := "a702b8803247bdbda567259c3e593a60bb65656735f7276e501c65ebfba756b7", func := "distaff/distafflaw16.CollectFrees", spec := "collectFrees", unfollowed := true, recurses := true, apart := false }
def CollectFreesSaid : Prop := collectFreesRow.holds Try.pinned (OpenSpec.ofChange collectFreesSpec)

/-- ITS FALSE NEIGHBOUR: 'it returns false'. Refute it at one input. -/
def collectFreesWrong : ChangeSpec := { name := "collectFrees", fn := fun _ => fun
  | [d1, d2, d3] => { results := [.lit (.bool false)], args := [d1, d2, d3] }
  | _ => none }
def CollectFreesWrongFalsely : Prop := collectFreesRow.holds Try.pinned (OpenSpec.ofChange collectFreesWrong)

/-- 'distafflaw20.FiberOnce': WHATEVER THE INPUT: true; the input reads as it did. -/
def fiberOnceSpec : ChangeSpec := { name := "fiberOnce", fn := fun _ => fun
  | [d1, d2, d3] => { results := [.lit (.bool true)], args := [d1, d2, d3] }
  | _ => none }
def fiberOnceRow : OpenClaim := { program := "ytjgndfhfiekomaa", sum := "a702b8803247bdbda567259c3e593a60bb65656735f7276e501c65ebfba756b7", func := "distaff/distafflaw20.FiberOnce", spec := "fiberOnce", unfollowed := true, recurses := true, apart := false }
def FiberOnceSaid : Prop := fiberOnceRow.holds Try.pinned (OpenSpec.ofChange fiberOnceSpec)

/-- ITS FALSE NEIGHBOUR: 'it returns false'. Refute it at one input. -/
def fiberOnceWrong : ChangeSpec := { name := "fiberOnce", fn := fun _ => fun
  | [d1, d2, d3] => { results := [.lit (.bool false)], args := [d1, d2, d3] }
  | _ => none }
def FiberOnceWrongFalsely : Prop := fiberOnceRow.holds Try.pinned (OpenSpec.ofChange fiberOnceWrong)

/-- 'distafflaw20.FiberNames': WHATEVER THE INPUT: true; the input reads as it did. -/
def fiberNamesSpec : ChangeSpec := { name := "fiberNames", fn := fun _ => fun
  | [] => { results := [.lit (.bool true)], args := [] }
  | _ => none }
def fiberNamesRow : OpenClaim := { program := "ytjgndfhfiekomaa", sum := "a702b8803247bdbda567259c3e593a60bb65656735f7276e501c65ebfba756b7", func := "distaff/distafflaw20.FiberNames", spec := "fiberNames", unfollowed := true, recurses := true, apart := false }
def FiberNamesSaid : Prop := fiberNamesRow.holds Try.pinned (OpenSpec.ofChange fiberNamesSpec)

/-- ITS FALSE NEIGHBOUR: 'it returns false'. Refute it at one input. -/
def fiberNamesWrong : ChangeSpec := { name := "fiberNames", fn := fun _ => fun
  | [] => { results := [.lit (.bool false)], args := [] }
  | _ => none }
def FiberNamesWrongFalsely : Prop := fiberNamesRow.holds Try.pinned (OpenSpec.ofChange fiberNamesWrong)

/- THE SECOND FORM. 'bulk': how many values and letters a reading holds, each counted each time it is reached (what is shared counts as often as it is met; a slice's spare places count too). A statement '..UptoSaid' is the law's where the arguments, and the package variables that the reading takes, are together of bulk at most 1048576: NARROWER than '..Said'. Prove '..Said' where nothing that the law and all that it calls make is longer than what came in: it says more and counts as full. Else prove '..UptoSaid'. A law counts once. -/
mutual
def uptoBulk {H : Type} : DataW H → Nat
  | .lit (.string bytes) => bytes.length + 1
  | .lit _ => 1
  | .nil => 1
  | .ptr d => uptoBulk d + 1
  | .slice elems spare => uptoBulkAll elems + uptoBulkAll spare + 1
  | .agg parts => uptoBulkAll parts + 1
  | .iface _ d => uptoBulk d + 1
  | .map entries => uptoBulkEntries entries + 1
  | .held _ => 1
def uptoBulkAll {H : Type} : List (DataW H) → Nat
  | [] => 0
  | d :: r => uptoBulk d + uptoBulkAll r
def uptoBulkEntries {H : Type} : List (Lit × DataW H) → Nat
  | [] => 0
  | x :: r => uptoBulkEntry x + uptoBulkEntries r
def uptoBulkEntry {H : Type} : Lit × DataW H → Nat
  | (.string bytes, d) => bytes.length + uptoBulk d + 1
  | (_, d) => uptoBulk d + 1
 end
def uptoSmall : (H : Type) → List (DataW H) → Bool := fun _ ds => decide (uptoBulkAll ds ≤ 1048576)
def OpenSpec.upto (s : _root_.Go.ChangeSpec) : _root_.Go.OpenSpec := { _root_.Go.OpenSpec.ofChange s with cond := some uptoSmall }

/-- 'distafflaw15.HeapRuns', WHERE WHAT IT READS IS OF BULK AT MOST 1048576: true; the input reads as it did. -/
def heapRunsUptoRow : OpenClaim := { program := "ytjgndfhfiekomaa", sum := "a702b8803247bdbda567259c3e593a60bb65656735f7276e501c65ebfba756b7", func := "distaff/distafflaw15.HeapRuns", spec := "heapRuns", unfollowed := true, recurses := true, apart := false, narrowed := true }
def HeapRunsUptoSaid : Prop := heapRunsUptoRow.holds Try.pinned (OpenSpec.upto heapRunsSpec)

/-- 'distafflaw16.CollectNames', WHERE WHAT IT READS IS OF BULK AT MOST 1048576: true; the input reads as it did. -/
def collectNamesUptoRow : OpenClaim := { program := "ytjgndfhfiekomaa", sum := "a702b8803247bdbda567259c3e593a60bb65656735f7276e501c65ebfba756b7", func := "distaff/distafflaw16.CollectNames", spec := "collectNames", unfollowed := true, recurses := true, apart := false, narrowed := true }
def CollectNamesUptoSaid : Prop := collectNamesUptoRow.holds Try.pinned (OpenSpec.upto collectNamesSpec)

/-- 'distafflaw16.CollectStacks', WHERE WHAT IT READS IS OF BULK AT MOST 1048576: true; the input reads as it did. -/
def collectStacksUptoRow : OpenClaim := { program := "ytjgndfhfiekomaa", sum := "a702b8803247bdbda567259c3e593a60bb65656735f7276e501c65ebfba756b7", func := "distaff/distafflaw16.CollectStacks", spec := "collectStacks", unfollowed := true, recurses := true, apart := false, narrowed := true }
def CollectStacksUptoSaid : Prop := collectStacksUptoRow.holds Try.pinned (OpenSpec.upto collectStacksSpec)

/-- 'distafflaw16.CollectKeeps', WHERE WHAT IT READS IS OF BULK AT MOST 1048576: true; the input reads as it did. -/
def collectKeepsUptoRow : OpenClaim := { program := "ytjgndfhfiekomaa", sum := "a702b8803247bdbda567259c3e593a60bb65656735f7276e501c65ebfba756b7", func := "distaff/distafflaw16.CollectKeeps", spec := "collectKeeps", unfollowed := true, recurses := true, apart := false, narrowed := true }
def CollectKeepsUptoSaid : Prop := collectKeepsUptoRow.holds Try.pinned (OpenSpec.upto collectKeepsSpec)

/-- 'distafflaw16.CollectPlans', WHERE WHAT IT READS IS OF BULK AT MOST 1048576: true; the input reads as it did. -/
def collectPlansUptoRow : OpenClaim := { program := "ytjgndfhfiekomaa", sum := "a702b8803247bdbda567259c3e593a60bb65656735f7276e501c65ebfba756b7", func := "distaff/distafflaw16.CollectPlans", spec := "collectPlans", unfollowed := true, recurses := true, apart := false, narrowed := true }
def CollectPlansUptoSaid : Prop := collectPlansUptoRow.holds Try.pinned (OpenSpec.upto collectPlansSpec)

/-- 'distafflaw16.CollectFrees', WHERE WHAT IT READS IS OF BULK AT MOST 1048576: true; the input reads as it did. -/
def collectFreesUptoRow : OpenClaim := { program := "ytjgndfhfiekomaa", sum := "a702b8803247bdbda567259c3e593a60bb65656735f7276e501c65ebfba756b7", func := "distaff/distafflaw16.CollectFrees", spec := "collectFrees", unfollowed := true, recurses := true, apart := false, narrowed := true }
def CollectFreesUptoSaid : Prop := collectFreesUptoRow.holds Try.pinned (OpenSpec.upto collectFreesSpec)

/-- 'distafflaw20.FiberOnce', WHERE WHAT IT READS IS OF BULK AT MOST 1048576: true; the input reads as it did. -/
def fiberOnceUptoRow : OpenClaim := { program := "ytjgndfhfiekomaa", sum := "a702b8803247bdbda567259c3e593a60bb65656735f7276e501c65ebfba756b7", func := "distaff/distafflaw20.FiberOnce", spec := "fiberOnce", unfollowed := true, recurses := true, apart := false, narrowed := true }
def FiberOnceUptoSaid : Prop := fiberOnceUptoRow.holds Try.pinned (OpenSpec.upto fiberOnceSpec)

/-- 'distafflaw20.FiberNames', WHERE WHAT IT READS IS OF BULK AT MOST 1048576: true; the input reads as it did. -/
def fiberNamesUptoRow : OpenClaim := { program := "ytjgndfhfiekomaa", sum := "a702b8803247bdbda567259c3e593a60bb65656735f7276e501c65ebfba756b7", func := "distaff/distafflaw20.FiberNames", spec := "fiberNames", unfollowed := true, recurses := true, apart := false, narrowed := true }
def FiberNamesUptoSaid : Prop := fiberNamesUptoRow.holds Try.pinned (OpenSpec.upto fiberNamesSpec)

end Rows
end Go.Proofs.Ytjgndfhfiekomaa
