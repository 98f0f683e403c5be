/-
  No cell of these rows narrows 'for every input' (looked for: loops, veiled, ifaces, maps, wideKeys, modest, calm, conditions, laid).
  DERIVED. THE GIVEN ROWS OF THIS SEAT. 5 by the template 'for every input the law returns true; each argument reads behind the call as it read before'; 0 by the template 'total and deterministic' (their statements: YtblejbgkcgajgaaTotals.lean).
  GIVEN WITH THE SEED: the statements are not yours to turn. If you find one false, say at which input.
  Laid BY PROGRAM, IN A SANDBOX (cutbox-rows.mjs): the forced cells as the released guide's own fill.sh prints them over the translation bb56e8179d3a9da5… (all of the seat's roots in one cut). By AI agents, Wed Nov 11 2026. No macro, syntax, notation, axiom, sorry.
-/
import Derived.Test.YtblejbgkcgajgaaChecked
import GoSem.Claim
import GoSem.ClaimJoined
import GoSem.ClaimMapViews
import Derived.JoinedTies
import Derived.KernelRfl
namespace Go.Proofs.Ytblejbgkcgajgaa
/- THE CELL 'sum', in the pinned program and in every row, IS THE sha256 OF THE DUMP (.gsa) THAT YtblejbgkcgajgaaProg.lean LOADS. Nothing in Lean hashes anything: it is a label: what it is worth is what the hold of that sum in a sandbox is worth. -/
noncomputable def Try.pinned : Pinned := { name := "ytblejbgkcgajgaa", sum := "bb56e8179d3a9da50b9d8cc6ff1a24065c3b2f98c0acb4ffdcf175540ce7ee67", checked := Try.checked }
namespace Rows
def none {H : Type} : Left H := { results := [], args := [] }

/-- 'laws.FnExactChanged': WHATEVER THE INPUT: true; the input reads as it did. -/
def fnExactChangedSpec : ChangeSpec := { name := "fnExactChanged", fn := fun _ => fun
  | [d1, d2] => { results := [.lit (.bool true)], args := [d1, d2] }
  | _ => none }
def fnExactChangedRow : OpenClaim := { program := "ytblejbgkcgajgaa", sum := "bb56e8179d3a9da50b9d8cc6ff1a24065c3b2f98c0acb4ffdcf175540ce7ee67", func := "loop.example/g00737/laws.FnExactChanged", spec := "fnExactChanged", inPlace := ["internal/bytealg.abigen_runtime_cmpstring"], unfollowed := true, recurses := true, apart := false }
def FnExactChangedSaid : Prop := fnExactChangedRow.holds Try.pinned (OpenSpec.ofChange fnExactChangedSpec)

/-- ITS FALSE NEIGHBOUR: 'it returns false'. Refute it at one input. -/
def fnExactChangedWrong : ChangeSpec := { name := "fnExactChanged", fn := fun _ => fun
  | [d1, d2] => { results := [.lit (.bool false)], args := [d1, d2] }
  | _ => none }
def FnExactChangedWrongFalsely : Prop := fnExactChangedRow.holds Try.pinned (OpenSpec.ofChange fnExactChangedWrong)

/-- 'laws.FnExactDiff': WHATEVER THE INPUT: true; the input reads as it did. -/
def fnExactDiffSpec : ChangeSpec := { name := "fnExactDiff", fn := fun _ => fun
  | [d1, d2] => { results := [.lit (.bool true)], args := [d1, d2] }
  | _ => none }
def fnExactDiffRow : OpenClaim := { program := "ytblejbgkcgajgaa", sum := "bb56e8179d3a9da50b9d8cc6ff1a24065c3b2f98c0acb4ffdcf175540ce7ee67", func := "loop.example/g00737/laws.FnExactDiff", spec := "fnExactDiff", inPlace := ["internal/bytealg.abigen_runtime_cmpstring"], unfollowed := true, recurses := true, apart := false }
def FnExactDiffSaid : Prop := fnExactDiffRow.holds Try.pinned (OpenSpec.ofChange fnExactDiffSpec)

/-- ITS FALSE NEIGHBOUR: 'it returns false'. Refute it at one input. -/
def fnExactDiffWrong : ChangeSpec := { name := "fnExactDiff", fn := fun _ => fun
  | [d1, d2] => { results := [.lit (.bool false)], args := [d1, d2] }
  | _ => none }
def FnExactDiffWrongFalsely : Prop := fnExactDiffRow.holds Try.pinned (OpenSpec.ofChange fnExactDiffWrong)

/-- 'laws.FnExactMerge3': WHATEVER THE INPUT: true; the input reads as it did. -/
def fnExactMerge3Spec : ChangeSpec := { name := "fnExactMerge3", fn := fun _ => fun
  | [d1, d2, d3] => { results := [.lit (.bool true)], args := [d1, d2, d3] }
  | _ => none }
def fnExactMerge3Row : OpenClaim := { program := "ytblejbgkcgajgaa", sum := "bb56e8179d3a9da50b9d8cc6ff1a24065c3b2f98c0acb4ffdcf175540ce7ee67", func := "loop.example/g00737/laws.FnExactMerge3", spec := "fnExactMerge3", inPlace := ["internal/bytealg.abigen_runtime_cmpstring", "slices.overlaps[loop.example/g00737/impl.Entry]"], unfollowed := true, recurses := true, apart := false }
def FnExactMerge3Said : Prop := fnExactMerge3Row.holds Try.pinned (OpenSpec.ofChange fnExactMerge3Spec)

/-- ITS FALSE NEIGHBOUR: 'it returns false'. Refute it at one input. -/
def fnExactMerge3Wrong : ChangeSpec := { name := "fnExactMerge3", fn := fun _ => fun
  | [d1, d2, d3] => { results := [.lit (.bool false)], args := [d1, d2, d3] }
  | _ => none }
def FnExactMerge3WrongFalsely : Prop := fnExactMerge3Row.holds Try.pinned (OpenSpec.ofChange fnExactMerge3Wrong)

/-- 'laws.FnExactRebase': WHATEVER THE INPUT: true; the input reads as it did. -/
def fnExactRebaseSpec : ChangeSpec := { name := "fnExactRebase", fn := fun _ => fun
  | [d1, d2, d3] => { results := [.lit (.bool true)], args := [d1, d2, d3] }
  | _ => none }
def fnExactRebaseRow : OpenClaim := { program := "ytblejbgkcgajgaa", sum := "bb56e8179d3a9da50b9d8cc6ff1a24065c3b2f98c0acb4ffdcf175540ce7ee67", func := "loop.example/g00737/laws.FnExactRebase", spec := "fnExactRebase", inPlace := ["internal/bytealg.abigen_runtime_cmpstring", "slices.overlaps[loop.example/g00737/impl.Entry]"], unfollowed := true, recurses := true, apart := false }
def FnExactRebaseSaid : Prop := fnExactRebaseRow.holds Try.pinned (OpenSpec.ofChange fnExactRebaseSpec)

/-- ITS FALSE NEIGHBOUR: 'it returns false'. Refute it at one input. -/
def fnExactRebaseWrong : ChangeSpec := { name := "fnExactRebase", fn := fun _ => fun
  | [d1, d2, d3] => { results := [.lit (.bool false)], args := [d1, d2, d3] }
  | _ => none }
def FnExactRebaseWrongFalsely : Prop := fnExactRebaseRow.holds Try.pinned (OpenSpec.ofChange fnExactRebaseWrong)

/-- 'laws.FnExactMergeEdits': WHATEVER THE INPUT: true; the input reads as it did. -/
def fnExactMergeEditsSpec : ChangeSpec := { name := "fnExactMergeEdits", fn := fun _ => fun
  | [d1, d2, d3] => { results := [.lit (.bool true)], args := [d1, d2, d3] }
  | _ => none }
def fnExactMergeEditsRow : OpenClaim := { program := "ytblejbgkcgajgaa", sum := "bb56e8179d3a9da50b9d8cc6ff1a24065c3b2f98c0acb4ffdcf175540ce7ee67", func := "loop.example/g00737/laws.FnExactMergeEdits", spec := "fnExactMergeEdits", inPlace := ["internal/bytealg.abigen_runtime_cmpstring", "slices.overlaps[loop.example/g00737/impl.Entry]"], unfollowed := true, recurses := true, apart := false }
def FnExactMergeEditsSaid : Prop := fnExactMergeEditsRow.holds Try.pinned (OpenSpec.ofChange fnExactMergeEditsSpec)

/-- ITS FALSE NEIGHBOUR: 'it returns false'. Refute it at one input. -/
def fnExactMergeEditsWrong : ChangeSpec := { name := "fnExactMergeEdits", fn := fun _ => fun
  | [d1, d2, d3] => { results := [.lit (.bool false)], args := [d1, d2, d3] }
  | _ => none }
def FnExactMergeEditsWrongFalsely : Prop := fnExactMergeEditsRow.holds Try.pinned (OpenSpec.ofChange fnExactMergeEditsWrong)

/- THE SECOND FORM. 'bulk': how many values and letters a reading holds, each counted each time it is reached (what is shared counts as often as it is met; a slice's spare places count too). A statement '..UptoSaid' is the law's where the arguments, and the package variables that the reading takes, are together of bulk at most 1048576: NARROWER than '..Said'. Prove '..Said' where nothing that the law and all that it calls make is longer than what came in: it says more and counts as full. Else prove '..UptoSaid'. A law counts once. -/
mutual
def uptoBulk {H : Type} : DataW H → Nat
  | .lit (.string bytes) => bytes.length + 1
  | .lit _ => 1
  | .nil => 1
  | .ptr d => uptoBulk d + 1
  | .slice elems spare => uptoBulkAll elems + uptoBulkAll spare + 1
  | .agg parts => uptoBulkAll parts + 1
  | .iface _ d => uptoBulk d + 1
  | .map entries => uptoBulkEntries entries + 1
  | .held _ => 1
def uptoBulkAll {H : Type} : List (DataW H) → Nat
  | [] => 0
  | d :: r => uptoBulk d + uptoBulkAll r
def uptoBulkEntries {H : Type} : List (Lit × DataW H) → Nat
  | [] => 0
  | x :: r => uptoBulkEntry x + uptoBulkEntries r
def uptoBulkEntry {H : Type} : Lit × DataW H → Nat
  | (.string bytes, d) => bytes.length + uptoBulk d + 1
  | (_, d) => uptoBulk d + 1
 end
def uptoSmall : (H : Type) → List (DataW H) → Bool := fun _ ds => decide (uptoBulkAll ds ≤ 1048576)
def OpenSpec.upto (s : _root_.Go.ChangeSpec) : _root_.Go.OpenSpec := { _root_.Go.OpenSpec.ofChange s with cond := some uptoSmall }

/-- 'laws.FnExactChanged', WHERE WHAT IT READS IS OF BULK AT MOST 1048576: true; the input reads as it did. -/
def fnExactChangedUptoRow : OpenClaim := { program := "ytblejbgkcgajgaa", sum := "bb56e8179d3a9da50b9d8cc6ff1a24065c3b2f98c0acb4ffdcf175540ce7ee67", func := "loop.example/g00737/laws.FnExactChanged", spec := "fnExactChanged", inPlace := ["internal/bytealg.abigen_runtime_cmpstring"], unfollowed := true, recurses := true, apart := false, narrowed := true }
def FnExactChangedUptoSaid : Prop := fnExactChangedUptoRow.holds Try.pinned (OpenSpec.upto fnExactChangedSpec)

/-- 'laws.FnExactDiff', WHERE WHAT IT READS IS OF BULK AT MOST 1048576: true; the input reads as it did. -/
def fnExactDiffUptoRow : OpenClaim := { program := "ytblejbgkcgajgaa", sum := "bb56e8179d3a9da50b9d8cc6ff1a24065c3b2f98c0acb4ffdcf175540ce7ee67", func := "loop.example/g00737/laws.FnExactDiff", spec := "fnExactDiff", inPlace := ["internal/bytealg.abigen_runtime_cmpstring"], unfollowed := true, recurses := true, apart := false, narrowed := true }
def FnExactDiffUptoSaid : Prop := fnExactDiffUptoRow.holds Try.pinned (OpenSpec.upto fnExactDiffSpec)

/-- 'laws.FnExactMerge3', WHERE WHAT IT READS IS OF BULK AT MOST 1048576: true; the input reads as it did. -/
def fnExactMerge3UptoRow : OpenClaim := { program := "ytblejbgkcgajgaa", sum := "bb56e8179d3a9da50b9d8cc6ff1a24065c3b2f98c0acb4ffdcf175540ce7ee67", func := "loop.example/g00737/laws.FnExactMerge3", spec := "fnExactMerge3", inPlace := ["internal/bytealg.abigen_runtime_cmpstring", "slices.overlaps[loop.example/g00737/impl.Entry]"], unfollowed := true, recurses := true, apart := false, narrowed := true }
def FnExactMerge3UptoSaid : Prop := fnExactMerge3UptoRow.holds Try.pinned (OpenSpec.upto fnExactMerge3Spec)

/-- 'laws.FnExactRebase', WHERE WHAT IT READS IS OF BULK AT MOST 1048576: true; the input reads as it did. -/
def fnExactRebaseUptoRow : OpenClaim := { program := "ytblejbgkcgajgaa", sum := "bb56e8179d3a9da50b9d8cc6ff1a24065c3b2f98c0acb4ffdcf175540ce7ee67", func := "loop.example/g00737/laws.FnExactRebase", spec := "fnExactRebase", inPlace := ["internal/bytealg.abigen_runtime_cmpstring", "slices.overlaps[loop.example/g00737/impl.Entry]"], unfollowed := true, recurses := true, apart := false, narrowed := true }
def FnExactRebaseUptoSaid : Prop := fnExactRebaseUptoRow.holds Try.pinned (OpenSpec.upto fnExactRebaseSpec)

/-- 'laws.FnExactMergeEdits', WHERE WHAT IT READS IS OF BULK AT MOST 1048576: true; the input reads as it did. -/
def fnExactMergeEditsUptoRow : OpenClaim := { program := "ytblejbgkcgajgaa", sum := "bb56e8179d3a9da50b9d8cc6ff1a24065c3b2f98c0acb4ffdcf175540ce7ee67", func := "loop.example/g00737/laws.FnExactMergeEdits", spec := "fnExactMergeEdits", inPlace := ["internal/bytealg.abigen_runtime_cmpstring", "slices.overlaps[loop.example/g00737/impl.Entry]"], unfollowed := true, recurses := true, apart := false, narrowed := true }
def FnExactMergeEditsUptoSaid : Prop := fnExactMergeEditsUptoRow.holds Try.pinned (OpenSpec.upto fnExactMergeEditsSpec)

end Rows
end Go.Proofs.Ytblejbgkcgajgaa
