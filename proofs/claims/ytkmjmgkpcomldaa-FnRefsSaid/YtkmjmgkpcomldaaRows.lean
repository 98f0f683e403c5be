/-
  No cell of these rows narrows 'for every input' (looked for: loops, veiled, ifaces, maps, wideKeys, modest, calm, conditions, laid).
  DERIVED. THE GIVEN ROWS OF THIS SEAT. 3 by the template 'for every input the law returns true; each argument reads behind the call as it read before'; 0 by the template 'total and deterministic' (their statements: YtkmjmgkpcomldaaTotals.lean).
  GIVEN WITH THE SEED: the statements are not yours to turn. If you find one false, say at which input.
  Laid BY PROGRAM, IN A SANDBOX (cutbox-rows.mjs): the forced cells as the released guide's own fill.sh prints them over the translation 35420e34c1f17857… (all of the seat's roots in one cut). By AI agents, Wed Nov 11 2026. No macro, syntax, notation, axiom, sorry.
-/
import Derived.Test.YtkmjmgkpcomldaaChecked
import GoSem.Claim
import GoSem.ClaimJoined
import GoSem.ClaimMapViews
import Derived.JoinedTies
import Derived.KernelRfl
namespace Go.Proofs.Ytkmjmgkpcomldaa
/- THE CELL 'sum', in the pinned program and in every row, IS THE sha256 OF THE DUMP (.gsa) THAT YtkmjmgkpcomldaaProg.lean LOADS. Nothing in Lean hashes anything: it is a label: what it is worth is what the hold of that sum in a sandbox is worth. -/
noncomputable def Try.pinned : Pinned := { name := "ytkmjmgkpcomldaa", sum := "35420e34c1f17857e3ee1d52fc328aa76eeed96f9abead4d61554b5b29234fea", checked := Try.checked }
namespace Rows
def none {H : Type} : Left H := { results := [], args := [] }

/-- 'laws.FnMaps': WHATEVER THE INPUT: true; the input reads as it did. -/
def fnMapsSpec : ChangeSpec := { name := "fnMaps", fn := fun _ => fun
  | [d1, d2] => { results := [.lit (.bool true)], args := [d1, d2] }
  | _ => none }
def fnMapsRow : OpenClaim := { program := "ytkmjmgkpcomldaa", sum := "35420e34c1f17857e3ee1d52fc328aa76eeed96f9abead4d61554b5b29234fea", func := "loop.example/g00737/laws.FnMaps", spec := "fnMaps", inPlace := ["internal/bytealg.abigen_runtime_cmpstring", "slices.overlaps[loop.example/g00737/impl.Entry]"], unfollowed := true, recurses := true, apart := false }
def FnMapsSaid : Prop := fnMapsRow.holds Try.pinned (OpenSpec.ofChange fnMapsSpec)

/-- ITS FALSE NEIGHBOUR: 'it returns false'. Refute it at one input. -/
def fnMapsWrong : ChangeSpec := { name := "fnMaps", fn := fun _ => fun
  | [d1, d2] => { results := [.lit (.bool false)], args := [d1, d2] }
  | _ => none }
def FnMapsWrongFalsely : Prop := fnMapsRow.holds Try.pinned (OpenSpec.ofChange fnMapsWrong)

/-- 'laws.FnRefs': WHATEVER THE INPUT: true; the input reads as it did. -/
def fnRefsSpec : ChangeSpec := { name := "fnRefs", fn := fun _ => fun
  | [d1, d2] => { results := [.lit (.bool true)], args := [d1, d2] }
  | _ => none }
def fnRefsRow : OpenClaim := { program := "ytkmjmgkpcomldaa", sum := "35420e34c1f17857e3ee1d52fc328aa76eeed96f9abead4d61554b5b29234fea", func := "loop.example/g00737/laws.FnRefs", spec := "fnRefs", unfollowed := true, recurses := true, apart := false }
def FnRefsSaid : Prop := fnRefsRow.holds Try.pinned (OpenSpec.ofChange fnRefsSpec)

/-- ITS FALSE NEIGHBOUR: 'it returns false'. Refute it at one input. -/
def fnRefsWrong : ChangeSpec := { name := "fnRefs", fn := fun _ => fun
  | [d1, d2] => { results := [.lit (.bool false)], args := [d1, d2] }
  | _ => none }
def FnRefsWrongFalsely : Prop := fnRefsRow.holds Try.pinned (OpenSpec.ofChange fnRefsWrong)

/-- 'laws.FnSelfMerge': WHATEVER THE INPUT: true; the input reads as it did. -/
def fnSelfMergeSpec : ChangeSpec := { name := "fnSelfMerge", fn := fun _ => fun
  | [d1, d2] => { results := [.lit (.bool true)], args := [d1, d2] }
  | _ => none }
def fnSelfMergeRow : OpenClaim := { program := "ytkmjmgkpcomldaa", sum := "35420e34c1f17857e3ee1d52fc328aa76eeed96f9abead4d61554b5b29234fea", func := "loop.example/g00737/laws.FnSelfMerge", spec := "fnSelfMerge", inPlace := ["internal/bytealg.abigen_runtime_cmpstring", "slices.overlaps[loop.example/g00737/impl.Entry]"], unfollowed := true, recurses := true, apart := false }
def FnSelfMergeSaid : Prop := fnSelfMergeRow.holds Try.pinned (OpenSpec.ofChange fnSelfMergeSpec)

/-- ITS FALSE NEIGHBOUR: 'it returns false'. Refute it at one input. -/
def fnSelfMergeWrong : ChangeSpec := { name := "fnSelfMerge", fn := fun _ => fun
  | [d1, d2] => { results := [.lit (.bool false)], args := [d1, d2] }
  | _ => none }
def FnSelfMergeWrongFalsely : Prop := fnSelfMergeRow.holds Try.pinned (OpenSpec.ofChange fnSelfMergeWrong)

/- THE SECOND FORM. 'bulk': how many values and letters a reading holds, each counted each time it is reached (what is shared counts as often as it is met; a slice's spare places count too). A statement '..UptoSaid' is the law's where the arguments, and the package variables that the reading takes, are together of bulk at most 1048576: NARROWER than '..Said'. Prove '..Said' where nothing that the law and all that it calls make is longer than what came in: it says more and counts as full. Else prove '..UptoSaid'. A law counts once. -/
mutual
def uptoBulk {H : Type} : DataW H → Nat
  | .lit (.string bytes) => bytes.length + 1
  | .lit _ => 1
  | .nil => 1
  | .ptr d => uptoBulk d + 1
  | .slice elems spare => uptoBulkAll elems + uptoBulkAll spare + 1
  | .agg parts => uptoBulkAll parts + 1
  | .iface _ d => uptoBulk d + 1
  | .map entries => uptoBulkEntries entries + 1
  | .held _ => 1
def uptoBulkAll {H : Type} : List (DataW H) → Nat
  | [] => 0
  | d :: r => uptoBulk d + uptoBulkAll r
def uptoBulkEntries {H : Type} : List (Lit × DataW H) → Nat
  | [] => 0
  | x :: r => uptoBulkEntry x + uptoBulkEntries r
def uptoBulkEntry {H : Type} : Lit × DataW H → Nat
  | (.string bytes, d) => bytes.length + uptoBulk d + 1
  | (_, d) => uptoBulk d + 1
 end
def uptoSmall : (H : Type) → List (DataW H) → Bool := fun _ ds => decide (uptoBulkAll ds ≤ 1048576)
def OpenSpec.upto (s : _root_.Go.ChangeSpec) : _root_.Go.OpenSpec := { _root_.Go.OpenSpec.ofChange s with cond := some uptoSmall }

/-- 'laws.FnMaps', WHERE WHAT IT READS IS OF BULK AT MOST 1048576: true; the input reads as it did. -/
def fnMapsUptoRow : OpenClaim := { program := "ytkmjmgkpcomldaa", sum := "35420e34c1f17857e3ee1d52fc328aa76eeed96f9abead4d61554b5b29234fea", func := "loop.example/g00737/laws.FnMaps", spec := "fnMaps", inPlace := ["internal/bytealg.abigen_runtime_cmpstring", "slices.overlaps[loop.example/g00737/impl.Entry]"], unfollowed := true, recurses := true, apart := false, narrowed := true }
def FnMapsUptoSaid : Prop := fnMapsUptoRow.holds Try.pinned (OpenSpec.upto fnMapsSpec)

/-- 'laws.FnRefs', WHERE WHAT IT READS IS OF BULK AT MOST 1048576: true; the input reads as it did. -/
def fnRefsUptoRow : OpenClaim := { program := "ytkmjmgkpcomldaa", sum := "35420e34c1f17857e3ee1d52fc328aa76eeed96f9abead4d61554b5b29234fea", func := "loop.example/g00737/laws.FnRefs", spec := "fnRefs", unfollowed := true, recurses := true, apart := false, narrowed := true }
def FnRefsUptoSaid : Prop := fnRefsUptoRow.holds Try.pinned (OpenSpec.upto fnRefsSpec)

/-- 'laws.FnSelfMerge', WHERE WHAT IT READS IS OF BULK AT MOST 1048576: true; the input reads as it did. -/
def fnSelfMergeUptoRow : OpenClaim := { program := "ytkmjmgkpcomldaa", sum := "35420e34c1f17857e3ee1d52fc328aa76eeed96f9abead4d61554b5b29234fea", func := "loop.example/g00737/laws.FnSelfMerge", spec := "fnSelfMerge", inPlace := ["internal/bytealg.abigen_runtime_cmpstring", "slices.overlaps[loop.example/g00737/impl.Entry]"], unfollowed := true, recurses := true, apart := false, narrowed := true }
def FnSelfMergeUptoSaid : Prop := fnSelfMergeUptoRow.holds Try.pinned (OpenSpec.upto fnSelfMergeSpec)

end Rows
end Go.Proofs.Ytkmjmgkpcomldaa
