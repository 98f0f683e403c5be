/-
  No cell of these rows narrows 'for every input' (looked for: loops, veiled, ifaces, maps, wideKeys, modest, calm, conditions, laid).
  DERIVED. THE GIVEN ROWS OF THIS SEAT. 12 by the template 'for every input the law returns true; each argument reads behind the call as it read before'; 0 by the template 'total and deterministic' (their statements: YtcpljigliklgcaaTotals.lean).
  GIVEN WITH THE SEED: the statements are not yours to turn. If you find one false, say at which input.
  Laid BY PROGRAM, IN A SANDBOX (cutbox-rows.mjs): the forced cells as the released guide's own fill.sh prints them over the translation 9b70bee8f8677aa5… (all of the seat's roots in one cut). By AI agents, Wed Nov 11 2026. No macro, syntax, notation, axiom, sorry.
-/
import Derived.Test.YtcpljigliklgcaaChecked
import GoSem.Claim
import GoSem.ClaimJoined
import GoSem.ClaimMapViews
import Derived.JoinedTies
import Derived.KernelRfl
namespace Go.Proofs.Ytcpljigliklgcaa
/- THE CELL 'sum', in the pinned program and in every row, IS THE sha256 OF THE DUMP (.gsa) THAT YtcpljigliklgcaaProg.lean LOADS. Nothing in Lean hashes anything: it is a label: what it is worth is what the hold of that sum in a sandbox is worth. -/
noncomputable def Try.pinned : Pinned := { name := "ytcpljigliklgcaa", sum := "9b70bee8f8677aa56fa819a79f6cad03b9f2bf1c460162e9ce0877e59cc278a6", checked := Try.checked }
namespace Rows
def none {H : Type} : Left H := { results := [], args := [] }

/-- 'laws.FnExactPut': WHATEVER THE INPUT: true; the input reads as it did. -/
def fnExactPutSpec : ChangeSpec := { name := "fnExactPut", fn := fun _ => fun
  | [d1, d2, d3] => { results := [.lit (.bool true)], args := [d1, d2, d3] }
  | _ => none }
def fnExactPutRow : OpenClaim := { program := "ytcpljigliklgcaa", sum := "9b70bee8f8677aa56fa819a79f6cad03b9f2bf1c460162e9ce0877e59cc278a6", func := "loop.example/g00737/laws.FnExactPut", spec := "fnExactPut", inPlace := ["internal/bytealg.abigen_runtime_cmpstring", "slices.overlaps[loop.example/g00737/impl.Entry]"], unfollowed := true, recurses := true, apart := false }
def FnExactPutSaid : Prop := fnExactPutRow.holds Try.pinned (OpenSpec.ofChange fnExactPutSpec)

/-- ITS FALSE NEIGHBOUR: 'it returns false'. Refute it at one input. -/
def fnExactPutWrong : ChangeSpec := { name := "fnExactPut", fn := fun _ => fun
  | [d1, d2, d3] => { results := [.lit (.bool false)], args := [d1, d2, d3] }
  | _ => none }
def FnExactPutWrongFalsely : Prop := fnExactPutRow.holds Try.pinned (OpenSpec.ofChange fnExactPutWrong)

/-- 'laws.FnExactRemove': WHATEVER THE INPUT: true; the input reads as it did. -/
def fnExactRemoveSpec : ChangeSpec := { name := "fnExactRemove", fn := fun _ => fun
  | [d1, d2] => { results := [.lit (.bool true)], args := [d1, d2] }
  | _ => none }
def fnExactRemoveRow : OpenClaim := { program := "ytcpljigliklgcaa", sum := "9b70bee8f8677aa56fa819a79f6cad03b9f2bf1c460162e9ce0877e59cc278a6", func := "loop.example/g00737/laws.FnExactRemove", spec := "fnExactRemove", inPlace := ["internal/bytealg.abigen_runtime_cmpstring", "slices.overlaps[loop.example/g00737/impl.Entry]"], unfollowed := true, recurses := true, apart := false }
def FnExactRemoveSaid : Prop := fnExactRemoveRow.holds Try.pinned (OpenSpec.ofChange fnExactRemoveSpec)

/-- ITS FALSE NEIGHBOUR: 'it returns false'. Refute it at one input. -/
def fnExactRemoveWrong : ChangeSpec := { name := "fnExactRemove", fn := fun _ => fun
  | [d1, d2] => { results := [.lit (.bool false)], args := [d1, d2] }
  | _ => none }
def FnExactRemoveWrongFalsely : Prop := fnExactRemoveRow.holds Try.pinned (OpenSpec.ofChange fnExactRemoveWrong)

/-- 'laws.FnExactApplyEdits': WHATEVER THE INPUT: true; the input reads as it did. -/
def fnExactApplyEditsSpec : ChangeSpec := { name := "fnExactApplyEdits", fn := fun _ => fun
  | [d1, d2] => { results := [.lit (.bool true)], args := [d1, d2] }
  | _ => none }
def fnExactApplyEditsRow : OpenClaim := { program := "ytcpljigliklgcaa", sum := "9b70bee8f8677aa56fa819a79f6cad03b9f2bf1c460162e9ce0877e59cc278a6", func := "loop.example/g00737/laws.FnExactApplyEdits", spec := "fnExactApplyEdits", inPlace := ["internal/bytealg.abigen_runtime_cmpstring", "slices.overlaps[loop.example/g00737/impl.Entry]"], unfollowed := true, recurses := true, apart := false }
def FnExactApplyEditsSaid : Prop := fnExactApplyEditsRow.holds Try.pinned (OpenSpec.ofChange fnExactApplyEditsSpec)

/-- ITS FALSE NEIGHBOUR: 'it returns false'. Refute it at one input. -/
def fnExactApplyEditsWrong : ChangeSpec := { name := "fnExactApplyEdits", fn := fun _ => fun
  | [d1, d2] => { results := [.lit (.bool false)], args := [d1, d2] }
  | _ => none }
def FnExactApplyEditsWrongFalsely : Prop := fnExactApplyEditsRow.holds Try.pinned (OpenSpec.ofChange fnExactApplyEditsWrong)

/-- 'laws.FnExactScan': WHATEVER THE INPUT: true; the input reads as it did. -/
def fnExactScanSpec : ChangeSpec := { name := "fnExactScan", fn := fun _ => fun
  | [d1, d2, d3] => { results := [.lit (.bool true)], args := [d1, d2, d3] }
  | _ => none }
def fnExactScanRow : OpenClaim := { program := "ytcpljigliklgcaa", sum := "9b70bee8f8677aa56fa819a79f6cad03b9f2bf1c460162e9ce0877e59cc278a6", func := "loop.example/g00737/laws.FnExactScan", spec := "fnExactScan", unfollowed := true, recurses := true, apart := false }
def FnExactScanSaid : Prop := fnExactScanRow.holds Try.pinned (OpenSpec.ofChange fnExactScanSpec)

/-- ITS FALSE NEIGHBOUR: 'it returns false'. Refute it at one input. -/
def fnExactScanWrong : ChangeSpec := { name := "fnExactScan", fn := fun _ => fun
  | [d1, d2, d3] => { results := [.lit (.bool false)], args := [d1, d2, d3] }
  | _ => none }
def FnExactScanWrongFalsely : Prop := fnExactScanRow.holds Try.pinned (OpenSpec.ofChange fnExactScanWrong)

/-- 'laws.FnMaps': WHATEVER THE INPUT: true; the input reads as it did. -/
def fnMapsSpec : ChangeSpec := { name := "fnMaps", fn := fun _ => fun
  | [d1, d2] => { results := [.lit (.bool true)], args := [d1, d2] }
  | _ => none }
def fnMapsRow : OpenClaim := { program := "ytcpljigliklgcaa", sum := "9b70bee8f8677aa56fa819a79f6cad03b9f2bf1c460162e9ce0877e59cc278a6", func := "loop.example/g00737/laws.FnMaps", spec := "fnMaps", inPlace := ["internal/bytealg.abigen_runtime_cmpstring", "slices.overlaps[loop.example/g00737/impl.Entry]"], unfollowed := true, recurses := true, apart := false }
def FnMapsSaid : Prop := fnMapsRow.holds Try.pinned (OpenSpec.ofChange fnMapsSpec)

/-- ITS FALSE NEIGHBOUR: 'it returns false'. Refute it at one input. -/
def fnMapsWrong : ChangeSpec := { name := "fnMaps", fn := fun _ => fun
  | [d1, d2] => { results := [.lit (.bool false)], args := [d1, d2] }
  | _ => none }
def FnMapsWrongFalsely : Prop := fnMapsRow.holds Try.pinned (OpenSpec.ofChange fnMapsWrong)

/-- 'laws.FnExactReadSnap': WHATEVER THE INPUT: true; the input reads as it did. -/
def fnExactReadSnapSpec : ChangeSpec := { name := "fnExactReadSnap", fn := fun _ => fun
  | [d1, d2, d3] => { results := [.lit (.bool true)], args := [d1, d2, d3] }
  | _ => none }
def fnExactReadSnapRow : OpenClaim := { program := "ytcpljigliklgcaa", sum := "9b70bee8f8677aa56fa819a79f6cad03b9f2bf1c460162e9ce0877e59cc278a6", func := "loop.example/g00737/laws.FnExactReadSnap", spec := "fnExactReadSnap", inPlace := ["internal/bytealg.abigen_runtime_cmpstring"], unfollowed := true, recurses := true, apart := false }
def FnExactReadSnapSaid : Prop := fnExactReadSnapRow.holds Try.pinned (OpenSpec.ofChange fnExactReadSnapSpec)

/-- ITS FALSE NEIGHBOUR: 'it returns false'. Refute it at one input. -/
def fnExactReadSnapWrong : ChangeSpec := { name := "fnExactReadSnap", fn := fun _ => fun
  | [d1, d2, d3] => { results := [.lit (.bool false)], args := [d1, d2, d3] }
  | _ => none }
def FnExactReadSnapWrongFalsely : Prop := fnExactReadSnapRow.holds Try.pinned (OpenSpec.ofChange fnExactReadSnapWrong)

/-- 'laws.FnExactScanSnap': WHATEVER THE INPUT: true; the input reads as it did. -/
def fnExactScanSnapSpec : ChangeSpec := { name := "fnExactScanSnap", fn := fun _ => fun
  | [d1, d2, d3, d4] => { results := [.lit (.bool true)], args := [d1, d2, d3, d4] }
  | _ => none }
def fnExactScanSnapRow : OpenClaim := { program := "ytcpljigliklgcaa", sum := "9b70bee8f8677aa56fa819a79f6cad03b9f2bf1c460162e9ce0877e59cc278a6", func := "loop.example/g00737/laws.FnExactScanSnap", spec := "fnExactScanSnap", unfollowed := true, recurses := true, apart := false }
def FnExactScanSnapSaid : Prop := fnExactScanSnapRow.holds Try.pinned (OpenSpec.ofChange fnExactScanSnapSpec)

/-- ITS FALSE NEIGHBOUR: 'it returns false'. Refute it at one input. -/
def fnExactScanSnapWrong : ChangeSpec := { name := "fnExactScanSnap", fn := fun _ => fun
  | [d1, d2, d3, d4] => { results := [.lit (.bool false)], args := [d1, d2, d3, d4] }
  | _ => none }
def FnExactScanSnapWrongFalsely : Prop := fnExactScanSnapRow.holds Try.pinned (OpenSpec.ofChange fnExactScanSnapWrong)

/-- 'laws.FnExactGrowsFrom': WHATEVER THE INPUT: true; the input reads as it did. -/
def fnExactGrowsFromSpec : ChangeSpec := { name := "fnExactGrowsFrom", fn := fun _ => fun
  | [d1, d2] => { results := [.lit (.bool true)], args := [d1, d2] }
  | _ => none }
def fnExactGrowsFromRow : OpenClaim := { program := "ytcpljigliklgcaa", sum := "9b70bee8f8677aa56fa819a79f6cad03b9f2bf1c460162e9ce0877e59cc278a6", func := "loop.example/g00737/laws.FnExactGrowsFrom", spec := "fnExactGrowsFrom", unfollowed := true, recurses := true, apart := false }
def FnExactGrowsFromSaid : Prop := fnExactGrowsFromRow.holds Try.pinned (OpenSpec.ofChange fnExactGrowsFromSpec)

/-- ITS FALSE NEIGHBOUR: 'it returns false'. Refute it at one input. -/
def fnExactGrowsFromWrong : ChangeSpec := { name := "fnExactGrowsFrom", fn := fun _ => fun
  | [d1, d2] => { results := [.lit (.bool false)], args := [d1, d2] }
  | _ => none }
def FnExactGrowsFromWrongFalsely : Prop := fnExactGrowsFromRow.holds Try.pinned (OpenSpec.ofChange fnExactGrowsFromWrong)

/-- 'laws.FnExactSameMoment': WHATEVER THE INPUT: true; the input reads as it did. -/
def fnExactSameMomentSpec : ChangeSpec := { name := "fnExactSameMoment", fn := fun _ => fun
  | [d1, d2] => { results := [.lit (.bool true)], args := [d1, d2] }
  | _ => none }
def fnExactSameMomentRow : OpenClaim := { program := "ytcpljigliklgcaa", sum := "9b70bee8f8677aa56fa819a79f6cad03b9f2bf1c460162e9ce0877e59cc278a6", func := "loop.example/g00737/laws.FnExactSameMoment", spec := "fnExactSameMoment", unfollowed := true, recurses := true, apart := false }
def FnExactSameMomentSaid : Prop := fnExactSameMomentRow.holds Try.pinned (OpenSpec.ofChange fnExactSameMomentSpec)

/-- ITS FALSE NEIGHBOUR: 'it returns false'. Refute it at one input. -/
def fnExactSameMomentWrong : ChangeSpec := { name := "fnExactSameMoment", fn := fun _ => fun
  | [d1, d2] => { results := [.lit (.bool false)], args := [d1, d2] }
  | _ => none }
def FnExactSameMomentWrongFalsely : Prop := fnExactSameMomentRow.holds Try.pinned (OpenSpec.ofChange fnExactSameMomentWrong)

/-- 'laws.FnExactSameClient': WHATEVER THE INPUT: true; the input reads as it did. -/
def fnExactSameClientSpec : ChangeSpec := { name := "fnExactSameClient", fn := fun _ => fun
  | [d1, d2] => { results := [.lit (.bool true)], args := [d1, d2] }
  | _ => none }
def fnExactSameClientRow : OpenClaim := { program := "ytcpljigliklgcaa", sum := "9b70bee8f8677aa56fa819a79f6cad03b9f2bf1c460162e9ce0877e59cc278a6", func := "loop.example/g00737/laws.FnExactSameClient", spec := "fnExactSameClient", unfollowed := true, recurses := true, apart := false }
def FnExactSameClientSaid : Prop := fnExactSameClientRow.holds Try.pinned (OpenSpec.ofChange fnExactSameClientSpec)

/-- ITS FALSE NEIGHBOUR: 'it returns false'. Refute it at one input. -/
def fnExactSameClientWrong : ChangeSpec := { name := "fnExactSameClient", fn := fun _ => fun
  | [d1, d2] => { results := [.lit (.bool false)], args := [d1, d2] }
  | _ => none }
def FnExactSameClientWrongFalsely : Prop := fnExactSameClientRow.holds Try.pinned (OpenSpec.ofChange fnExactSameClientWrong)

/-- 'laws.FnRefs': WHATEVER THE INPUT: true; the input reads as it did. -/
def fnRefsSpec : ChangeSpec := { name := "fnRefs", fn := fun _ => fun
  | [d1, d2] => { results := [.lit (.bool true)], args := [d1, d2] }
  | _ => none }
def fnRefsRow : OpenClaim := { program := "ytcpljigliklgcaa", sum := "9b70bee8f8677aa56fa819a79f6cad03b9f2bf1c460162e9ce0877e59cc278a6", func := "loop.example/g00737/laws.FnRefs", spec := "fnRefs", unfollowed := true, recurses := true, apart := false }
def FnRefsSaid : Prop := fnRefsRow.holds Try.pinned (OpenSpec.ofChange fnRefsSpec)

/-- ITS FALSE NEIGHBOUR: 'it returns false'. Refute it at one input. -/
def fnRefsWrong : ChangeSpec := { name := "fnRefs", fn := fun _ => fun
  | [d1, d2] => { results := [.lit (.bool false)], args := [d1, d2] }
  | _ => none }
def FnRefsWrongFalsely : Prop := fnRefsRow.holds Try.pinned (OpenSpec.ofChange fnRefsWrong)

/-- 'laws.FnExactDecodeCommit': WHATEVER THE INPUT: true; the input reads as it did. -/
def fnExactDecodeCommitSpec : ChangeSpec := { name := "fnExactDecodeCommit", fn := fun _ => fun
  | [d] => { results := [.lit (.bool true)], args := [d] }
  | _ => none }
def fnExactDecodeCommitRow : OpenClaim := { program := "ytcpljigliklgcaa", sum := "9b70bee8f8677aa56fa819a79f6cad03b9f2bf1c460162e9ce0877e59cc278a6", func := "loop.example/g00737/laws.FnExactDecodeCommit", spec := "fnExactDecodeCommit", unfollowed := true, recurses := true, apart := false }
def FnExactDecodeCommitSaid : Prop := fnExactDecodeCommitRow.holds Try.pinned (OpenSpec.ofChange fnExactDecodeCommitSpec)

/-- ITS FALSE NEIGHBOUR: 'it returns false'. Refute it at one input. -/
def fnExactDecodeCommitWrong : ChangeSpec := { name := "fnExactDecodeCommit", fn := fun _ => fun
  | [d] => { results := [.lit (.bool false)], args := [d] }
  | _ => none }
def FnExactDecodeCommitWrongFalsely : Prop := fnExactDecodeCommitRow.holds Try.pinned (OpenSpec.ofChange fnExactDecodeCommitWrong)

/- THE SECOND FORM. 'bulk': how many values and letters a reading holds, each counted each time it is reached (what is shared counts as often as it is met; a slice's spare places count too). A statement '..UptoSaid' is the law's where the arguments, and the package variables that the reading takes, are together of bulk at most 1048576: NARROWER than '..Said'. Prove '..Said' where nothing that the law and all that it calls make is longer than what came in: it says more and counts as full. Else prove '..UptoSaid'. A law counts once. -/
mutual
def uptoBulk {H : Type} : DataW H → Nat
  | .lit (.string bytes) => bytes.length + 1
  | .lit _ => 1
  | .nil => 1
  | .ptr d => uptoBulk d + 1
  | .slice elems spare => uptoBulkAll elems + uptoBulkAll spare + 1
  | .agg parts => uptoBulkAll parts + 1
  | .iface _ d => uptoBulk d + 1
  | .map entries => uptoBulkEntries entries + 1
  | .held _ => 1
def uptoBulkAll {H : Type} : List (DataW H) → Nat
  | [] => 0
  | d :: r => uptoBulk d + uptoBulkAll r
def uptoBulkEntries {H : Type} : List (Lit × DataW H) → Nat
  | [] => 0
  | x :: r => uptoBulkEntry x + uptoBulkEntries r
def uptoBulkEntry {H : Type} : Lit × DataW H → Nat
  | (.string bytes, d) => bytes.length + uptoBulk d + 1
  | (_, d) => uptoBulk d + 1
 end
def uptoSmall : (H : Type) → List (DataW H) → Bool := fun _ ds => decide (uptoBulkAll ds ≤ 1048576)
def OpenSpec.upto (s : _root_.Go.ChangeSpec) : _root_.Go.OpenSpec := { _root_.Go.OpenSpec.ofChange s with cond := some uptoSmall }

/-- 'laws.FnExactPut', WHERE WHAT IT READS IS OF BULK AT MOST 1048576: true; the input reads as it did. -/
def fnExactPutUptoRow : OpenClaim := { program := "ytcpljigliklgcaa", sum := "9b70bee8f8677aa56fa819a79f6cad03b9f2bf1c460162e9ce0877e59cc278a6", func := "loop.example/g00737/laws.FnExactPut", spec := "fnExactPut", inPlace := ["internal/bytealg.abigen_runtime_cmpstring", "slices.overlaps[loop.example/g00737/impl.Entry]"], unfollowed := true, recurses := true, apart := false, narrowed := true }
def FnExactPutUptoSaid : Prop := fnExactPutUptoRow.holds Try.pinned (OpenSpec.upto fnExactPutSpec)

/-- 'laws.FnExactRemove', WHERE WHAT IT READS IS OF BULK AT MOST 1048576: true; the input reads as it did. -/
def fnExactRemoveUptoRow : OpenClaim := { program := "ytcpljigliklgcaa", sum := "9b70bee8f8677aa56fa819a79f6cad03b9f2bf1c460162e9ce0877e59cc278a6", func := "loop.example/g00737/laws.FnExactRemove", spec := "fnExactRemove", inPlace := ["internal/bytealg.abigen_runtime_cmpstring", "slices.overlaps[loop.example/g00737/impl.Entry]"], unfollowed := true, recurses := true, apart := false, narrowed := true }
def FnExactRemoveUptoSaid : Prop := fnExactRemoveUptoRow.holds Try.pinned (OpenSpec.upto fnExactRemoveSpec)

/-- 'laws.FnExactApplyEdits', WHERE WHAT IT READS IS OF BULK AT MOST 1048576: true; the input reads as it did. -/
def fnExactApplyEditsUptoRow : OpenClaim := { program := "ytcpljigliklgcaa", sum := "9b70bee8f8677aa56fa819a79f6cad03b9f2bf1c460162e9ce0877e59cc278a6", func := "loop.example/g00737/laws.FnExactApplyEdits", spec := "fnExactApplyEdits", inPlace := ["internal/bytealg.abigen_runtime_cmpstring", "slices.overlaps[loop.example/g00737/impl.Entry]"], unfollowed := true, recurses := true, apart := false, narrowed := true }
def FnExactApplyEditsUptoSaid : Prop := fnExactApplyEditsUptoRow.holds Try.pinned (OpenSpec.upto fnExactApplyEditsSpec)

/-- 'laws.FnExactScan', WHERE WHAT IT READS IS OF BULK AT MOST 1048576: true; the input reads as it did. -/
def fnExactScanUptoRow : OpenClaim := { program := "ytcpljigliklgcaa", sum := "9b70bee8f8677aa56fa819a79f6cad03b9f2bf1c460162e9ce0877e59cc278a6", func := "loop.example/g00737/laws.FnExactScan", spec := "fnExactScan", unfollowed := true, recurses := true, apart := false, narrowed := true }
def FnExactScanUptoSaid : Prop := fnExactScanUptoRow.holds Try.pinned (OpenSpec.upto fnExactScanSpec)

/-- 'laws.FnMaps', WHERE WHAT IT READS IS OF BULK AT MOST 1048576: true; the input reads as it did. -/
def fnMapsUptoRow : OpenClaim := { program := "ytcpljigliklgcaa", sum := "9b70bee8f8677aa56fa819a79f6cad03b9f2bf1c460162e9ce0877e59cc278a6", func := "loop.example/g00737/laws.FnMaps", spec := "fnMaps", inPlace := ["internal/bytealg.abigen_runtime_cmpstring", "slices.overlaps[loop.example/g00737/impl.Entry]"], unfollowed := true, recurses := true, apart := false, narrowed := true }
def FnMapsUptoSaid : Prop := fnMapsUptoRow.holds Try.pinned (OpenSpec.upto fnMapsSpec)

/-- 'laws.FnExactReadSnap', WHERE WHAT IT READS IS OF BULK AT MOST 1048576: true; the input reads as it did. -/
def fnExactReadSnapUptoRow : OpenClaim := { program := "ytcpljigliklgcaa", sum := "9b70bee8f8677aa56fa819a79f6cad03b9f2bf1c460162e9ce0877e59cc278a6", func := "loop.example/g00737/laws.FnExactReadSnap", spec := "fnExactReadSnap", inPlace := ["internal/bytealg.abigen_runtime_cmpstring"], unfollowed := true, recurses := true, apart := false, narrowed := true }
def FnExactReadSnapUptoSaid : Prop := fnExactReadSnapUptoRow.holds Try.pinned (OpenSpec.upto fnExactReadSnapSpec)

/-- 'laws.FnExactScanSnap', WHERE WHAT IT READS IS OF BULK AT MOST 1048576: true; the input reads as it did. -/
def fnExactScanSnapUptoRow : OpenClaim := { program := "ytcpljigliklgcaa", sum := "9b70bee8f8677aa56fa819a79f6cad03b9f2bf1c460162e9ce0877e59cc278a6", func := "loop.example/g00737/laws.FnExactScanSnap", spec := "fnExactScanSnap", unfollowed := true, recurses := true, apart := false, narrowed := true }
def FnExactScanSnapUptoSaid : Prop := fnExactScanSnapUptoRow.holds Try.pinned (OpenSpec.upto fnExactScanSnapSpec)

/-- 'laws.FnExactGrowsFrom', WHERE WHAT IT READS IS OF BULK AT MOST 1048576: true; the input reads as it did. -/
def fnExactGrowsFromUptoRow : OpenClaim := { program := "ytcpljigliklgcaa", sum := "9b70bee8f8677aa56fa819a79f6cad03b9f2bf1c460162e9ce0877e59cc278a6", func := "loop.example/g00737/laws.FnExactGrowsFrom", spec := "fnExactGrowsFrom", unfollowed := true, recurses := true, apart := false, narrowed := true }
def FnExactGrowsFromUptoSaid : Prop := fnExactGrowsFromUptoRow.holds Try.pinned (OpenSpec.upto fnExactGrowsFromSpec)

/-- 'laws.FnExactSameMoment', WHERE WHAT IT READS IS OF BULK AT MOST 1048576: true; the input reads as it did. -/
def fnExactSameMomentUptoRow : OpenClaim := { program := "ytcpljigliklgcaa", sum := "9b70bee8f8677aa56fa819a79f6cad03b9f2bf1c460162e9ce0877e59cc278a6", func := "loop.example/g00737/laws.FnExactSameMoment", spec := "fnExactSameMoment", unfollowed := true, recurses := true, apart := false, narrowed := true }
def FnExactSameMomentUptoSaid : Prop := fnExactSameMomentUptoRow.holds Try.pinned (OpenSpec.upto fnExactSameMomentSpec)

/-- 'laws.FnExactSameClient', WHERE WHAT IT READS IS OF BULK AT MOST 1048576: true; the input reads as it did. -/
def fnExactSameClientUptoRow : OpenClaim := { program := "ytcpljigliklgcaa", sum := "9b70bee8f8677aa56fa819a79f6cad03b9f2bf1c460162e9ce0877e59cc278a6", func := "loop.example/g00737/laws.FnExactSameClient", spec := "fnExactSameClient", unfollowed := true, recurses := true, apart := false, narrowed := true }
def FnExactSameClientUptoSaid : Prop := fnExactSameClientUptoRow.holds Try.pinned (OpenSpec.upto fnExactSameClientSpec)

/-- 'laws.FnRefs', WHERE WHAT IT READS IS OF BULK AT MOST 1048576: true; the input reads as it did. -/
def fnRefsUptoRow : OpenClaim := { program := "ytcpljigliklgcaa", sum := "9b70bee8f8677aa56fa819a79f6cad03b9f2bf1c460162e9ce0877e59cc278a6", func := "loop.example/g00737/laws.FnRefs", spec := "fnRefs", unfollowed := true, recurses := true, apart := false, narrowed := true }
def FnRefsUptoSaid : Prop := fnRefsUptoRow.holds Try.pinned (OpenSpec.upto fnRefsSpec)

/-- 'laws.FnExactDecodeCommit', WHERE WHAT IT READS IS OF BULK AT MOST 1048576: true; the input reads as it did. -/
def fnExactDecodeCommitUptoRow : OpenClaim := { program := "ytcpljigliklgcaa", sum := "9b70bee8f8677aa56fa819a79f6cad03b9f2bf1c460162e9ce0877e59cc278a6", func := "loop.example/g00737/laws.FnExactDecodeCommit", spec := "fnExactDecodeCommit", unfollowed := true, recurses := true, apart := false, narrowed := true }
def FnExactDecodeCommitUptoSaid : Prop := fnExactDecodeCommitUptoRow.holds Try.pinned (OpenSpec.upto fnExactDecodeCommitSpec)

end Rows
end Go.Proofs.Ytcpljigliklgcaa
