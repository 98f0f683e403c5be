/-
  No cell of these rows narrows 'for every input' (looked for: loops, veiled, ifaces, maps, wideKeys, modest, calm, conditions, laid).
  DERIVED. THE GIVEN ROWS OF THIS SEAT. 10 by the template 'for every input the law returns true; each argument reads behind the call as it read before'; 0 by the template 'total and deterministic' (their statements: YtekoaaiemmblgaaTotals.lean).
  GIVEN WITH THE SEED: the statements are not yours to turn. If you find one false, say at which input.
  Laid BY PROGRAM, IN A SANDBOX (cutbox-rows.mjs): the forced cells as the released guide's own fill.sh prints them over the translation 8337de49c1303a77… (all of the seat's roots in one cut). By AI agents, Wed Nov 11 2026. No macro, syntax, notation, axiom, sorry.
-/
import Derived.Test.YtekoaaiemmblgaaChecked
import GoSem.Claim
import GoSem.ClaimJoined
import GoSem.ClaimMapViews
import Derived.JoinedTies
import Derived.KernelRfl
namespace Go.Proofs.Ytekoaaiemmblgaa
/- THE CELL 'sum', in the pinned program and in every row, IS THE sha256 OF THE DUMP (.gsa) THAT YtekoaaiemmblgaaProg.lean LOADS. Nothing in Lean hashes anything: it is a label: what it is worth is what the hold of that sum in a sandbox is worth. -/
noncomputable def Try.pinned : Pinned := { name := "ytekoaaiemmblgaa", sum := "8337de49c1303a77e9e7d1cd968a17e63c9a46c9f1414c5f797bd460fd2f8b0b", checked := Try.checked }
namespace Rows
def none {H : Type} : Left H := { results := [], args := [] }

/-- 'laws.FnExactSameStore': WHATEVER THE INPUT: true; the input reads as it did. -/
def fnExactSameStoreSpec : ChangeSpec := { name := "fnExactSameStore", fn := fun _ => fun
  | [d1, d2] => { results := [.lit (.bool true)], args := [d1, d2] }
  | _ => none }
def fnExactSameStoreRow : OpenClaim := { program := "ytekoaaiemmblgaa", sum := "8337de49c1303a77e9e7d1cd968a17e63c9a46c9f1414c5f797bd460fd2f8b0b", func := "loop.example/g00737/laws.FnExactSameStore", spec := "fnExactSameStore", unfollowed := true, recurses := true, apart := false }
def FnExactSameStoreSaid : Prop := fnExactSameStoreRow.holds Try.pinned (OpenSpec.ofChange fnExactSameStoreSpec)

/-- ITS FALSE NEIGHBOUR: 'it returns false'. Refute it at one input. -/
def fnExactSameStoreWrong : ChangeSpec := { name := "fnExactSameStore", fn := fun _ => fun
  | [d1, d2] => { results := [.lit (.bool false)], args := [d1, d2] }
  | _ => none }
def FnExactSameStoreWrongFalsely : Prop := fnExactSameStoreRow.holds Try.pinned (OpenSpec.ofChange fnExactSameStoreWrong)

/-- 'laws.FnExactNewBase': WHATEVER THE INPUT: true; the input reads as it did. -/
def fnExactNewBaseSpec : ChangeSpec := { name := "fnExactNewBase", fn := fun _ => fun
  | [d] => { results := [.lit (.bool true)], args := [d] }
  | _ => none }
def fnExactNewBaseRow : OpenClaim := { program := "ytekoaaiemmblgaa", sum := "8337de49c1303a77e9e7d1cd968a17e63c9a46c9f1414c5f797bd460fd2f8b0b", func := "loop.example/g00737/laws.FnExactNewBase", spec := "fnExactNewBase", unfollowed := true, recurses := true, apart := false }
def FnExactNewBaseSaid : Prop := fnExactNewBaseRow.holds Try.pinned (OpenSpec.ofChange fnExactNewBaseSpec)

/-- ITS FALSE NEIGHBOUR: 'it returns false'. Refute it at one input. -/
def fnExactNewBaseWrong : ChangeSpec := { name := "fnExactNewBase", fn := fun _ => fun
  | [d] => { results := [.lit (.bool false)], args := [d] }
  | _ => none }
def FnExactNewBaseWrongFalsely : Prop := fnExactNewBaseRow.holds Try.pinned (OpenSpec.ofChange fnExactNewBaseWrong)

/-- 'laws.FnExactBaseOK': WHATEVER THE INPUT: true; the input reads as it did. -/
def fnExactBaseOKSpec : ChangeSpec := { name := "fnExactBaseOK", fn := fun _ => fun
  | [d] => { results := [.lit (.bool true)], args := [d] }
  | _ => none }
def fnExactBaseOKRow : OpenClaim := { program := "ytekoaaiemmblgaa", sum := "8337de49c1303a77e9e7d1cd968a17e63c9a46c9f1414c5f797bd460fd2f8b0b", func := "loop.example/g00737/laws.FnExactBaseOK", spec := "fnExactBaseOK", unfollowed := true, recurses := true, apart := false }
def FnExactBaseOKSaid : Prop := fnExactBaseOKRow.holds Try.pinned (OpenSpec.ofChange fnExactBaseOKSpec)

/-- ITS FALSE NEIGHBOUR: 'it returns false'. Refute it at one input. -/
def fnExactBaseOKWrong : ChangeSpec := { name := "fnExactBaseOK", fn := fun _ => fun
  | [d] => { results := [.lit (.bool false)], args := [d] }
  | _ => none }
def FnExactBaseOKWrongFalsely : Prop := fnExactBaseOKRow.holds Try.pinned (OpenSpec.ofChange fnExactBaseOKWrong)

/-- 'laws.FnExactSnapOK': WHATEVER THE INPUT: true; the input reads as it did. -/
def fnExactSnapOKSpec : ChangeSpec := { name := "fnExactSnapOK", fn := fun _ => fun
  | [d1, d2] => { results := [.lit (.bool true)], args := [d1, d2] }
  | _ => none }
def fnExactSnapOKRow : OpenClaim := { program := "ytekoaaiemmblgaa", sum := "8337de49c1303a77e9e7d1cd968a17e63c9a46c9f1414c5f797bd460fd2f8b0b", func := "loop.example/g00737/laws.FnExactSnapOK", spec := "fnExactSnapOK", unfollowed := true, recurses := true, apart := false }
def FnExactSnapOKSaid : Prop := fnExactSnapOKRow.holds Try.pinned (OpenSpec.ofChange fnExactSnapOKSpec)

/-- ITS FALSE NEIGHBOUR: 'it returns false'. Refute it at one input. -/
def fnExactSnapOKWrong : ChangeSpec := { name := "fnExactSnapOK", fn := fun _ => fun
  | [d1, d2] => { results := [.lit (.bool false)], args := [d1, d2] }
  | _ => none }
def FnExactSnapOKWrongFalsely : Prop := fnExactSnapOKRow.holds Try.pinned (OpenSpec.ofChange fnExactSnapOKWrong)

/-- 'laws.FnExactOpenSnap': WHATEVER THE INPUT: true; the input reads as it did. -/
def fnExactOpenSnapSpec : ChangeSpec := { name := "fnExactOpenSnap", fn := fun _ => fun
  | [d1, d2] => { results := [.lit (.bool true)], args := [d1, d2] }
  | _ => none }
def fnExactOpenSnapRow : OpenClaim := { program := "ytekoaaiemmblgaa", sum := "8337de49c1303a77e9e7d1cd968a17e63c9a46c9f1414c5f797bd460fd2f8b0b", func := "loop.example/g00737/laws.FnExactOpenSnap", spec := "fnExactOpenSnap", unfollowed := true, recurses := true, apart := false }
def FnExactOpenSnapSaid : Prop := fnExactOpenSnapRow.holds Try.pinned (OpenSpec.ofChange fnExactOpenSnapSpec)

/-- ITS FALSE NEIGHBOUR: 'it returns false'. Refute it at one input. -/
def fnExactOpenSnapWrong : ChangeSpec := { name := "fnExactOpenSnap", fn := fun _ => fun
  | [d1, d2] => { results := [.lit (.bool false)], args := [d1, d2] }
  | _ => none }
def FnExactOpenSnapWrongFalsely : Prop := fnExactOpenSnapRow.holds Try.pinned (OpenSpec.ofChange fnExactOpenSnapWrong)

/-- 'laws.FnExactSameBase': WHATEVER THE INPUT: true; the input reads as it did. -/
def fnExactSameBaseSpec : ChangeSpec := { name := "fnExactSameBase", fn := fun _ => fun
  | [d1, d2] => { results := [.lit (.bool true)], args := [d1, d2] }
  | _ => none }
def fnExactSameBaseRow : OpenClaim := { program := "ytekoaaiemmblgaa", sum := "8337de49c1303a77e9e7d1cd968a17e63c9a46c9f1414c5f797bd460fd2f8b0b", func := "loop.example/g00737/laws.FnExactSameBase", spec := "fnExactSameBase", unfollowed := true, recurses := true, apart := false }
def FnExactSameBaseSaid : Prop := fnExactSameBaseRow.holds Try.pinned (OpenSpec.ofChange fnExactSameBaseSpec)

/-- ITS FALSE NEIGHBOUR: 'it returns false'. Refute it at one input. -/
def fnExactSameBaseWrong : ChangeSpec := { name := "fnExactSameBase", fn := fun _ => fun
  | [d1, d2] => { results := [.lit (.bool false)], args := [d1, d2] }
  | _ => none }
def FnExactSameBaseWrongFalsely : Prop := fnExactSameBaseRow.holds Try.pinned (OpenSpec.ofChange fnExactSameBaseWrong)

/-- 'laws.FnExactIsAncestor': WHATEVER THE INPUT: true; the input reads as it did. -/
def fnExactIsAncestorSpec : ChangeSpec := { name := "fnExactIsAncestor", fn := fun _ => fun
  | [d1, d2, d3] => { results := [.lit (.bool true)], args := [d1, d2, d3] }
  | _ => none }
def fnExactIsAncestorRow : OpenClaim := { program := "ytekoaaiemmblgaa", sum := "8337de49c1303a77e9e7d1cd968a17e63c9a46c9f1414c5f797bd460fd2f8b0b", func := "loop.example/g00737/laws.FnExactIsAncestor", spec := "fnExactIsAncestor", unfollowed := true, recurses := true, apart := false }
def FnExactIsAncestorSaid : Prop := fnExactIsAncestorRow.holds Try.pinned (OpenSpec.ofChange fnExactIsAncestorSpec)

/-- ITS FALSE NEIGHBOUR: 'it returns false'. Refute it at one input. -/
def fnExactIsAncestorWrong : ChangeSpec := { name := "fnExactIsAncestor", fn := fun _ => fun
  | [d1, d2, d3] => { results := [.lit (.bool false)], args := [d1, d2, d3] }
  | _ => none }
def FnExactIsAncestorWrongFalsely : Prop := fnExactIsAncestorRow.holds Try.pinned (OpenSpec.ofChange fnExactIsAncestorWrong)

/-- 'laws.FnExactAncestorsOf': WHATEVER THE INPUT: true; the input reads as it did. -/
def fnExactAncestorsOfSpec : ChangeSpec := { name := "fnExactAncestorsOf", fn := fun _ => fun
  | [d1, d2] => { results := [.lit (.bool true)], args := [d1, d2] }
  | _ => none }
def fnExactAncestorsOfRow : OpenClaim := { program := "ytekoaaiemmblgaa", sum := "8337de49c1303a77e9e7d1cd968a17e63c9a46c9f1414c5f797bd460fd2f8b0b", func := "loop.example/g00737/laws.FnExactAncestorsOf", spec := "fnExactAncestorsOf", unfollowed := true, recurses := true, apart := false }
def FnExactAncestorsOfSaid : Prop := fnExactAncestorsOfRow.holds Try.pinned (OpenSpec.ofChange fnExactAncestorsOfSpec)

/-- ITS FALSE NEIGHBOUR: 'it returns false'. Refute it at one input. -/
def fnExactAncestorsOfWrong : ChangeSpec := { name := "fnExactAncestorsOf", fn := fun _ => fun
  | [d1, d2] => { results := [.lit (.bool false)], args := [d1, d2] }
  | _ => none }
def FnExactAncestorsOfWrongFalsely : Prop := fnExactAncestorsOfRow.holds Try.pinned (OpenSpec.ofChange fnExactAncestorsOfWrong)

/-- 'laws.FnExactFirstLine': WHATEVER THE INPUT: true; the input reads as it did. -/
def fnExactFirstLineSpec : ChangeSpec := { name := "fnExactFirstLine", fn := fun _ => fun
  | [d1, d2] => { results := [.lit (.bool true)], args := [d1, d2] }
  | _ => none }
def fnExactFirstLineRow : OpenClaim := { program := "ytekoaaiemmblgaa", sum := "8337de49c1303a77e9e7d1cd968a17e63c9a46c9f1414c5f797bd460fd2f8b0b", func := "loop.example/g00737/laws.FnExactFirstLine", spec := "fnExactFirstLine", unfollowed := true, recurses := true, apart := false }
def FnExactFirstLineSaid : Prop := fnExactFirstLineRow.holds Try.pinned (OpenSpec.ofChange fnExactFirstLineSpec)

/-- ITS FALSE NEIGHBOUR: 'it returns false'. Refute it at one input. -/
def fnExactFirstLineWrong : ChangeSpec := { name := "fnExactFirstLine", fn := fun _ => fun
  | [d1, d2] => { results := [.lit (.bool false)], args := [d1, d2] }
  | _ => none }
def FnExactFirstLineWrongFalsely : Prop := fnExactFirstLineRow.holds Try.pinned (OpenSpec.ofChange fnExactFirstLineWrong)

/-- 'laws.FnExactBaseOf': WHATEVER THE INPUT: true; the input reads as it did. -/
def fnExactBaseOfSpec : ChangeSpec := { name := "fnExactBaseOf", fn := fun _ => fun
  | [d1, d2, d3] => { results := [.lit (.bool true)], args := [d1, d2, d3] }
  | _ => none }
def fnExactBaseOfRow : OpenClaim := { program := "ytekoaaiemmblgaa", sum := "8337de49c1303a77e9e7d1cd968a17e63c9a46c9f1414c5f797bd460fd2f8b0b", func := "loop.example/g00737/laws.FnExactBaseOf", spec := "fnExactBaseOf", unfollowed := true, recurses := true, apart := false }
def FnExactBaseOfSaid : Prop := fnExactBaseOfRow.holds Try.pinned (OpenSpec.ofChange fnExactBaseOfSpec)

/-- ITS FALSE NEIGHBOUR: 'it returns false'. Refute it at one input. -/
def fnExactBaseOfWrong : ChangeSpec := { name := "fnExactBaseOf", fn := fun _ => fun
  | [d1, d2, d3] => { results := [.lit (.bool false)], args := [d1, d2, d3] }
  | _ => none }
def FnExactBaseOfWrongFalsely : Prop := fnExactBaseOfRow.holds Try.pinned (OpenSpec.ofChange fnExactBaseOfWrong)

/- THE SECOND FORM. 'bulk': how many values and letters a reading holds, each counted each time it is reached (what is shared counts as often as it is met; a slice's spare places count too). A statement '..UptoSaid' is the law's where the arguments, and the package variables that the reading takes, are together of bulk at most 1048576: NARROWER than '..Said'. Prove '..Said' where nothing that the law and all that it calls make is longer than what came in: it says more and counts as full. Else prove '..UptoSaid'. A law counts once. -/
mutual
def uptoBulk {H : Type} : DataW H → Nat
  | .lit (.string bytes) => bytes.length + 1
  | .lit _ => 1
  | .nil => 1
  | .ptr d => uptoBulk d + 1
  | .slice elems spare => uptoBulkAll elems + uptoBulkAll spare + 1
  | .agg parts => uptoBulkAll parts + 1
  | .iface _ d => uptoBulk d + 1
  | .map entries => uptoBulkEntries entries + 1
  | .held _ => 1
def uptoBulkAll {H : Type} : List (DataW H) → Nat
  | [] => 0
  | d :: r => uptoBulk d + uptoBulkAll r
def uptoBulkEntries {H : Type} : List (Lit × DataW H) → Nat
  | [] => 0
  | x :: r => uptoBulkEntry x + uptoBulkEntries r
def uptoBulkEntry {H : Type} : Lit × DataW H → Nat
  | (.string bytes, d) => bytes.length + uptoBulk d + 1
  | (_, d) => uptoBulk d + 1
 end
def uptoSmall : (H : Type) → List (DataW H) → Bool := fun _ ds => decide (uptoBulkAll ds ≤ 1048576)
def OpenSpec.upto (s : _root_.Go.ChangeSpec) : _root_.Go.OpenSpec := { _root_.Go.OpenSpec.ofChange s with cond := some uptoSmall }

/-- 'laws.FnExactSameStore', WHERE WHAT IT READS IS OF BULK AT MOST 1048576: true; the input reads as it did. -/
def fnExactSameStoreUptoRow : OpenClaim := { program := "ytekoaaiemmblgaa", sum := "8337de49c1303a77e9e7d1cd968a17e63c9a46c9f1414c5f797bd460fd2f8b0b", func := "loop.example/g00737/laws.FnExactSameStore", spec := "fnExactSameStore", unfollowed := true, recurses := true, apart := false, narrowed := true }
def FnExactSameStoreUptoSaid : Prop := fnExactSameStoreUptoRow.holds Try.pinned (OpenSpec.upto fnExactSameStoreSpec)

/-- 'laws.FnExactNewBase', WHERE WHAT IT READS IS OF BULK AT MOST 1048576: true; the input reads as it did. -/
def fnExactNewBaseUptoRow : OpenClaim := { program := "ytekoaaiemmblgaa", sum := "8337de49c1303a77e9e7d1cd968a17e63c9a46c9f1414c5f797bd460fd2f8b0b", func := "loop.example/g00737/laws.FnExactNewBase", spec := "fnExactNewBase", unfollowed := true, recurses := true, apart := false, narrowed := true }
def FnExactNewBaseUptoSaid : Prop := fnExactNewBaseUptoRow.holds Try.pinned (OpenSpec.upto fnExactNewBaseSpec)

/-- 'laws.FnExactBaseOK', WHERE WHAT IT READS IS OF BULK AT MOST 1048576: true; the input reads as it did. -/
def fnExactBaseOKUptoRow : OpenClaim := { program := "ytekoaaiemmblgaa", sum := "8337de49c1303a77e9e7d1cd968a17e63c9a46c9f1414c5f797bd460fd2f8b0b", func := "loop.example/g00737/laws.FnExactBaseOK", spec := "fnExactBaseOK", unfollowed := true, recurses := true, apart := false, narrowed := true }
def FnExactBaseOKUptoSaid : Prop := fnExactBaseOKUptoRow.holds Try.pinned (OpenSpec.upto fnExactBaseOKSpec)

/-- 'laws.FnExactSnapOK', WHERE WHAT IT READS IS OF BULK AT MOST 1048576: true; the input reads as it did. -/
def fnExactSnapOKUptoRow : OpenClaim := { program := "ytekoaaiemmblgaa", sum := "8337de49c1303a77e9e7d1cd968a17e63c9a46c9f1414c5f797bd460fd2f8b0b", func := "loop.example/g00737/laws.FnExactSnapOK", spec := "fnExactSnapOK", unfollowed := true, recurses := true, apart := false, narrowed := true }
def FnExactSnapOKUptoSaid : Prop := fnExactSnapOKUptoRow.holds Try.pinned (OpenSpec.upto fnExactSnapOKSpec)

/-- 'laws.FnExactOpenSnap', WHERE WHAT IT READS IS OF BULK AT MOST 1048576: true; the input reads as it did. -/
def fnExactOpenSnapUptoRow : OpenClaim := { program := "ytekoaaiemmblgaa", sum := "8337de49c1303a77e9e7d1cd968a17e63c9a46c9f1414c5f797bd460fd2f8b0b", func := "loop.example/g00737/laws.FnExactOpenSnap", spec := "fnExactOpenSnap", unfollowed := true, recurses := true, apart := false, narrowed := true }
def FnExactOpenSnapUptoSaid : Prop := fnExactOpenSnapUptoRow.holds Try.pinned (OpenSpec.upto fnExactOpenSnapSpec)

/-- 'laws.FnExactSameBase', WHERE WHAT IT READS IS OF BULK AT MOST 1048576: true; the input reads as it did. -/
def fnExactSameBaseUptoRow : OpenClaim := { program := "ytekoaaiemmblgaa", sum := "8337de49c1303a77e9e7d1cd968a17e63c9a46c9f1414c5f797bd460fd2f8b0b", func := "loop.example/g00737/laws.FnExactSameBase", spec := "fnExactSameBase", unfollowed := true, recurses := true, apart := false, narrowed := true }
def FnExactSameBaseUptoSaid : Prop := fnExactSameBaseUptoRow.holds Try.pinned (OpenSpec.upto fnExactSameBaseSpec)

/-- 'laws.FnExactIsAncestor', WHERE WHAT IT READS IS OF BULK AT MOST 1048576: true; the input reads as it did. -/
def fnExactIsAncestorUptoRow : OpenClaim := { program := "ytekoaaiemmblgaa", sum := "8337de49c1303a77e9e7d1cd968a17e63c9a46c9f1414c5f797bd460fd2f8b0b", func := "loop.example/g00737/laws.FnExactIsAncestor", spec := "fnExactIsAncestor", unfollowed := true, recurses := true, apart := false, narrowed := true }
def FnExactIsAncestorUptoSaid : Prop := fnExactIsAncestorUptoRow.holds Try.pinned (OpenSpec.upto fnExactIsAncestorSpec)

/-- 'laws.FnExactAncestorsOf', WHERE WHAT IT READS IS OF BULK AT MOST 1048576: true; the input reads as it did. -/
def fnExactAncestorsOfUptoRow : OpenClaim := { program := "ytekoaaiemmblgaa", sum := "8337de49c1303a77e9e7d1cd968a17e63c9a46c9f1414c5f797bd460fd2f8b0b", func := "loop.example/g00737/laws.FnExactAncestorsOf", spec := "fnExactAncestorsOf", unfollowed := true, recurses := true, apart := false, narrowed := true }
def FnExactAncestorsOfUptoSaid : Prop := fnExactAncestorsOfUptoRow.holds Try.pinned (OpenSpec.upto fnExactAncestorsOfSpec)

/-- 'laws.FnExactFirstLine', WHERE WHAT IT READS IS OF BULK AT MOST 1048576: true; the input reads as it did. -/
def fnExactFirstLineUptoRow : OpenClaim := { program := "ytekoaaiemmblgaa", sum := "8337de49c1303a77e9e7d1cd968a17e63c9a46c9f1414c5f797bd460fd2f8b0b", func := "loop.example/g00737/laws.FnExactFirstLine", spec := "fnExactFirstLine", unfollowed := true, recurses := true, apart := false, narrowed := true }
def FnExactFirstLineUptoSaid : Prop := fnExactFirstLineUptoRow.holds Try.pinned (OpenSpec.upto fnExactFirstLineSpec)

/-- 'laws.FnExactBaseOf', WHERE WHAT IT READS IS OF BULK AT MOST 1048576: true; the input reads as it did. -/
def fnExactBaseOfUptoRow : OpenClaim := { program := "ytekoaaiemmblgaa", sum := "8337de49c1303a77e9e7d1cd968a17e63c9a46c9f1414c5f797bd460fd2f8b0b", func := "loop.example/g00737/laws.FnExactBaseOf", spec := "fnExactBaseOf", unfollowed := true, recurses := true, apart := false, narrowed := true }
def FnExactBaseOfUptoSaid : Prop := fnExactBaseOfUptoRow.holds Try.pinned (OpenSpec.upto fnExactBaseOfSpec)

end Rows
end Go.Proofs.Ytekoaaiemmblgaa
