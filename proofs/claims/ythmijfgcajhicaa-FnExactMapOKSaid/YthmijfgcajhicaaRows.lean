/-
  No cell of these rows narrows 'for every input' (looked for: loops, veiled, ifaces, maps, wideKeys, modest, calm, conditions, laid).
  DERIVED. THE GIVEN ROWS OF THIS SEAT. 19 by the template 'for every input the law returns true; each argument reads behind the call as it read before'; 0 by the template 'total and deterministic' (their statements: YthmijfgcajhicaaTotals.lean).
  GIVEN WITH THE SEED: the statements are not yours to turn. If you find one false, say at which input.
  Laid BY PROGRAM, IN A SANDBOX (cutbox-rows.mjs): the forced cells as the released guide's own fill.sh prints them over the translation c2ff5c20a8a2ffb6… (all of the seat's roots in one cut). By AI agents, Wed Nov 11 2026. No macro, syntax, notation, axiom, sorry.
-/
import Derived.Test.YthmijfgcajhicaaChecked
import GoSem.Claim
import GoSem.ClaimJoined
import GoSem.ClaimMapViews
import Derived.JoinedTies
import Derived.KernelRfl
namespace Go.Proofs.Ythmijfgcajhicaa
/- THE CELL 'sum', in the pinned program and in every row, IS THE sha256 OF THE DUMP (.gsa) THAT YthmijfgcajhicaaProg.lean LOADS. Nothing in Lean hashes anything: it is a label: what it is worth is what the hold of that sum in a sandbox is worth. -/
noncomputable def Try.pinned : Pinned := { name := "ythmijfgcajhicaa", sum := "c2ff5c20a8a2ffb63d5f78e7b1d82d6d2ba6c62ea9ecc998214ab212ecb0183e", checked := Try.checked }
namespace Rows
def none {H : Type} : Left H := { results := [], args := [] }

/-- 'laws.FnExactConstants': WHATEVER THE INPUT: true; the input reads as it did. -/
def fnExactConstantsSpec : ChangeSpec := { name := "fnExactConstants", fn := fun _ => fun
  | [] => { results := [.lit (.bool true)], args := [] }
  | _ => none }
def fnExactConstantsRow : OpenClaim := { program := "ythmijfgcajhicaa", sum := "c2ff5c20a8a2ffb63d5f78e7b1d82d6d2ba6c62ea9ecc998214ab212ecb0183e", func := "loop.example/g00737/laws.FnExactConstants", spec := "fnExactConstants", apart := false }
def FnExactConstantsSaid : Prop := fnExactConstantsRow.holds Try.pinned (OpenSpec.ofChange fnExactConstantsSpec)

/-- ITS FALSE NEIGHBOUR: 'it returns false'. Refute it at one input. -/
def fnExactConstantsWrong : ChangeSpec := { name := "fnExactConstants", fn := fun _ => fun
  | [] => { results := [.lit (.bool false)], args := [] }
  | _ => none }
def FnExactConstantsWrongFalsely : Prop := fnExactConstantsRow.holds Try.pinned (OpenSpec.ofChange fnExactConstantsWrong)

/-- 'laws.FnExactCodeWord': WHATEVER THE INPUT: true; the input reads as it did. -/
def fnExactCodeWordSpec : ChangeSpec := { name := "fnExactCodeWord", fn := fun _ => fun
  | [d] => { results := [.lit (.bool true)], args := [d] }
  | _ => none }
def fnExactCodeWordRow : OpenClaim := { program := "ythmijfgcajhicaa", sum := "c2ff5c20a8a2ffb63d5f78e7b1d82d6d2ba6c62ea9ecc998214ab212ecb0183e", func := "loop.example/g00737/laws.FnExactCodeWord", spec := "fnExactCodeWord", apart := false }
def FnExactCodeWordSaid : Prop := fnExactCodeWordRow.holds Try.pinned (OpenSpec.ofChange fnExactCodeWordSpec)

/-- ITS FALSE NEIGHBOUR: 'it returns false'. Refute it at one input. -/
def fnExactCodeWordWrong : ChangeSpec := { name := "fnExactCodeWord", fn := fun _ => fun
  | [d] => { results := [.lit (.bool false)], args := [d] }
  | _ => none }
def FnExactCodeWordWrongFalsely : Prop := fnExactCodeWordRow.holds Try.pinned (OpenSpec.ofChange fnExactCodeWordWrong)

/-- 'laws.FnExactCodeOf': WHATEVER THE INPUT: true; the input reads as it did. -/
def fnExactCodeOfSpec : ChangeSpec := { name := "fnExactCodeOf", fn := fun _ => fun
  | [d] => { results := [.lit (.bool true)], args := [d] }
  | _ => none }
def fnExactCodeOfRow : OpenClaim := { program := "ythmijfgcajhicaa", sum := "c2ff5c20a8a2ffb63d5f78e7b1d82d6d2ba6c62ea9ecc998214ab212ecb0183e", func := "loop.example/g00737/laws.FnExactCodeOf", spec := "fnExactCodeOf", apart := false }
def FnExactCodeOfSaid : Prop := fnExactCodeOfRow.holds Try.pinned (OpenSpec.ofChange fnExactCodeOfSpec)

/-- ITS FALSE NEIGHBOUR: 'it returns false'. Refute it at one input. -/
def fnExactCodeOfWrong : ChangeSpec := { name := "fnExactCodeOf", fn := fun _ => fun
  | [d] => { results := [.lit (.bool false)], args := [d] }
  | _ => none }
def FnExactCodeOfWrongFalsely : Prop := fnExactCodeOfRow.holds Try.pinned (OpenSpec.ofChange fnExactCodeOfWrong)

/-- 'laws.FnExactSumOf': WHATEVER THE INPUT: true; the input reads as it did. -/
def fnExactSumOfSpec : ChangeSpec := { name := "fnExactSumOf", fn := fun _ => fun
  | [d] => { results := [.lit (.bool true)], args := [d] }
  | _ => none }
def fnExactSumOfRow : OpenClaim := { program := "ythmijfgcajhicaa", sum := "c2ff5c20a8a2ffb63d5f78e7b1d82d6d2ba6c62ea9ecc998214ab212ecb0183e", func := "loop.example/g00737/laws.FnExactSumOf", spec := "fnExactSumOf", apart := false }
def FnExactSumOfSaid : Prop := fnExactSumOfRow.holds Try.pinned (OpenSpec.ofChange fnExactSumOfSpec)

/-- ITS FALSE NEIGHBOUR: 'it returns false'. Refute it at one input. -/
def fnExactSumOfWrong : ChangeSpec := { name := "fnExactSumOf", fn := fun _ => fun
  | [d] => { results := [.lit (.bool false)], args := [d] }
  | _ => none }
def FnExactSumOfWrongFalsely : Prop := fnExactSumOfRow.holds Try.pinned (OpenSpec.ofChange fnExactSumOfWrong)

/-- 'laws.FnExactPutNumber': WHATEVER THE INPUT: true; the input reads as it did. -/
def fnExactPutNumberSpec : ChangeSpec := { name := "fnExactPutNumber", fn := fun _ => fun
  | [d] => { results := [.lit (.bool true)], args := [d] }
  | _ => none }
def fnExactPutNumberRow : OpenClaim := { program := "ythmijfgcajhicaa", sum := "c2ff5c20a8a2ffb63d5f78e7b1d82d6d2ba6c62ea9ecc998214ab212ecb0183e", func := "loop.example/g00737/laws.FnExactPutNumber", spec := "fnExactPutNumber", apart := false }
def FnExactPutNumberSaid : Prop := fnExactPutNumberRow.holds Try.pinned (OpenSpec.ofChange fnExactPutNumberSpec)

/-- ITS FALSE NEIGHBOUR: 'it returns false'. Refute it at one input. -/
def fnExactPutNumberWrong : ChangeSpec := { name := "fnExactPutNumber", fn := fun _ => fun
  | [d] => { results := [.lit (.bool false)], args := [d] }
  | _ => none }
def FnExactPutNumberWrongFalsely : Prop := fnExactPutNumberRow.holds Try.pinned (OpenSpec.ofChange fnExactPutNumberWrong)

/-- 'laws.FnExactNameOK': WHATEVER THE INPUT: true; the input reads as it did. -/
def fnExactNameOKSpec : ChangeSpec := { name := "fnExactNameOK", fn := fun _ => fun
  | [d] => { results := [.lit (.bool true)], args := [d] }
  | _ => none }
def fnExactNameOKRow : OpenClaim := { program := "ythmijfgcajhicaa", sum := "c2ff5c20a8a2ffb63d5f78e7b1d82d6d2ba6c62ea9ecc998214ab212ecb0183e", func := "loop.example/g00737/laws.FnExactNameOK", spec := "fnExactNameOK", unfollowed := true, recurses := true, apart := false }
def FnExactNameOKSaid : Prop := fnExactNameOKRow.holds Try.pinned (OpenSpec.ofChange fnExactNameOKSpec)

/-- ITS FALSE NEIGHBOUR: 'it returns false'. Refute it at one input. -/
def fnExactNameOKWrong : ChangeSpec := { name := "fnExactNameOK", fn := fun _ => fun
  | [d] => { results := [.lit (.bool false)], args := [d] }
  | _ => none }
def FnExactNameOKWrongFalsely : Prop := fnExactNameOKRow.holds Try.pinned (OpenSpec.ofChange fnExactNameOKWrong)

/-- 'laws.FnExactTakeNumber': WHATEVER THE INPUT: true; the input reads as it did. -/
def fnExactTakeNumberSpec : ChangeSpec := { name := "fnExactTakeNumber", fn := fun _ => fun
  | [d1, d2] => { results := [.lit (.bool true)], args := [d1, d2] }
  | _ => none }
def fnExactTakeNumberRow : OpenClaim := { program := "ythmijfgcajhicaa", sum := "c2ff5c20a8a2ffb63d5f78e7b1d82d6d2ba6c62ea9ecc998214ab212ecb0183e", func := "loop.example/g00737/laws.FnExactTakeNumber", spec := "fnExactTakeNumber", apart := false }
def FnExactTakeNumberSaid : Prop := fnExactTakeNumberRow.holds Try.pinned (OpenSpec.ofChange fnExactTakeNumberSpec)

/-- ITS FALSE NEIGHBOUR: 'it returns false'. Refute it at one input. -/
def fnExactTakeNumberWrong : ChangeSpec := { name := "fnExactTakeNumber", fn := fun _ => fun
  | [d1, d2] => { results := [.lit (.bool false)], args := [d1, d2] }
  | _ => none }
def FnExactTakeNumberWrongFalsely : Prop := fnExactTakeNumberRow.holds Try.pinned (OpenSpec.ofChange fnExactTakeNumberWrong)

/-- 'laws.FnExactEventsOK': WHATEVER THE INPUT: true; the input reads as it did. -/
def fnExactEventsOKSpec : ChangeSpec := { name := "fnExactEventsOK", fn := fun _ => fun
  | [d] => { results := [.lit (.bool true)], args := [d] }
  | _ => none }
def fnExactEventsOKRow : OpenClaim := { program := "ythmijfgcajhicaa", sum := "c2ff5c20a8a2ffb63d5f78e7b1d82d6d2ba6c62ea9ecc998214ab212ecb0183e", func := "loop.example/g00737/laws.FnExactEventsOK", spec := "fnExactEventsOK", apart := false }
def FnExactEventsOKSaid : Prop := fnExactEventsOKRow.holds Try.pinned (OpenSpec.ofChange fnExactEventsOKSpec)

/-- ITS FALSE NEIGHBOUR: 'it returns false'. Refute it at one input. -/
def fnExactEventsOKWrong : ChangeSpec := { name := "fnExactEventsOK", fn := fun _ => fun
  | [d] => { results := [.lit (.bool false)], args := [d] }
  | _ => none }
def FnExactEventsOKWrongFalsely : Prop := fnExactEventsOKRow.holds Try.pinned (OpenSpec.ofChange fnExactEventsOKWrong)

/-- 'laws.FnExactMapOK': WHATEVER THE INPUT: true; the input reads as it did. -/
def fnExactMapOKSpec : ChangeSpec := { name := "fnExactMapOK", fn := fun _ => fun
  | [d] => { results := [.lit (.bool true)], args := [d] }
  | _ => none }
def fnExactMapOKRow : OpenClaim := { program := "ythmijfgcajhicaa", sum := "c2ff5c20a8a2ffb63d5f78e7b1d82d6d2ba6c62ea9ecc998214ab212ecb0183e", func := "loop.example/g00737/laws.FnExactMapOK", spec := "fnExactMapOK", unfollowed := true, recurses := true, apart := false }
def FnExactMapOKSaid : Prop := fnExactMapOKRow.holds Try.pinned (OpenSpec.ofChange fnExactMapOKSpec)

/-- ITS FALSE NEIGHBOUR: 'it returns false'. Refute it at one input. -/
def fnExactMapOKWrong : ChangeSpec := { name := "fnExactMapOK", fn := fun _ => fun
  | [d] => { results := [.lit (.bool false)], args := [d] }
  | _ => none }
def FnExactMapOKWrongFalsely : Prop := fnExactMapOKRow.holds Try.pinned (OpenSpec.ofChange fnExactMapOKWrong)

/-- 'laws.FnExactEditsOK': WHATEVER THE INPUT: true; the input reads as it did. -/
def fnExactEditsOKSpec : ChangeSpec := { name := "fnExactEditsOK", fn := fun _ => fun
  | [d] => { results := [.lit (.bool true)], args := [d] }
  | _ => none }
def fnExactEditsOKRow : OpenClaim := { program := "ythmijfgcajhicaa", sum := "c2ff5c20a8a2ffb63d5f78e7b1d82d6d2ba6c62ea9ecc998214ab212ecb0183e", func := "loop.example/g00737/laws.FnExactEditsOK", spec := "fnExactEditsOK", unfollowed := true, recurses := true, apart := false }
def FnExactEditsOKSaid : Prop := fnExactEditsOKRow.holds Try.pinned (OpenSpec.ofChange fnExactEditsOKSpec)

/-- ITS FALSE NEIGHBOUR: 'it returns false'. Refute it at one input. -/
def fnExactEditsOKWrong : ChangeSpec := { name := "fnExactEditsOK", fn := fun _ => fun
  | [d] => { results := [.lit (.bool false)], args := [d] }
  | _ => none }
def FnExactEditsOKWrongFalsely : Prop := fnExactEditsOKRow.holds Try.pinned (OpenSpec.ofChange fnExactEditsOKWrong)

/-- 'laws.FnExactSameMap': WHATEVER THE INPUT: true; the input reads as it did. -/
def fnExactSameMapSpec : ChangeSpec := { name := "fnExactSameMap", fn := fun _ => fun
  | [d1, d2] => { results := [.lit (.bool true)], args := [d1, d2] }
  | _ => none }
def fnExactSameMapRow : OpenClaim := { program := "ythmijfgcajhicaa", sum := "c2ff5c20a8a2ffb63d5f78e7b1d82d6d2ba6c62ea9ecc998214ab212ecb0183e", func := "loop.example/g00737/laws.FnExactSameMap", spec := "fnExactSameMap", unfollowed := true, recurses := true, apart := false }
def FnExactSameMapSaid : Prop := fnExactSameMapRow.holds Try.pinned (OpenSpec.ofChange fnExactSameMapSpec)

/-- ITS FALSE NEIGHBOUR: 'it returns false'. Refute it at one input. -/
def fnExactSameMapWrong : ChangeSpec := { name := "fnExactSameMap", fn := fun _ => fun
  | [d1, d2] => { results := [.lit (.bool false)], args := [d1, d2] }
  | _ => none }
def FnExactSameMapWrongFalsely : Prop := fnExactSameMapRow.holds Try.pinned (OpenSpec.ofChange fnExactSameMapWrong)

/-- 'laws.FnExactRefsOK': WHATEVER THE INPUT: true; the input reads as it did. -/
def fnExactRefsOKSpec : ChangeSpec := { name := "fnExactRefsOK", fn := fun _ => fun
  | [d] => { results := [.lit (.bool true)], args := [d] }
  | _ => none }
def fnExactRefsOKRow : OpenClaim := { program := "ythmijfgcajhicaa", sum := "c2ff5c20a8a2ffb63d5f78e7b1d82d6d2ba6c62ea9ecc998214ab212ecb0183e", func := "loop.example/g00737/laws.FnExactRefsOK", spec := "fnExactRefsOK", unfollowed := true, recurses := true, apart := false }
def FnExactRefsOKSaid : Prop := fnExactRefsOKRow.holds Try.pinned (OpenSpec.ofChange fnExactRefsOKSpec)

/-- ITS FALSE NEIGHBOUR: 'it returns false'. Refute it at one input. -/
def fnExactRefsOKWrong : ChangeSpec := { name := "fnExactRefsOK", fn := fun _ => fun
  | [d] => { results := [.lit (.bool false)], args := [d] }
  | _ => none }
def FnExactRefsOKWrongFalsely : Prop := fnExactRefsOKRow.holds Try.pinned (OpenSpec.ofChange fnExactRefsOKWrong)

/-- 'laws.FnExactWatchOK': WHATEVER THE INPUT: true; the input reads as it did. -/
def fnExactWatchOKSpec : ChangeSpec := { name := "fnExactWatchOK", fn := fun _ => fun
  | [d] => { results := [.lit (.bool true)], args := [d] }
  | _ => none }
def fnExactWatchOKRow : OpenClaim := { program := "ythmijfgcajhicaa", sum := "c2ff5c20a8a2ffb63d5f78e7b1d82d6d2ba6c62ea9ecc998214ab212ecb0183e", func := "loop.example/g00737/laws.FnExactWatchOK", spec := "fnExactWatchOK", unfollowed := true, recurses := true, apart := false }
def FnExactWatchOKSaid : Prop := fnExactWatchOKRow.holds Try.pinned (OpenSpec.ofChange fnExactWatchOKSpec)

/-- ITS FALSE NEIGHBOUR: 'it returns false'. Refute it at one input. -/
def fnExactWatchOKWrong : ChangeSpec := { name := "fnExactWatchOK", fn := fun _ => fun
  | [d] => { results := [.lit (.bool false)], args := [d] }
  | _ => none }
def FnExactWatchOKWrongFalsely : Prop := fnExactWatchOKRow.holds Try.pinned (OpenSpec.ofChange fnExactWatchOKWrong)

/-- 'laws.FnExactMergeEdits': WHATEVER THE INPUT: true; the input reads as it did. -/
def fnExactMergeEditsSpec : ChangeSpec := { name := "fnExactMergeEdits", fn := fun _ => fun
  | [d1, d2, d3] => { results := [.lit (.bool true)], args := [d1, d2, d3] }
  | _ => none }
def fnExactMergeEditsRow : OpenClaim := { program := "ythmijfgcajhicaa", sum := "c2ff5c20a8a2ffb63d5f78e7b1d82d6d2ba6c62ea9ecc998214ab212ecb0183e", func := "loop.example/g00737/laws.FnExactMergeEdits", spec := "fnExactMergeEdits", inPlace := ["internal/bytealg.abigen_runtime_cmpstring", "slices.overlaps[loop.example/g00737/impl.Entry]"], unfollowed := true, recurses := true, apart := false }
def FnExactMergeEditsSaid : Prop := fnExactMergeEditsRow.holds Try.pinned (OpenSpec.ofChange fnExactMergeEditsSpec)

/-- ITS FALSE NEIGHBOUR: 'it returns false'. Refute it at one input. -/
def fnExactMergeEditsWrong : ChangeSpec := { name := "fnExactMergeEdits", fn := fun _ => fun
  | [d1, d2, d3] => { results := [.lit (.bool false)], args := [d1, d2, d3] }
  | _ => none }
def FnExactMergeEditsWrongFalsely : Prop := fnExactMergeEditsRow.holds Try.pinned (OpenSpec.ofChange fnExactMergeEditsWrong)

/-- 'laws.FnExactSameWatch': WHATEVER THE INPUT: true; the input reads as it did. -/
def fnExactSameWatchSpec : ChangeSpec := { name := "fnExactSameWatch", fn := fun _ => fun
  | [d1, d2] => { results := [.lit (.bool true)], args := [d1, d2] }
  | _ => none }
def fnExactSameWatchRow : OpenClaim := { program := "ythmijfgcajhicaa", sum := "c2ff5c20a8a2ffb63d5f78e7b1d82d6d2ba6c62ea9ecc998214ab212ecb0183e", func := "loop.example/g00737/laws.FnExactSameWatch", spec := "fnExactSameWatch", unfollowed := true, recurses := true, apart := false }
def FnExactSameWatchSaid : Prop := fnExactSameWatchRow.holds Try.pinned (OpenSpec.ofChange fnExactSameWatchSpec)

/-- ITS FALSE NEIGHBOUR: 'it returns false'. Refute it at one input. -/
def fnExactSameWatchWrong : ChangeSpec := { name := "fnExactSameWatch", fn := fun _ => fun
  | [d1, d2] => { results := [.lit (.bool false)], args := [d1, d2] }
  | _ => none }
def FnExactSameWatchWrongFalsely : Prop := fnExactSameWatchRow.holds Try.pinned (OpenSpec.ofChange fnExactSameWatchWrong)

/-- 'laws.FnExactGet': WHATEVER THE INPUT: true; the input reads as it did. -/
def fnExactGetSpec : ChangeSpec := { name := "fnExactGet", fn := fun _ => fun
  | [d1, d2] => { results := [.lit (.bool true)], args := [d1, d2] }
  | _ => none }
def fnExactGetRow : OpenClaim := { program := "ythmijfgcajhicaa", sum := "c2ff5c20a8a2ffb63d5f78e7b1d82d6d2ba6c62ea9ecc998214ab212ecb0183e", func := "loop.example/g00737/laws.FnExactGet", spec := "fnExactGet", inPlace := ["internal/bytealg.abigen_runtime_cmpstring"], unfollowed := true, recurses := true, apart := false }
def FnExactGetSaid : Prop := fnExactGetRow.holds Try.pinned (OpenSpec.ofChange fnExactGetSpec)

/-- ITS FALSE NEIGHBOUR: 'it returns false'. Refute it at one input. -/
def fnExactGetWrong : ChangeSpec := { name := "fnExactGet", fn := fun _ => fun
  | [d1, d2] => { results := [.lit (.bool false)], args := [d1, d2] }
  | _ => none }
def FnExactGetWrongFalsely : Prop := fnExactGetRow.holds Try.pinned (OpenSpec.ofChange fnExactGetWrong)

/-- 'laws.FnExactOpOK': WHATEVER THE INPUT: true; the input reads as it did. -/
def fnExactOpOKSpec : ChangeSpec := { name := "fnExactOpOK", fn := fun _ => fun
  | [d] => { results := [.lit (.bool true)], args := [d] }
  | _ => none }
def fnExactOpOKRow : OpenClaim := { program := "ythmijfgcajhicaa", sum := "c2ff5c20a8a2ffb63d5f78e7b1d82d6d2ba6c62ea9ecc998214ab212ecb0183e", func := "loop.example/g00737/laws.FnExactOpOK", spec := "fnExactOpOK", unfollowed := true, recurses := true, apart := false }
def FnExactOpOKSaid : Prop := fnExactOpOKRow.holds Try.pinned (OpenSpec.ofChange fnExactOpOKSpec)

/-- ITS FALSE NEIGHBOUR: 'it returns false'. Refute it at one input. -/
def fnExactOpOKWrong : ChangeSpec := { name := "fnExactOpOK", fn := fun _ => fun
  | [d] => { results := [.lit (.bool false)], args := [d] }
  | _ => none }
def FnExactOpOKWrongFalsely : Prop := fnExactOpOKRow.holds Try.pinned (OpenSpec.ofChange fnExactOpOKWrong)

/-- 'laws.FnExactLoadRef': WHATEVER THE INPUT: true; the input reads as it did. -/
def fnExactLoadRefSpec : ChangeSpec := { name := "fnExactLoadRef", fn := fun _ => fun
  | [d1, d2] => { results := [.lit (.bool true)], args := [d1, d2] }
  | _ => none }
def fnExactLoadRefRow : OpenClaim := { program := "ythmijfgcajhicaa", sum := "c2ff5c20a8a2ffb63d5f78e7b1d82d6d2ba6c62ea9ecc998214ab212ecb0183e", func := "loop.example/g00737/laws.FnExactLoadRef", spec := "fnExactLoadRef", unfollowed := true, recurses := true, apart := false }
def FnExactLoadRefSaid : Prop := fnExactLoadRefRow.holds Try.pinned (OpenSpec.ofChange fnExactLoadRefSpec)

/-- ITS FALSE NEIGHBOUR: 'it returns false'. Refute it at one input. -/
def fnExactLoadRefWrong : ChangeSpec := { name := "fnExactLoadRef", fn := fun _ => fun
  | [d1, d2] => { results := [.lit (.bool false)], args := [d1, d2] }
  | _ => none }
def FnExactLoadRefWrongFalsely : Prop := fnExactLoadRefRow.holds Try.pinned (OpenSpec.ofChange fnExactLoadRefWrong)

/-- 'laws.FnExactScan': WHATEVER THE INPUT: true; the input reads as it did. -/
def fnExactScanSpec : ChangeSpec := { name := "fnExactScan", fn := fun _ => fun
  | [d1, d2, d3] => { results := [.lit (.bool true)], args := [d1, d2, d3] }
  | _ => none }
def fnExactScanRow : OpenClaim := { program := "ythmijfgcajhicaa", sum := "c2ff5c20a8a2ffb63d5f78e7b1d82d6d2ba6c62ea9ecc998214ab212ecb0183e", func := "loop.example/g00737/laws.FnExactScan", spec := "fnExactScan", unfollowed := true, recurses := true, apart := false }
def FnExactScanSaid : Prop := fnExactScanRow.holds Try.pinned (OpenSpec.ofChange fnExactScanSpec)

/-- ITS FALSE NEIGHBOUR: 'it returns false'. Refute it at one input. -/
def fnExactScanWrong : ChangeSpec := { name := "fnExactScan", fn := fun _ => fun
  | [d1, d2, d3] => { results := [.lit (.bool false)], args := [d1, d2, d3] }
  | _ => none }
def FnExactScanWrongFalsely : Prop := fnExactScanRow.holds Try.pinned (OpenSpec.ofChange fnExactScanWrong)

/- THE SECOND FORM. 'bulk': how many values and letters a reading holds, each counted each time it is reached (what is shared counts as often as it is met; a slice's spare places count too). A statement '..UptoSaid' is the law's where the arguments, and the package variables that the reading takes, are together of bulk at most 1048576: NARROWER than '..Said'. Prove '..Said' where nothing that the law and all that it calls make is longer than what came in: it says more and counts as full. Else prove '..UptoSaid'. A law counts once. -/
mutual
def uptoBulk {H : Type} : DataW H → Nat
  | .lit (.string bytes) => bytes.length + 1
  | .lit _ => 1
  | .nil => 1
  | .ptr d => uptoBulk d + 1
  | .slice elems spare => uptoBulkAll elems + uptoBulkAll spare + 1
  | .agg parts => uptoBulkAll parts + 1
  | .iface _ d => uptoBulk d + 1
  | .map entries => uptoBulkEntries entries + 1
  | .held _ => 1
def uptoBulkAll {H : Type} : List (DataW H) → Nat
  | [] => 0
  | d :: r => uptoBulk d + uptoBulkAll r
def uptoBulkEntries {H : Type} : List (Lit × DataW H) → Nat
  | [] => 0
  | x :: r => uptoBulkEntry x + uptoBulkEntries r
def uptoBulkEntry {H : Type} : Lit × DataW H → Nat
  | (.string bytes, d) => bytes.length + uptoBulk d + 1
  | (_, d) => uptoBulk d + 1
 end
def uptoSmall : (H : Type) → List (DataW H) → Bool := fun _ ds => decide (uptoBulkAll ds ≤ 1048576)
def OpenSpec.upto (s : _root_.Go.ChangeSpec) : _root_.Go.OpenSpec := { _root_.Go.OpenSpec.ofChange s with cond := some uptoSmall }

/-- 'laws.FnExactConstants', WHERE WHAT IT READS IS OF BULK AT MOST 1048576: true; the input reads as it did. -/
def fnExactConstantsUptoRow : OpenClaim := { program := "ythmijfgcajhicaa", sum := "c2ff5c20a8a2ffb63d5f78e7b1d82d6d2ba6c62ea9ecc998214ab212ecb0183e", func := "loop.example/g00737/laws.FnExactConstants", spec := "fnExactConstants", apart := false, narrowed := true }
def FnExactConstantsUptoSaid : Prop := fnExactConstantsUptoRow.holds Try.pinned (OpenSpec.upto fnExactConstantsSpec)

/-- 'laws.FnExactCodeWord', WHERE WHAT IT READS IS OF BULK AT MOST 1048576: true; the input reads as it did. -/
def fnExactCodeWordUptoRow : OpenClaim := { program := "ythmijfgcajhicaa", sum := "c2ff5c20a8a2ffb63d5f78e7b1d82d6d2ba6c62ea9ecc998214ab212ecb0183e", func := "loop.example/g00737/laws.FnExactCodeWord", spec := "fnExactCodeWord", apart := false, narrowed := true }
def FnExactCodeWordUptoSaid : Prop := fnExactCodeWordUptoRow.holds Try.pinned (OpenSpec.upto fnExactCodeWordSpec)

/-- 'laws.FnExactCodeOf', WHERE WHAT IT READS IS OF BULK AT MOST 1048576: true; the input reads as it did. -/
def fnExactCodeOfUptoRow : OpenClaim := { program := "ythmijfgcajhicaa", sum := "c2ff5c20a8a2ffb63d5f78e7b1d82d6d2ba6c62ea9ecc998214ab212ecb0183e", func := "loop.example/g00737/laws.FnExactCodeOf", spec := "fnExactCodeOf", apart := false, narrowed := true }
def FnExactCodeOfUptoSaid : Prop := fnExactCodeOfUptoRow.holds Try.pinned (OpenSpec.upto fnExactCodeOfSpec)

/-- 'laws.FnExactSumOf', WHERE WHAT IT READS IS OF BULK AT MOST 1048576: true; the input reads as it did. -/
def fnExactSumOfUptoRow : OpenClaim := { program := "ythmijfgcajhicaa", sum := "c2ff5c20a8a2ffb63d5f78e7b1d82d6d2ba6c62ea9ecc998214ab212ecb0183e", func := "loop.example/g00737/laws.FnExactSumOf", spec := "fnExactSumOf", apart := false, narrowed := true }
def FnExactSumOfUptoSaid : Prop := fnExactSumOfUptoRow.holds Try.pinned (OpenSpec.upto fnExactSumOfSpec)

/-- 'laws.FnExactPutNumber', WHERE WHAT IT READS IS OF BULK AT MOST 1048576: true; the input reads as it did. -/
def fnExactPutNumberUptoRow : OpenClaim := { program := "ythmijfgcajhicaa", sum := "c2ff5c20a8a2ffb63d5f78e7b1d82d6d2ba6c62ea9ecc998214ab212ecb0183e", func := "loop.example/g00737/laws.FnExactPutNumber", spec := "fnExactPutNumber", apart := false, narrowed := true }
def FnExactPutNumberUptoSaid : Prop := fnExactPutNumberUptoRow.holds Try.pinned (OpenSpec.upto fnExactPutNumberSpec)

/-- 'laws.FnExactNameOK', WHERE WHAT IT READS IS OF BULK AT MOST 1048576: true; the input reads as it did. -/
def fnExactNameOKUptoRow : OpenClaim := { program := "ythmijfgcajhicaa", sum := "c2ff5c20a8a2ffb63d5f78e7b1d82d6d2ba6c62ea9ecc998214ab212ecb0183e", func := "loop.example/g00737/laws.FnExactNameOK", spec := "fnExactNameOK", unfollowed := true, recurses := true, apart := false, narrowed := true }
def FnExactNameOKUptoSaid : Prop := fnExactNameOKUptoRow.holds Try.pinned (OpenSpec.upto fnExactNameOKSpec)

/-- 'laws.FnExactTakeNumber', WHERE WHAT IT READS IS OF BULK AT MOST 1048576: true; the input reads as it did. -/
def fnExactTakeNumberUptoRow : OpenClaim := { program := "ythmijfgcajhicaa", sum := "c2ff5c20a8a2ffb63d5f78e7b1d82d6d2ba6c62ea9ecc998214ab212ecb0183e", func := "loop.example/g00737/laws.FnExactTakeNumber", spec := "fnExactTakeNumber", apart := false, narrowed := true }
def FnExactTakeNumberUptoSaid : Prop := fnExactTakeNumberUptoRow.holds Try.pinned (OpenSpec.upto fnExactTakeNumberSpec)

/-- 'laws.FnExactEventsOK', WHERE WHAT IT READS IS OF BULK AT MOST 1048576: true; the input reads as it did. -/
def fnExactEventsOKUptoRow : OpenClaim := { program := "ythmijfgcajhicaa", sum := "c2ff5c20a8a2ffb63d5f78e7b1d82d6d2ba6c62ea9ecc998214ab212ecb0183e", func := "loop.example/g00737/laws.FnExactEventsOK", spec := "fnExactEventsOK", apart := false, narrowed := true }
def FnExactEventsOKUptoSaid : Prop := fnExactEventsOKUptoRow.holds Try.pinned (OpenSpec.upto fnExactEventsOKSpec)

/-- 'laws.FnExactMapOK', WHERE WHAT IT READS IS OF BULK AT MOST 1048576: true; the input reads as it did. -/
def fnExactMapOKUptoRow : OpenClaim := { program := "ythmijfgcajhicaa", sum := "c2ff5c20a8a2ffb63d5f78e7b1d82d6d2ba6c62ea9ecc998214ab212ecb0183e", func := "loop.example/g00737/laws.FnExactMapOK", spec := "fnExactMapOK", unfollowed := true, recurses := true, apart := false, narrowed := true }
def FnExactMapOKUptoSaid : Prop := fnExactMapOKUptoRow.holds Try.pinned (OpenSpec.upto fnExactMapOKSpec)

/-- 'laws.FnExactEditsOK', WHERE WHAT IT READS IS OF BULK AT MOST 1048576: true; the input reads as it did. -/
def fnExactEditsOKUptoRow : OpenClaim := { program := "ythmijfgcajhicaa", sum := "c2ff5c20a8a2ffb63d5f78e7b1d82d6d2ba6c62ea9ecc998214ab212ecb0183e", func := "loop.example/g00737/laws.FnExactEditsOK", spec := "fnExactEditsOK", unfollowed := true, recurses := true, apart := false, narrowed := true }
def FnExactEditsOKUptoSaid : Prop := fnExactEditsOKUptoRow.holds Try.pinned (OpenSpec.upto fnExactEditsOKSpec)

/-- 'laws.FnExactSameMap', WHERE WHAT IT READS IS OF BULK AT MOST 1048576: true; the input reads as it did. -/
def fnExactSameMapUptoRow : OpenClaim := { program := "ythmijfgcajhicaa", sum := "c2ff5c20a8a2ffb63d5f78e7b1d82d6d2ba6c62ea9ecc998214ab212ecb0183e", func := "loop.example/g00737/laws.FnExactSameMap", spec := "fnExactSameMap", unfollowed := true, recurses := true, apart := false, narrowed := true }
def FnExactSameMapUptoSaid : Prop := fnExactSameMapUptoRow.holds Try.pinned (OpenSpec.upto fnExactSameMapSpec)

/-- 'laws.FnExactRefsOK', WHERE WHAT IT READS IS OF BULK AT MOST 1048576: true; the input reads as it did. -/
def fnExactRefsOKUptoRow : OpenClaim := { program := "ythmijfgcajhicaa", sum := "c2ff5c20a8a2ffb63d5f78e7b1d82d6d2ba6c62ea9ecc998214ab212ecb0183e", func := "loop.example/g00737/laws.FnExactRefsOK", spec := "fnExactRefsOK", unfollowed := true, recurses := true, apart := false, narrowed := true }
def FnExactRefsOKUptoSaid : Prop := fnExactRefsOKUptoRow.holds Try.pinned (OpenSpec.upto fnExactRefsOKSpec)

/-- 'laws.FnExactWatchOK', WHERE WHAT IT READS IS OF BULK AT MOST 1048576: true; the input reads as it did. -/
def fnExactWatchOKUptoRow : OpenClaim := { program := "ythmijfgcajhicaa", sum := "c2ff5c20a8a2ffb63d5f78e7b1d82d6d2ba6c62ea9ecc998214ab212ecb0183e", func := "loop.example/g00737/laws.FnExactWatchOK", spec := "fnExactWatchOK", unfollowed := true, recurses := true, apart := false, narrowed := true }
def FnExactWatchOKUptoSaid : Prop := fnExactWatchOKUptoRow.holds Try.pinned (OpenSpec.upto fnExactWatchOKSpec)

/-- 'laws.FnExactMergeEdits', WHERE WHAT IT READS IS OF BULK AT MOST 1048576: true; the input reads as it did. -/
def fnExactMergeEditsUptoRow : OpenClaim := { program := "ythmijfgcajhicaa", sum := "c2ff5c20a8a2ffb63d5f78e7b1d82d6d2ba6c62ea9ecc998214ab212ecb0183e", func := "loop.example/g00737/laws.FnExactMergeEdits", spec := "fnExactMergeEdits", inPlace := ["internal/bytealg.abigen_runtime_cmpstring", "slices.overlaps[loop.example/g00737/impl.Entry]"], unfollowed := true, recurses := true, apart := false, narrowed := true }
def FnExactMergeEditsUptoSaid : Prop := fnExactMergeEditsUptoRow.holds Try.pinned (OpenSpec.upto fnExactMergeEditsSpec)

/-- 'laws.FnExactSameWatch', WHERE WHAT IT READS IS OF BULK AT MOST 1048576: true; the input reads as it did. -/
def fnExactSameWatchUptoRow : OpenClaim := { program := "ythmijfgcajhicaa", sum := "c2ff5c20a8a2ffb63d5f78e7b1d82d6d2ba6c62ea9ecc998214ab212ecb0183e", func := "loop.example/g00737/laws.FnExactSameWatch", spec := "fnExactSameWatch", unfollowed := true, recurses := true, apart := false, narrowed := true }
def FnExactSameWatchUptoSaid : Prop := fnExactSameWatchUptoRow.holds Try.pinned (OpenSpec.upto fnExactSameWatchSpec)

/-- 'laws.FnExactGet', WHERE WHAT IT READS IS OF BULK AT MOST 1048576: true; the input reads as it did. -/
def fnExactGetUptoRow : OpenClaim := { program := "ythmijfgcajhicaa", sum := "c2ff5c20a8a2ffb63d5f78e7b1d82d6d2ba6c62ea9ecc998214ab212ecb0183e", func := "loop.example/g00737/laws.FnExactGet", spec := "fnExactGet", inPlace := ["internal/bytealg.abigen_runtime_cmpstring"], unfollowed := true, recurses := true, apart := false, narrowed := true }
def FnExactGetUptoSaid : Prop := fnExactGetUptoRow.holds Try.pinned (OpenSpec.upto fnExactGetSpec)

/-- 'laws.FnExactOpOK', WHERE WHAT IT READS IS OF BULK AT MOST 1048576: true; the input reads as it did. -/
def fnExactOpOKUptoRow : OpenClaim := { program := "ythmijfgcajhicaa", sum := "c2ff5c20a8a2ffb63d5f78e7b1d82d6d2ba6c62ea9ecc998214ab212ecb0183e", func := "loop.example/g00737/laws.FnExactOpOK", spec := "fnExactOpOK", unfollowed := true, recurses := true, apart := false, narrowed := true }
def FnExactOpOKUptoSaid : Prop := fnExactOpOKUptoRow.holds Try.pinned (OpenSpec.upto fnExactOpOKSpec)

/-- 'laws.FnExactLoadRef', WHERE WHAT IT READS IS OF BULK AT MOST 1048576: true; the input reads as it did. -/
def fnExactLoadRefUptoRow : OpenClaim := { program := "ythmijfgcajhicaa", sum := "c2ff5c20a8a2ffb63d5f78e7b1d82d6d2ba6c62ea9ecc998214ab212ecb0183e", func := "loop.example/g00737/laws.FnExactLoadRef", spec := "fnExactLoadRef", unfollowed := true, recurses := true, apart := false, narrowed := true }
def FnExactLoadRefUptoSaid : Prop := fnExactLoadRefUptoRow.holds Try.pinned (OpenSpec.upto fnExactLoadRefSpec)

/-- 'laws.FnExactScan', WHERE WHAT IT READS IS OF BULK AT MOST 1048576: true; the input reads as it did. -/
def fnExactScanUptoRow : OpenClaim := { program := "ythmijfgcajhicaa", sum := "c2ff5c20a8a2ffb63d5f78e7b1d82d6d2ba6c62ea9ecc998214ab212ecb0183e", func := "loop.example/g00737/laws.FnExactScan", spec := "fnExactScan", unfollowed := true, recurses := true, apart := false, narrowed := true }
def FnExactScanUptoSaid : Prop := fnExactScanUptoRow.holds Try.pinned (OpenSpec.upto fnExactScanSpec)

end Rows
end Go.Proofs.Ythmijfgcajhicaa
