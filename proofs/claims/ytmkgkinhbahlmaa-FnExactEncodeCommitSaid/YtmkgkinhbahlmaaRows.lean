/-
  No cell of these rows narrows 'for every input' (looked for: loops, veiled, ifaces, maps, wideKeys, modest, calm, conditions, laid).
  DERIVED. THE GIVEN ROWS OF THIS SEAT. 20 by the template 'for every input the law returns true; each argument reads behind the call as it read before'; 0 by the template 'total and deterministic' (their statements: YtmkgkinhbahlmaaTotals.lean).
  GIVEN WITH THE SEED: the statements are not yours to turn. If you find one false, say at which input.
  Laid BY PROGRAM, IN A SANDBOX (cutbox-rows.mjs): the forced cells as the released guide's own fill.sh prints them over the translation 51725d568b692224… (all of the seat's roots in one cut). By AI agents, Wed Nov 11 2026. No macro, syntax, notation, axiom, sorry.
-/
import Derived.Test.YtmkgkinhbahlmaaChecked
import GoSem.Claim
import GoSem.ClaimJoined
import GoSem.ClaimMapViews
import Derived.JoinedTies
import Derived.KernelRfl
namespace Go.Proofs.Ytmkgkinhbahlmaa
/- THE CELL 'sum', in the pinned program and in every row, IS THE sha256 OF THE DUMP (.gsa) THAT YtmkgkinhbahlmaaProg.lean LOADS. Nothing in Lean hashes anything: it is a label: what it is worth is what the hold of that sum in a sandbox is worth. -/
noncomputable def Try.pinned : Pinned := { name := "ytmkgkinhbahlmaa", sum := "51725d568b692224af0de48c5cfe959b8fb69f8a0e86019a2e14d5ae69866699", checked := Try.checked }
namespace Rows
def none {H : Type} : Left H := { results := [], args := [] }

/-- 'laws.FnExactTakeNumber': WHATEVER THE INPUT: true; the input reads as it did. -/
def fnExactTakeNumberSpec : ChangeSpec := { name := "fnExactTakeNumber", fn := fun _ => fun
  | [d1, d2] => { results := [.lit (.bool true)], args := [d1, d2] }
  | _ => none }
def fnExactTakeNumberRow : OpenClaim := { program := "ytmkgkinhbahlmaa", sum := "51725d568b692224af0de48c5cfe959b8fb69f8a0e86019a2e14d5ae69866699", func := "loop.example/g00737/laws.FnExactTakeNumber", spec := "fnExactTakeNumber", apart := false }
def FnExactTakeNumberSaid : Prop := fnExactTakeNumberRow.holds Try.pinned (OpenSpec.ofChange fnExactTakeNumberSpec)

/-- ITS FALSE NEIGHBOUR: 'it returns false'. Refute it at one input. -/
def fnExactTakeNumberWrong : ChangeSpec := { name := "fnExactTakeNumber", fn := fun _ => fun
  | [d1, d2] => { results := [.lit (.bool false)], args := [d1, d2] }
  | _ => none }
def FnExactTakeNumberWrongFalsely : Prop := fnExactTakeNumberRow.holds Try.pinned (OpenSpec.ofChange fnExactTakeNumberWrong)

/-- 'laws.FnExactEventsOK': WHATEVER THE INPUT: true; the input reads as it did. -/
def fnExactEventsOKSpec : ChangeSpec := { name := "fnExactEventsOK", fn := fun _ => fun
  | [d] => { results := [.lit (.bool true)], args := [d] }
  | _ => none }
def fnExactEventsOKRow : OpenClaim := { program := "ytmkgkinhbahlmaa", sum := "51725d568b692224af0de48c5cfe959b8fb69f8a0e86019a2e14d5ae69866699", func := "loop.example/g00737/laws.FnExactEventsOK", spec := "fnExactEventsOK", apart := false }
def FnExactEventsOKSaid : Prop := fnExactEventsOKRow.holds Try.pinned (OpenSpec.ofChange fnExactEventsOKSpec)

/-- ITS FALSE NEIGHBOUR: 'it returns false'. Refute it at one input. -/
def fnExactEventsOKWrong : ChangeSpec := { name := "fnExactEventsOK", fn := fun _ => fun
  | [d] => { results := [.lit (.bool false)], args := [d] }
  | _ => none }
def FnExactEventsOKWrongFalsely : Prop := fnExactEventsOKRow.holds Try.pinned (OpenSpec.ofChange fnExactEventsOKWrong)

/-- 'laws.FnExactEditsOK': WHATEVER THE INPUT: true; the input reads as it did. -/
def fnExactEditsOKSpec : ChangeSpec := { name := "fnExactEditsOK", fn := fun _ => fun
  | [d] => { results := [.lit (.bool true)], args := [d] }
  | _ => none }
def fnExactEditsOKRow : OpenClaim := { program := "ytmkgkinhbahlmaa", sum := "51725d568b692224af0de48c5cfe959b8fb69f8a0e86019a2e14d5ae69866699", func := "loop.example/g00737/laws.FnExactEditsOK", spec := "fnExactEditsOK", unfollowed := true, recurses := true, apart := false }
def FnExactEditsOKSaid : Prop := fnExactEditsOKRow.holds Try.pinned (OpenSpec.ofChange fnExactEditsOKSpec)

/-- ITS FALSE NEIGHBOUR: 'it returns false'. Refute it at one input. -/
def fnExactEditsOKWrong : ChangeSpec := { name := "fnExactEditsOK", fn := fun _ => fun
  | [d] => { results := [.lit (.bool false)], args := [d] }
  | _ => none }
def FnExactEditsOKWrongFalsely : Prop := fnExactEditsOKRow.holds Try.pinned (OpenSpec.ofChange fnExactEditsOKWrong)

/-- 'laws.FnExactSameMap': WHATEVER THE INPUT: true; the input reads as it did. -/
def fnExactSameMapSpec : ChangeSpec := { name := "fnExactSameMap", fn := fun _ => fun
  | [d1, d2] => { results := [.lit (.bool true)], args := [d1, d2] }
  | _ => none }
def fnExactSameMapRow : OpenClaim := { program := "ytmkgkinhbahlmaa", sum := "51725d568b692224af0de48c5cfe959b8fb69f8a0e86019a2e14d5ae69866699", func := "loop.example/g00737/laws.FnExactSameMap", spec := "fnExactSameMap", unfollowed := true, recurses := true, apart := false }
def FnExactSameMapSaid : Prop := fnExactSameMapRow.holds Try.pinned (OpenSpec.ofChange fnExactSameMapSpec)

/-- ITS FALSE NEIGHBOUR: 'it returns false'. Refute it at one input. -/
def fnExactSameMapWrong : ChangeSpec := { name := "fnExactSameMap", fn := fun _ => fun
  | [d1, d2] => { results := [.lit (.bool false)], args := [d1, d2] }
  | _ => none }
def FnExactSameMapWrongFalsely : Prop := fnExactSameMapRow.holds Try.pinned (OpenSpec.ofChange fnExactSameMapWrong)

/-- 'laws.FnExactRefsOK': WHATEVER THE INPUT: true; the input reads as it did. -/
def fnExactRefsOKSpec : ChangeSpec := { name := "fnExactRefsOK", fn := fun _ => fun
  | [d] => { results := [.lit (.bool true)], args := [d] }
  | _ => none }
def fnExactRefsOKRow : OpenClaim := { program := "ytmkgkinhbahlmaa", sum := "51725d568b692224af0de48c5cfe959b8fb69f8a0e86019a2e14d5ae69866699", func := "loop.example/g00737/laws.FnExactRefsOK", spec := "fnExactRefsOK", unfollowed := true, recurses := true, apart := false }
def FnExactRefsOKSaid : Prop := fnExactRefsOKRow.holds Try.pinned (OpenSpec.ofChange fnExactRefsOKSpec)

/-- ITS FALSE NEIGHBOUR: 'it returns false'. Refute it at one input. -/
def fnExactRefsOKWrong : ChangeSpec := { name := "fnExactRefsOK", fn := fun _ => fun
  | [d] => { results := [.lit (.bool false)], args := [d] }
  | _ => none }
def FnExactRefsOKWrongFalsely : Prop := fnExactRefsOKRow.holds Try.pinned (OpenSpec.ofChange fnExactRefsOKWrong)

/-- 'laws.FnExactWatchOK': WHATEVER THE INPUT: true; the input reads as it did. -/
def fnExactWatchOKSpec : ChangeSpec := { name := "fnExactWatchOK", fn := fun _ => fun
  | [d] => { results := [.lit (.bool true)], args := [d] }
  | _ => none }
def fnExactWatchOKRow : OpenClaim := { program := "ytmkgkinhbahlmaa", sum := "51725d568b692224af0de48c5cfe959b8fb69f8a0e86019a2e14d5ae69866699", func := "loop.example/g00737/laws.FnExactWatchOK", spec := "fnExactWatchOK", unfollowed := true, recurses := true, apart := false }
def FnExactWatchOKSaid : Prop := fnExactWatchOKRow.holds Try.pinned (OpenSpec.ofChange fnExactWatchOKSpec)

/-- ITS FALSE NEIGHBOUR: 'it returns false'. Refute it at one input. -/
def fnExactWatchOKWrong : ChangeSpec := { name := "fnExactWatchOK", fn := fun _ => fun
  | [d] => { results := [.lit (.bool false)], args := [d] }
  | _ => none }
def FnExactWatchOKWrongFalsely : Prop := fnExactWatchOKRow.holds Try.pinned (OpenSpec.ofChange fnExactWatchOKWrong)

/-- 'laws.FnExactSameWatch': WHATEVER THE INPUT: true; the input reads as it did. -/
def fnExactSameWatchSpec : ChangeSpec := { name := "fnExactSameWatch", fn := fun _ => fun
  | [d1, d2] => { results := [.lit (.bool true)], args := [d1, d2] }
  | _ => none }
def fnExactSameWatchRow : OpenClaim := { program := "ytmkgkinhbahlmaa", sum := "51725d568b692224af0de48c5cfe959b8fb69f8a0e86019a2e14d5ae69866699", func := "loop.example/g00737/laws.FnExactSameWatch", spec := "fnExactSameWatch", unfollowed := true, recurses := true, apart := false }
def FnExactSameWatchSaid : Prop := fnExactSameWatchRow.holds Try.pinned (OpenSpec.ofChange fnExactSameWatchSpec)

/-- ITS FALSE NEIGHBOUR: 'it returns false'. Refute it at one input. -/
def fnExactSameWatchWrong : ChangeSpec := { name := "fnExactSameWatch", fn := fun _ => fun
  | [d1, d2] => { results := [.lit (.bool false)], args := [d1, d2] }
  | _ => none }
def FnExactSameWatchWrongFalsely : Prop := fnExactSameWatchRow.holds Try.pinned (OpenSpec.ofChange fnExactSameWatchWrong)

/-- 'laws.FnExactGet': WHATEVER THE INPUT: true; the input reads as it did. -/
def fnExactGetSpec : ChangeSpec := { name := "fnExactGet", fn := fun _ => fun
  | [d1, d2] => { results := [.lit (.bool true)], args := [d1, d2] }
  | _ => none }
def fnExactGetRow : OpenClaim := { program := "ytmkgkinhbahlmaa", sum := "51725d568b692224af0de48c5cfe959b8fb69f8a0e86019a2e14d5ae69866699", func := "loop.example/g00737/laws.FnExactGet", spec := "fnExactGet", inPlace := ["internal/bytealg.abigen_runtime_cmpstring"], unfollowed := true, recurses := true, apart := false }
def FnExactGetSaid : Prop := fnExactGetRow.holds Try.pinned (OpenSpec.ofChange fnExactGetSpec)

/-- ITS FALSE NEIGHBOUR: 'it returns false'. Refute it at one input. -/
def fnExactGetWrong : ChangeSpec := { name := "fnExactGet", fn := fun _ => fun
  | [d1, d2] => { results := [.lit (.bool false)], args := [d1, d2] }
  | _ => none }
def FnExactGetWrongFalsely : Prop := fnExactGetRow.holds Try.pinned (OpenSpec.ofChange fnExactGetWrong)

/-- 'laws.FnExactOpOK': WHATEVER THE INPUT: true; the input reads as it did. -/
def fnExactOpOKSpec : ChangeSpec := { name := "fnExactOpOK", fn := fun _ => fun
  | [d] => { results := [.lit (.bool true)], args := [d] }
  | _ => none }
def fnExactOpOKRow : OpenClaim := { program := "ytmkgkinhbahlmaa", sum := "51725d568b692224af0de48c5cfe959b8fb69f8a0e86019a2e14d5ae69866699", func := "loop.example/g00737/laws.FnExactOpOK", spec := "fnExactOpOK", unfollowed := true, recurses := true, apart := false }
def FnExactOpOKSaid : Prop := fnExactOpOKRow.holds Try.pinned (OpenSpec.ofChange fnExactOpOKSpec)

/-- ITS FALSE NEIGHBOUR: 'it returns false'. Refute it at one input. -/
def fnExactOpOKWrong : ChangeSpec := { name := "fnExactOpOK", fn := fun _ => fun
  | [d] => { results := [.lit (.bool false)], args := [d] }
  | _ => none }
def FnExactOpOKWrongFalsely : Prop := fnExactOpOKRow.holds Try.pinned (OpenSpec.ofChange fnExactOpOKWrong)

/-- 'laws.FnExactLoadRef': WHATEVER THE INPUT: true; the input reads as it did. -/
def fnExactLoadRefSpec : ChangeSpec := { name := "fnExactLoadRef", fn := fun _ => fun
  | [d1, d2] => { results := [.lit (.bool true)], args := [d1, d2] }
  | _ => none }
def fnExactLoadRefRow : OpenClaim := { program := "ytmkgkinhbahlmaa", sum := "51725d568b692224af0de48c5cfe959b8fb69f8a0e86019a2e14d5ae69866699", func := "loop.example/g00737/laws.FnExactLoadRef", spec := "fnExactLoadRef", unfollowed := true, recurses := true, apart := false }
def FnExactLoadRefSaid : Prop := fnExactLoadRefRow.holds Try.pinned (OpenSpec.ofChange fnExactLoadRefSpec)

/-- ITS FALSE NEIGHBOUR: 'it returns false'. Refute it at one input. -/
def fnExactLoadRefWrong : ChangeSpec := { name := "fnExactLoadRef", fn := fun _ => fun
  | [d1, d2] => { results := [.lit (.bool false)], args := [d1, d2] }
  | _ => none }
def FnExactLoadRefWrongFalsely : Prop := fnExactLoadRefRow.holds Try.pinned (OpenSpec.ofChange fnExactLoadRefWrong)

/-- 'laws.FnExactScan': WHATEVER THE INPUT: true; the input reads as it did. -/
def fnExactScanSpec : ChangeSpec := { name := "fnExactScan", fn := fun _ => fun
  | [d1, d2, d3] => { results := [.lit (.bool true)], args := [d1, d2, d3] }
  | _ => none }
def fnExactScanRow : OpenClaim := { program := "ytmkgkinhbahlmaa", sum := "51725d568b692224af0de48c5cfe959b8fb69f8a0e86019a2e14d5ae69866699", func := "loop.example/g00737/laws.FnExactScan", spec := "fnExactScan", unfollowed := true, recurses := true, apart := false }
def FnExactScanSaid : Prop := fnExactScanRow.holds Try.pinned (OpenSpec.ofChange fnExactScanSpec)

/-- ITS FALSE NEIGHBOUR: 'it returns false'. Refute it at one input. -/
def fnExactScanWrong : ChangeSpec := { name := "fnExactScan", fn := fun _ => fun
  | [d1, d2, d3] => { results := [.lit (.bool false)], args := [d1, d2, d3] }
  | _ => none }
def FnExactScanWrongFalsely : Prop := fnExactScanRow.holds Try.pinned (OpenSpec.ofChange fnExactScanWrong)

/-- 'laws.FnExactWishOK': WHATEVER THE INPUT: true; the input reads as it did. -/
def fnExactWishOKSpec : ChangeSpec := { name := "fnExactWishOK", fn := fun _ => fun
  | [d] => { results := [.lit (.bool true)], args := [d] }
  | _ => none }
def fnExactWishOKRow : OpenClaim := { program := "ytmkgkinhbahlmaa", sum := "51725d568b692224af0de48c5cfe959b8fb69f8a0e86019a2e14d5ae69866699", func := "loop.example/g00737/laws.FnExactWishOK", spec := "fnExactWishOK", unfollowed := true, recurses := true, apart := false }
def FnExactWishOKSaid : Prop := fnExactWishOKRow.holds Try.pinned (OpenSpec.ofChange fnExactWishOKSpec)

/-- ITS FALSE NEIGHBOUR: 'it returns false'. Refute it at one input. -/
def fnExactWishOKWrong : ChangeSpec := { name := "fnExactWishOK", fn := fun _ => fun
  | [d] => { results := [.lit (.bool false)], args := [d] }
  | _ => none }
def FnExactWishOKWrongFalsely : Prop := fnExactWishOKRow.holds Try.pinned (OpenSpec.ofChange fnExactWishOKWrong)

/-- 'laws.FnExactDrainWatch': WHATEVER THE INPUT: true; the input reads as it did. -/
def fnExactDrainWatchSpec : ChangeSpec := { name := "fnExactDrainWatch", fn := fun _ => fun
  | [d] => { results := [.lit (.bool true)], args := [d] }
  | _ => none }
def fnExactDrainWatchRow : OpenClaim := { program := "ytmkgkinhbahlmaa", sum := "51725d568b692224af0de48c5cfe959b8fb69f8a0e86019a2e14d5ae69866699", func := "loop.example/g00737/laws.FnExactDrainWatch", spec := "fnExactDrainWatch", unfollowed := true, recurses := true, apart := false }
def FnExactDrainWatchSaid : Prop := fnExactDrainWatchRow.holds Try.pinned (OpenSpec.ofChange fnExactDrainWatchSpec)

/-- ITS FALSE NEIGHBOUR: 'it returns false'. Refute it at one input. -/
def fnExactDrainWatchWrong : ChangeSpec := { name := "fnExactDrainWatch", fn := fun _ => fun
  | [d] => { results := [.lit (.bool false)], args := [d] }
  | _ => none }
def FnExactDrainWatchWrongFalsely : Prop := fnExactDrainWatchRow.holds Try.pinned (OpenSpec.ofChange fnExactDrainWatchWrong)

/-- 'laws.FnExactSameResult': WHATEVER THE INPUT: true; the input reads as it did. -/
def fnExactSameResultSpec : ChangeSpec := { name := "fnExactSameResult", fn := fun _ => fun
  | [d1, d2] => { results := [.lit (.bool true)], args := [d1, d2] }
  | _ => none }
def fnExactSameResultRow : OpenClaim := { program := "ytmkgkinhbahlmaa", sum := "51725d568b692224af0de48c5cfe959b8fb69f8a0e86019a2e14d5ae69866699", func := "loop.example/g00737/laws.FnExactSameResult", spec := "fnExactSameResult", unfollowed := true, recurses := true, apart := false }
def FnExactSameResultSaid : Prop := fnExactSameResultRow.holds Try.pinned (OpenSpec.ofChange fnExactSameResultSpec)

/-- ITS FALSE NEIGHBOUR: 'it returns false'. Refute it at one input. -/
def fnExactSameResultWrong : ChangeSpec := { name := "fnExactSameResult", fn := fun _ => fun
  | [d1, d2] => { results := [.lit (.bool false)], args := [d1, d2] }
  | _ => none }
def FnExactSameResultWrongFalsely : Prop := fnExactSameResultRow.holds Try.pinned (OpenSpec.ofChange fnExactSameResultWrong)

/-- 'laws.FnExactLiveRefs': WHATEVER THE INPUT: true; the input reads as it did. -/
def fnExactLiveRefsSpec : ChangeSpec := { name := "fnExactLiveRefs", fn := fun _ => fun
  | [d] => { results := [.lit (.bool true)], args := [d] }
  | _ => none }
def fnExactLiveRefsRow : OpenClaim := { program := "ytmkgkinhbahlmaa", sum := "51725d568b692224af0de48c5cfe959b8fb69f8a0e86019a2e14d5ae69866699", func := "loop.example/g00737/laws.FnExactLiveRefs", spec := "fnExactLiveRefs", unfollowed := true, recurses := true, apart := false }
def FnExactLiveRefsSaid : Prop := fnExactLiveRefsRow.holds Try.pinned (OpenSpec.ofChange fnExactLiveRefsSpec)

/-- ITS FALSE NEIGHBOUR: 'it returns false'. Refute it at one input. -/
def fnExactLiveRefsWrong : ChangeSpec := { name := "fnExactLiveRefs", fn := fun _ => fun
  | [d] => { results := [.lit (.bool false)], args := [d] }
  | _ => none }
def FnExactLiveRefsWrongFalsely : Prop := fnExactLiveRefsRow.holds Try.pinned (OpenSpec.ofChange fnExactLiveRefsWrong)

/-- 'laws.FnExactStoreOK': WHATEVER THE INPUT: true; the input reads as it did. -/
def fnExactStoreOKSpec : ChangeSpec := { name := "fnExactStoreOK", fn := fun _ => fun
  | [d] => { results := [.lit (.bool true)], args := [d] }
  | _ => none }
def fnExactStoreOKRow : OpenClaim := { program := "ytmkgkinhbahlmaa", sum := "51725d568b692224af0de48c5cfe959b8fb69f8a0e86019a2e14d5ae69866699", func := "loop.example/g00737/laws.FnExactStoreOK", spec := "fnExactStoreOK", unfollowed := true, recurses := true, apart := false }
def FnExactStoreOKSaid : Prop := fnExactStoreOKRow.holds Try.pinned (OpenSpec.ofChange fnExactStoreOKSpec)

/-- ITS FALSE NEIGHBOUR: 'it returns false'. Refute it at one input. -/
def fnExactStoreOKWrong : ChangeSpec := { name := "fnExactStoreOK", fn := fun _ => fun
  | [d] => { results := [.lit (.bool false)], args := [d] }
  | _ => none }
def FnExactStoreOKWrongFalsely : Prop := fnExactStoreOKRow.holds Try.pinned (OpenSpec.ofChange fnExactStoreOKWrong)

/-- 'laws.FnExactEncodeCommit': WHATEVER THE INPUT: true; the input reads as it did. -/
def fnExactEncodeCommitSpec : ChangeSpec := { name := "fnExactEncodeCommit", fn := fun _ => fun
  | [d] => { results := [.lit (.bool true)], args := [d] }
  | _ => none }
def fnExactEncodeCommitRow : OpenClaim := { program := "ytmkgkinhbahlmaa", sum := "51725d568b692224af0de48c5cfe959b8fb69f8a0e86019a2e14d5ae69866699", func := "loop.example/g00737/laws.FnExactEncodeCommit", spec := "fnExactEncodeCommit", unfollowed := true, recurses := true, apart := false }
def FnExactEncodeCommitSaid : Prop := fnExactEncodeCommitRow.holds Try.pinned (OpenSpec.ofChange fnExactEncodeCommitSpec)

/-- ITS FALSE NEIGHBOUR: 'it returns false'. Refute it at one input. -/
def fnExactEncodeCommitWrong : ChangeSpec := { name := "fnExactEncodeCommit", fn := fun _ => fun
  | [d] => { results := [.lit (.bool false)], args := [d] }
  | _ => none }
def FnExactEncodeCommitWrongFalsely : Prop := fnExactEncodeCommitRow.holds Try.pinned (OpenSpec.ofChange fnExactEncodeCommitWrong)

/-- 'laws.FnExactDeleteRef': WHATEVER THE INPUT: true; the input reads as it did. -/
def fnExactDeleteRefSpec : ChangeSpec := { name := "fnExactDeleteRef", fn := fun _ => fun
  | [d1, d2] => { results := [.lit (.bool true)], args := [d1, d2] }
  | _ => none }
def fnExactDeleteRefRow : OpenClaim := { program := "ytmkgkinhbahlmaa", sum := "51725d568b692224af0de48c5cfe959b8fb69f8a0e86019a2e14d5ae69866699", func := "loop.example/g00737/laws.FnExactDeleteRef", spec := "fnExactDeleteRef", unfollowed := true, recurses := true, apart := false }
def FnExactDeleteRefSaid : Prop := fnExactDeleteRefRow.holds Try.pinned (OpenSpec.ofChange fnExactDeleteRefSpec)

/-- ITS FALSE NEIGHBOUR: 'it returns false'. Refute it at one input. -/
def fnExactDeleteRefWrong : ChangeSpec := { name := "fnExactDeleteRef", fn := fun _ => fun
  | [d1, d2] => { results := [.lit (.bool false)], args := [d1, d2] }
  | _ => none }
def FnExactDeleteRefWrongFalsely : Prop := fnExactDeleteRefRow.holds Try.pinned (OpenSpec.ofChange fnExactDeleteRefWrong)

/-- 'laws.FnExactCreateRef': WHATEVER THE INPUT: true; the input reads as it did. -/
def fnExactCreateRefSpec : ChangeSpec := { name := "fnExactCreateRef", fn := fun _ => fun
  | [d1, d2, d3] => { results := [.lit (.bool true)], args := [d1, d2, d3] }
  | _ => none }
def fnExactCreateRefRow : OpenClaim := { program := "ytmkgkinhbahlmaa", sum := "51725d568b692224af0de48c5cfe959b8fb69f8a0e86019a2e14d5ae69866699", func := "loop.example/g00737/laws.FnExactCreateRef", spec := "fnExactCreateRef", unfollowed := true, recurses := true, apart := false }
def FnExactCreateRefSaid : Prop := fnExactCreateRefRow.holds Try.pinned (OpenSpec.ofChange fnExactCreateRefSpec)

/-- ITS FALSE NEIGHBOUR: 'it returns false'. Refute it at one input. -/
def fnExactCreateRefWrong : ChangeSpec := { name := "fnExactCreateRef", fn := fun _ => fun
  | [d1, d2, d3] => { results := [.lit (.bool false)], args := [d1, d2, d3] }
  | _ => none }
def FnExactCreateRefWrongFalsely : Prop := fnExactCreateRefRow.holds Try.pinned (OpenSpec.ofChange fnExactCreateRefWrong)

/-- 'laws.FnExactSwapRef': WHATEVER THE INPUT: true; the input reads as it did. -/
def fnExactSwapRefSpec : ChangeSpec := { name := "fnExactSwapRef", fn := fun _ => fun
  | [d1, d2, d3, d4] => { results := [.lit (.bool true)], args := [d1, d2, d3, d4] }
  | _ => none }
def fnExactSwapRefRow : OpenClaim := { program := "ytmkgkinhbahlmaa", sum := "51725d568b692224af0de48c5cfe959b8fb69f8a0e86019a2e14d5ae69866699", func := "loop.example/g00737/laws.FnExactSwapRef", spec := "fnExactSwapRef", unfollowed := true, recurses := true, apart := false }
def FnExactSwapRefSaid : Prop := fnExactSwapRefRow.holds Try.pinned (OpenSpec.ofChange fnExactSwapRefSpec)

/-- ITS FALSE NEIGHBOUR: 'it returns false'. Refute it at one input. -/
def fnExactSwapRefWrong : ChangeSpec := { name := "fnExactSwapRef", fn := fun _ => fun
  | [d1, d2, d3, d4] => { results := [.lit (.bool false)], args := [d1, d2, d3, d4] }
  | _ => none }
def FnExactSwapRefWrongFalsely : Prop := fnExactSwapRefRow.holds Try.pinned (OpenSpec.ofChange fnExactSwapRefWrong)

/- THE SECOND FORM. 'bulk': how many values and letters a reading holds, each counted each time it is reached (what is shared counts as often as it is met; a slice's spare places count too). A statement '..UptoSaid' is the law's where the arguments, and the package variables that the reading takes, are together of bulk at most 1048576: NARROWER than '..Said'. Prove '..Said' where nothing that the law and all that it calls make is longer than what came in: it says more and counts as full. Else prove '..UptoSaid'. A law counts once. -/
mutual
def uptoBulk {H : Type} : DataW H → Nat
  | .lit (.string bytes) => bytes.length + 1
  | .lit _ => 1
  | .nil => 1
  | .ptr d => uptoBulk d + 1
  | .slice elems spare => uptoBulkAll elems + uptoBulkAll spare + 1
  | .agg parts => uptoBulkAll parts + 1
  | .iface _ d => uptoBulk d + 1
  | .map entries => uptoBulkEntries entries + 1
  | .held _ => 1
def uptoBulkAll {H : Type} : List (DataW H) → Nat
  | [] => 0
  | d :: r => uptoBulk d + uptoBulkAll r
def uptoBulkEntries {H : Type} : List (Lit × DataW H) → Nat
  | [] => 0
  | x :: r => uptoBulkEntry x + uptoBulkEntries r
def uptoBulkEntry {H : Type} : Lit × DataW H → Nat
  | (.string bytes, d) => bytes.length + uptoBulk d + 1
  | (_, d) => uptoBulk d + 1
 end
def uptoSmall : (H : Type) → List (DataW H) → Bool := fun _ ds => decide (uptoBulkAll ds ≤ 1048576)
def OpenSpec.upto (s : _root_.Go.ChangeSpec) : _root_.Go.OpenSpec := { _root_.Go.OpenSpec.ofChange s with cond := some uptoSmall }

/-- 'laws.FnExactTakeNumber', WHERE WHAT IT READS IS OF BULK AT MOST 1048576: true; the input reads as it did. -/
def fnExactTakeNumberUptoRow : OpenClaim := { program := "ytmkgkinhbahlmaa", sum := "51725d568b692224af0de48c5cfe959b8fb69f8a0e86019a2e14d5ae69866699", func := "loop.example/g00737/laws.FnExactTakeNumber", spec := "fnExactTakeNumber", apart := false, narrowed := true }
def FnExactTakeNumberUptoSaid : Prop := fnExactTakeNumberUptoRow.holds Try.pinned (OpenSpec.upto fnExactTakeNumberSpec)

/-- 'laws.FnExactEventsOK', WHERE WHAT IT READS IS OF BULK AT MOST 1048576: true; the input reads as it did. -/
def fnExactEventsOKUptoRow : OpenClaim := { program := "ytmkgkinhbahlmaa", sum := "51725d568b692224af0de48c5cfe959b8fb69f8a0e86019a2e14d5ae69866699", func := "loop.example/g00737/laws.FnExactEventsOK", spec := "fnExactEventsOK", apart := false, narrowed := true }
def FnExactEventsOKUptoSaid : Prop := fnExactEventsOKUptoRow.holds Try.pinned (OpenSpec.upto fnExactEventsOKSpec)

/-- 'laws.FnExactEditsOK', WHERE WHAT IT READS IS OF BULK AT MOST 1048576: true; the input reads as it did. -/
def fnExactEditsOKUptoRow : OpenClaim := { program := "ytmkgkinhbahlmaa", sum := "51725d568b692224af0de48c5cfe959b8fb69f8a0e86019a2e14d5ae69866699", func := "loop.example/g00737/laws.FnExactEditsOK", spec := "fnExactEditsOK", unfollowed := true, recurses := true, apart := false, narrowed := true }
def FnExactEditsOKUptoSaid : Prop := fnExactEditsOKUptoRow.holds Try.pinned (OpenSpec.upto fnExactEditsOKSpec)

/-- 'laws.FnExactSameMap', WHERE WHAT IT READS IS OF BULK AT MOST 1048576: true; the input reads as it did. -/
def fnExactSameMapUptoRow : OpenClaim := { program := "ytmkgkinhbahlmaa", sum := "51725d568b692224af0de48c5cfe959b8fb69f8a0e86019a2e14d5ae69866699", func := "loop.example/g00737/laws.FnExactSameMap", spec := "fnExactSameMap", unfollowed := true, recurses := true, apart := false, narrowed := true }
def FnExactSameMapUptoSaid : Prop := fnExactSameMapUptoRow.holds Try.pinned (OpenSpec.upto fnExactSameMapSpec)

/-- 'laws.FnExactRefsOK', WHERE WHAT IT READS IS OF BULK AT MOST 1048576: true; the input reads as it did. -/
def fnExactRefsOKUptoRow : OpenClaim := { program := "ytmkgkinhbahlmaa", sum := "51725d568b692224af0de48c5cfe959b8fb69f8a0e86019a2e14d5ae69866699", func := "loop.example/g00737/laws.FnExactRefsOK", spec := "fnExactRefsOK", unfollowed := true, recurses := true, apart := false, narrowed := true }
def FnExactRefsOKUptoSaid : Prop := fnExactRefsOKUptoRow.holds Try.pinned (OpenSpec.upto fnExactRefsOKSpec)

/-- 'laws.FnExactWatchOK', WHERE WHAT IT READS IS OF BULK AT MOST 1048576: true; the input reads as it did. -/
def fnExactWatchOKUptoRow : OpenClaim := { program := "ytmkgkinhbahlmaa", sum := "51725d568b692224af0de48c5cfe959b8fb69f8a0e86019a2e14d5ae69866699", func := "loop.example/g00737/laws.FnExactWatchOK", spec := "fnExactWatchOK", unfollowed := true, recurses := true, apart := false, narrowed := true }
def FnExactWatchOKUptoSaid : Prop := fnExactWatchOKUptoRow.holds Try.pinned (OpenSpec.upto fnExactWatchOKSpec)

/-- 'laws.FnExactSameWatch', WHERE WHAT IT READS IS OF BULK AT MOST 1048576: true; the input reads as it did. -/
def fnExactSameWatchUptoRow : OpenClaim := { program := "ytmkgkinhbahlmaa", sum := "51725d568b692224af0de48c5cfe959b8fb69f8a0e86019a2e14d5ae69866699", func := "loop.example/g00737/laws.FnExactSameWatch", spec := "fnExactSameWatch", unfollowed := true, recurses := true, apart := false, narrowed := true }
def FnExactSameWatchUptoSaid : Prop := fnExactSameWatchUptoRow.holds Try.pinned (OpenSpec.upto fnExactSameWatchSpec)

/-- 'laws.FnExactGet', WHERE WHAT IT READS IS OF BULK AT MOST 1048576: true; the input reads as it did. -/
def fnExactGetUptoRow : OpenClaim := { program := "ytmkgkinhbahlmaa", sum := "51725d568b692224af0de48c5cfe959b8fb69f8a0e86019a2e14d5ae69866699", func := "loop.example/g00737/laws.FnExactGet", spec := "fnExactGet", inPlace := ["internal/bytealg.abigen_runtime_cmpstring"], unfollowed := true, recurses := true, apart := false, narrowed := true }
def FnExactGetUptoSaid : Prop := fnExactGetUptoRow.holds Try.pinned (OpenSpec.upto fnExactGetSpec)

/-- 'laws.FnExactOpOK', WHERE WHAT IT READS IS OF BULK AT MOST 1048576: true; the input reads as it did. -/
def fnExactOpOKUptoRow : OpenClaim := { program := "ytmkgkinhbahlmaa", sum := "51725d568b692224af0de48c5cfe959b8fb69f8a0e86019a2e14d5ae69866699", func := "loop.example/g00737/laws.FnExactOpOK", spec := "fnExactOpOK", unfollowed := true, recurses := true, apart := false, narrowed := true }
def FnExactOpOKUptoSaid : Prop := fnExactOpOKUptoRow.holds Try.pinned (OpenSpec.upto fnExactOpOKSpec)

/-- 'laws.FnExactLoadRef', WHERE WHAT IT READS IS OF BULK AT MOST 1048576: true; the input reads as it did. -/
def fnExactLoadRefUptoRow : OpenClaim := { program := "ytmkgkinhbahlmaa", sum := "51725d568b692224af0de48c5cfe959b8fb69f8a0e86019a2e14d5ae69866699", func := "loop.example/g00737/laws.FnExactLoadRef", spec := "fnExactLoadRef", unfollowed := true, recurses := true, apart := false, narrowed := true }
def FnExactLoadRefUptoSaid : Prop := fnExactLoadRefUptoRow.holds Try.pinned (OpenSpec.upto fnExactLoadRefSpec)

/-- 'laws.FnExactScan', WHERE WHAT IT READS IS OF BULK AT MOST 1048576: true; the input reads as it did. -/
def fnExactScanUptoRow : OpenClaim := { program := "ytmkgkinhbahlmaa", sum := "51725d568b692224af0de48c5cfe959b8fb69f8a0e86019a2e14d5ae69866699", func := "loop.example/g00737/laws.FnExactScan", spec := "fnExactScan", unfollowed := true, recurses := true, apart := false, narrowed := true }
def FnExactScanUptoSaid : Prop := fnExactScanUptoRow.holds Try.pinned (OpenSpec.upto fnExactScanSpec)

/-- 'laws.FnExactWishOK', WHERE WHAT IT READS IS OF BULK AT MOST 1048576: true; the input reads as it did. -/
def fnExactWishOKUptoRow : OpenClaim := { program := "ytmkgkinhbahlmaa", sum := "51725d568b692224af0de48c5cfe959b8fb69f8a0e86019a2e14d5ae69866699", func := "loop.example/g00737/laws.FnExactWishOK", spec := "fnExactWishOK", unfollowed := true, recurses := true, apart := false, narrowed := true }
def FnExactWishOKUptoSaid : Prop := fnExactWishOKUptoRow.holds Try.pinned (OpenSpec.upto fnExactWishOKSpec)

/-- 'laws.FnExactDrainWatch', WHERE WHAT IT READS IS OF BULK AT MOST 1048576: true; the input reads as it did. -/
def fnExactDrainWatchUptoRow : OpenClaim := { program := "ytmkgkinhbahlmaa", sum := "51725d568b692224af0de48c5cfe959b8fb69f8a0e86019a2e14d5ae69866699", func := "loop.example/g00737/laws.FnExactDrainWatch", spec := "fnExactDrainWatch", unfollowed := true, recurses := true, apart := false, narrowed := true }
def FnExactDrainWatchUptoSaid : Prop := fnExactDrainWatchUptoRow.holds Try.pinned (OpenSpec.upto fnExactDrainWatchSpec)

/-- 'laws.FnExactSameResult', WHERE WHAT IT READS IS OF BULK AT MOST 1048576: true; the input reads as it did. -/
def fnExactSameResultUptoRow : OpenClaim := { program := "ytmkgkinhbahlmaa", sum := "51725d568b692224af0de48c5cfe959b8fb69f8a0e86019a2e14d5ae69866699", func := "loop.example/g00737/laws.FnExactSameResult", spec := "fnExactSameResult", unfollowed := true, recurses := true, apart := false, narrowed := true }
def FnExactSameResultUptoSaid : Prop := fnExactSameResultUptoRow.holds Try.pinned (OpenSpec.upto fnExactSameResultSpec)

/-- 'laws.FnExactLiveRefs', WHERE WHAT IT READS IS OF BULK AT MOST 1048576: true; the input reads as it did. -/
def fnExactLiveRefsUptoRow : OpenClaim := { program := "ytmkgkinhbahlmaa", sum := "51725d568b692224af0de48c5cfe959b8fb69f8a0e86019a2e14d5ae69866699", func := "loop.example/g00737/laws.FnExactLiveRefs", spec := "fnExactLiveRefs", unfollowed := true, recurses := true, apart := false, narrowed := true }
def FnExactLiveRefsUptoSaid : Prop := fnExactLiveRefsUptoRow.holds Try.pinned (OpenSpec.upto fnExactLiveRefsSpec)

/-- 'laws.FnExactStoreOK', WHERE WHAT IT READS IS OF BULK AT MOST 1048576: true; the input reads as it did. -/
def fnExactStoreOKUptoRow : OpenClaim := { program := "ytmkgkinhbahlmaa", sum := "51725d568b692224af0de48c5cfe959b8fb69f8a0e86019a2e14d5ae69866699", func := "loop.example/g00737/laws.FnExactStoreOK", spec := "fnExactStoreOK", unfollowed := true, recurses := true, apart := false, narrowed := true }
def FnExactStoreOKUptoSaid : Prop := fnExactStoreOKUptoRow.holds Try.pinned (OpenSpec.upto fnExactStoreOKSpec)

/-- 'laws.FnExactEncodeCommit', WHERE WHAT IT READS IS OF BULK AT MOST 1048576: true; the input reads as it did. -/
def fnExactEncodeCommitUptoRow : OpenClaim := { program := "ytmkgkinhbahlmaa", sum := "51725d568b692224af0de48c5cfe959b8fb69f8a0e86019a2e14d5ae69866699", func := "loop.example/g00737/laws.FnExactEncodeCommit", spec := "fnExactEncodeCommit", unfollowed := true, recurses := true, apart := false, narrowed := true }
def FnExactEncodeCommitUptoSaid : Prop := fnExactEncodeCommitUptoRow.holds Try.pinned (OpenSpec.upto fnExactEncodeCommitSpec)

/-- 'laws.FnExactDeleteRef', WHERE WHAT IT READS IS OF BULK AT MOST 1048576: true; the input reads as it did. -/
def fnExactDeleteRefUptoRow : OpenClaim := { program := "ytmkgkinhbahlmaa", sum := "51725d568b692224af0de48c5cfe959b8fb69f8a0e86019a2e14d5ae69866699", func := "loop.example/g00737/laws.FnExactDeleteRef", spec := "fnExactDeleteRef", unfollowed := true, recurses := true, apart := false, narrowed := true }
def FnExactDeleteRefUptoSaid : Prop := fnExactDeleteRefUptoRow.holds Try.pinned (OpenSpec.upto fnExactDeleteRefSpec)

/-- 'laws.FnExactCreateRef', WHERE WHAT IT READS IS OF BULK AT MOST 1048576: true; the input reads as it did. -/
def fnExactCreateRefUptoRow : OpenClaim := { program := "ytmkgkinhbahlmaa", sum := "51725d568b692224af0de48c5cfe959b8fb69f8a0e86019a2e14d5ae69866699", func := "loop.example/g00737/laws.FnExactCreateRef", spec := "fnExactCreateRef", unfollowed := true, recurses := true, apart := false, narrowed := true }
def FnExactCreateRefUptoSaid : Prop := fnExactCreateRefUptoRow.holds Try.pinned (OpenSpec.upto fnExactCreateRefSpec)

/-- 'laws.FnExactSwapRef', WHERE WHAT IT READS IS OF BULK AT MOST 1048576: true; the input reads as it did. -/
def fnExactSwapRefUptoRow : OpenClaim := { program := "ytmkgkinhbahlmaa", sum := "51725d568b692224af0de48c5cfe959b8fb69f8a0e86019a2e14d5ae69866699", func := "loop.example/g00737/laws.FnExactSwapRef", spec := "fnExactSwapRef", unfollowed := true, recurses := true, apart := false, narrowed := true }
def FnExactSwapRefUptoSaid : Prop := fnExactSwapRefUptoRow.holds Try.pinned (OpenSpec.upto fnExactSwapRefSpec)

end Rows
end Go.Proofs.Ytmkgkinhbahlmaa
