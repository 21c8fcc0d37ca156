/-
  No cell of these rows narrows 'for every input' (looked for: loops, veiled, ifaces, maps, wideKeys, modest, calm, conditions, laid).
  DERIVED. THE GIVEN ROWS OF THIS SEAT. 29 by the template 'for every input the law returns true; each argument reads behind the call as it read before'; 0 by the template 'total and deterministic' (their statements: YtgpkbldlkadnjaaTotals.lean).
  GIVEN WITH THE SEED: the statements are not yours to turn. If you find one false, say at which input.
  Laid BY PROGRAM, IN A SANDBOX (cutbox-rows.mjs): the forced cells as the released guide's own fill.sh prints them over the translation f2bea8a5b50585f8… (all of the seat's roots in one cut). By AI agents, Wed Nov 11 2026. No macro, syntax, notation, axiom, sorry.
-/
import Derived.Test.YtgpkbldlkadnjaaChecked
import GoSem.Claim
import GoSem.ClaimJoined
import GoSem.ClaimMapViews
import Derived.JoinedTies
import Derived.KernelRfl
namespace Go.Proofs.Ytgpkbldlkadnjaa
/- THE CELL 'sum', in the pinned program and in every row, IS THE sha256 OF THE DUMP (.gsa) THAT YtgpkbldlkadnjaaProg.lean LOADS. Nothing in Lean hashes anything: it is a label: what it is worth is what the hold of that sum in a sandbox is worth. -/
noncomputable def Try.pinned : Pinned := { name := "ytgpkbldlkadnjaa", sum := "f2bea8a5b50585f87d90234d0881a1f6450e2980157b2bb44d3203e7d3c1a3d7", checked := Try.checked }
namespace Rows
def none {H : Type} : Left H := { results := [], args := [] }

/-- 'shardloglaw04.MatrixProducts': WHATEVER THE INPUT: true; the input reads as it did. -/
def matrixProductsSpec : ChangeSpec := { name := "matrixProducts", fn := fun _ => fun
  | [d1, d2] => { results := [.lit (.bool true)], args := [d1, d2] }
  | _ => none }
def matrixProductsRow : OpenClaim := { program := "ytgpkbldlkadnjaa", sum := "f2bea8a5b50585f87d90234d0881a1f6450e2980157b2bb44d3203e7d3c1a3d7", func := "shardlog/shardloglaw04.MatrixProducts", spec := "matrixProducts", unfollowed := true, recurses := true, apart := false }
def MatrixProductsSaid : Prop := matrixProductsRow.holds Try.pinned (OpenSpec.ofChange matrixProductsSpec)

/-- ITS FALSE NEIGHBOUR: 'it returns false'. Refute it at one input. -/
def matrixProductsWrong : ChangeSpec := { name := "matrixProducts", fn := fun _ => fun
  | [d1, d2] => { results := [.lit (.bool false)], args := [d1, d2] }
  | _ => none }
def MatrixProductsWrongFalsely : Prop := matrixProductsRow.holds Try.pinned (OpenSpec.ofChange matrixProductsWrong)

/-- 'shardloglaw04.MatrixBack': WHATEVER THE INPUT: true; the input reads as it did. -/
def matrixBackSpec : ChangeSpec := { name := "matrixBack", fn := fun _ => fun
  | [d] => { results := [.lit (.bool true)], args := [d] }
  | _ => none }
def matrixBackRow : OpenClaim := { program := "ytgpkbldlkadnjaa", sum := "f2bea8a5b50585f87d90234d0881a1f6450e2980157b2bb44d3203e7d3c1a3d7", func := "shardlog/shardloglaw04.MatrixBack", spec := "matrixBack", unfollowed := true, recurses := true, apart := false }
def MatrixBackSaid : Prop := matrixBackRow.holds Try.pinned (OpenSpec.ofChange matrixBackSpec)

/-- ITS FALSE NEIGHBOUR: 'it returns false'. Refute it at one input. -/
def matrixBackWrong : ChangeSpec := { name := "matrixBack", fn := fun _ => fun
  | [d] => { results := [.lit (.bool false)], args := [d] }
  | _ => none }
def MatrixBackWrongFalsely : Prop := matrixBackRow.holds Try.pinned (OpenSpec.ofChange matrixBackWrong)

/-- 'shardloglaw04.MatrixCodes': WHATEVER THE INPUT: true; the input reads as it did. -/
def matrixCodesSpec : ChangeSpec := { name := "matrixCodes", fn := fun _ => fun
  | [d1, d2, d3] => { results := [.lit (.bool true)], args := [d1, d2, d3] }
  | _ => none }
def matrixCodesRow : OpenClaim := { program := "ytgpkbldlkadnjaa", sum := "f2bea8a5b50585f87d90234d0881a1f6450e2980157b2bb44d3203e7d3c1a3d7", func := "shardlog/shardloglaw04.MatrixCodes", spec := "matrixCodes", unfollowed := true, recurses := true, apart := false }
def MatrixCodesSaid : Prop := matrixCodesRow.holds Try.pinned (OpenSpec.ofChange matrixCodesSpec)

/-- ITS FALSE NEIGHBOUR: 'it returns false'. Refute it at one input. -/
def matrixCodesWrong : ChangeSpec := { name := "matrixCodes", fn := fun _ => fun
  | [d1, d2, d3] => { results := [.lit (.bool false)], args := [d1, d2, d3] }
  | _ => none }
def MatrixCodesWrongFalsely : Prop := matrixCodesRow.holds Try.pinned (OpenSpec.ofChange matrixCodesWrong)

/-- 'shardloglaw04.MatrixAny': WHATEVER THE INPUT: true; the input reads as it did. -/
def matrixAnySpec : ChangeSpec := { name := "matrixAny", fn := fun _ => fun
  | [d1, d2, d3] => { results := [.lit (.bool true)], args := [d1, d2, d3] }
  | _ => none }
def matrixAnyRow : OpenClaim := { program := "ytgpkbldlkadnjaa", sum := "f2bea8a5b50585f87d90234d0881a1f6450e2980157b2bb44d3203e7d3c1a3d7", func := "shardlog/shardloglaw04.MatrixAny", spec := "matrixAny", unfollowed := true, recurses := true, apart := false }
def MatrixAnySaid : Prop := matrixAnyRow.holds Try.pinned (OpenSpec.ofChange matrixAnySpec)

/-- ITS FALSE NEIGHBOUR: 'it returns false'. Refute it at one input. -/
def matrixAnyWrong : ChangeSpec := { name := "matrixAny", fn := fun _ => fun
  | [d1, d2, d3] => { results := [.lit (.bool false)], args := [d1, d2, d3] }
  | _ => none }
def MatrixAnyWrongFalsely : Prop := matrixAnyRow.holds Try.pinned (OpenSpec.ofChange matrixAnyWrong)

/-- 'shardloglaw04.MatrixKeeps': WHATEVER THE INPUT: true; the input reads as it did. -/
def matrixKeepsSpec : ChangeSpec := { name := "matrixKeeps", fn := fun _ => fun
  | [d] => { results := [.lit (.bool true)], args := [d] }
  | _ => none }
def matrixKeepsRow : OpenClaim := { program := "ytgpkbldlkadnjaa", sum := "f2bea8a5b50585f87d90234d0881a1f6450e2980157b2bb44d3203e7d3c1a3d7", func := "shardlog/shardloglaw04.MatrixKeeps", spec := "matrixKeeps", unfollowed := true, recurses := true, apart := false }
def MatrixKeepsSaid : Prop := matrixKeepsRow.holds Try.pinned (OpenSpec.ofChange matrixKeepsSpec)

/-- ITS FALSE NEIGHBOUR: 'it returns false'. Refute it at one input. -/
def matrixKeepsWrong : ChangeSpec := { name := "matrixKeeps", fn := fun _ => fun
  | [d] => { results := [.lit (.bool false)], args := [d] }
  | _ => none }
def MatrixKeepsWrongFalsely : Prop := matrixKeepsRow.holds Try.pinned (OpenSpec.ofChange matrixKeepsWrong)

/-- 'shardloglaw04.MatrixTimes': WHATEVER THE INPUT: true; the input reads as it did. -/
def matrixTimesSpec : ChangeSpec := { name := "matrixTimes", fn := fun _ => fun
  | [d1, d2, d3] => { results := [.lit (.bool true)], args := [d1, d2, d3] }
  | _ => none }
def matrixTimesRow : OpenClaim := { program := "ytgpkbldlkadnjaa", sum := "f2bea8a5b50585f87d90234d0881a1f6450e2980157b2bb44d3203e7d3c1a3d7", func := "shardlog/shardloglaw04.MatrixTimes", spec := "matrixTimes", unfollowed := true, recurses := true, apart := false }
def MatrixTimesSaid : Prop := matrixTimesRow.holds Try.pinned (OpenSpec.ofChange matrixTimesSpec)

/-- ITS FALSE NEIGHBOUR: 'it returns false'. Refute it at one input. -/
def matrixTimesWrong : ChangeSpec := { name := "matrixTimes", fn := fun _ => fun
  | [d1, d2, d3] => { results := [.lit (.bool false)], args := [d1, d2, d3] }
  | _ => none }
def MatrixTimesWrongFalsely : Prop := matrixTimesRow.holds Try.pinned (OpenSpec.ofChange matrixTimesWrong)

/-- 'shardloglaw05.CodeEncodes': WHATEVER THE INPUT: true; the input reads as it did. -/
def codeEncodesSpec : ChangeSpec := { name := "codeEncodes", fn := fun _ => fun
  | [d1, d2] => { results := [.lit (.bool true)], args := [d1, d2] }
  | _ => none }
def codeEncodesRow : OpenClaim := { program := "ytgpkbldlkadnjaa", sum := "f2bea8a5b50585f87d90234d0881a1f6450e2980157b2bb44d3203e7d3c1a3d7", func := "shardlog/shardloglaw05.CodeEncodes", spec := "codeEncodes", unfollowed := true, recurses := true, apart := false }
def CodeEncodesSaid : Prop := codeEncodesRow.holds Try.pinned (OpenSpec.ofChange codeEncodesSpec)

/-- ITS FALSE NEIGHBOUR: 'it returns false'. Refute it at one input. -/
def codeEncodesWrong : ChangeSpec := { name := "codeEncodes", fn := fun _ => fun
  | [d1, d2] => { results := [.lit (.bool false)], args := [d1, d2] }
  | _ => none }
def CodeEncodesWrongFalsely : Prop := codeEncodesRow.holds Try.pinned (OpenSpec.ofChange codeEncodesWrong)

/-- 'shardloglaw05.CodeAny': WHATEVER THE INPUT: true; the input reads as it did. -/
def codeAnySpec : ChangeSpec := { name := "codeAny", fn := fun _ => fun
  | [d1, d2, d3, d4] => { results := [.lit (.bool true)], args := [d1, d2, d3, d4] }
  | _ => none }
def codeAnyRow : OpenClaim := { program := "ytgpkbldlkadnjaa", sum := "f2bea8a5b50585f87d90234d0881a1f6450e2980157b2bb44d3203e7d3c1a3d7", func := "shardlog/shardloglaw05.CodeAny", spec := "codeAny", unfollowed := true, recurses := true, apart := false }
def CodeAnySaid : Prop := codeAnyRow.holds Try.pinned (OpenSpec.ofChange codeAnySpec)

/-- ITS FALSE NEIGHBOUR: 'it returns false'. Refute it at one input. -/
def codeAnyWrong : ChangeSpec := { name := "codeAny", fn := fun _ => fun
  | [d1, d2, d3, d4] => { results := [.lit (.bool false)], args := [d1, d2, d3, d4] }
  | _ => none }
def CodeAnyWrongFalsely : Prop := codeAnyRow.holds Try.pinned (OpenSpec.ofChange codeAnyWrong)

/-- 'shardloglaw05.CodeDecodes': WHATEVER THE INPUT: true; the input reads as it did. -/
def codeDecodesSpec : ChangeSpec := { name := "codeDecodes", fn := fun _ => fun
  | [d1, d2] => { results := [.lit (.bool true)], args := [d1, d2] }
  | _ => none }
def codeDecodesRow : OpenClaim := { program := "ytgpkbldlkadnjaa", sum := "f2bea8a5b50585f87d90234d0881a1f6450e2980157b2bb44d3203e7d3c1a3d7", func := "shardlog/shardloglaw05.CodeDecodes", spec := "codeDecodes", unfollowed := true, recurses := true, apart := false }
def CodeDecodesSaid : Prop := codeDecodesRow.holds Try.pinned (OpenSpec.ofChange codeDecodesSpec)

/-- ITS FALSE NEIGHBOUR: 'it returns false'. Refute it at one input. -/
def codeDecodesWrong : ChangeSpec := { name := "codeDecodes", fn := fun _ => fun
  | [d1, d2] => { results := [.lit (.bool false)], args := [d1, d2] }
  | _ => none }
def CodeDecodesWrongFalsely : Prop := codeDecodesRow.holds Try.pinned (OpenSpec.ofChange codeDecodesWrong)

/-- 'shardloglaw05.CodeTurned': WHATEVER THE INPUT: true; the input reads as it did. -/
def codeTurnedSpec : ChangeSpec := { name := "codeTurned", fn := fun _ => fun
  | [d1, d2, d3, d4, d5, d6] => { results := [.lit (.bool true)], args := [d1, d2, d3, d4, d5, d6] }
  | _ => none }
def codeTurnedRow : OpenClaim := { program := "ytgpkbldlkadnjaa", sum := "f2bea8a5b50585f87d90234d0881a1f6450e2980157b2bb44d3203e7d3c1a3d7", func := "shardlog/shardloglaw05.CodeTurned", spec := "codeTurned", unfollowed := true, recurses := true, apart := false }
def CodeTurnedSaid : Prop := codeTurnedRow.holds Try.pinned (OpenSpec.ofChange codeTurnedSpec)

/-- ITS FALSE NEIGHBOUR: 'it returns false'. Refute it at one input. -/
def codeTurnedWrong : ChangeSpec := { name := "codeTurned", fn := fun _ => fun
  | [d1, d2, d3, d4, d5, d6] => { results := [.lit (.bool false)], args := [d1, d2, d3, d4, d5, d6] }
  | _ => none }
def CodeTurnedWrongFalsely : Prop := codeTurnedRow.holds Try.pinned (OpenSpec.ofChange codeTurnedWrong)

/-- 'shardloglaw05.CodeKeeps': WHATEVER THE INPUT: true; the input reads as it did. -/
def codeKeepsSpec : ChangeSpec := { name := "codeKeeps", fn := fun _ => fun
  | [d1, d2, d3] => { results := [.lit (.bool true)], args := [d1, d2, d3] }
  | _ => none }
def codeKeepsRow : OpenClaim := { program := "ytgpkbldlkadnjaa", sum := "f2bea8a5b50585f87d90234d0881a1f6450e2980157b2bb44d3203e7d3c1a3d7", func := "shardlog/shardloglaw05.CodeKeeps", spec := "codeKeeps", unfollowed := true, recurses := true, apart := false }
def CodeKeepsSaid : Prop := codeKeepsRow.holds Try.pinned (OpenSpec.ofChange codeKeepsSpec)

/-- ITS FALSE NEIGHBOUR: 'it returns false'. Refute it at one input. -/
def codeKeepsWrong : ChangeSpec := { name := "codeKeeps", fn := fun _ => fun
  | [d1, d2, d3] => { results := [.lit (.bool false)], args := [d1, d2, d3] }
  | _ => none }
def CodeKeepsWrongFalsely : Prop := codeKeepsRow.holds Try.pinned (OpenSpec.ofChange codeKeepsWrong)

/-- 'shardloglaw05.CodeMixed': WHATEVER THE INPUT: true; the input reads as it did. -/
def codeMixedSpec : ChangeSpec := { name := "codeMixed", fn := fun _ => fun
  | [d1, d2, d3] => { results := [.lit (.bool true)], args := [d1, d2, d3] }
  | _ => none }
def codeMixedRow : OpenClaim := { program := "ytgpkbldlkadnjaa", sum := "f2bea8a5b50585f87d90234d0881a1f6450e2980157b2bb44d3203e7d3c1a3d7", func := "shardlog/shardloglaw05.CodeMixed", spec := "codeMixed", unfollowed := true, recurses := true, apart := false }
def CodeMixedSaid : Prop := codeMixedRow.holds Try.pinned (OpenSpec.ofChange codeMixedSpec)

/-- ITS FALSE NEIGHBOUR: 'it returns false'. Refute it at one input. -/
def codeMixedWrong : ChangeSpec := { name := "codeMixed", fn := fun _ => fun
  | [d1, d2, d3] => { results := [.lit (.bool false)], args := [d1, d2, d3] }
  | _ => none }
def CodeMixedWrongFalsely : Prop := codeMixedRow.holds Try.pinned (OpenSpec.ofChange codeMixedWrong)

/-- 'shardloglaw07.DiskKeeps': WHATEVER THE INPUT: true; the input reads as it did. -/
def diskKeepsSpec : ChangeSpec := { name := "diskKeeps", fn := fun _ => fun
  | [d] => { results := [.lit (.bool true)], args := [d] }
  | _ => none }
def diskKeepsRow : OpenClaim := { program := "ytgpkbldlkadnjaa", sum := "f2bea8a5b50585f87d90234d0881a1f6450e2980157b2bb44d3203e7d3c1a3d7", func := "shardlog/shardloglaw07.DiskKeeps", spec := "diskKeeps", unfollowed := true, recurses := true, apart := false }
def DiskKeepsSaid : Prop := diskKeepsRow.holds Try.pinned (OpenSpec.ofChange diskKeepsSpec)

/-- ITS FALSE NEIGHBOUR: 'it returns false'. Refute it at one input. -/
def diskKeepsWrong : ChangeSpec := { name := "diskKeeps", fn := fun _ => fun
  | [d] => { results := [.lit (.bool false)], args := [d] }
  | _ => none }
def DiskKeepsWrongFalsely : Prop := diskKeepsRow.holds Try.pinned (OpenSpec.ofChange diskKeepsWrong)

/-- 'shardloglaw07.DiskActs': WHATEVER THE INPUT: true; the input reads as it did. -/
def diskActsSpec : ChangeSpec := { name := "diskActs", fn := fun _ => fun
  | [d1, d2] => { results := [.lit (.bool true)], args := [d1, d2] }
  | _ => none }
def diskActsRow : OpenClaim := { program := "ytgpkbldlkadnjaa", sum := "f2bea8a5b50585f87d90234d0881a1f6450e2980157b2bb44d3203e7d3c1a3d7", func := "shardlog/shardloglaw07.DiskActs", spec := "diskActs", unfollowed := true, recurses := true, apart := false }
def DiskActsSaid : Prop := diskActsRow.holds Try.pinned (OpenSpec.ofChange diskActsSpec)

/-- ITS FALSE NEIGHBOUR: 'it returns false'. Refute it at one input. -/
def diskActsWrong : ChangeSpec := { name := "diskActs", fn := fun _ => fun
  | [d1, d2] => { results := [.lit (.bool false)], args := [d1, d2] }
  | _ => none }
def DiskActsWrongFalsely : Prop := diskActsRow.holds Try.pinned (OpenSpec.ofChange diskActsWrong)

/-- 'shardloglaw07.DiskSynced': WHATEVER THE INPUT: true; the input reads as it did. -/
def diskSyncedSpec : ChangeSpec := { name := "diskSynced", fn := fun _ => fun
  | [d1, d2] => { results := [.lit (.bool true)], args := [d1, d2] }
  | _ => none }
def diskSyncedRow : OpenClaim := { program := "ytgpkbldlkadnjaa", sum := "f2bea8a5b50585f87d90234d0881a1f6450e2980157b2bb44d3203e7d3c1a3d7", func := "shardlog/shardloglaw07.DiskSynced", spec := "diskSynced", unfollowed := true, recurses := true, apart := false }
def DiskSyncedSaid : Prop := diskSyncedRow.holds Try.pinned (OpenSpec.ofChange diskSyncedSpec)

/-- ITS FALSE NEIGHBOUR: 'it returns false'. Refute it at one input. -/
def diskSyncedWrong : ChangeSpec := { name := "diskSynced", fn := fun _ => fun
  | [d1, d2] => { results := [.lit (.bool false)], args := [d1, d2] }
  | _ => none }
def DiskSyncedWrongFalsely : Prop := diskSyncedRow.holds Try.pinned (OpenSpec.ofChange diskSyncedWrong)

/-- 'shardloglaw20.NetOrder': WHATEVER THE INPUT: true; the input reads as it did. -/
def netOrderSpec : ChangeSpec := { name := "netOrder", fn := fun _ => fun
  | [d] => { results := [.lit (.bool true)], args := [d] }
  | _ => none }
def netOrderRow : OpenClaim := { program := "ytgpkbldlkadnjaa", sum := "f2bea8a5b50585f87d90234d0881a1f6450e2980157b2bb44d3203e7d3c1a3d7", func := "shardlog/shardloglaw20.NetOrder", spec := "netOrder", unfollowed := true, recurses := true, apart := false }
def NetOrderSaid : Prop := netOrderRow.holds Try.pinned (OpenSpec.ofChange netOrderSpec)

/-- ITS FALSE NEIGHBOUR: 'it returns false'. Refute it at one input. -/
def netOrderWrong : ChangeSpec := { name := "netOrder", fn := fun _ => fun
  | [d] => { results := [.lit (.bool false)], args := [d] }
  | _ => none }
def NetOrderWrongFalsely : Prop := netOrderRow.holds Try.pinned (OpenSpec.ofChange netOrderWrong)

/-- 'shardloglaw20.NetFull': WHATEVER THE INPUT: true; the input reads as it did. -/
def netFullSpec : ChangeSpec := { name := "netFull", fn := fun _ => fun
  | [d1, d2] => { results := [.lit (.bool true)], args := [d1, d2] }
  | _ => none }
def netFullRow : OpenClaim := { program := "ytgpkbldlkadnjaa", sum := "f2bea8a5b50585f87d90234d0881a1f6450e2980157b2bb44d3203e7d3c1a3d7", func := "shardlog/shardloglaw20.NetFull", spec := "netFull", unfollowed := true, recurses := true, apart := false }
def NetFullSaid : Prop := netFullRow.holds Try.pinned (OpenSpec.ofChange netFullSpec)

/-- ITS FALSE NEIGHBOUR: 'it returns false'. Refute it at one input. -/
def netFullWrong : ChangeSpec := { name := "netFull", fn := fun _ => fun
  | [d1, d2] => { results := [.lit (.bool false)], args := [d1, d2] }
  | _ => none }
def NetFullWrongFalsely : Prop := netFullRow.holds Try.pinned (OpenSpec.ofChange netFullWrong)

/-- 'shardloglaw20.NetKeeps': WHATEVER THE INPUT: true; the input reads as it did. -/
def netKeepsSpec : ChangeSpec := { name := "netKeeps", fn := fun _ => fun
  | [d] => { results := [.lit (.bool true)], args := [d] }
  | _ => none }
def netKeepsRow : OpenClaim := { program := "ytgpkbldlkadnjaa", sum := "f2bea8a5b50585f87d90234d0881a1f6450e2980157b2bb44d3203e7d3c1a3d7", func := "shardlog/shardloglaw20.NetKeeps", spec := "netKeeps", unfollowed := true, recurses := true, apart := false }
def NetKeepsSaid : Prop := netKeepsRow.holds Try.pinned (OpenSpec.ofChange netKeepsSpec)

/-- ITS FALSE NEIGHBOUR: 'it returns false'. Refute it at one input. -/
def netKeepsWrong : ChangeSpec := { name := "netKeeps", fn := fun _ => fun
  | [d] => { results := [.lit (.bool false)], args := [d] }
  | _ => none }
def NetKeepsWrongFalsely : Prop := netKeepsRow.holds Try.pinned (OpenSpec.ofChange netKeepsWrong)

/-- 'shardloglaw20.NetActs': WHATEVER THE INPUT: true; the input reads as it did. -/
def netActsSpec : ChangeSpec := { name := "netActs", fn := fun _ => fun
  | [d] => { results := [.lit (.bool true)], args := [d] }
  | _ => none }
def netActsRow : OpenClaim := { program := "ytgpkbldlkadnjaa", sum := "f2bea8a5b50585f87d90234d0881a1f6450e2980157b2bb44d3203e7d3c1a3d7", func := "shardlog/shardloglaw20.NetActs", spec := "netActs", unfollowed := true, recurses := true, apart := false }
def NetActsSaid : Prop := netActsRow.holds Try.pinned (OpenSpec.ofChange netActsSpec)

/-- ITS FALSE NEIGHBOUR: 'it returns false'. Refute it at one input. -/
def netActsWrong : ChangeSpec := { name := "netActs", fn := fun _ => fun
  | [d] => { results := [.lit (.bool false)], args := [d] }
  | _ => none }
def NetActsWrongFalsely : Prop := netActsRow.holds Try.pinned (OpenSpec.ofChange netActsWrong)

/-- 'shardloglaw20.NetLost': WHATEVER THE INPUT: true; the input reads as it did. -/
def netLostSpec : ChangeSpec := { name := "netLost", fn := fun _ => fun
  | [d1, d2, d3, d4] => { results := [.lit (.bool true)], args := [d1, d2, d3, d4] }
  | _ => none }
def netLostRow : OpenClaim := { program := "ytgpkbldlkadnjaa", sum := "f2bea8a5b50585f87d90234d0881a1f6450e2980157b2bb44d3203e7d3c1a3d7", func := "shardlog/shardloglaw20.NetLost", spec := "netLost", unfollowed := true, recurses := true, apart := false }
def NetLostSaid : Prop := netLostRow.holds Try.pinned (OpenSpec.ofChange netLostSpec)

/-- ITS FALSE NEIGHBOUR: 'it returns false'. Refute it at one input. -/
def netLostWrong : ChangeSpec := { name := "netLost", fn := fun _ => fun
  | [d1, d2, d3, d4] => { results := [.lit (.bool false)], args := [d1, d2, d3, d4] }
  | _ => none }
def NetLostWrongFalsely : Prop := netLostRow.holds Try.pinned (OpenSpec.ofChange netLostWrong)

/-- 'shardloglaw18.LogKeeps': WHATEVER THE INPUT: true; the input reads as it did. -/
def logKeepsSpec : ChangeSpec := { name := "logKeeps", fn := fun _ => fun
  | [d] => { results := [.lit (.bool true)], args := [d] }
  | _ => none }
def logKeepsRow : OpenClaim := { program := "ytgpkbldlkadnjaa", sum := "f2bea8a5b50585f87d90234d0881a1f6450e2980157b2bb44d3203e7d3c1a3d7", func := "shardlog/shardloglaw18.LogKeeps", spec := "logKeeps", unfollowed := true, recurses := true, apart := false }
def LogKeepsSaid : Prop := logKeepsRow.holds Try.pinned (OpenSpec.ofChange logKeepsSpec)

/-- ITS FALSE NEIGHBOUR: 'it returns false'. Refute it at one input. -/
def logKeepsWrong : ChangeSpec := { name := "logKeeps", fn := fun _ => fun
  | [d] => { results := [.lit (.bool false)], args := [d] }
  | _ => none }
def LogKeepsWrongFalsely : Prop := logKeepsRow.holds Try.pinned (OpenSpec.ofChange logKeepsWrong)

/-- 'shardloglaw18.LogCompacts': WHATEVER THE INPUT: true; the input reads as it did. -/
def logCompactsSpec : ChangeSpec := { name := "logCompacts", fn := fun _ => fun
  | [d] => { results := [.lit (.bool true)], args := [d] }
  | _ => none }
def logCompactsRow : OpenClaim := { program := "ytgpkbldlkadnjaa", sum := "f2bea8a5b50585f87d90234d0881a1f6450e2980157b2bb44d3203e7d3c1a3d7", func := "shardlog/shardloglaw18.LogCompacts", spec := "logCompacts", unfollowed := true, recurses := true, apart := false }
def LogCompactsSaid : Prop := logCompactsRow.holds Try.pinned (OpenSpec.ofChange logCompactsSpec)

/-- ITS FALSE NEIGHBOUR: 'it returns false'. Refute it at one input. -/
def logCompactsWrong : ChangeSpec := { name := "logCompacts", fn := fun _ => fun
  | [d] => { results := [.lit (.bool false)], args := [d] }
  | _ => none }
def LogCompactsWrongFalsely : Prop := logCompactsRow.holds Try.pinned (OpenSpec.ofChange logCompactsWrong)

/-- 'shardloglaw18.LogReads': WHATEVER THE INPUT: true; the input reads as it did. -/
def logReadsSpec : ChangeSpec := { name := "logReads", fn := fun _ => fun
  | [d] => { results := [.lit (.bool true)], args := [d] }
  | _ => none }
def logReadsRow : OpenClaim := { program := "ytgpkbldlkadnjaa", sum := "f2bea8a5b50585f87d90234d0881a1f6450e2980157b2bb44d3203e7d3c1a3d7", func := "shardlog/shardloglaw18.LogReads", spec := "logReads", unfollowed := true, recurses := true, apart := false }
def LogReadsSaid : Prop := logReadsRow.holds Try.pinned (OpenSpec.ofChange logReadsSpec)

/-- ITS FALSE NEIGHBOUR: 'it returns false'. Refute it at one input. -/
def logReadsWrong : ChangeSpec := { name := "logReads", fn := fun _ => fun
  | [d] => { results := [.lit (.bool false)], args := [d] }
  | _ => none }
def LogReadsWrongFalsely : Prop := logReadsRow.holds Try.pinned (OpenSpec.ofChange logReadsWrong)

/-- 'shardloglaw18.LogSynced': WHATEVER THE INPUT: true; the input reads as it did. -/
def logSyncedSpec : ChangeSpec := { name := "logSynced", fn := fun _ => fun
  | [d1, d2, d3] => { results := [.lit (.bool true)], args := [d1, d2, d3] }
  | _ => none }
def logSyncedRow : OpenClaim := { program := "ytgpkbldlkadnjaa", sum := "f2bea8a5b50585f87d90234d0881a1f6450e2980157b2bb44d3203e7d3c1a3d7", func := "shardlog/shardloglaw18.LogSynced", spec := "logSynced", unfollowed := true, recurses := true, apart := false }
def LogSyncedSaid : Prop := logSyncedRow.holds Try.pinned (OpenSpec.ofChange logSyncedSpec)

/-- ITS FALSE NEIGHBOUR: 'it returns false'. Refute it at one input. -/
def logSyncedWrong : ChangeSpec := { name := "logSynced", fn := fun _ => fun
  | [d1, d2, d3] => { results := [.lit (.bool false)], args := [d1, d2, d3] }
  | _ => none }
def LogSyncedWrongFalsely : Prop := logSyncedRow.holds Try.pinned (OpenSpec.ofChange logSyncedWrong)

/-- 'shardloglaw21.AcceptHears': WHATEVER THE INPUT: true; the input reads as it did. -/
def acceptHearsSpec : ChangeSpec := { name := "acceptHears", fn := fun _ => fun
  | [d1, d2] => { results := [.lit (.bool true)], args := [d1, d2] }
  | _ => none }
def acceptHearsRow : OpenClaim := { program := "ytgpkbldlkadnjaa", sum := "f2bea8a5b50585f87d90234d0881a1f6450e2980157b2bb44d3203e7d3c1a3d7", func := "shardlog/shardloglaw21.AcceptHears", spec := "acceptHears", unfollowed := true, recurses := true, apart := false }
def AcceptHearsSaid : Prop := acceptHearsRow.holds Try.pinned (OpenSpec.ofChange acceptHearsSpec)

/-- ITS FALSE NEIGHBOUR: 'it returns false'. Refute it at one input. -/
def acceptHearsWrong : ChangeSpec := { name := "acceptHears", fn := fun _ => fun
  | [d1, d2] => { results := [.lit (.bool false)], args := [d1, d2] }
  | _ => none }
def AcceptHearsWrongFalsely : Prop := acceptHearsRow.holds Try.pinned (OpenSpec.ofChange acceptHearsWrong)

/-- 'shardloglaw21.AcceptTwice': WHATEVER THE INPUT: true; the input reads as it did. -/
def acceptTwiceSpec : ChangeSpec := { name := "acceptTwice", fn := fun _ => fun
  | [d1, d2] => { results := [.lit (.bool true)], args := [d1, d2] }
  | _ => none }
def acceptTwiceRow : OpenClaim := { program := "ytgpkbldlkadnjaa", sum := "f2bea8a5b50585f87d90234d0881a1f6450e2980157b2bb44d3203e7d3c1a3d7", func := "shardlog/shardloglaw21.AcceptTwice", spec := "acceptTwice", unfollowed := true, recurses := true, apart := false }
def AcceptTwiceSaid : Prop := acceptTwiceRow.holds Try.pinned (OpenSpec.ofChange acceptTwiceSpec)

/-- ITS FALSE NEIGHBOUR: 'it returns false'. Refute it at one input. -/
def acceptTwiceWrong : ChangeSpec := { name := "acceptTwice", fn := fun _ => fun
  | [d1, d2] => { results := [.lit (.bool false)], args := [d1, d2] }
  | _ => none }
def AcceptTwiceWrongFalsely : Prop := acceptTwiceRow.holds Try.pinned (OpenSpec.ofChange acceptTwiceWrong)

/-- 'shardloglaw22.LeadChosen': WHATEVER THE INPUT: true; the input reads as it did. -/
def leadChosenSpec : ChangeSpec := { name := "leadChosen", fn := fun _ => fun
  | [d1, d2, d3, d4, d5, d6, d7, d8] => { results := [.lit (.bool true)], args := [d1, d2, d3, d4, d5, d6, d7, d8] }
  | _ => none }
def leadChosenRow : OpenClaim := { program := "ytgpkbldlkadnjaa", sum := "f2bea8a5b50585f87d90234d0881a1f6450e2980157b2bb44d3203e7d3c1a3d7", func := "shardlog/shardloglaw22.LeadChosen", spec := "leadChosen", unfollowed := true, recurses := true, apart := false }
def LeadChosenSaid : Prop := leadChosenRow.holds Try.pinned (OpenSpec.ofChange leadChosenSpec)

/-- ITS FALSE NEIGHBOUR: 'it returns false'. Refute it at one input. -/
def leadChosenWrong : ChangeSpec := { name := "leadChosen", fn := fun _ => fun
  | [d1, d2, d3, d4, d5, d6, d7, d8] => { results := [.lit (.bool false)], args := [d1, d2, d3, d4, d5, d6, d7, d8] }
  | _ => none }
def LeadChosenWrongFalsely : Prop := leadChosenRow.holds Try.pinned (OpenSpec.ofChange leadChosenWrong)

/-- 'shardloglaw22.LeadQuorums': WHATEVER THE INPUT: true; the input reads as it did. -/
def leadQuorumsSpec : ChangeSpec := { name := "leadQuorums", fn := fun _ => fun
  | [d1, d2, d3, d4] => { results := [.lit (.bool true)], args := [d1, d2, d3, d4] }
  | _ => none }
def leadQuorumsRow : OpenClaim := { program := "ytgpkbldlkadnjaa", sum := "f2bea8a5b50585f87d90234d0881a1f6450e2980157b2bb44d3203e7d3c1a3d7", func := "shardlog/shardloglaw22.LeadQuorums", spec := "leadQuorums", unfollowed := true, recurses := true, apart := false }
def LeadQuorumsSaid : Prop := leadQuorumsRow.holds Try.pinned (OpenSpec.ofChange leadQuorumsSpec)

/-- ITS FALSE NEIGHBOUR: 'it returns false'. Refute it at one input. -/
def leadQuorumsWrong : ChangeSpec := { name := "leadQuorums", fn := fun _ => fun
  | [d1, d2, d3, d4] => { results := [.lit (.bool false)], args := [d1, d2, d3, d4] }
  | _ => none }
def LeadQuorumsWrongFalsely : Prop := leadQuorumsRow.holds Try.pinned (OpenSpec.ofChange leadQuorumsWrong)

/-- 'shardloglaw25.ScrubKeeps': WHATEVER THE INPUT: true; the input reads as it did. -/
def scrubKeepsSpec : ChangeSpec := { name := "scrubKeeps", fn := fun _ => fun
  | [d1, d2, d3] => { results := [.lit (.bool true)], args := [d1, d2, d3] }
  | _ => none }
def scrubKeepsRow : OpenClaim := { program := "ytgpkbldlkadnjaa", sum := "f2bea8a5b50585f87d90234d0881a1f6450e2980157b2bb44d3203e7d3c1a3d7", func := "shardlog/shardloglaw25.ScrubKeeps", spec := "scrubKeeps", unfollowed := true, recurses := true, apart := false }
def ScrubKeepsSaid : Prop := scrubKeepsRow.holds Try.pinned (OpenSpec.ofChange scrubKeepsSpec)

/-- ITS FALSE NEIGHBOUR: 'it returns false'. Refute it at one input. -/
def scrubKeepsWrong : ChangeSpec := { name := "scrubKeeps", fn := fun _ => fun
  | [d1, d2, d3] => { results := [.lit (.bool false)], args := [d1, d2, d3] }
  | _ => none }
def ScrubKeepsWrongFalsely : Prop := scrubKeepsRow.holds Try.pinned (OpenSpec.ofChange scrubKeepsWrong)

/- THE SECOND FORM. 'bulk': how many values and letters a reading holds, each counted each time it is reached (what is shared counts as often as it is met; a slice's spare places count too). A statement '..UptoSaid' is the law's where the arguments, and the package variables that the reading takes, are together of bulk at most 1048576: NARROWER than '..Said'. Prove '..Said' where nothing that the law and all that it calls make is longer than what came in: it says more and counts as full. Else prove '..UptoSaid'. A law counts once. -/
mutual
def uptoBulk {H : Type} : DataW H → Nat
  | .lit (.string bytes) => bytes.length + 1
  | .lit _ => 1
  | .nil => 1
  | .ptr d => uptoBulk d + 1
  | .slice elems spare => uptoBulkAll elems + uptoBulkAll spare + 1
  | .agg parts => uptoBulkAll parts + 1
  | .iface _ d => uptoBulk d + 1
  | .map entries => uptoBulkEntries entries + 1
  | .held _ => 1
def uptoBulkAll {H : Type} : List (DataW H) → Nat
  | [] => 0
  | d :: r => uptoBulk d + uptoBulkAll r
def uptoBulkEntries {H : Type} : List (Lit × DataW H) → Nat
  | [] => 0
  | x :: r => uptoBulkEntry x + uptoBulkEntries r
def uptoBulkEntry {H : Type} : Lit × DataW H → Nat
  | (.string bytes, d) => bytes.length + uptoBulk d + 1
  | (_, d) => uptoBulk d + 1
 end
def uptoSmall : (H : Type) → List (DataW H) → Bool := fun _ ds => decide (uptoBulkAll ds ≤ 1048576)
def OpenSpec.upto (s : _root_.Go.ChangeSpec) : _root_.Go.OpenSpec := { _root_.Go.OpenSpec.ofChange s with cond := some uptoSmall }

/-- 'shardloglaw04.MatrixProducts', WHERE WHAT IT READS IS OF BULK AT MOST 1048576: true; the input reads as it did. -/
def matrixProductsUptoRow : OpenClaim := { program := "ytgpkbldlkadnjaa", sum := "f2bea8a5b50585f87d90234d0881a1f6450e2980157b2bb44d3203e7d3c1a3d7", func := "shardlog/shardloglaw04.MatrixProducts", spec := "matrixProducts", unfollowed := true, recurses := true, apart := false, narrowed := true }
def MatrixProductsUptoSaid : Prop := matrixProductsUptoRow.holds Try.pinned (OpenSpec.upto matrixProductsSpec)

/-- 'shardloglaw04.MatrixBack', WHERE WHAT IT READS IS OF BULK AT MOST 1048576: true; the input reads as it did. -/
def matrixBackUptoRow : OpenClaim := { program := "ytgpkbldlkadnjaa", sum := "f2bea8a5b50585f87d90234d0881a1f6450e2980157b2bb44d3203e7d3c1a3d7", func := "shardlog/shardloglaw04.MatrixBack", spec := "matrixBack", unfollowed := true, recurses := true, apart := false, narrowed := true }
def MatrixBackUptoSaid : Prop := matrixBackUptoRow.holds Try.pinned (OpenSpec.upto matrixBackSpec)

/-- 'shardloglaw04.MatrixCodes', WHERE WHAT IT READS IS OF BULK AT MOST 1048576: true; the input reads as it did. -/
def matrixCodesUptoRow : OpenClaim := { program := "ytgpkbldlkadnjaa", sum := "f2bea8a5b50585f87d90234d0881a1f6450e2980157b2bb44d3203e7d3c1a3d7", func := "shardlog/shardloglaw04.MatrixCodes", spec := "matrixCodes", unfollowed := true, recurses := true, apart := false, narrowed := true }
def MatrixCodesUptoSaid : Prop := matrixCodesUptoRow.holds Try.pinned (OpenSpec.upto matrixCodesSpec)

/-- 'shardloglaw04.MatrixAny', WHERE WHAT IT READS IS OF BULK AT MOST 1048576: true; the input reads as it did. -/
def matrixAnyUptoRow : OpenClaim := { program := "ytgpkbldlkadnjaa", sum := "f2bea8a5b50585f87d90234d0881a1f6450e2980157b2bb44d3203e7d3c1a3d7", func := "shardlog/shardloglaw04.MatrixAny", spec := "matrixAny", unfollowed := true, recurses := true, apart := false, narrowed := true }
def MatrixAnyUptoSaid : Prop := matrixAnyUptoRow.holds Try.pinned (OpenSpec.upto matrixAnySpec)

/-- 'shardloglaw04.MatrixKeeps', WHERE WHAT IT READS IS OF BULK AT MOST 1048576: true; the input reads as it did. -/
def matrixKeepsUptoRow : OpenClaim := { program := "ytgpkbldlkadnjaa", sum := "f2bea8a5b50585f87d90234d0881a1f6450e2980157b2bb44d3203e7d3c1a3d7", func := "shardlog/shardloglaw04.MatrixKeeps", spec := "matrixKeeps", unfollowed := true, recurses := true, apart := false, narrowed := true }
def MatrixKeepsUptoSaid : Prop := matrixKeepsUptoRow.holds Try.pinned (OpenSpec.upto matrixKeepsSpec)

/-- 'shardloglaw04.MatrixTimes', WHERE WHAT IT READS IS OF BULK AT MOST 1048576: true; the input reads as it did. -/
def matrixTimesUptoRow : OpenClaim := { program := "ytgpkbldlkadnjaa", sum := "f2bea8a5b50585f87d90234d0881a1f6450e2980157b2bb44d3203e7d3c1a3d7", func := "shardlog/shardloglaw04.MatrixTimes", spec := "matrixTimes", unfollowed := true, recurses := true, apart := false, narrowed := true }
def MatrixTimesUptoSaid : Prop := matrixTimesUptoRow.holds Try.pinned (OpenSpec.upto matrixTimesSpec)

/-- 'shardloglaw05.CodeEncodes', WHERE WHAT IT READS IS OF BULK AT MOST 1048576: true; the input reads as it did. -/
def codeEncodesUptoRow : OpenClaim := { program := "ytgpkbldlkadnjaa", sum := "f2bea8a5b50585f87d90234d0881a1f6450e2980157b2bb44d3203e7d3c1a3d7", func := "shardlog/shardloglaw05.CodeEncodes", spec := "codeEncodes", unfollowed := true, recurses := true, apart := false, narrowed := true }
def CodeEncodesUptoSaid : Prop := codeEncodesUptoRow.holds Try.pinned (OpenSpec.upto codeEncodesSpec)

/-- 'shardloglaw05.CodeAny', WHERE WHAT IT READS IS OF BULK AT MOST 1048576: true; the input reads as it did. -/
def codeAnyUptoRow : OpenClaim := { program := "ytgpkbldlkadnjaa", sum := "f2bea8a5b50585f87d90234d0881a1f6450e2980157b2bb44d3203e7d3c1a3d7", func := "shardlog/shardloglaw05.CodeAny", spec := "codeAny", unfollowed := true, recurses := true, apart := false, narrowed := true }
def CodeAnyUptoSaid : Prop := codeAnyUptoRow.holds Try.pinned (OpenSpec.upto codeAnySpec)

/-- 'shardloglaw05.CodeDecodes', WHERE WHAT IT READS IS OF BULK AT MOST 1048576: true; the input reads as it did. -/
def codeDecodesUptoRow : OpenClaim := { program := "ytgpkbldlkadnjaa", sum := "f2bea8a5b50585f87d90234d0881a1f6450e2980157b2bb44d3203e7d3c1a3d7", func := "shardlog/shardloglaw05.CodeDecodes", spec := "codeDecodes", unfollowed := true, recurses := true, apart := false, narrowed := true }
def CodeDecodesUptoSaid : Prop := codeDecodesUptoRow.holds Try.pinned (OpenSpec.upto codeDecodesSpec)

/-- 'shardloglaw05.CodeTurned', WHERE WHAT IT READS IS OF BULK AT MOST 1048576: true; the input reads as it did. -/
def codeTurnedUptoRow : OpenClaim := { program := "ytgpkbldlkadnjaa", sum := "f2bea8a5b50585f87d90234d0881a1f6450e2980157b2bb44d3203e7d3c1a3d7", func := "shardlog/shardloglaw05.CodeTurned", spec := "codeTurned", unfollowed := true, recurses := true, apart := false, narrowed := true }
def CodeTurnedUptoSaid : Prop := codeTurnedUptoRow.holds Try.pinned (OpenSpec.upto codeTurnedSpec)

/-- 'shardloglaw05.CodeKeeps', WHERE WHAT IT READS IS OF BULK AT MOST 1048576: true; the input reads as it did. -/
def codeKeepsUptoRow : OpenClaim := { program := "ytgpkbldlkadnjaa", sum := "f2bea8a5b50585f87d90234d0881a1f6450e2980157b2bb44d3203e7d3c1a3d7", func := "shardlog/shardloglaw05.CodeKeeps", spec := "codeKeeps", unfollowed := true, recurses := true, apart := false, narrowed := true }
def CodeKeepsUptoSaid : Prop := codeKeepsUptoRow.holds Try.pinned (OpenSpec.upto codeKeepsSpec)

/-- 'shardloglaw05.CodeMixed', WHERE WHAT IT READS IS OF BULK AT MOST 1048576: true; the input reads as it did. -/
def codeMixedUptoRow : OpenClaim := { program := "ytgpkbldlkadnjaa", sum := "f2bea8a5b50585f87d90234d0881a1f6450e2980157b2bb44d3203e7d3c1a3d7", func := "shardlog/shardloglaw05.CodeMixed", spec := "codeMixed", unfollowed := true, recurses := true, apart := false, narrowed := true }
def CodeMixedUptoSaid : Prop := codeMixedUptoRow.holds Try.pinned (OpenSpec.upto codeMixedSpec)

/-- 'shardloglaw07.DiskKeeps', WHERE WHAT IT READS IS OF BULK AT MOST 1048576: true; the input reads as it did. -/
def diskKeepsUptoRow : OpenClaim := { program := "ytgpkbldlkadnjaa", sum := "f2bea8a5b50585f87d90234d0881a1f6450e2980157b2bb44d3203e7d3c1a3d7", func := "shardlog/shardloglaw07.DiskKeeps", spec := "diskKeeps", unfollowed := true, recurses := true, apart := false, narrowed := true }
def DiskKeepsUptoSaid : Prop := diskKeepsUptoRow.holds Try.pinned (OpenSpec.upto diskKeepsSpec)

/-- 'shardloglaw07.DiskActs', WHERE WHAT IT READS IS OF BULK AT MOST 1048576: true; the input reads as it did. -/
def diskActsUptoRow : OpenClaim := { program := "ytgpkbldlkadnjaa", sum := "f2bea8a5b50585f87d90234d0881a1f6450e2980157b2bb44d3203e7d3c1a3d7", func := "shardlog/shardloglaw07.DiskActs", spec := "diskActs", unfollowed := true, recurses := true, apart := false, narrowed := true }
def DiskActsUptoSaid : Prop := diskActsUptoRow.holds Try.pinned (OpenSpec.upto diskActsSpec)

/-- 'shardloglaw07.DiskSynced', WHERE WHAT IT READS IS OF BULK AT MOST 1048576: true; the input reads as it did. -/
def diskSyncedUptoRow : OpenClaim := { program := "ytgpkbldlkadnjaa", sum := "f2bea8a5b50585f87d90234d0881a1f6450e2980157b2bb44d3203e7d3c1a3d7", func := "shardlog/shardloglaw07.DiskSynced", spec := "diskSynced", unfollowed := true, recurses := true, apart := false, narrowed := true }
def DiskSyncedUptoSaid : Prop := diskSyncedUptoRow.holds Try.pinned (OpenSpec.upto diskSyncedSpec)

/-- 'shardloglaw20.NetOrder', WHERE WHAT IT READS IS OF BULK AT MOST 1048576: true; the input reads as it did. -/
def netOrderUptoRow : OpenClaim := { program := "ytgpkbldlkadnjaa", sum := "f2bea8a5b50585f87d90234d0881a1f6450e2980157b2bb44d3203e7d3c1a3d7", func := "shardlog/shardloglaw20.NetOrder", spec := "netOrder", unfollowed := true, recurses := true, apart := false, narrowed := true }
def NetOrderUptoSaid : Prop := netOrderUptoRow.holds Try.pinned (OpenSpec.upto netOrderSpec)

/-- 'shardloglaw20.NetFull', WHERE WHAT IT READS IS OF BULK AT MOST 1048576: true; the input reads as it did. -/
def netFullUptoRow : OpenClaim := { program := "ytgpkbldlkadnjaa", sum := "f2bea8a5b50585f87d90234d0881a1f6450e2980157b2bb44d3203e7d3c1a3d7", func := "shardlog/shardloglaw20.NetFull", spec := "netFull", unfollowed := true, recurses := true, apart := false, narrowed := true }
def NetFullUptoSaid : Prop := netFullUptoRow.holds Try.pinned (OpenSpec.upto netFullSpec)

/-- 'shardloglaw20.NetKeeps', WHERE WHAT IT READS IS OF BULK AT MOST 1048576: true; the input reads as it did. -/
def netKeepsUptoRow : OpenClaim := { program := "ytgpkbldlkadnjaa", sum := "f2bea8a5b50585f87d90234d0881a1f6450e2980157b2bb44d3203e7d3c1a3d7", func := "shardlog/shardloglaw20.NetKeeps", spec := "netKeeps", unfollowed := true, recurses := true, apart := false, narrowed := true }
def NetKeepsUptoSaid : Prop := netKeepsUptoRow.holds Try.pinned (OpenSpec.upto netKeepsSpec)

/-- 'shardloglaw20.NetActs', WHERE WHAT IT READS IS OF BULK AT MOST 1048576: true; the input reads as it did. -/
def netActsUptoRow : OpenClaim := { program := "ytgpkbldlkadnjaa", sum := "f2bea8a5b50585f87d90234d0881a1f6450e2980157b2bb44d3203e7d3c1a3d7", func := "shardlog/shardloglaw20.NetActs", spec := "netActs", unfollowed := true, recurses := true, apart := false, narrowed := true }
def NetActsUptoSaid : Prop := netActsUptoRow.holds Try.pinned (OpenSpec.upto netActsSpec)

/-- 'shardloglaw20.NetLost', WHERE WHAT IT READS IS OF BULK AT MOST 1048576: true; the input reads as it did. -/
def netLostUptoRow : OpenClaim := { program := "ytgpkbldlkadnjaa", sum := "f2bea8a5b50585f87d90234d0881a1f6450e2980157b2bb44d3203e7d3c1a3d7", func := "shardlog/shardloglaw20.NetLost", spec := "netLost", unfollowed := true, recurses := true, apart := false, narrowed := true }
def NetLostUptoSaid : Prop := netLostUptoRow.holds Try.pinned (OpenSpec.upto netLostSpec)

/-- 'shardloglaw18.LogKeeps', WHERE WHAT IT READS IS OF BULK AT MOST 1048576: true; the input reads as it did. -/
def logKeepsUptoRow : OpenClaim := { program := "ytgpkbldlkadnjaa", sum := "f2bea8a5b50585f87d90234d0881a1f6450e2980157b2bb44d3203e7d3c1a3d7", func := "shardlog/shardloglaw18.LogKeeps", spec := "logKeeps", unfollowed := true, recurses := true, apart := false, narrowed := true }
def LogKeepsUptoSaid : Prop := logKeepsUptoRow.holds Try.pinned (OpenSpec.upto logKeepsSpec)

/-- 'shardloglaw18.LogCompacts', WHERE WHAT IT READS IS OF BULK AT MOST 1048576: true; the input reads as it did. -/
def logCompactsUptoRow : OpenClaim := { program := "ytgpkbldlkadnjaa", sum := "f2bea8a5b50585f87d90234d0881a1f6450e2980157b2bb44d3203e7d3c1a3d7", func := "shardlog/shardloglaw18.LogCompacts", spec := "logCompacts", unfollowed := true, recurses := true, apart := false, narrowed := true }
def LogCompactsUptoSaid : Prop := logCompactsUptoRow.holds Try.pinned (OpenSpec.upto logCompactsSpec)

/-- 'shardloglaw18.LogReads', WHERE WHAT IT READS IS OF BULK AT MOST 1048576: true; the input reads as it did. -/
def logReadsUptoRow : OpenClaim := { program := "ytgpkbldlkadnjaa", sum := "f2bea8a5b50585f87d90234d0881a1f6450e2980157b2bb44d3203e7d3c1a3d7", func := "shardlog/shardloglaw18.LogReads", spec := "logReads", unfollowed := true, recurses := true, apart := false, narrowed := true }
def LogReadsUptoSaid : Prop := logReadsUptoRow.holds Try.pinned (OpenSpec.upto logReadsSpec)

/-- 'shardloglaw18.LogSynced', WHERE WHAT IT READS IS OF BULK AT MOST 1048576: true; the input reads as it did. -/
def logSyncedUptoRow : OpenClaim := { program := "ytgpkbldlkadnjaa", sum := "f2bea8a5b50585f87d90234d0881a1f6450e2980157b2bb44d3203e7d3c1a3d7", func := "shardlog/shardloglaw18.LogSynced", spec := "logSynced", unfollowed := true, recurses := true, apart := false, narrowed := true }
def LogSyncedUptoSaid : Prop := logSyncedUptoRow.holds Try.pinned (OpenSpec.upto logSyncedSpec)

/-- 'shardloglaw21.AcceptHears', WHERE WHAT IT READS IS OF BULK AT MOST 1048576: true; the input reads as it did. -/
def acceptHearsUptoRow : OpenClaim := { program := "ytgpkbldlkadnjaa", sum := "f2bea8a5b50585f87d90234d0881a1f6450e2980157b2bb44d3203e7d3c1a3d7", func := "shardlog/shardloglaw21.AcceptHears", spec := "acceptHears", unfollowed := true, recurses := true, apart := false, narrowed := true }
def AcceptHearsUptoSaid : Prop := acceptHearsUptoRow.holds Try.pinned (OpenSpec.upto acceptHearsSpec)

/-- 'shardloglaw21.AcceptTwice', WHERE WHAT IT READS IS OF BULK AT MOST 1048576: true; the input reads as it did. -/
def acceptTwiceUptoRow : OpenClaim := { program := "ytgpkbldlkadnjaa", sum := "f2bea8a5b50585f87d90234d0881a1f6450e2980157b2bb44d3203e7d3c1a3d7", func := "shardlog/shardloglaw21.AcceptTwice", spec := "acceptTwice", unfollowed := true, recurses := true, apart := false, narrowed := true }
def AcceptTwiceUptoSaid : Prop := acceptTwiceUptoRow.holds Try.pinned (OpenSpec.upto acceptTwiceSpec)

/-- 'shardloglaw22.LeadChosen', WHERE WHAT IT READS IS OF BULK AT MOST 1048576: true; the input reads as it did. -/
def leadChosenUptoRow : OpenClaim := { program := "ytgpkbldlkadnjaa", sum := "f2bea8a5b50585f87d90234d0881a1f6450e2980157b2bb44d3203e7d3c1a3d7", func := "shardlog/shardloglaw22.LeadChosen", spec := "leadChosen", unfollowed := true, recurses := true, apart := false, narrowed := true }
def LeadChosenUptoSaid : Prop := leadChosenUptoRow.holds Try.pinned (OpenSpec.upto leadChosenSpec)

/-- 'shardloglaw22.LeadQuorums', WHERE WHAT IT READS IS OF BULK AT MOST 1048576: true; the input reads as it did. -/
def leadQuorumsUptoRow : OpenClaim := { program := "ytgpkbldlkadnjaa", sum := "f2bea8a5b50585f87d90234d0881a1f6450e2980157b2bb44d3203e7d3c1a3d7", func := "shardlog/shardloglaw22.LeadQuorums", spec := "leadQuorums", unfollowed := true, recurses := true, apart := false, narrowed := true }
def LeadQuorumsUptoSaid : Prop := leadQuorumsUptoRow.holds Try.pinned (OpenSpec.upto leadQuorumsSpec)

/-- 'shardloglaw25.ScrubKeeps', WHERE WHAT IT READS IS OF BULK AT MOST 1048576: true; the input reads as it did. -/
def scrubKeepsUptoRow : OpenClaim := { program := "ytgpkbldlkadnjaa", sum := "f2bea8a5b50585f87d90234d0881a1f6450e2980157b2bb44d3203e7d3c1a3d7", func := "shardlog/shardloglaw25.ScrubKeeps", spec := "scrubKeeps", unfollowed := true, recurses := true, apart := false, narrowed := true }
def ScrubKeepsUptoSaid : Prop := scrubKeepsUptoRow.holds Try.pinned (OpenSpec.upto scrubKeepsSpec)

end Rows
end Go.Proofs.Ytgpkbldlkadnjaa
