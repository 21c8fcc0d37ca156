/-
  No cell of these rows narrows 'for every input' (looked for: loops, veiled, ifaces, maps, wideKeys, modest, calm, conditions, laid).
  DERIVED. THE GIVEN ROWS OF THIS SEAT. 8 by the template 'for every input the law returns true; each argument reads behind the call as it read before'; 0 by the template 'total and deterministic' (their statements: YtgpkbldlkadnjaaGreatTotals.lean).
  GIVEN WITH THE SEED: the statements are not yours to turn. If you find one false, say at which input.
  Laid BY PROGRAM, IN A SANDBOX (cutbox-rows.mjs): the forced cells as the released guide's own fill.sh prints them over the translation cc9fd960ce3fa640… (all of the seat's roots in one cut). By AI agents, Wed Nov 11 2026. No macro, syntax, notation, axiom, sorry.
-/
import Derived.Test.YtgpkbldlkadnjaaGreatChecked
import GoSem.Claim
import GoSem.ClaimJoined
import GoSem.ClaimMapViews
import Derived.JoinedTies
import Derived.KernelRfl
namespace Go.Proofs.YtgpkbldlkadnjaaGreat
/- THE CELL 'sum', in the pinned program and in every row, IS THE sha256 OF THE DUMP (.gsa) THAT YtgpkbldlkadnjaaGreatProg.lean LOADS. Nothing in Lean hashes anything: it is a label: what it is worth is what the hold of that sum in a sandbox is worth. -/
noncomputable def Tryz.pinned : Pinned := { name := "ytgpkbldlkadnjaagreat", sum := "cc9fd960ce3fa6407e04836ed129285745a657c258993827ccc2b1ba91395e02", checked := Tryz.checked }
namespace Rows
def none {H : Type} : Left H := { results := [], args := [] }

/-- 'shardloglaw18.LogActs': WHATEVER THE INPUT: true; the input reads as it did. -/
def logActsSpec : ChangeSpec := { name := "logActs", fn := fun _ => fun
  | [d1, d2] => { results := [.lit (.bool true)], args := [d1, d2] }
  | _ => none }
def logActsRow : OpenClaim := { program := "ytgpkbldlkadnjaagreat", sum := "cc9fd960ce3fa6407e04836ed129285745a657c258993827ccc2b1ba91395e02", func := "shardlog/shardloglaw18.LogActs", spec := "logActs", unfollowed := true, recurses := true, apart := false }
def LogActsSaid : Prop := logActsRow.holds Tryz.pinned (OpenSpec.ofChange logActsSpec)

/-- ITS FALSE NEIGHBOUR: 'it returns false'. Refute it at one input. -/
def logActsWrong : ChangeSpec := { name := "logActs", fn := fun _ => fun
  | [d1, d2] => { results := [.lit (.bool false)], args := [d1, d2] }
  | _ => none }
def LogActsWrongFalsely : Prop := logActsRow.holds Tryz.pinned (OpenSpec.ofChange logActsWrong)

/-- 'shardloglaw21.AcceptPromised': WHATEVER THE INPUT: true; the input reads as it did. -/
def acceptPromisedSpec : ChangeSpec := { name := "acceptPromised", fn := fun _ => fun
  | [d1, d2, d3, d4] => { results := [.lit (.bool true)], args := [d1, d2, d3, d4] }
  | _ => none }
def acceptPromisedRow : OpenClaim := { program := "ytgpkbldlkadnjaagreat", sum := "cc9fd960ce3fa6407e04836ed129285745a657c258993827ccc2b1ba91395e02", func := "shardlog/shardloglaw21.AcceptPromised", spec := "acceptPromised", unfollowed := true, recurses := true, apart := false }
def AcceptPromisedSaid : Prop := acceptPromisedRow.holds Tryz.pinned (OpenSpec.ofChange acceptPromisedSpec)

/-- ITS FALSE NEIGHBOUR: 'it returns false'. Refute it at one input. -/
def acceptPromisedWrong : ChangeSpec := { name := "acceptPromised", fn := fun _ => fun
  | [d1, d2, d3, d4] => { results := [.lit (.bool false)], args := [d1, d2, d3, d4] }
  | _ => none }
def AcceptPromisedWrongFalsely : Prop := acceptPromisedRow.holds Tryz.pinned (OpenSpec.ofChange acceptPromisedWrong)

/-- 'shardloglaw25.ScrubShards': WHATEVER THE INPUT: true; the input reads as it did. -/
def scrubShardsSpec : ChangeSpec := { name := "scrubShards", fn := fun _ => fun
  | [d1, d2, d3, d4] => { results := [.lit (.bool true)], args := [d1, d2, d3, d4] }
  | _ => none }
def scrubShardsRow : OpenClaim := { program := "ytgpkbldlkadnjaagreat", sum := "cc9fd960ce3fa6407e04836ed129285745a657c258993827ccc2b1ba91395e02", func := "shardlog/shardloglaw25.ScrubShards", spec := "scrubShards", unfollowed := true, recurses := true, apart := false }
def ScrubShardsSaid : Prop := scrubShardsRow.holds Tryz.pinned (OpenSpec.ofChange scrubShardsSpec)

/-- ITS FALSE NEIGHBOUR: 'it returns false'. Refute it at one input. -/
def scrubShardsWrong : ChangeSpec := { name := "scrubShards", fn := fun _ => fun
  | [d1, d2, d3, d4] => { results := [.lit (.bool false)], args := [d1, d2, d3, d4] }
  | _ => none }
def ScrubShardsWrongFalsely : Prop := scrubShardsRow.holds Tryz.pinned (OpenSpec.ofChange scrubShardsWrong)

/-- 'shardloglaw25.ScrubPuts': WHATEVER THE INPUT: true; the input reads as it did. -/
def scrubPutsSpec : ChangeSpec := { name := "scrubPuts", fn := fun _ => fun
  | [d1, d2, d3, d4] => { results := [.lit (.bool true)], args := [d1, d2, d3, d4] }
  | _ => none }
def scrubPutsRow : OpenClaim := { program := "ytgpkbldlkadnjaagreat", sum := "cc9fd960ce3fa6407e04836ed129285745a657c258993827ccc2b1ba91395e02", func := "shardlog/shardloglaw25.ScrubPuts", spec := "scrubPuts", unfollowed := true, recurses := true, apart := false }
def ScrubPutsSaid : Prop := scrubPutsRow.holds Tryz.pinned (OpenSpec.ofChange scrubPutsSpec)

/-- ITS FALSE NEIGHBOUR: 'it returns false'. Refute it at one input. -/
def scrubPutsWrong : ChangeSpec := { name := "scrubPuts", fn := fun _ => fun
  | [d1, d2, d3, d4] => { results := [.lit (.bool false)], args := [d1, d2, d3, d4] }
  | _ => none }
def ScrubPutsWrongFalsely : Prop := scrubPutsRow.holds Tryz.pinned (OpenSpec.ofChange scrubPutsWrong)

/-- 'shardloglaw25.ScrubNever': WHATEVER THE INPUT: true; the input reads as it did. -/
def scrubNeverSpec : ChangeSpec := { name := "scrubNever", fn := fun _ => fun
  | [d1, d2, d3, d4, d5] => { results := [.lit (.bool true)], args := [d1, d2, d3, d4, d5] }
  | _ => none }
def scrubNeverRow : OpenClaim := { program := "ytgpkbldlkadnjaagreat", sum := "cc9fd960ce3fa6407e04836ed129285745a657c258993827ccc2b1ba91395e02", func := "shardlog/shardloglaw25.ScrubNever", spec := "scrubNever", unfollowed := true, recurses := true, apart := false }
def ScrubNeverSaid : Prop := scrubNeverRow.holds Tryz.pinned (OpenSpec.ofChange scrubNeverSpec)

/-- ITS FALSE NEIGHBOUR: 'it returns false'. Refute it at one input. -/
def scrubNeverWrong : ChangeSpec := { name := "scrubNever", fn := fun _ => fun
  | [d1, d2, d3, d4, d5] => { results := [.lit (.bool false)], args := [d1, d2, d3, d4, d5] }
  | _ => none }
def ScrubNeverWrongFalsely : Prop := scrubNeverRow.holds Tryz.pinned (OpenSpec.ofChange scrubNeverWrong)

/-- 'shardloglaw25.ScrubQuarantine': WHATEVER THE INPUT: true; the input reads as it did. -/
def scrubQuarantineSpec : ChangeSpec := { name := "scrubQuarantine", fn := fun _ => fun
  | [d1, d2, d3, d4] => { results := [.lit (.bool true)], args := [d1, d2, d3, d4] }
  | _ => none }
def scrubQuarantineRow : OpenClaim := { program := "ytgpkbldlkadnjaagreat", sum := "cc9fd960ce3fa6407e04836ed129285745a657c258993827ccc2b1ba91395e02", func := "shardlog/shardloglaw25.ScrubQuarantine", spec := "scrubQuarantine", unfollowed := true, recurses := true, apart := false }
def ScrubQuarantineSaid : Prop := scrubQuarantineRow.holds Tryz.pinned (OpenSpec.ofChange scrubQuarantineSpec)

/-- ITS FALSE NEIGHBOUR: 'it returns false'. Refute it at one input. -/
def scrubQuarantineWrong : ChangeSpec := { name := "scrubQuarantine", fn := fun _ => fun
  | [d1, d2, d3, d4] => { results := [.lit (.bool false)], args := [d1, d2, d3, d4] }
  | _ => none }
def ScrubQuarantineWrongFalsely : Prop := scrubQuarantineRow.holds Tryz.pinned (OpenSpec.ofChange scrubQuarantineWrong)

/-- 'shardloglaw25.ScrubApart': WHATEVER THE INPUT: true; the input reads as it did. -/
def scrubApartSpec : ChangeSpec := { name := "scrubApart", fn := fun _ => fun
  | [d1, d2, d3, d4, d5] => { results := [.lit (.bool true)], args := [d1, d2, d3, d4, d5] }
  | _ => none }
def scrubApartRow : OpenClaim := { program := "ytgpkbldlkadnjaagreat", sum := "cc9fd960ce3fa6407e04836ed129285745a657c258993827ccc2b1ba91395e02", func := "shardlog/shardloglaw25.ScrubApart", spec := "scrubApart", unfollowed := true, recurses := true, apart := false }
def ScrubApartSaid : Prop := scrubApartRow.holds Tryz.pinned (OpenSpec.ofChange scrubApartSpec)

/-- ITS FALSE NEIGHBOUR: 'it returns false'. Refute it at one input. -/
def scrubApartWrong : ChangeSpec := { name := "scrubApart", fn := fun _ => fun
  | [d1, d2, d3, d4, d5] => { results := [.lit (.bool false)], args := [d1, d2, d3, d4, d5] }
  | _ => none }
def ScrubApartWrongFalsely : Prop := scrubApartRow.holds Tryz.pinned (OpenSpec.ofChange scrubApartWrong)

/-- 'shardloglaw25.ScrubRepairs': WHATEVER THE INPUT: true; the input reads as it did. -/
def scrubRepairsSpec : ChangeSpec := { name := "scrubRepairs", fn := fun _ => fun
  | [d1, d2, d3, d4, d5] => { results := [.lit (.bool true)], args := [d1, d2, d3, d4, d5] }
  | _ => none }
def scrubRepairsRow : OpenClaim := { program := "ytgpkbldlkadnjaagreat", sum := "cc9fd960ce3fa6407e04836ed129285745a657c258993827ccc2b1ba91395e02", func := "shardlog/shardloglaw25.ScrubRepairs", spec := "scrubRepairs", unfollowed := true, recurses := true, apart := false }
def ScrubRepairsSaid : Prop := scrubRepairsRow.holds Tryz.pinned (OpenSpec.ofChange scrubRepairsSpec)

/-- ITS FALSE NEIGHBOUR: 'it returns false'. Refute it at one input. -/
def scrubRepairsWrong : ChangeSpec := { name := "scrubRepairs", fn := fun _ => fun
  | [d1, d2, d3, d4, d5] => { results := [.lit (.bool false)], args := [d1, d2, d3, d4, d5] }
  | _ => none }
def ScrubRepairsWrongFalsely : Prop := scrubRepairsRow.holds Tryz.pinned (OpenSpec.ofChange scrubRepairsWrong)

/- THE SECOND FORM. 'bulk': how many values and letters a reading holds, each counted each time it is reached (what is shared counts as often as it is met; a slice's spare places count too). A statement '..UptoSaid' is the law's where the arguments, and the package variables that the reading takes, are together of bulk at most 1048576: NARROWER than '..Said'. Prove '..Said' where nothing that the law and all that it calls make is longer than what came in: it says more and counts as full. Else prove '..UptoSaid'. A law counts once. -/
mutual
def uptoBulk {H : Type} : DataW H → Nat
  | .lit (.string bytes) => bytes.length + 1
  | .lit _ => 1
  | .nil => 1
  | .ptr d => uptoBulk d + 1
  | .slice elems spare => uptoBulkAll elems + uptoBulkAll spare + 1
  | .agg parts => uptoBulkAll parts + 1
  | .iface _ d => uptoBulk d + 1
  | .map entries => uptoBulkEntries entries + 1
  | .held _ => 1
def uptoBulkAll {H : Type} : List (DataW H) → Nat
  | [] => 0
  | d :: r => uptoBulk d + uptoBulkAll r
def uptoBulkEntries {H : Type} : List (Lit × DataW H) → Nat
  | [] => 0
  | x :: r => uptoBulkEntry x + uptoBulkEntries r
def uptoBulkEntry {H : Type} : Lit × DataW H → Nat
  | (.string bytes, d) => bytes.length + uptoBulk d + 1
  | (_, d) => uptoBulk d + 1
 end
def uptoSmall : (H : Type) → List (DataW H) → Bool := fun _ ds => decide (uptoBulkAll ds ≤ 1048576)
def OpenSpec.upto (s : _root_.Go.ChangeSpec) : _root_.Go.OpenSpec := { _root_.Go.OpenSpec.ofChange s with cond := some uptoSmall }

/-- 'shardloglaw18.LogActs', WHERE WHAT IT READS IS OF BULK AT MOST 1048576: true; the input reads as it did. -/
def logActsUptoRow : OpenClaim := { program := "ytgpkbldlkadnjaagreat", sum := "cc9fd960ce3fa6407e04836ed129285745a657c258993827ccc2b1ba91395e02", func := "shardlog/shardloglaw18.LogActs", spec := "logActs", unfollowed := true, recurses := true, apart := false, narrowed := true }
def LogActsUptoSaid : Prop := logActsUptoRow.holds Tryz.pinned (OpenSpec.upto logActsSpec)

/-- 'shardloglaw21.AcceptPromised', WHERE WHAT IT READS IS OF BULK AT MOST 1048576: true; the input reads as it did. -/
def acceptPromisedUptoRow : OpenClaim := { program := "ytgpkbldlkadnjaagreat", sum := "cc9fd960ce3fa6407e04836ed129285745a657c258993827ccc2b1ba91395e02", func := "shardlog/shardloglaw21.AcceptPromised", spec := "acceptPromised", unfollowed := true, recurses := true, apart := false, narrowed := true }
def AcceptPromisedUptoSaid : Prop := acceptPromisedUptoRow.holds Tryz.pinned (OpenSpec.upto acceptPromisedSpec)

/-- 'shardloglaw25.ScrubShards', WHERE WHAT IT READS IS OF BULK AT MOST 1048576: true; the input reads as it did. -/
def scrubShardsUptoRow : OpenClaim := { program := "ytgpkbldlkadnjaagreat", sum := "cc9fd960ce3fa6407e04836ed129285745a657c258993827ccc2b1ba91395e02", func := "shardlog/shardloglaw25.ScrubShards", spec := "scrubShards", unfollowed := true, recurses := true, apart := false, narrowed := true }
def ScrubShardsUptoSaid : Prop := scrubShardsUptoRow.holds Tryz.pinned (OpenSpec.upto scrubShardsSpec)

/-- 'shardloglaw25.ScrubPuts', WHERE WHAT IT READS IS OF BULK AT MOST 1048576: true; the input reads as it did. -/
def scrubPutsUptoRow : OpenClaim := { program := "ytgpkbldlkadnjaagreat", sum := "cc9fd960ce3fa6407e04836ed129285745a657c258993827ccc2b1ba91395e02", func := "shardlog/shardloglaw25.ScrubPuts", spec := "scrubPuts", unfollowed := true, recurses := true, apart := false, narrowed := true }
def ScrubPutsUptoSaid : Prop := scrubPutsUptoRow.holds Tryz.pinned (OpenSpec.upto scrubPutsSpec)

/-- 'shardloglaw25.ScrubNever', WHERE WHAT IT READS IS OF BULK AT MOST 1048576: true; the input reads as it did. -/
def scrubNeverUptoRow : OpenClaim := { program := "ytgpkbldlkadnjaagreat", sum := "cc9fd960ce3fa6407e04836ed129285745a657c258993827ccc2b1ba91395e02", func := "shardlog/shardloglaw25.ScrubNever", spec := "scrubNever", unfollowed := true, recurses := true, apart := false, narrowed := true }
def ScrubNeverUptoSaid : Prop := scrubNeverUptoRow.holds Tryz.pinned (OpenSpec.upto scrubNeverSpec)

/-- 'shardloglaw25.ScrubQuarantine', WHERE WHAT IT READS IS OF BULK AT MOST 1048576: true; the input reads as it did. -/
def scrubQuarantineUptoRow : OpenClaim := { program := "ytgpkbldlkadnjaagreat", sum := "cc9fd960ce3fa6407e04836ed129285745a657c258993827ccc2b1ba91395e02", func := "shardlog/shardloglaw25.ScrubQuarantine", spec := "scrubQuarantine", unfollowed := true, recurses := true, apart := false, narrowed := true }
def ScrubQuarantineUptoSaid : Prop := scrubQuarantineUptoRow.holds Tryz.pinned (OpenSpec.upto scrubQuarantineSpec)

/-- 'shardloglaw25.ScrubApart', WHERE WHAT IT READS IS OF BULK AT MOST 1048576: true; the input reads as it did. -/
def scrubApartUptoRow : OpenClaim := { program := "ytgpkbldlkadnjaagreat", sum := "cc9fd960ce3fa6407e04836ed129285745a657c258993827ccc2b1ba91395e02", func := "shardlog/shardloglaw25.ScrubApart", spec := "scrubApart", unfollowed := true, recurses := true, apart := false, narrowed := true }
def ScrubApartUptoSaid : Prop := scrubApartUptoRow.holds Tryz.pinned (OpenSpec.upto scrubApartSpec)

/-- 'shardloglaw25.ScrubRepairs', WHERE WHAT IT READS IS OF BULK AT MOST 1048576: true; the input reads as it did. -/
def scrubRepairsUptoRow : OpenClaim := { program := "ytgpkbldlkadnjaagreat", sum := "cc9fd960ce3fa6407e04836ed129285745a657c258993827ccc2b1ba91395e02", func := "shardlog/shardloglaw25.ScrubRepairs", spec := "scrubRepairs", unfollowed := true, recurses := true, apart := false, narrowed := true }
def ScrubRepairsUptoSaid : Prop := scrubRepairsUptoRow.holds Tryz.pinned (OpenSpec.upto scrubRepairsSpec)

end Rows
end Go.Proofs.YtgpkbldlkadnjaaGreat
