/-
  No cell of these rows narrows 'for every input' (looked for: loops, veiled, ifaces, maps, wideKeys, modest, calm, conditions, laid).
  DERIVED. THE GIVEN ROWS OF THIS SEAT. 12 by the template 'for every input the law returns true; each argument reads behind the call as it read before'; 0 by the template 'total and deterministic' (their statements: YtamjhaomdfeemaaTotals.lean).
  GIVEN WITH THE SEED: the statements are not yours to turn. If you find one false, say at which input.
  Laid BY PROGRAM, IN A SANDBOX (cutbox-rows.mjs): the forced cells as the released guide's own fill.sh prints them over the translation 7daf7f85a84013b5… (all of the seat's roots in one cut). By AI agents, Wed Nov 11 2026. No macro, syntax, notation, axiom, sorry.
-/
import Derived.Test.YtamjhaomdfeemaaChecked
import GoSem.Claim
import GoSem.ClaimJoined
import GoSem.ClaimMapViews
import Derived.JoinedTies
import Derived.KernelRfl
namespace Go.Proofs.Ytamjhaomdfeemaa
/- THE CELL 'sum', in the pinned program and in every row, IS THE sha256 OF THE DUMP (.gsa) THAT YtamjhaomdfeemaaProg.lean LOADS. Nothing in Lean hashes anything: it is a label: what it is worth is what the hold of that sum in a sandbox is worth. -/
noncomputable def Try.pinned : Pinned := { name := "ytamjhaomdfeemaa", sum := "7daf7f85a84013b57c7dadcb2a8a9ecc94eec3f225fef6b638fd72d5a808438a", checked := Try.checked }
namespace Rows
def none {H : Type} : Left H := { results := [], args := [] }

/-- 'weighbridgelaw01.SumParts': WHATEVER THE INPUT: true; the input reads as it did. -/
def sumPartsSpec : ChangeSpec := { name := "sumParts", fn := fun _ => fun
  | [d1, d2] => { results := [.lit (.bool true)], args := [d1, d2] }
  | _ => none }
def sumPartsRow : OpenClaim := { program := "ytamjhaomdfeemaa", sum := "7daf7f85a84013b57c7dadcb2a8a9ecc94eec3f225fef6b638fd72d5a808438a", func := "weighbridge/weighbridgelaw01.SumParts", spec := "sumParts", unfollowed := true, recurses := true, apart := false }
def SumPartsSaid : Prop := sumPartsRow.holds Try.pinned (OpenSpec.ofChange sumPartsSpec)

/-- ITS FALSE NEIGHBOUR: 'it returns false'. Refute it at one input. -/
def sumPartsWrong : ChangeSpec := { name := "sumParts", fn := fun _ => fun
  | [d1, d2] => { results := [.lit (.bool false)], args := [d1, d2] }
  | _ => none }
def SumPartsWrongFalsely : Prop := sumPartsRow.holds Try.pinned (OpenSpec.ofChange sumPartsWrong)

/-- 'weighbridgelaw01.SumCuts': WHATEVER THE INPUT: true; the input reads as it did. -/
def sumCutsSpec : ChangeSpec := { name := "sumCuts", fn := fun _ => fun
  | [d1, d2] => { results := [.lit (.bool true)], args := [d1, d2] }
  | _ => none }
def sumCutsRow : OpenClaim := { program := "ytamjhaomdfeemaa", sum := "7daf7f85a84013b57c7dadcb2a8a9ecc94eec3f225fef6b638fd72d5a808438a", func := "weighbridge/weighbridgelaw01.SumCuts", spec := "sumCuts", unfollowed := true, recurses := true, apart := false }
def SumCutsSaid : Prop := sumCutsRow.holds Try.pinned (OpenSpec.ofChange sumCutsSpec)

/-- ITS FALSE NEIGHBOUR: 'it returns false'. Refute it at one input. -/
def sumCutsWrong : ChangeSpec := { name := "sumCuts", fn := fun _ => fun
  | [d1, d2] => { results := [.lit (.bool false)], args := [d1, d2] }
  | _ => none }
def SumCutsWrongFalsely : Prop := sumCutsRow.holds Try.pinned (OpenSpec.ofChange sumCutsWrong)

/-- 'weighbridgelaw01.SumUpdates': WHATEVER THE INPUT: true; the input reads as it did. -/
def sumUpdatesSpec : ChangeSpec := { name := "sumUpdates", fn := fun _ => fun
  | [d1, d2, d3] => { results := [.lit (.bool true)], args := [d1, d2, d3] }
  | _ => none }
def sumUpdatesRow : OpenClaim := { program := "ytamjhaomdfeemaa", sum := "7daf7f85a84013b57c7dadcb2a8a9ecc94eec3f225fef6b638fd72d5a808438a", func := "weighbridge/weighbridgelaw01.SumUpdates", spec := "sumUpdates", unfollowed := true, recurses := true, apart := false }
def SumUpdatesSaid : Prop := sumUpdatesRow.holds Try.pinned (OpenSpec.ofChange sumUpdatesSpec)

/-- ITS FALSE NEIGHBOUR: 'it returns false'. Refute it at one input. -/
def sumUpdatesWrong : ChangeSpec := { name := "sumUpdates", fn := fun _ => fun
  | [d1, d2, d3] => { results := [.lit (.bool false)], args := [d1, d2, d3] }
  | _ => none }
def SumUpdatesWrongFalsely : Prop := sumUpdatesRow.holds Try.pinned (OpenSpec.ofChange sumUpdatesWrong)

/-- 'weighbridgelaw21.HealthReplies': WHATEVER THE INPUT: true; the input reads as it did. -/
def healthRepliesSpec : ChangeSpec := { name := "healthReplies", fn := fun _ => fun
  | [d1, d2, d3] => { results := [.lit (.bool true)], args := [d1, d2, d3] }
  | _ => none }
def healthRepliesRow : OpenClaim := { program := "ytamjhaomdfeemaa", sum := "7daf7f85a84013b57c7dadcb2a8a9ecc94eec3f225fef6b638fd72d5a808438a", func := "weighbridge/weighbridgelaw21.HealthReplies", spec := "healthReplies", unfollowed := true, recurses := true, apart := false }
def HealthRepliesSaid : Prop := healthRepliesRow.holds Try.pinned (OpenSpec.ofChange healthRepliesSpec)

/-- ITS FALSE NEIGHBOUR: 'it returns false'. Refute it at one input. -/
def healthRepliesWrong : ChangeSpec := { name := "healthReplies", fn := fun _ => fun
  | [d1, d2, d3] => { results := [.lit (.bool false)], args := [d1, d2, d3] }
  | _ => none }
def HealthRepliesWrongFalsely : Prop := healthRepliesRow.holds Try.pinned (OpenSpec.ofChange healthRepliesWrong)

/-- 'weighbridgelaw21.HealthTurns': WHATEVER THE INPUT: true; the input reads as it did. -/
def healthTurnsSpec : ChangeSpec := { name := "healthTurns", fn := fun _ => fun
  | [d1, d2, d3] => { results := [.lit (.bool true)], args := [d1, d2, d3] }
  | _ => none }
def healthTurnsRow : OpenClaim := { program := "ytamjhaomdfeemaa", sum := "7daf7f85a84013b57c7dadcb2a8a9ecc94eec3f225fef6b638fd72d5a808438a", func := "weighbridge/weighbridgelaw21.HealthTurns", spec := "healthTurns", unfollowed := true, recurses := true, apart := false }
def HealthTurnsSaid : Prop := healthTurnsRow.holds Try.pinned (OpenSpec.ofChange healthTurnsSpec)

/-- ITS FALSE NEIGHBOUR: 'it returns false'. Refute it at one input. -/
def healthTurnsWrong : ChangeSpec := { name := "healthTurns", fn := fun _ => fun
  | [d1, d2, d3] => { results := [.lit (.bool false)], args := [d1, d2, d3] }
  | _ => none }
def HealthTurnsWrongFalsely : Prop := healthTurnsRow.holds Try.pinned (OpenSpec.ofChange healthTurnsWrong)

/-- 'weighbridgelaw01.SumHeads': WHATEVER THE INPUT: true; the input reads as it did. -/
def sumHeadsSpec : ChangeSpec := { name := "sumHeads", fn := fun _ => fun
  | [d1, d2, d3, d4, d5, d6, d7, d8] => { results := [.lit (.bool true)], args := [d1, d2, d3, d4, d5, d6, d7, d8] }
  | _ => none }
def sumHeadsRow : OpenClaim := { program := "ytamjhaomdfeemaa", sum := "7daf7f85a84013b57c7dadcb2a8a9ecc94eec3f225fef6b638fd72d5a808438a", func := "weighbridge/weighbridgelaw01.SumHeads", spec := "sumHeads", unfollowed := true, recurses := true, apart := false }
def SumHeadsSaid : Prop := sumHeadsRow.holds Try.pinned (OpenSpec.ofChange sumHeadsSpec)

/-- ITS FALSE NEIGHBOUR: 'it returns false'. Refute it at one input. -/
def sumHeadsWrong : ChangeSpec := { name := "sumHeads", fn := fun _ => fun
  | [d1, d2, d3, d4, d5, d6, d7, d8] => { results := [.lit (.bool false)], args := [d1, d2, d3, d4, d5, d6, d7, d8] }
  | _ => none }
def SumHeadsWrongFalsely : Prop := sumHeadsRow.holds Try.pinned (OpenSpec.ofChange sumHeadsWrong)

/-- 'weighbridgelaw33.BucketBound': WHATEVER THE INPUT: true; the input reads as it did. -/
def bucketBoundSpec : ChangeSpec := { name := "bucketBound", fn := fun _ => fun
  | [d1, d2, d3, d4] => { results := [.lit (.bool true)], args := [d1, d2, d3, d4] }
  | _ => none }
def bucketBoundRow : OpenClaim := { program := "ytamjhaomdfeemaa", sum := "7daf7f85a84013b57c7dadcb2a8a9ecc94eec3f225fef6b638fd72d5a808438a", func := "weighbridge/weighbridgelaw33.BucketBound", spec := "bucketBound", unfollowed := true, recurses := true, apart := false }
def BucketBoundSaid : Prop := bucketBoundRow.holds Try.pinned (OpenSpec.ofChange bucketBoundSpec)

/-- ITS FALSE NEIGHBOUR: 'it returns false'. Refute it at one input. -/
def bucketBoundWrong : ChangeSpec := { name := "bucketBound", fn := fun _ => fun
  | [d1, d2, d3, d4] => { results := [.lit (.bool false)], args := [d1, d2, d3, d4] }
  | _ => none }
def BucketBoundWrongFalsely : Prop := bucketBoundRow.holds Try.pinned (OpenSpec.ofChange bucketBoundWrong)

/-- 'weighbridgelaw04.Ip6Chain': WHATEVER THE INPUT: true; the input reads as it did. -/
def ip6ChainSpec : ChangeSpec := { name := "ip6Chain", fn := fun _ => fun
  | [d1, d2, d3] => { results := [.lit (.bool true)], args := [d1, d2, d3] }
  | _ => none }
def ip6ChainRow : OpenClaim := { program := "ytamjhaomdfeemaa", sum := "7daf7f85a84013b57c7dadcb2a8a9ecc94eec3f225fef6b638fd72d5a808438a", func := "weighbridge/weighbridgelaw04.Ip6Chain", spec := "ip6Chain", unfollowed := true, recurses := true, apart := false }
def Ip6ChainSaid : Prop := ip6ChainRow.holds Try.pinned (OpenSpec.ofChange ip6ChainSpec)

/-- ITS FALSE NEIGHBOUR: 'it returns false'. Refute it at one input. -/
def ip6ChainWrong : ChangeSpec := { name := "ip6Chain", fn := fun _ => fun
  | [d1, d2, d3] => { results := [.lit (.bool false)], args := [d1, d2, d3] }
  | _ => none }
def Ip6ChainWrongFalsely : Prop := ip6ChainRow.holds Try.pinned (OpenSpec.ofChange ip6ChainWrong)

/-- 'weighbridgelaw33.BucketParts': WHATEVER THE INPUT: true; the input reads as it did. -/
def bucketPartsSpec : ChangeSpec := { name := "bucketParts", fn := fun _ => fun
  | [d1, d2, d3, d4, d5, d6] => { results := [.lit (.bool true)], args := [d1, d2, d3, d4, d5, d6] }
  | _ => none }
def bucketPartsRow : OpenClaim := { program := "ytamjhaomdfeemaa", sum := "7daf7f85a84013b57c7dadcb2a8a9ecc94eec3f225fef6b638fd72d5a808438a", func := "weighbridge/weighbridgelaw33.BucketParts", spec := "bucketParts", unfollowed := true, recurses := true, apart := false }
def BucketPartsSaid : Prop := bucketPartsRow.holds Try.pinned (OpenSpec.ofChange bucketPartsSpec)

/-- ITS FALSE NEIGHBOUR: 'it returns false'. Refute it at one input. -/
def bucketPartsWrong : ChangeSpec := { name := "bucketParts", fn := fun _ => fun
  | [d1, d2, d3, d4, d5, d6] => { results := [.lit (.bool false)], args := [d1, d2, d3, d4, d5, d6] }
  | _ => none }
def BucketPartsWrongFalsely : Prop := bucketPartsRow.holds Try.pinned (OpenSpec.ofChange bucketPartsWrong)

/-- 'weighbridgelaw30.EmitTallies': WHATEVER THE INPUT: true; the input reads as it did. -/
def emitTalliesSpec : ChangeSpec := { name := "emitTallies", fn := fun _ => fun
  | [d1, d2, d3] => { results := [.lit (.bool true)], args := [d1, d2, d3] }
  | _ => none }
def emitTalliesRow : OpenClaim := { program := "ytamjhaomdfeemaa", sum := "7daf7f85a84013b57c7dadcb2a8a9ecc94eec3f225fef6b638fd72d5a808438a", func := "weighbridge/weighbridgelaw30.EmitTallies", spec := "emitTallies", unfollowed := true, recurses := true, apart := false }
def EmitTalliesSaid : Prop := emitTalliesRow.holds Try.pinned (OpenSpec.ofChange emitTalliesSpec)

/-- ITS FALSE NEIGHBOUR: 'it returns false'. Refute it at one input. -/
def emitTalliesWrong : ChangeSpec := { name := "emitTallies", fn := fun _ => fun
  | [d1, d2, d3] => { results := [.lit (.bool false)], args := [d1, d2, d3] }
  | _ => none }
def EmitTalliesWrongFalsely : Prop := emitTalliesRow.holds Try.pinned (OpenSpec.ofChange emitTalliesWrong)

/-- 'weighbridgelaw33.BucketPlays': WHATEVER THE INPUT: true; the input reads as it did. -/
def bucketPlaysSpec : ChangeSpec := { name := "bucketPlays", fn := fun _ => fun
  | [d1, d2, d3] => { results := [.lit (.bool true)], args := [d1, d2, d3] }
  | _ => none }
def bucketPlaysRow : OpenClaim := { program := "ytamjhaomdfeemaa", sum := "7daf7f85a84013b57c7dadcb2a8a9ecc94eec3f225fef6b638fd72d5a808438a", func := "weighbridge/weighbridgelaw33.BucketPlays", spec := "bucketPlays", unfollowed := true, recurses := true, apart := false }
def BucketPlaysSaid : Prop := bucketPlaysRow.holds Try.pinned (OpenSpec.ofChange bucketPlaysSpec)

/-- ITS FALSE NEIGHBOUR: 'it returns false'. Refute it at one input. -/
def bucketPlaysWrong : ChangeSpec := { name := "bucketPlays", fn := fun _ => fun
  | [d1, d2, d3] => { results := [.lit (.bool false)], args := [d1, d2, d3] }
  | _ => none }
def BucketPlaysWrongFalsely : Prop := bucketPlaysRow.holds Try.pinned (OpenSpec.ofChange bucketPlaysWrong)

/-- 'weighbridgelaw33.BucketNone': WHATEVER THE INPUT: true; the input reads as it did. -/
def bucketNoneSpec : ChangeSpec := { name := "bucketNone", fn := fun _ => fun
  | [d1, d2] => { results := [.lit (.bool true)], args := [d1, d2] }
  | _ => none }
def bucketNoneRow : OpenClaim := { program := "ytamjhaomdfeemaa", sum := "7daf7f85a84013b57c7dadcb2a8a9ecc94eec3f225fef6b638fd72d5a808438a", func := "weighbridge/weighbridgelaw33.BucketNone", spec := "bucketNone", unfollowed := true, recurses := true, apart := false }
def BucketNoneSaid : Prop := bucketNoneRow.holds Try.pinned (OpenSpec.ofChange bucketNoneSpec)

/-- ITS FALSE NEIGHBOUR: 'it returns false'. Refute it at one input. -/
def bucketNoneWrong : ChangeSpec := { name := "bucketNone", fn := fun _ => fun
  | [d1, d2] => { results := [.lit (.bool false)], args := [d1, d2] }
  | _ => none }
def BucketNoneWrongFalsely : Prop := bucketNoneRow.holds Try.pinned (OpenSpec.ofChange bucketNoneWrong)

/- THE SECOND FORM. 'bulk': how many values and letters a reading holds, each counted each time it is reached (what is shared counts as often as it is met; a slice's spare places count too). A statement '..UptoSaid' is the law's where the arguments, and the package variables that the reading takes, are together of bulk at most 1048576: NARROWER than '..Said'. Prove '..Said' where nothing that the law and all that it calls make is longer than what came in: it says more and counts as full. Else prove '..UptoSaid'. A law counts once. -/
mutual
def uptoBulk {H : Type} : DataW H → Nat
  | .lit (.string bytes) => bytes.length + 1
  | .lit _ => 1
  | .nil => 1
  | .ptr d => uptoBulk d + 1
  | .slice elems spare => uptoBulkAll elems + uptoBulkAll spare + 1
  | .agg parts => uptoBulkAll parts + 1
  | .iface _ d => uptoBulk d + 1
  | .map entries => uptoBulkEntries entries + 1
  | .held _ => 1
def uptoBulkAll {H : Type} : List (DataW H) → Nat
  | [] => 0
  | d :: r => uptoBulk d + uptoBulkAll r
def uptoBulkEntries {H : Type} : List (Lit × DataW H) → Nat
  | [] => 0
  | x :: r => uptoBulkEntry x + uptoBulkEntries r
def uptoBulkEntry {H : Type} : Lit × DataW H → Nat
  | (.string bytes, d) => bytes.length + uptoBulk d + 1
  | (_, d) => uptoBulk d + 1
 end
def uptoSmall : (H : Type) → List (DataW H) → Bool := fun _ ds => decide (uptoBulkAll ds ≤ 1048576)
def OpenSpec.upto (s : _root_.Go.ChangeSpec) : _root_.Go.OpenSpec := { _root_.Go.OpenSpec.ofChange s with cond := some uptoSmall }

/-- 'weighbridgelaw01.SumParts', WHERE WHAT IT READS IS OF BULK AT MOST 1048576: true; the input reads as it did. -/
def sumPartsUptoRow : OpenClaim := { program := "ytamjhaomdfeemaa", sum := "7daf7f85a84013b57c7dadcb2a8a9ecc94eec3f225fef6b638fd72d5a808438a", func := "weighbridge/weighbridgelaw01.SumParts", spec := "sumParts", unfollowed := true, recurses := true, apart := false, narrowed := true }
def SumPartsUptoSaid : Prop := sumPartsUptoRow.holds Try.pinned (OpenSpec.upto sumPartsSpec)

/-- 'weighbridgelaw01.SumCuts', WHERE WHAT IT READS IS OF BULK AT MOST 1048576: true; the input reads as it did. -/
def sumCutsUptoRow : OpenClaim := { program := "ytamjhaomdfeemaa", sum := "7daf7f85a84013b57c7dadcb2a8a9ecc94eec3f225fef6b638fd72d5a808438a", func := "weighbridge/weighbridgelaw01.SumCuts", spec := "sumCuts", unfollowed := true, recurses := true, apart := false, narrowed := true }
def SumCutsUptoSaid : Prop := sumCutsUptoRow.holds Try.pinned (OpenSpec.upto sumCutsSpec)

/-- 'weighbridgelaw01.SumUpdates', WHERE WHAT IT READS IS OF BULK AT MOST 1048576: true; the input reads as it did. -/
def sumUpdatesUptoRow : OpenClaim := { program := "ytamjhaomdfeemaa", sum := "7daf7f85a84013b57c7dadcb2a8a9ecc94eec3f225fef6b638fd72d5a808438a", func := "weighbridge/weighbridgelaw01.SumUpdates", spec := "sumUpdates", unfollowed := true, recurses := true, apart := false, narrowed := true }
def SumUpdatesUptoSaid : Prop := sumUpdatesUptoRow.holds Try.pinned (OpenSpec.upto sumUpdatesSpec)

/-- 'weighbridgelaw21.HealthReplies', WHERE WHAT IT READS IS OF BULK AT MOST 1048576: true; the input reads as it did. -/
def healthRepliesUptoRow : OpenClaim := { program := "ytamjhaomdfeemaa", sum := "7daf7f85a84013b57c7dadcb2a8a9ecc94eec3f225fef6b638fd72d5a808438a", func := "weighbridge/weighbridgelaw21.HealthReplies", spec := "healthReplies", unfollowed := true, recurses := true, apart := false, narrowed := true }
def HealthRepliesUptoSaid : Prop := healthRepliesUptoRow.holds Try.pinned (OpenSpec.upto healthRepliesSpec)

/-- 'weighbridgelaw21.HealthTurns', WHERE WHAT IT READS IS OF BULK AT MOST 1048576: true; the input reads as it did. -/
def healthTurnsUptoRow : OpenClaim := { program := "ytamjhaomdfeemaa", sum := "7daf7f85a84013b57c7dadcb2a8a9ecc94eec3f225fef6b638fd72d5a808438a", func := "weighbridge/weighbridgelaw21.HealthTurns", spec := "healthTurns", unfollowed := true, recurses := true, apart := false, narrowed := true }
def HealthTurnsUptoSaid : Prop := healthTurnsUptoRow.holds Try.pinned (OpenSpec.upto healthTurnsSpec)

/-- 'weighbridgelaw01.SumHeads', WHERE WHAT IT READS IS OF BULK AT MOST 1048576: true; the input reads as it did. -/
def sumHeadsUptoRow : OpenClaim := { program := "ytamjhaomdfeemaa", sum := "7daf7f85a84013b57c7dadcb2a8a9ecc94eec3f225fef6b638fd72d5a808438a", func := "weighbridge/weighbridgelaw01.SumHeads", spec := "sumHeads", unfollowed := true, recurses := true, apart := false, narrowed := true }
def SumHeadsUptoSaid : Prop := sumHeadsUptoRow.holds Try.pinned (OpenSpec.upto sumHeadsSpec)

/-- 'weighbridgelaw33.BucketBound', WHERE WHAT IT READS IS OF BULK AT MOST 1048576: true; the input reads as it did. -/
def bucketBoundUptoRow : OpenClaim := { program := "ytamjhaomdfeemaa", sum := "7daf7f85a84013b57c7dadcb2a8a9ecc94eec3f225fef6b638fd72d5a808438a", func := "weighbridge/weighbridgelaw33.BucketBound", spec := "bucketBound", unfollowed := true, recurses := true, apart := false, narrowed := true }
def BucketBoundUptoSaid : Prop := bucketBoundUptoRow.holds Try.pinned (OpenSpec.upto bucketBoundSpec)

/-- 'weighbridgelaw04.Ip6Chain', WHERE WHAT IT READS IS OF BULK AT MOST 1048576: true; the input reads as it did. -/
def ip6ChainUptoRow : OpenClaim := { program := "ytamjhaomdfeemaa", sum := "7daf7f85a84013b57c7dadcb2a8a9ecc94eec3f225fef6b638fd72d5a808438a", func := "weighbridge/weighbridgelaw04.Ip6Chain", spec := "ip6Chain", unfollowed := true, recurses := true, apart := false, narrowed := true }
def Ip6ChainUptoSaid : Prop := ip6ChainUptoRow.holds Try.pinned (OpenSpec.upto ip6ChainSpec)

/-- 'weighbridgelaw33.BucketParts', WHERE WHAT IT READS IS OF BULK AT MOST 1048576: true; the input reads as it did. -/
def bucketPartsUptoRow : OpenClaim := { program := "ytamjhaomdfeemaa", sum := "7daf7f85a84013b57c7dadcb2a8a9ecc94eec3f225fef6b638fd72d5a808438a", func := "weighbridge/weighbridgelaw33.BucketParts", spec := "bucketParts", unfollowed := true, recurses := true, apart := false, narrowed := true }
def BucketPartsUptoSaid : Prop := bucketPartsUptoRow.holds Try.pinned (OpenSpec.upto bucketPartsSpec)

/-- 'weighbridgelaw30.EmitTallies', WHERE WHAT IT READS IS OF BULK AT MOST 1048576: true; the input reads as it did. -/
def emitTalliesUptoRow : OpenClaim := { program := "ytamjhaomdfeemaa", sum := "7daf7f85a84013b57c7dadcb2a8a9ecc94eec3f225fef6b638fd72d5a808438a", func := "weighbridge/weighbridgelaw30.EmitTallies", spec := "emitTallies", unfollowed := true, recurses := true, apart := false, narrowed := true }
def EmitTalliesUptoSaid : Prop := emitTalliesUptoRow.holds Try.pinned (OpenSpec.upto emitTalliesSpec)

/-- 'weighbridgelaw33.BucketPlays', WHERE WHAT IT READS IS OF BULK AT MOST 1048576: true; the input reads as it did. -/
def bucketPlaysUptoRow : OpenClaim := { program := "ytamjhaomdfeemaa", sum := "7daf7f85a84013b57c7dadcb2a8a9ecc94eec3f225fef6b638fd72d5a808438a", func := "weighbridge/weighbridgelaw33.BucketPlays", spec := "bucketPlays", unfollowed := true, recurses := true, apart := false, narrowed := true }
def BucketPlaysUptoSaid : Prop := bucketPlaysUptoRow.holds Try.pinned (OpenSpec.upto bucketPlaysSpec)

/-- 'weighbridgelaw33.BucketNone', WHERE WHAT IT READS IS OF BULK AT MOST 1048576: true; the input reads as it did. -/
def bucketNoneUptoRow : OpenClaim := { program := "ytamjhaomdfeemaa", sum := "7daf7f85a84013b57c7dadcb2a8a9ecc94eec3f225fef6b638fd72d5a808438a", func := "weighbridge/weighbridgelaw33.BucketNone", spec := "bucketNone", unfollowed := true, recurses := true, apart := false, narrowed := true }
def BucketNoneUptoSaid : Prop := bucketNoneUptoRow.holds Try.pinned (OpenSpec.upto bucketNoneSpec)

end Rows
end Go.Proofs.Ytamjhaomdfeemaa
