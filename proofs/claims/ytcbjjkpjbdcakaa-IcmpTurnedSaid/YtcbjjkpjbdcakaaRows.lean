/-
  No cell of these rows narrows 'for every input' (looked for: loops, veiled, ifaces, maps, wideKeys, modest, calm, conditions, laid).
  DERIVED. THE GIVEN ROWS OF THIS SEAT. 11 by the template 'for every input the law returns true; each argument reads behind the call as it read before'; 0 by the template 'total and deterministic' (their statements: YtcbjjkpjbdcakaaTotals.lean).
  GIVEN WITH THE SEED: the statements are not yours to turn. If you find one false, say at which input.
  Laid BY PROGRAM, IN A SANDBOX (cutbox-rows.mjs): the forced cells as the released guide's own fill.sh prints them over the translation b69a1fdf77b088e4… (all of the seat's roots in one cut). By AI agents, Wed Nov 11 2026. No macro, syntax, notation, axiom, sorry.
-/
import Derived.Test.YtcbjjkpjbdcakaaChecked
import GoSem.Claim
import GoSem.ClaimJoined
import GoSem.ClaimMapViews
import Derived.JoinedTies
import Derived.KernelRfl
namespace Go.Proofs.Ytcbjjkpjbdcakaa
/- THE CELL 'sum', in the pinned program and in every row, IS THE sha256 OF THE DUMP (.gsa) THAT YtcbjjkpjbdcakaaProg.lean LOADS. Nothing in Lean hashes anything: it is a label: what it is worth is what the hold of that sum in a sandbox is worth. -/
noncomputable def Try.pinned : Pinned := { name := "ytcbjjkpjbdcakaa", sum := "b69a1fdf77b088e48cb0bed71b54970faa561244b0b6930315fa4406fcf755f4", checked := Try.checked }
namespace Rows
def none {H : Type} : Left H := { results := [], args := [] }

/-- 'weighbridgelaw05.SegReads': WHATEVER THE INPUT: true; the input reads as it did. -/
def segReadsSpec : ChangeSpec := { name := "segReads", fn := fun _ => fun
  | [d1, d2, d3, d4] => { results := [.lit (.bool true)], args := [d1, d2, d3, d4] }
  | _ => none }
def segReadsRow : OpenClaim := { program := "ytcbjjkpjbdcakaa", sum := "b69a1fdf77b088e48cb0bed71b54970faa561244b0b6930315fa4406fcf755f4", func := "weighbridge/weighbridgelaw05.SegReads", spec := "segReads", unfollowed := true, recurses := true, apart := false }
def SegReadsSaid : Prop := segReadsRow.holds Try.pinned (OpenSpec.ofChange segReadsSpec)

/-- ITS FALSE NEIGHBOUR: 'it returns false'. Refute it at one input. -/
def segReadsWrong : ChangeSpec := { name := "segReads", fn := fun _ => fun
  | [d1, d2, d3, d4] => { results := [.lit (.bool false)], args := [d1, d2, d3, d4] }
  | _ => none }
def SegReadsWrongFalsely : Prop := segReadsRow.holds Try.pinned (OpenSpec.ofChange segReadsWrong)

/-- 'weighbridgelaw05.SegWrites': WHATEVER THE INPUT: true; the input reads as it did. -/
def segWritesSpec : ChangeSpec := { name := "segWrites", fn := fun _ => fun
  | [d1, d2, d3, d4, d5, d6] => { results := [.lit (.bool true)], args := [d1, d2, d3, d4, d5, d6] }
  | _ => none }
def segWritesRow : OpenClaim := { program := "ytcbjjkpjbdcakaa", sum := "b69a1fdf77b088e48cb0bed71b54970faa561244b0b6930315fa4406fcf755f4", func := "weighbridge/weighbridgelaw05.SegWrites", spec := "segWrites", unfollowed := true, recurses := true, apart := false }
def SegWritesSaid : Prop := segWritesRow.holds Try.pinned (OpenSpec.ofChange segWritesSpec)

/-- ITS FALSE NEIGHBOUR: 'it returns false'. Refute it at one input. -/
def segWritesWrong : ChangeSpec := { name := "segWrites", fn := fun _ => fun
  | [d1, d2, d3, d4, d5, d6] => { results := [.lit (.bool false)], args := [d1, d2, d3, d4, d5, d6] }
  | _ => none }
def SegWritesWrongFalsely : Prop := segWritesRow.holds Try.pinned (OpenSpec.ofChange segWritesWrong)

/-- 'weighbridgelaw05.SegBack': WHATEVER THE INPUT: true; the input reads as it did. -/
def segBackSpec : ChangeSpec := { name := "segBack", fn := fun _ => fun
  | [d1, d2, d3, d4, d5, d6] => { results := [.lit (.bool true)], args := [d1, d2, d3, d4, d5, d6] }
  | _ => none }
def segBackRow : OpenClaim := { program := "ytcbjjkpjbdcakaa", sum := "b69a1fdf77b088e48cb0bed71b54970faa561244b0b6930315fa4406fcf755f4", func := "weighbridge/weighbridgelaw05.SegBack", spec := "segBack", unfollowed := true, recurses := true, apart := false }
def SegBackSaid : Prop := segBackRow.holds Try.pinned (OpenSpec.ofChange segBackSpec)

/-- ITS FALSE NEIGHBOUR: 'it returns false'. Refute it at one input. -/
def segBackWrong : ChangeSpec := { name := "segBack", fn := fun _ => fun
  | [d1, d2, d3, d4, d5, d6] => { results := [.lit (.bool false)], args := [d1, d2, d3, d4, d5, d6] }
  | _ => none }
def SegBackWrongFalsely : Prop := segBackRow.holds Try.pinned (OpenSpec.ofChange segBackWrong)

/-- 'weighbridgelaw03.Ip4Packets': WHATEVER THE INPUT: true; the input reads as it did. -/
def ip4PacketsSpec : ChangeSpec := { name := "ip4Packets", fn := fun _ => fun
  | [d1, d2] => { results := [.lit (.bool true)], args := [d1, d2] }
  | _ => none }
def ip4PacketsRow : OpenClaim := { program := "ytcbjjkpjbdcakaa", sum := "b69a1fdf77b088e48cb0bed71b54970faa561244b0b6930315fa4406fcf755f4", func := "weighbridge/weighbridgelaw03.Ip4Packets", spec := "ip4Packets", unfollowed := true, recurses := true, apart := false }
def Ip4PacketsSaid : Prop := ip4PacketsRow.holds Try.pinned (OpenSpec.ofChange ip4PacketsSpec)

/-- ITS FALSE NEIGHBOUR: 'it returns false'. Refute it at one input. -/
def ip4PacketsWrong : ChangeSpec := { name := "ip4Packets", fn := fun _ => fun
  | [d1, d2] => { results := [.lit (.bool false)], args := [d1, d2] }
  | _ => none }
def Ip4PacketsWrongFalsely : Prop := ip4PacketsRow.holds Try.pinned (OpenSpec.ofChange ip4PacketsWrong)

/-- 'weighbridgelaw03.Ip4Back': WHATEVER THE INPUT: true; the input reads as it did. -/
def ip4BackSpec : ChangeSpec := { name := "ip4Back", fn := fun _ => fun
  | [d1, d2, d3] => { results := [.lit (.bool true)], args := [d1, d2, d3] }
  | _ => none }
def ip4BackRow : OpenClaim := { program := "ytcbjjkpjbdcakaa", sum := "b69a1fdf77b088e48cb0bed71b54970faa561244b0b6930315fa4406fcf755f4", func := "weighbridge/weighbridgelaw03.Ip4Back", spec := "ip4Back", unfollowed := true, recurses := true, apart := false }
def Ip4BackSaid : Prop := ip4BackRow.holds Try.pinned (OpenSpec.ofChange ip4BackSpec)

/-- ITS FALSE NEIGHBOUR: 'it returns false'. Refute it at one input. -/
def ip4BackWrong : ChangeSpec := { name := "ip4Back", fn := fun _ => fun
  | [d1, d2, d3] => { results := [.lit (.bool false)], args := [d1, d2, d3] }
  | _ => none }
def Ip4BackWrongFalsely : Prop := ip4BackRow.holds Try.pinned (OpenSpec.ofChange ip4BackWrong)

/-- 'weighbridgelaw03.Ip4One': WHATEVER THE INPUT: true; the input reads as it did. -/
def ip4OneSpec : ChangeSpec := { name := "ip4One", fn := fun _ => fun
  | [d1, d2, d3] => { results := [.lit (.bool true)], args := [d1, d2, d3] }
  | _ => none }
def ip4OneRow : OpenClaim := { program := "ytcbjjkpjbdcakaa", sum := "b69a1fdf77b088e48cb0bed71b54970faa561244b0b6930315fa4406fcf755f4", func := "weighbridge/weighbridgelaw03.Ip4One", spec := "ip4One", unfollowed := true, recurses := true, apart := false }
def Ip4OneSaid : Prop := ip4OneRow.holds Try.pinned (OpenSpec.ofChange ip4OneSpec)

/-- ITS FALSE NEIGHBOUR: 'it returns false'. Refute it at one input. -/
def ip4OneWrong : ChangeSpec := { name := "ip4One", fn := fun _ => fun
  | [d1, d2, d3] => { results := [.lit (.bool false)], args := [d1, d2, d3] }
  | _ => none }
def Ip4OneWrongFalsely : Prop := ip4OneRow.holds Try.pinned (OpenSpec.ofChange ip4OneWrong)

/-- 'weighbridgelaw04.Ip6Packets': WHATEVER THE INPUT: true; the input reads as it did. -/
def ip6PacketsSpec : ChangeSpec := { name := "ip6Packets", fn := fun _ => fun
  | [d1, d2, d3] => { results := [.lit (.bool true)], args := [d1, d2, d3] }
  | _ => none }
def ip6PacketsRow : OpenClaim := { program := "ytcbjjkpjbdcakaa", sum := "b69a1fdf77b088e48cb0bed71b54970faa561244b0b6930315fa4406fcf755f4", func := "weighbridge/weighbridgelaw04.Ip6Packets", spec := "ip6Packets", unfollowed := true, recurses := true, apart := false }
def Ip6PacketsSaid : Prop := ip6PacketsRow.holds Try.pinned (OpenSpec.ofChange ip6PacketsSpec)

/-- ITS FALSE NEIGHBOUR: 'it returns false'. Refute it at one input. -/
def ip6PacketsWrong : ChangeSpec := { name := "ip6Packets", fn := fun _ => fun
  | [d1, d2, d3] => { results := [.lit (.bool false)], args := [d1, d2, d3] }
  | _ => none }
def Ip6PacketsWrongFalsely : Prop := ip6PacketsRow.holds Try.pinned (OpenSpec.ofChange ip6PacketsWrong)

/-- 'weighbridgelaw04.Ip6Back': WHATEVER THE INPUT: true; the input reads as it did. -/
def ip6BackSpec : ChangeSpec := { name := "ip6Back", fn := fun _ => fun
  | [d1, d2, d3] => { results := [.lit (.bool true)], args := [d1, d2, d3] }
  | _ => none }
def ip6BackRow : OpenClaim := { program := "ytcbjjkpjbdcakaa", sum := "b69a1fdf77b088e48cb0bed71b54970faa561244b0b6930315fa4406fcf755f4", func := "weighbridge/weighbridgelaw04.Ip6Back", spec := "ip6Back", unfollowed := true, recurses := true, apart := false }
def Ip6BackSaid : Prop := ip6BackRow.holds Try.pinned (OpenSpec.ofChange ip6BackSpec)

/-- ITS FALSE NEIGHBOUR: 'it returns false'. Refute it at one input. -/
def ip6BackWrong : ChangeSpec := { name := "ip6Back", fn := fun _ => fun
  | [d1, d2, d3] => { results := [.lit (.bool false)], args := [d1, d2, d3] }
  | _ => none }
def Ip6BackWrongFalsely : Prop := ip6BackRow.holds Try.pinned (OpenSpec.ofChange ip6BackWrong)

/-- 'weighbridgelaw06.IcmpTurned': WHATEVER THE INPUT: true; the input reads as it did. -/
def icmpTurnedSpec : ChangeSpec := { name := "icmpTurned", fn := fun _ => fun
  | [d1, d2, d3] => { results := [.lit (.bool true)], args := [d1, d2, d3] }
  | _ => none }
def icmpTurnedRow : OpenClaim := { program := "ytcbjjkpjbdcakaa", sum := "b69a1fdf77b088e48cb0bed71b54970faa561244b0b6930315fa4406fcf755f4", func := "weighbridge/weighbridgelaw06.IcmpTurned", spec := "icmpTurned", unfollowed := true, recurses := true, apart := false }
def IcmpTurnedSaid : Prop := icmpTurnedRow.holds Try.pinned (OpenSpec.ofChange icmpTurnedSpec)

/-- ITS FALSE NEIGHBOUR: 'it returns false'. Refute it at one input. -/
def icmpTurnedWrong : ChangeSpec := { name := "icmpTurned", fn := fun _ => fun
  | [d1, d2, d3] => { results := [.lit (.bool false)], args := [d1, d2, d3] }
  | _ => none }
def IcmpTurnedWrongFalsely : Prop := icmpTurnedRow.holds Try.pinned (OpenSpec.ofChange icmpTurnedWrong)

/-- 'weighbridgelaw06.IcmpReads': WHATEVER THE INPUT: true; the input reads as it did. -/
def icmpReadsSpec : ChangeSpec := { name := "icmpReads", fn := fun _ => fun
  | [d1, d2, d3, d4] => { results := [.lit (.bool true)], args := [d1, d2, d3, d4] }
  | _ => none }
def icmpReadsRow : OpenClaim := { program := "ytcbjjkpjbdcakaa", sum := "b69a1fdf77b088e48cb0bed71b54970faa561244b0b6930315fa4406fcf755f4", func := "weighbridge/weighbridgelaw06.IcmpReads", spec := "icmpReads", unfollowed := true, recurses := true, apart := false }
def IcmpReadsSaid : Prop := icmpReadsRow.holds Try.pinned (OpenSpec.ofChange icmpReadsSpec)

/-- ITS FALSE NEIGHBOUR: 'it returns false'. Refute it at one input. -/
def icmpReadsWrong : ChangeSpec := { name := "icmpReads", fn := fun _ => fun
  | [d1, d2, d3, d4] => { results := [.lit (.bool false)], args := [d1, d2, d3, d4] }
  | _ => none }
def IcmpReadsWrongFalsely : Prop := icmpReadsRow.holds Try.pinned (OpenSpec.ofChange icmpReadsWrong)

/-- 'weighbridgelaw06.IcmpWrites': WHATEVER THE INPUT: true; the input reads as it did. -/
def icmpWritesSpec : ChangeSpec := { name := "icmpWrites", fn := fun _ => fun
  | [d1, d2, d3, d4, d5, d6, d7] => { results := [.lit (.bool true)], args := [d1, d2, d3, d4, d5, d6, d7] }
  | _ => none }
def icmpWritesRow : OpenClaim := { program := "ytcbjjkpjbdcakaa", sum := "b69a1fdf77b088e48cb0bed71b54970faa561244b0b6930315fa4406fcf755f4", func := "weighbridge/weighbridgelaw06.IcmpWrites", spec := "icmpWrites", unfollowed := true, recurses := true, apart := false }
def IcmpWritesSaid : Prop := icmpWritesRow.holds Try.pinned (OpenSpec.ofChange icmpWritesSpec)

/-- ITS FALSE NEIGHBOUR: 'it returns false'. Refute it at one input. -/
def icmpWritesWrong : ChangeSpec := { name := "icmpWrites", fn := fun _ => fun
  | [d1, d2, d3, d4, d5, d6, d7] => { results := [.lit (.bool false)], args := [d1, d2, d3, d4, d5, d6, d7] }
  | _ => none }
def IcmpWritesWrongFalsely : Prop := icmpWritesRow.holds Try.pinned (OpenSpec.ofChange icmpWritesWrong)

/- THE SECOND FORM. 'bulk': how many values and letters a reading holds, each counted each time it is reached (what is shared counts as often as it is met; a slice's spare places count too). A statement '..UptoSaid' is the law's where the arguments, and the package variables that the reading takes, are together of bulk at most 1048576: NARROWER than '..Said'. Prove '..Said' where nothing that the law and all that it calls make is longer than what came in: it says more and counts as full. Else prove '..UptoSaid'. A law counts once. -/
mutual
def uptoBulk {H : Type} : DataW H → Nat
  | .lit (.string bytes) => bytes.length + 1
  | .lit _ => 1
  | .nil => 1
  | .ptr d => uptoBulk d + 1
  | .slice elems spare => uptoBulkAll elems + uptoBulkAll spare + 1
  | .agg parts => uptoBulkAll parts + 1
  | .iface _ d => uptoBulk d + 1
  | .map entries => uptoBulkEntries entries + 1
  | .held _ => 1
def uptoBulkAll {H : Type} : List (DataW H) → Nat
  | [] => 0
  | d :: r => uptoBulk d + uptoBulkAll r
def uptoBulkEntries {H : Type} : List (Lit × DataW H) → Nat
  | [] => 0
  | x :: r => uptoBulkEntry x + uptoBulkEntries r
def uptoBulkEntry {H : Type} : Lit × DataW H → Nat
  | (.string bytes, d) => bytes.length + uptoBulk d + 1
  | (_, d) => uptoBulk d + 1
 end
def uptoSmall : (H : Type) → List (DataW H) → Bool := fun _ ds => decide (uptoBulkAll ds ≤ 1048576)
def OpenSpec.upto (s : _root_.Go.ChangeSpec) : _root_.Go.OpenSpec := { _root_.Go.OpenSpec.ofChange s with cond := some uptoSmall }

/-- 'weighbridgelaw05.SegReads', WHERE WHAT IT READS IS OF BULK AT MOST 1048576: true; the input reads as it did. -/
def segReadsUptoRow : OpenClaim := { program := "ytcbjjkpjbdcakaa", sum := "b69a1fdf77b088e48cb0bed71b54970faa561244b0b6930315fa4406fcf755f4", func := "weighbridge/weighbridgelaw05.SegReads", spec := "segReads", unfollowed := true, recurses := true, apart := false, narrowed := true }
def SegReadsUptoSaid : Prop := segReadsUptoRow.holds Try.pinned (OpenSpec.upto segReadsSpec)

/-- 'weighbridgelaw05.SegWrites', WHERE WHAT IT READS IS OF BULK AT MOST 1048576: true; the input reads as it did. -/
def segWritesUptoRow : OpenClaim := { program := "ytcbjjkpjbdcakaa", sum := "b69a1fdf77b088e48cb0bed71b54970faa561244b0b6930315fa4406fcf755f4", func := "weighbridge/weighbridgelaw05.SegWrites", spec := "segWrites", unfollowed := true, recurses := true, apart := false, narrowed := true }
def SegWritesUptoSaid : Prop := segWritesUptoRow.holds Try.pinned (OpenSpec.upto segWritesSpec)

/-- 'weighbridgelaw05.SegBack', WHERE WHAT IT READS IS OF BULK AT MOST 1048576: true; the input reads as it did. -/
def segBackUptoRow : OpenClaim := { program := "ytcbjjkpjbdcakaa", sum := "b69a1fdf77b088e48cb0bed71b54970faa561244b0b6930315fa4406fcf755f4", func := "weighbridge/weighbridgelaw05.SegBack", spec := "segBack", unfollowed := true, recurses := true, apart := false, narrowed := true }
def SegBackUptoSaid : Prop := segBackUptoRow.holds Try.pinned (OpenSpec.upto segBackSpec)

/-- 'weighbridgelaw03.Ip4Packets', WHERE WHAT IT READS IS OF BULK AT MOST 1048576: true; the input reads as it did. -/
def ip4PacketsUptoRow : OpenClaim := { program := "ytcbjjkpjbdcakaa", sum := "b69a1fdf77b088e48cb0bed71b54970faa561244b0b6930315fa4406fcf755f4", func := "weighbridge/weighbridgelaw03.Ip4Packets", spec := "ip4Packets", unfollowed := true, recurses := true, apart := false, narrowed := true }
def Ip4PacketsUptoSaid : Prop := ip4PacketsUptoRow.holds Try.pinned (OpenSpec.upto ip4PacketsSpec)

/-- 'weighbridgelaw03.Ip4Back', WHERE WHAT IT READS IS OF BULK AT MOST 1048576: true; the input reads as it did. -/
def ip4BackUptoRow : OpenClaim := { program := "ytcbjjkpjbdcakaa", sum := "b69a1fdf77b088e48cb0bed71b54970faa561244b0b6930315fa4406fcf755f4", func := "weighbridge/weighbridgelaw03.Ip4Back", spec := "ip4Back", unfollowed := true, recurses := true, apart := false, narrowed := true }
def Ip4BackUptoSaid : Prop := ip4BackUptoRow.holds Try.pinned (OpenSpec.upto ip4BackSpec)

/-- 'weighbridgelaw03.Ip4One', WHERE WHAT IT READS IS OF BULK AT MOST 1048576: true; the input reads as it did. -/
def ip4OneUptoRow : OpenClaim := { program := "ytcbjjkpjbdcakaa", sum := "b69a1fdf77b088e48cb0bed71b54970faa561244b0b6930315fa4406fcf755f4", func := "weighbridge/weighbridgelaw03.Ip4One", spec := "ip4One", unfollowed := true, recurses := true, apart := false, narrowed := true }
def Ip4OneUptoSaid : Prop := ip4OneUptoRow.holds Try.pinned (OpenSpec.upto ip4OneSpec)

/-- 'weighbridgelaw04.Ip6Packets', WHERE WHAT IT READS IS OF BULK AT MOST 1048576: true; the input reads as it did. -/
def ip6PacketsUptoRow : OpenClaim := { program := "ytcbjjkpjbdcakaa", sum := "b69a1fdf77b088e48cb0bed71b54970faa561244b0b6930315fa4406fcf755f4", func := "weighbridge/weighbridgelaw04.Ip6Packets", spec := "ip6Packets", unfollowed := true, recurses := true, apart := false, narrowed := true }
def Ip6PacketsUptoSaid : Prop := ip6PacketsUptoRow.holds Try.pinned (OpenSpec.upto ip6PacketsSpec)

/-- 'weighbridgelaw04.Ip6Back', WHERE WHAT IT READS IS OF BULK AT MOST 1048576: true; the input reads as it did. -/
def ip6BackUptoRow : OpenClaim := { program := "ytcbjjkpjbdcakaa", sum := "b69a1fdf77b088e48cb0bed71b54970faa561244b0b6930315fa4406fcf755f4", func := "weighbridge/weighbridgelaw04.Ip6Back", spec := "ip6Back", unfollowed := true, recurses := true, apart := false, narrowed := true }
def Ip6BackUptoSaid : Prop := ip6BackUptoRow.holds Try.pinned (OpenSpec.upto ip6BackSpec)

/-- 'weighbridgelaw06.IcmpTurned', WHERE WHAT IT READS IS OF BULK AT MOST 1048576: true; the input reads as it did. -/
def icmpTurnedUptoRow : OpenClaim := { program := "ytcbjjkpjbdcakaa", sum := "b69a1fdf77b088e48cb0bed71b54970faa561244b0b6930315fa4406fcf755f4", func := "weighbridge/weighbridgelaw06.IcmpTurned", spec := "icmpTurned", unfollowed := true, recurses := true, apart := false, narrowed := true }
def IcmpTurnedUptoSaid : Prop := icmpTurnedUptoRow.holds Try.pinned (OpenSpec.upto icmpTurnedSpec)

/-- 'weighbridgelaw06.IcmpReads', WHERE WHAT IT READS IS OF BULK AT MOST 1048576: true; the input reads as it did. -/
def icmpReadsUptoRow : OpenClaim := { program := "ytcbjjkpjbdcakaa", sum := "b69a1fdf77b088e48cb0bed71b54970faa561244b0b6930315fa4406fcf755f4", func := "weighbridge/weighbridgelaw06.IcmpReads", spec := "icmpReads", unfollowed := true, recurses := true, apart := false, narrowed := true }
def IcmpReadsUptoSaid : Prop := icmpReadsUptoRow.holds Try.pinned (OpenSpec.upto icmpReadsSpec)

/-- 'weighbridgelaw06.IcmpWrites', WHERE WHAT IT READS IS OF BULK AT MOST 1048576: true; the input reads as it did. -/
def icmpWritesUptoRow : OpenClaim := { program := "ytcbjjkpjbdcakaa", sum := "b69a1fdf77b088e48cb0bed71b54970faa561244b0b6930315fa4406fcf755f4", func := "weighbridge/weighbridgelaw06.IcmpWrites", spec := "icmpWrites", unfollowed := true, recurses := true, apart := false, narrowed := true }
def IcmpWritesUptoSaid : Prop := icmpWritesUptoRow.holds Try.pinned (OpenSpec.upto icmpWritesSpec)

end Rows
end Go.Proofs.Ytcbjjkpjbdcakaa
