/-
  No cell of these rows narrows 'for every input' (looked for: loops, veiled, ifaces, maps, wideKeys, modest, calm, conditions, laid).
  DERIVED. THE GIVEN ROWS OF THIS SEAT. 12 by the template 'for every input the law returns true; each argument reads behind the call as it read before'; 0 by the template 'total and deterministic' (their statements: YtmdafjegddnecaaTotals.lean).
  GIVEN WITH THE SEED: the statements are not yours to turn. If you find one false, say at which input.
  Laid BY PROGRAM, IN A SANDBOX (cutbox-rows.mjs): the forced cells as the released guide's own fill.sh prints them over the translation c4c6aa673c8c8301… (all of the seat's roots in one cut). By AI agents, Wed Nov 11 2026. No macro, syntax, notation, axiom, sorry.
-/
import Derived.Test.YtmdafjegddnecaaChecked
import GoSem.Claim
import GoSem.ClaimJoined
import GoSem.ClaimMapViews
import Derived.JoinedTies
import Derived.KernelRfl
namespace Go.Proofs.Ytmdafjegddnecaa
/- THE CELL 'sum', in the pinned program and in every row, IS THE sha256 OF THE DUMP (.gsa) THAT YtmdafjegddnecaaProg.lean LOADS. Nothing in Lean hashes anything: it is a label: what it is worth is what the hold of that sum in a sandbox is worth. -/
noncomputable def Try.pinned : Pinned := { name := "ytmdafjegddnecaa", sum := "c4c6aa673c8c83015246b6788717abe3dbfd7a750b11ec8e447d6d90d8ede850", checked := Try.checked }
namespace Rows
def none {H : Type} : Left H := { results := [], args := [] }

/-- 'weighbridgelaw35.NdpReads': WHATEVER THE INPUT: true; the input reads as it did. -/
def ndpReadsSpec : ChangeSpec := { name := "ndpReads", fn := fun _ => fun
  | [d1, d2] => { results := [.lit (.bool true)], args := [d1, d2] }
  | _ => none }
def ndpReadsRow : OpenClaim := { program := "ytmdafjegddnecaa", sum := "c4c6aa673c8c83015246b6788717abe3dbfd7a750b11ec8e447d6d90d8ede850", func := "weighbridge/weighbridgelaw35.NdpReads", spec := "ndpReads", unfollowed := true, recurses := true, plainKeys := false, apart := false }
def NdpReadsSaid : Prop := ndpReadsRow.holds Try.pinned (OpenSpec.ofChange ndpReadsSpec)

/-- ITS FALSE NEIGHBOUR: 'it returns false'. Refute it at one input. -/
def ndpReadsWrong : ChangeSpec := { name := "ndpReads", fn := fun _ => fun
  | [d1, d2] => { results := [.lit (.bool false)], args := [d1, d2] }
  | _ => none }
def NdpReadsWrongFalsely : Prop := ndpReadsRow.holds Try.pinned (OpenSpec.ofChange ndpReadsWrong)

/-- 'weighbridgelaw35.NdpBack': WHATEVER THE INPUT: true; the input reads as it did. -/
def ndpBackSpec : ChangeSpec := { name := "ndpBack", fn := fun _ => fun
  | [d1, d2, d3, d4, d5] => { results := [.lit (.bool true)], args := [d1, d2, d3, d4, d5] }
  | _ => none }
def ndpBackRow : OpenClaim := { program := "ytmdafjegddnecaa", sum := "c4c6aa673c8c83015246b6788717abe3dbfd7a750b11ec8e447d6d90d8ede850", func := "weighbridge/weighbridgelaw35.NdpBack", spec := "ndpBack", unfollowed := true, recurses := true, plainKeys := false, apart := false }
def NdpBackSaid : Prop := ndpBackRow.holds Try.pinned (OpenSpec.ofChange ndpBackSpec)

/-- ITS FALSE NEIGHBOUR: 'it returns false'. Refute it at one input. -/
def ndpBackWrong : ChangeSpec := { name := "ndpBack", fn := fun _ => fun
  | [d1, d2, d3, d4, d5] => { results := [.lit (.bool false)], args := [d1, d2, d3, d4, d5] }
  | _ => none }
def NdpBackWrongFalsely : Prop := ndpBackRow.holds Try.pinned (OpenSpec.ofChange ndpBackWrong)

/-- 'weighbridgelaw35.NdpAnswers': WHATEVER THE INPUT: true; the input reads as it did. -/
def ndpAnswersSpec : ChangeSpec := { name := "ndpAnswers", fn := fun _ => fun
  | [d1, d2, d3, d4] => { results := [.lit (.bool true)], args := [d1, d2, d3, d4] }
  | _ => none }
def ndpAnswersRow : OpenClaim := { program := "ytmdafjegddnecaa", sum := "c4c6aa673c8c83015246b6788717abe3dbfd7a750b11ec8e447d6d90d8ede850", func := "weighbridge/weighbridgelaw35.NdpAnswers", spec := "ndpAnswers", unfollowed := true, recurses := true, plainKeys := false, apart := false }
def NdpAnswersSaid : Prop := ndpAnswersRow.holds Try.pinned (OpenSpec.ofChange ndpAnswersSpec)

/-- ITS FALSE NEIGHBOUR: 'it returns false'. Refute it at one input. -/
def ndpAnswersWrong : ChangeSpec := { name := "ndpAnswers", fn := fun _ => fun
  | [d1, d2, d3, d4] => { results := [.lit (.bool false)], args := [d1, d2, d3, d4] }
  | _ => none }
def NdpAnswersWrongFalsely : Prop := ndpAnswersRow.holds Try.pinned (OpenSpec.ofChange ndpAnswersWrong)

/-- 'weighbridgelaw35.NdpMeets': WHATEVER THE INPUT: true; the input reads as it did. -/
def ndpMeetsSpec : ChangeSpec := { name := "ndpMeets", fn := fun _ => fun
  | [d1, d2, d3, d4, d5] => { results := [.lit (.bool true)], args := [d1, d2, d3, d4, d5] }
  | _ => none }
def ndpMeetsRow : OpenClaim := { program := "ytmdafjegddnecaa", sum := "c4c6aa673c8c83015246b6788717abe3dbfd7a750b11ec8e447d6d90d8ede850", func := "weighbridge/weighbridgelaw35.NdpMeets", spec := "ndpMeets", unfollowed := true, recurses := true, plainKeys := false, apart := false }
def NdpMeetsSaid : Prop := ndpMeetsRow.holds Try.pinned (OpenSpec.ofChange ndpMeetsSpec)

/-- ITS FALSE NEIGHBOUR: 'it returns false'. Refute it at one input. -/
def ndpMeetsWrong : ChangeSpec := { name := "ndpMeets", fn := fun _ => fun
  | [d1, d2, d3, d4, d5] => { results := [.lit (.bool false)], args := [d1, d2, d3, d4, d5] }
  | _ => none }
def NdpMeetsWrongFalsely : Prop := ndpMeetsRow.holds Try.pinned (OpenSpec.ofChange ndpMeetsWrong)

/-- 'weighbridgelaw07.PacketReads': WHATEVER THE INPUT: true; the input reads as it did. -/
def packetReadsSpec : ChangeSpec := { name := "packetReads", fn := fun _ => fun
  | [d1, d2, d3] => { results := [.lit (.bool true)], args := [d1, d2, d3] }
  | _ => none }
def packetReadsRow : OpenClaim := { program := "ytmdafjegddnecaa", sum := "c4c6aa673c8c83015246b6788717abe3dbfd7a750b11ec8e447d6d90d8ede850", func := "weighbridge/weighbridgelaw07.PacketReads", spec := "packetReads", unfollowed := true, recurses := true, plainKeys := false, apart := false }
def PacketReadsSaid : Prop := packetReadsRow.holds Try.pinned (OpenSpec.ofChange packetReadsSpec)

/-- ITS FALSE NEIGHBOUR: 'it returns false'. Refute it at one input. -/
def packetReadsWrong : ChangeSpec := { name := "packetReads", fn := fun _ => fun
  | [d1, d2, d3] => { results := [.lit (.bool false)], args := [d1, d2, d3] }
  | _ => none }
def PacketReadsWrongFalsely : Prop := packetReadsRow.holds Try.pinned (OpenSpec.ofChange packetReadsWrong)

/-- 'weighbridgelaw07.PacketPadding': WHATEVER THE INPUT: true; the input reads as it did. -/
def packetPaddingSpec : ChangeSpec := { name := "packetPadding", fn := fun _ => fun
  | [d1, d2] => { results := [.lit (.bool true)], args := [d1, d2] }
  | _ => none }
def packetPaddingRow : OpenClaim := { program := "ytmdafjegddnecaa", sum := "c4c6aa673c8c83015246b6788717abe3dbfd7a750b11ec8e447d6d90d8ede850", func := "weighbridge/weighbridgelaw07.PacketPadding", spec := "packetPadding", unfollowed := true, recurses := true, plainKeys := false, apart := false }
def PacketPaddingSaid : Prop := packetPaddingRow.holds Try.pinned (OpenSpec.ofChange packetPaddingSpec)

/-- ITS FALSE NEIGHBOUR: 'it returns false'. Refute it at one input. -/
def packetPaddingWrong : ChangeSpec := { name := "packetPadding", fn := fun _ => fun
  | [d1, d2] => { results := [.lit (.bool false)], args := [d1, d2] }
  | _ => none }
def PacketPaddingWrongFalsely : Prop := packetPaddingRow.holds Try.pinned (OpenSpec.ofChange packetPaddingWrong)

/-- 'weighbridgelaw08.EncapBack': WHATEVER THE INPUT: true; the input reads as it did. -/
def encapBackSpec : ChangeSpec := { name := "encapBack", fn := fun _ => fun
  | [d1, d2, d3, d4] => { results := [.lit (.bool true)], args := [d1, d2, d3, d4] }
  | _ => none }
def encapBackRow : OpenClaim := { program := "ytmdafjegddnecaa", sum := "c4c6aa673c8c83015246b6788717abe3dbfd7a750b11ec8e447d6d90d8ede850", func := "weighbridge/weighbridgelaw08.EncapBack", spec := "encapBack", unfollowed := true, recurses := true, plainKeys := false, apart := false }
def EncapBackSaid : Prop := encapBackRow.holds Try.pinned (OpenSpec.ofChange encapBackSpec)

/-- ITS FALSE NEIGHBOUR: 'it returns false'. Refute it at one input. -/
def encapBackWrong : ChangeSpec := { name := "encapBack", fn := fun _ => fun
  | [d1, d2, d3, d4] => { results := [.lit (.bool false)], args := [d1, d2, d3, d4] }
  | _ => none }
def EncapBackWrongFalsely : Prop := encapBackRow.holds Try.pinned (OpenSpec.ofChange encapBackWrong)

/-- 'weighbridgelaw30.EmitBack': WHATEVER THE INPUT: true; the input reads as it did. -/
def emitBackSpec : ChangeSpec := { name := "emitBack", fn := fun _ => fun
  | [d1, d2, d3, d4] => { results := [.lit (.bool true)], args := [d1, d2, d3, d4] }
  | _ => none }
def emitBackRow : OpenClaim := { program := "ytmdafjegddnecaa", sum := "c4c6aa673c8c83015246b6788717abe3dbfd7a750b11ec8e447d6d90d8ede850", func := "weighbridge/weighbridgelaw30.EmitBack", spec := "emitBack", unfollowed := true, recurses := true, plainKeys := false, apart := false }
def EmitBackSaid : Prop := emitBackRow.holds Try.pinned (OpenSpec.ofChange emitBackSpec)

/-- ITS FALSE NEIGHBOUR: 'it returns false'. Refute it at one input. -/
def emitBackWrong : ChangeSpec := { name := "emitBack", fn := fun _ => fun
  | [d1, d2, d3, d4] => { results := [.lit (.bool false)], args := [d1, d2, d3, d4] }
  | _ => none }
def EmitBackWrongFalsely : Prop := emitBackRow.holds Try.pinned (OpenSpec.ofChange emitBackWrong)

/-- 'weighbridgelaw37.AnswerReads': WHATEVER THE INPUT: true; the input reads as it did. -/
def answerReadsSpec : ChangeSpec := { name := "answerReads", fn := fun _ => fun
  | [d1, d2, d3, d4, d5] => { results := [.lit (.bool true)], args := [d1, d2, d3, d4, d5] }
  | _ => none }
def answerReadsRow : OpenClaim := { program := "ytmdafjegddnecaa", sum := "c4c6aa673c8c83015246b6788717abe3dbfd7a750b11ec8e447d6d90d8ede850", func := "weighbridge/weighbridgelaw37.AnswerReads", spec := "answerReads", unfollowed := true, recurses := true, plainKeys := false, apart := false }
def AnswerReadsSaid : Prop := answerReadsRow.holds Try.pinned (OpenSpec.ofChange answerReadsSpec)

/-- ITS FALSE NEIGHBOUR: 'it returns false'. Refute it at one input. -/
def answerReadsWrong : ChangeSpec := { name := "answerReads", fn := fun _ => fun
  | [d1, d2, d3, d4, d5] => { results := [.lit (.bool false)], args := [d1, d2, d3, d4, d5] }
  | _ => none }
def AnswerReadsWrongFalsely : Prop := answerReadsRow.holds Try.pinned (OpenSpec.ofChange answerReadsWrong)

/-- 'weighbridgelaw37.AnswerBack': WHATEVER THE INPUT: true; the input reads as it did. -/
def answerBackSpec : ChangeSpec := { name := "answerBack", fn := fun _ => fun
  | [d1, d2, d3, d4] => { results := [.lit (.bool true)], args := [d1, d2, d3, d4] }
  | _ => none }
def answerBackRow : OpenClaim := { program := "ytmdafjegddnecaa", sum := "c4c6aa673c8c83015246b6788717abe3dbfd7a750b11ec8e447d6d90d8ede850", func := "weighbridge/weighbridgelaw37.AnswerBack", spec := "answerBack", unfollowed := true, recurses := true, plainKeys := false, apart := false }
def AnswerBackSaid : Prop := answerBackRow.holds Try.pinned (OpenSpec.ofChange answerBackSpec)

/-- ITS FALSE NEIGHBOUR: 'it returns false'. Refute it at one input. -/
def answerBackWrong : ChangeSpec := { name := "answerBack", fn := fun _ => fun
  | [d1, d2, d3, d4] => { results := [.lit (.bool false)], args := [d1, d2, d3, d4] }
  | _ => none }
def AnswerBackWrongFalsely : Prop := answerBackRow.holds Try.pinned (OpenSpec.ofChange answerBackWrong)

/-- 'weighbridgelaw37.AnswerEchoes': WHATEVER THE INPUT: true; the input reads as it did. -/
def answerEchoesSpec : ChangeSpec := { name := "answerEchoes", fn := fun _ => fun
  | [d1, d2, d3] => { results := [.lit (.bool true)], args := [d1, d2, d3] }
  | _ => none }
def answerEchoesRow : OpenClaim := { program := "ytmdafjegddnecaa", sum := "c4c6aa673c8c83015246b6788717abe3dbfd7a750b11ec8e447d6d90d8ede850", func := "weighbridge/weighbridgelaw37.AnswerEchoes", spec := "answerEchoes", unfollowed := true, recurses := true, plainKeys := false, apart := false }
def AnswerEchoesSaid : Prop := answerEchoesRow.holds Try.pinned (OpenSpec.ofChange answerEchoesSpec)

/-- ITS FALSE NEIGHBOUR: 'it returns false'. Refute it at one input. -/
def answerEchoesWrong : ChangeSpec := { name := "answerEchoes", fn := fun _ => fun
  | [d1, d2, d3] => { results := [.lit (.bool false)], args := [d1, d2, d3] }
  | _ => none }
def AnswerEchoesWrongFalsely : Prop := answerEchoesRow.holds Try.pinned (OpenSpec.ofChange answerEchoesWrong)

/-- 'weighbridgelaw37.AnswerReports': WHATEVER THE INPUT: true; the input reads as it did. -/
def answerReportsSpec : ChangeSpec := { name := "answerReports", fn := fun _ => fun
  | [d1, d2, d3, d4, d5, d6, d7] => { results := [.lit (.bool true)], args := [d1, d2, d3, d4, d5, d6, d7] }
  | _ => none }
def answerReportsRow : OpenClaim := { program := "ytmdafjegddnecaa", sum := "c4c6aa673c8c83015246b6788717abe3dbfd7a750b11ec8e447d6d90d8ede850", func := "weighbridge/weighbridgelaw37.AnswerReports", spec := "answerReports", unfollowed := true, recurses := true, plainKeys := false, apart := false }
def AnswerReportsSaid : Prop := answerReportsRow.holds Try.pinned (OpenSpec.ofChange answerReportsSpec)

/-- ITS FALSE NEIGHBOUR: 'it returns false'. Refute it at one input. -/
def answerReportsWrong : ChangeSpec := { name := "answerReports", fn := fun _ => fun
  | [d1, d2, d3, d4, d5, d6, d7] => { results := [.lit (.bool false)], args := [d1, d2, d3, d4, d5, d6, d7] }
  | _ => none }
def AnswerReportsWrongFalsely : Prop := answerReportsRow.holds Try.pinned (OpenSpec.ofChange answerReportsWrong)

/- THE SECOND FORM. 'bulk': how many values and letters a reading holds, each counted each time it is reached (what is shared counts as often as it is met; a slice's spare places count too). A statement '..UptoSaid' is the law's where the arguments, and the package variables that the reading takes, are together of bulk at most 1048576: NARROWER than '..Said'. Prove '..Said' where nothing that the law and all that it calls make is longer than what came in: it says more and counts as full. Else prove '..UptoSaid'. A law counts once. -/
mutual
def uptoBulk {H : Type} : DataW H → Nat
  | .lit (.string bytes) => bytes.length + 1
  | .lit _ => 1
  | .nil => 1
  | .ptr d => uptoBulk d + 1
  | .slice elems spare => uptoBulkAll elems + uptoBulkAll spare + 1
  | .agg parts => uptoBulkAll parts + 1
  | .iface _ d => uptoBulk d + 1
  | .map entries => uptoBulkEntries entries + 1
  | .held _ => 1
def uptoBulkAll {H : Type} : List (DataW H) → Nat
  | [] => 0
  | d :: r => uptoBulk d + uptoBulkAll r
def uptoBulkEntries {H : Type} : List (Lit × DataW H) → Nat
  | [] => 0
  | x :: r => uptoBulkEntry x + uptoBulkEntries r
def uptoBulkEntry {H : Type} : Lit × DataW H → Nat
  | (.string bytes, d) => bytes.length + uptoBulk d + 1
  | (_, d) => uptoBulk d + 1
 end
def uptoSmall : (H : Type) → List (DataW H) → Bool := fun _ ds => decide (uptoBulkAll ds ≤ 1048576)
def OpenSpec.upto (s : _root_.Go.ChangeSpec) : _root_.Go.OpenSpec := { _root_.Go.OpenSpec.ofChange s with cond := some uptoSmall }

/-- 'weighbridgelaw35.NdpReads', WHERE WHAT IT READS IS OF BULK AT MOST 1048576: true; the input reads as it did. -/
def ndpReadsUptoRow : OpenClaim := { program := "ytmdafjegddnecaa", sum := "c4c6aa673c8c83015246b6788717abe3dbfd7a750b11ec8e447d6d90d8ede850", func := "weighbridge/weighbridgelaw35.NdpReads", spec := "ndpReads", unfollowed := true, recurses := true, plainKeys := false, apart := false, narrowed := true }
def NdpReadsUptoSaid : Prop := ndpReadsUptoRow.holds Try.pinned (OpenSpec.upto ndpReadsSpec)

/-- 'weighbridgelaw35.NdpBack', WHERE WHAT IT READS IS OF BULK AT MOST 1048576: true; the input reads as it did. -/
def ndpBackUptoRow : OpenClaim := { program := "ytmdafjegddnecaa", sum := "c4c6aa673c8c83015246b6788717abe3dbfd7a750b11ec8e447d6d90d8ede850", func := "weighbridge/weighbridgelaw35.NdpBack", spec := "ndpBack", unfollowed := true, recurses := true, plainKeys := false, apart := false, narrowed := true }
def NdpBackUptoSaid : Prop := ndpBackUptoRow.holds Try.pinned (OpenSpec.upto ndpBackSpec)

/-- 'weighbridgelaw35.NdpAnswers', WHERE WHAT IT READS IS OF BULK AT MOST 1048576: true; the input reads as it did. -/
def ndpAnswersUptoRow : OpenClaim := { program := "ytmdafjegddnecaa", sum := "c4c6aa673c8c83015246b6788717abe3dbfd7a750b11ec8e447d6d90d8ede850", func := "weighbridge/weighbridgelaw35.NdpAnswers", spec := "ndpAnswers", unfollowed := true, recurses := true, plainKeys := false, apart := false, narrowed := true }
def NdpAnswersUptoSaid : Prop := ndpAnswersUptoRow.holds Try.pinned (OpenSpec.upto ndpAnswersSpec)

/-- 'weighbridgelaw35.NdpMeets', WHERE WHAT IT READS IS OF BULK AT MOST 1048576: true; the input reads as it did. -/
def ndpMeetsUptoRow : OpenClaim := { program := "ytmdafjegddnecaa", sum := "c4c6aa673c8c83015246b6788717abe3dbfd7a750b11ec8e447d6d90d8ede850", func := "weighbridge/weighbridgelaw35.NdpMeets", spec := "ndpMeets", unfollowed := true, recurses := true, plainKeys := false, apart := false, narrowed := true }
def NdpMeetsUptoSaid : Prop := ndpMeetsUptoRow.holds Try.pinned (OpenSpec.upto ndpMeetsSpec)

/-- 'weighbridgelaw07.PacketReads', WHERE WHAT IT READS IS OF BULK AT MOST 1048576: true; the input reads as it did. -/
def packetReadsUptoRow : OpenClaim := { program := "ytmdafjegddnecaa", sum := "c4c6aa673c8c83015246b6788717abe3dbfd7a750b11ec8e447d6d90d8ede850", func := "weighbridge/weighbridgelaw07.PacketReads", spec := "packetReads", unfollowed := true, recurses := true, plainKeys := false, apart := false, narrowed := true }
def PacketReadsUptoSaid : Prop := packetReadsUptoRow.holds Try.pinned (OpenSpec.upto packetReadsSpec)

/-- 'weighbridgelaw07.PacketPadding', WHERE WHAT IT READS IS OF BULK AT MOST 1048576: true; the input reads as it did. -/
def packetPaddingUptoRow : OpenClaim := { program := "ytmdafjegddnecaa", sum := "c4c6aa673c8c83015246b6788717abe3dbfd7a750b11ec8e447d6d90d8ede850", func := "weighbridge/weighbridgelaw07.PacketPadding", spec := "packetPadding", unfollowed := true, recurses := true, plainKeys := false, apart := false, narrowed := true }
def PacketPaddingUptoSaid : Prop := packetPaddingUptoRow.holds Try.pinned (OpenSpec.upto packetPaddingSpec)

/-- 'weighbridgelaw08.EncapBack', WHERE WHAT IT READS IS OF BULK AT MOST 1048576: true; the input reads as it did. -/
def encapBackUptoRow : OpenClaim := { program := "ytmdafjegddnecaa", sum := "c4c6aa673c8c83015246b6788717abe3dbfd7a750b11ec8e447d6d90d8ede850", func := "weighbridge/weighbridgelaw08.EncapBack", spec := "encapBack", unfollowed := true, recurses := true, plainKeys := false, apart := false, narrowed := true }
def EncapBackUptoSaid : Prop := encapBackUptoRow.holds Try.pinned (OpenSpec.upto encapBackSpec)

/-- 'weighbridgelaw30.EmitBack', WHERE WHAT IT READS IS OF BULK AT MOST 1048576: true; the input reads as it did. -/
def emitBackUptoRow : OpenClaim := { program := "ytmdafjegddnecaa", sum := "c4c6aa673c8c83015246b6788717abe3dbfd7a750b11ec8e447d6d90d8ede850", func := "weighbridge/weighbridgelaw30.EmitBack", spec := "emitBack", unfollowed := true, recurses := true, plainKeys := false, apart := false, narrowed := true }
def EmitBackUptoSaid : Prop := emitBackUptoRow.holds Try.pinned (OpenSpec.upto emitBackSpec)

/-- 'weighbridgelaw37.AnswerReads', WHERE WHAT IT READS IS OF BULK AT MOST 1048576: true; the input reads as it did. -/
def answerReadsUptoRow : OpenClaim := { program := "ytmdafjegddnecaa", sum := "c4c6aa673c8c83015246b6788717abe3dbfd7a750b11ec8e447d6d90d8ede850", func := "weighbridge/weighbridgelaw37.AnswerReads", spec := "answerReads", unfollowed := true, recurses := true, plainKeys := false, apart := false, narrowed := true }
def AnswerReadsUptoSaid : Prop := answerReadsUptoRow.holds Try.pinned (OpenSpec.upto answerReadsSpec)

/-- 'weighbridgelaw37.AnswerBack', WHERE WHAT IT READS IS OF BULK AT MOST 1048576: true; the input reads as it did. -/
def answerBackUptoRow : OpenClaim := { program := "ytmdafjegddnecaa", sum := "c4c6aa673c8c83015246b6788717abe3dbfd7a750b11ec8e447d6d90d8ede850", func := "weighbridge/weighbridgelaw37.AnswerBack", spec := "answerBack", unfollowed := true, recurses := true, plainKeys := false, apart := false, narrowed := true }
def AnswerBackUptoSaid : Prop := answerBackUptoRow.holds Try.pinned (OpenSpec.upto answerBackSpec)

/-- 'weighbridgelaw37.AnswerEchoes', WHERE WHAT IT READS IS OF BULK AT MOST 1048576: true; the input reads as it did. -/
def answerEchoesUptoRow : OpenClaim := { program := "ytmdafjegddnecaa", sum := "c4c6aa673c8c83015246b6788717abe3dbfd7a750b11ec8e447d6d90d8ede850", func := "weighbridge/weighbridgelaw37.AnswerEchoes", spec := "answerEchoes", unfollowed := true, recurses := true, plainKeys := false, apart := false, narrowed := true }
def AnswerEchoesUptoSaid : Prop := answerEchoesUptoRow.holds Try.pinned (OpenSpec.upto answerEchoesSpec)

/-- 'weighbridgelaw37.AnswerReports', WHERE WHAT IT READS IS OF BULK AT MOST 1048576: true; the input reads as it did. -/
def answerReportsUptoRow : OpenClaim := { program := "ytmdafjegddnecaa", sum := "c4c6aa673c8c83015246b6788717abe3dbfd7a750b11ec8e447d6d90d8ede850", func := "weighbridge/weighbridgelaw37.AnswerReports", spec := "answerReports", unfollowed := true, recurses := true, plainKeys := false, apart := false, narrowed := true }
def AnswerReportsUptoSaid : Prop := answerReportsUptoRow.holds Try.pinned (OpenSpec.upto answerReportsSpec)

end Rows
end Go.Proofs.Ytmdafjegddnecaa
