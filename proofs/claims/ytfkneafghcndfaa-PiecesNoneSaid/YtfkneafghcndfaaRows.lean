/-
  No cell of these rows narrows 'for every input' (looked for: loops, veiled, ifaces, maps, wideKeys, modest, calm, conditions, laid).
  DERIVED. THE GIVEN ROWS OF THIS SEAT. 5 by the template 'for every input the law returns true; each argument reads behind the call as it read before'; 0 by the template 'total and deterministic' (their statements: YtfkneafghcndfaaTotals.lean).
  GIVEN WITH THE SEED: the statements are not yours to turn. If you find one false, say at which input.
  Laid BY PROGRAM, IN A SANDBOX (cutbox-rows.mjs): the forced cells as the released guide's own fill.sh prints them over the translation 0865eb2bd8e0f456… (all of the seat's roots in one cut). By AI agents, Wed Nov 11 2026. No macro, syntax, notation, axiom, sorry.
-/
import Derived.Test.YtfkneafghcndfaaChecked
import GoSem.Claim
import GoSem.ClaimJoined
import GoSem.ClaimMapViews
import Derived.JoinedTies
import Derived.KernelRfl
namespace Go.Proofs.Ytfkneafghcndfaa
/- THE CELL 'sum', in the pinned program and in every row, IS THE sha256 OF THE DUMP (.gsa) THAT YtfkneafghcndfaaProg.lean LOADS. Nothing in Lean hashes anything: it is a label: what it is worth is what the hold of that sum in a sandbox is worth. -/
noncomputable def Try.pinned : Pinned := { name := "ytfkneafghcndfaa", sum := "0865eb2bd8e0f456f9da699df6ef3d7cd54012d79adf174eeba85e20f981463d", checked := Try.checked }
namespace Rows
def none {H : Type} : Left H := { results := [], args := [] }

/-- 'weighbridgelaw38.PiecesOnce': WHATEVER THE INPUT: true; the input reads as it did. -/
def piecesOnceSpec : ChangeSpec := { name := "piecesOnce", fn := fun _ => fun
  | [d1, d2, d3] => { results := [.lit (.bool true)], args := [d1, d2, d3] }
  | _ => none }
def piecesOnceRow : OpenClaim := { program := "ytfkneafghcndfaa", sum := "0865eb2bd8e0f456f9da699df6ef3d7cd54012d79adf174eeba85e20f981463d", func := "weighbridge/weighbridgelaw38.PiecesOnce", spec := "piecesOnce", unfollowed := true, recurses := true, plainKeys := false, apart := false }
def PiecesOnceSaid : Prop := piecesOnceRow.holds Try.pinned (OpenSpec.ofChange piecesOnceSpec)

/-- ITS FALSE NEIGHBOUR: 'it returns false'. Refute it at one input. -/
def piecesOnceWrong : ChangeSpec := { name := "piecesOnce", fn := fun _ => fun
  | [d1, d2, d3] => { results := [.lit (.bool false)], args := [d1, d2, d3] }
  | _ => none }
def PiecesOnceWrongFalsely : Prop := piecesOnceRow.holds Try.pinned (OpenSpec.ofChange piecesOnceWrong)

/-- 'weighbridgelaw38.PiecesNone': WHATEVER THE INPUT: true; the input reads as it did. -/
def piecesNoneSpec : ChangeSpec := { name := "piecesNone", fn := fun _ => fun
  | [d] => { results := [.lit (.bool true)], args := [d] }
  | _ => none }
def piecesNoneRow : OpenClaim := { program := "ytfkneafghcndfaa", sum := "0865eb2bd8e0f456f9da699df6ef3d7cd54012d79adf174eeba85e20f981463d", func := "weighbridge/weighbridgelaw38.PiecesNone", spec := "piecesNone", inPlace := ["maps.clone"], unfollowed := true, recurses := true, plainKeys := false, apart := false }
def PiecesNoneSaid : Prop := piecesNoneRow.holds Try.pinned (OpenSpec.ofChange piecesNoneSpec)

/-- ITS FALSE NEIGHBOUR: 'it returns false'. Refute it at one input. -/
def piecesNoneWrong : ChangeSpec := { name := "piecesNone", fn := fun _ => fun
  | [d] => { results := [.lit (.bool false)], args := [d] }
  | _ => none }
def PiecesNoneWrongFalsely : Prop := piecesNoneRow.holds Try.pinned (OpenSpec.ofChange piecesNoneWrong)

/-- 'weighbridgelaw39.RampRises': WHATEVER THE INPUT: true; the input reads as it did. -/
def rampRisesSpec : ChangeSpec := { name := "rampRises", fn := fun _ => fun
  | [d1, d2] => { results := [.lit (.bool true)], args := [d1, d2] }
  | _ => none }
def rampRisesRow : OpenClaim := { program := "ytfkneafghcndfaa", sum := "0865eb2bd8e0f456f9da699df6ef3d7cd54012d79adf174eeba85e20f981463d", func := "weighbridge/weighbridgelaw39.RampRises", spec := "rampRises", inPlace := ["maps.clone"], unfollowed := true, recurses := true, plainKeys := false, apart := false }
def RampRisesSaid : Prop := rampRisesRow.holds Try.pinned (OpenSpec.ofChange rampRisesSpec)

/-- ITS FALSE NEIGHBOUR: 'it returns false'. Refute it at one input. -/
def rampRisesWrong : ChangeSpec := { name := "rampRises", fn := fun _ => fun
  | [d1, d2] => { results := [.lit (.bool false)], args := [d1, d2] }
  | _ => none }
def RampRisesWrongFalsely : Prop := rampRisesRow.holds Try.pinned (OpenSpec.ofChange rampRisesWrong)

/-- 'weighbridgelaw39.RampNone': WHATEVER THE INPUT: true; the input reads as it did. -/
def rampNoneSpec : ChangeSpec := { name := "rampNone", fn := fun _ => fun
  | [d1, d2] => { results := [.lit (.bool true)], args := [d1, d2] }
  | _ => none }
def rampNoneRow : OpenClaim := { program := "ytfkneafghcndfaa", sum := "0865eb2bd8e0f456f9da699df6ef3d7cd54012d79adf174eeba85e20f981463d", func := "weighbridge/weighbridgelaw39.RampNone", spec := "rampNone", inPlace := ["maps.clone"], unfollowed := true, recurses := true, plainKeys := false, apart := false }
def RampNoneSaid : Prop := rampNoneRow.holds Try.pinned (OpenSpec.ofChange rampNoneSpec)

/-- ITS FALSE NEIGHBOUR: 'it returns false'. Refute it at one input. -/
def rampNoneWrong : ChangeSpec := { name := "rampNone", fn := fun _ => fun
  | [d1, d2] => { results := [.lit (.bool false)], args := [d1, d2] }
  | _ => none }
def RampNoneWrongFalsely : Prop := rampNoneRow.holds Try.pinned (OpenSpec.ofChange rampNoneWrong)

/-- 'weighbridgelaw39.RampPlays': WHATEVER THE INPUT: true; the input reads as it did. -/
def rampPlaysSpec : ChangeSpec := { name := "rampPlays", fn := fun _ => fun
  | [d1, d2] => { results := [.lit (.bool true)], args := [d1, d2] }
  | _ => none }
def rampPlaysRow : OpenClaim := { program := "ytfkneafghcndfaa", sum := "0865eb2bd8e0f456f9da699df6ef3d7cd54012d79adf174eeba85e20f981463d", func := "weighbridge/weighbridgelaw39.RampPlays", spec := "rampPlays", inPlace := ["maps.clone"], unfollowed := true, recurses := true, plainKeys := false, apart := false }
def RampPlaysSaid : Prop := rampPlaysRow.holds Try.pinned (OpenSpec.ofChange rampPlaysSpec)

/-- ITS FALSE NEIGHBOUR: 'it returns false'. Refute it at one input. -/
def rampPlaysWrong : ChangeSpec := { name := "rampPlays", fn := fun _ => fun
  | [d1, d2] => { results := [.lit (.bool false)], args := [d1, d2] }
  | _ => none }
def RampPlaysWrongFalsely : Prop := rampPlaysRow.holds Try.pinned (OpenSpec.ofChange rampPlaysWrong)

/- THE SECOND FORM. 'bulk': how many values and letters a reading holds, each counted each time it is reached (what is shared counts as often as it is met; a slice's spare places count too). A statement '..UptoSaid' is the law's where the arguments, and the package variables that the reading takes, are together of bulk at most 1048576: NARROWER than '..Said'. Prove '..Said' where nothing that the law and all that it calls make is longer than what came in: it says more and counts as full. Else prove '..UptoSaid'. A law counts once. -/
mutual
def uptoBulk {H : Type} : DataW H → Nat
  | .lit (.string bytes) => bytes.length + 1
  | .lit _ => 1
  | .nil => 1
  | .ptr d => uptoBulk d + 1
  | .slice elems spare => uptoBulkAll elems + uptoBulkAll spare + 1
  | .agg parts => uptoBulkAll parts + 1
  | .iface _ d => uptoBulk d + 1
  | .map entries => uptoBulkEntries entries + 1
  | .held _ => 1
def uptoBulkAll {H : Type} : List (DataW H) → Nat
  | [] => 0
  | d :: r => uptoBulk d + uptoBulkAll r
def uptoBulkEntries {H : Type} : List (Lit × DataW H) → Nat
  | [] => 0
  | x :: r => uptoBulkEntry x + uptoBulkEntries r
def uptoBulkEntry {H : Type} : Lit × DataW H → Nat
  | (.string bytes, d) => bytes.length + uptoBulk d + 1
  | (_, d) => uptoBulk d + 1
 end
def uptoSmall : (H : Type) → List (DataW H) → Bool := fun _ ds => decide (uptoBulkAll ds ≤ 1048576)
def OpenSpec.upto (s : _root_.Go.ChangeSpec) : _root_.Go.OpenSpec := { _root_.Go.OpenSpec.ofChange s with cond := some uptoSmall }

/-- 'weighbridgelaw38.PiecesOnce', WHERE WHAT IT READS IS OF BULK AT MOST 1048576: true; the input reads as it did. -/
def piecesOnceUptoRow : OpenClaim := { program := "ytfkneafghcndfaa", sum := "0865eb2bd8e0f456f9da699df6ef3d7cd54012d79adf174eeba85e20f981463d", func := "weighbridge/weighbridgelaw38.PiecesOnce", spec := "piecesOnce", unfollowed := true, recurses := true, plainKeys := false, apart := false, narrowed := true }
def PiecesOnceUptoSaid : Prop := piecesOnceUptoRow.holds Try.pinned (OpenSpec.upto piecesOnceSpec)

/-- 'weighbridgelaw38.PiecesNone', WHERE WHAT IT READS IS OF BULK AT MOST 1048576: true; the input reads as it did. -/
def piecesNoneUptoRow : OpenClaim := { program := "ytfkneafghcndfaa", sum := "0865eb2bd8e0f456f9da699df6ef3d7cd54012d79adf174eeba85e20f981463d", func := "weighbridge/weighbridgelaw38.PiecesNone", spec := "piecesNone", inPlace := ["maps.clone"], unfollowed := true, recurses := true, plainKeys := false, apart := false, narrowed := true }
def PiecesNoneUptoSaid : Prop := piecesNoneUptoRow.holds Try.pinned (OpenSpec.upto piecesNoneSpec)

/-- 'weighbridgelaw39.RampRises', WHERE WHAT IT READS IS OF BULK AT MOST 1048576: true; the input reads as it did. -/
def rampRisesUptoRow : OpenClaim := { program := "ytfkneafghcndfaa", sum := "0865eb2bd8e0f456f9da699df6ef3d7cd54012d79adf174eeba85e20f981463d", func := "weighbridge/weighbridgelaw39.RampRises", spec := "rampRises", inPlace := ["maps.clone"], unfollowed := true, recurses := true, plainKeys := false, apart := false, narrowed := true }
def RampRisesUptoSaid : Prop := rampRisesUptoRow.holds Try.pinned (OpenSpec.upto rampRisesSpec)

/-- 'weighbridgelaw39.RampNone', WHERE WHAT IT READS IS OF BULK AT MOST 1048576: true; the input reads as it did. -/
def rampNoneUptoRow : OpenClaim := { program := "ytfkneafghcndfaa", sum := "0865eb2bd8e0f456f9da699df6ef3d7cd54012d79adf174eeba85e20f981463d", func := "weighbridge/weighbridgelaw39.RampNone", spec := "rampNone", inPlace := ["maps.clone"], unfollowed := true, recurses := true, plainKeys := false, apart := false, narrowed := true }
def RampNoneUptoSaid : Prop := rampNoneUptoRow.holds Try.pinned (OpenSpec.upto rampNoneSpec)

/-- 'weighbridgelaw39.RampPlays', WHERE WHAT IT READS IS OF BULK AT MOST 1048576: true; the input reads as it did. -/
def rampPlaysUptoRow : OpenClaim := { program := "ytfkneafghcndfaa", sum := "0865eb2bd8e0f456f9da699df6ef3d7cd54012d79adf174eeba85e20f981463d", func := "weighbridge/weighbridgelaw39.RampPlays", spec := "rampPlays", inPlace := ["maps.clone"], unfollowed := true, recurses := true, plainKeys := false, apart := false, narrowed := true }
def RampPlaysUptoSaid : Prop := rampPlaysUptoRow.holds Try.pinned (OpenSpec.upto rampPlaysSpec)

end Rows
end Go.Proofs.Ytfkneafghcndfaa
