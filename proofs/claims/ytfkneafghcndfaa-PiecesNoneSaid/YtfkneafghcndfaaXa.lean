/- Weights that rise: the page's example is true. -/
import Derived.Test.YtfkneafghcndfaaTb
import Derived.Test.YtfkneafghcndfaaQb
import Derived.Test.YtfkneafghcndfaaRf
import Derived.Test.YtfkneafghcndfaaOb
namespace Go.Proofs.Ytfkneafghcndfaa
open Go.RowKit Go.Pm
set_option linter.unusedVariables false
set_option linter.unusedSimpArgs false
set_option maxRecDepth 1000000
attribute [simp] closeRes AV.names namesL addAll blksOf AV.ren renL renBlks closeF runF callBy callE closeArgs closeArg closeLeaf closeL AV.shut shutL place siteRen upsOf List.idxOf?_cons
noncomputable def KN : Nat → Option Con := fun _ => none
theorem kn_ok : KOk Try.prog KN := fun f F h => by cases h
set_option maxHeartbeats 16000000 in
theorem known39_run : runF Try.prog KN Dm 100000 4 17 [] = some (.v (.bool true), []) := by
  have hw := fun (d px : Nat) (args : List AV) (m : Mem) (hl : args.length ≤ Try.f44.ntmps) => pvCall_own (P := Try.prog) (K := KN) (D := Dm) (L := 100000) (d := d) (px := px) (args := args) (m := m) (f := 44) (fn := Try.f44) rfl Try.func44 rfl (by decide) rfl rfl hl
  have hn := fun (d px : Nat) (args : List AV) (m : Mem) (hl : args.length ≤ Try.f20.ntmps) => pvCall_own (P := Try.prog) (K := KN) (D := Dm) (L := 100000) (d := d) (px := px) (args := args) (m := m) (f := 20) (fn := Try.f20) rfl Try.func20 rfl (by decide) rfl rfl hl
  have hh := fun (d px : Nat) (args : List AV) (m : Mem) (hl : args.length ≤ Try.f47.ntmps) => pvCall_own (P := Try.prog) (K := KN) (D := Dm) (L := 100000) (d := d) (px := px) (args := args) (m := m) (f := 47) (fn := Try.f47) rfl Try.func47 rfl (by decide) rfl rfl hl
  unfold runF
  rw [pvCall_own (fn := Try.f17) rfl Try.func17 rfl (by decide) rfl rfl (by simp)]
  simp -implicitDefEqProofs [hw, hn, hh, loopK_pos, splice, IntKind.wrap, IntKind.signed, IntKind.bits]

set_option maxHeartbeats 16000000 in
theorem rnone_run (s : ByteArray) (w : Int) : (pvCall Try.prog KN Dm 100000 5 0 6 [.v (.string s), .v (.int .i64 w)] (fun _ => none)).map (·.1) = some (.v (.bool true)) := by
  have hrnew := fun (d px : Nat) (args : List AV) (m : Mem) (hl : args.length ≤ Try.f16.ntmps) => pvCall_own (P := Try.prog) (K := KN) (D := Dm) (L := 100000) (d := d) (px := px) (args := args) (m := m) (f := 16) (fn := Try.f16) rfl Try.func16 rfl (by decide) rfl rfl hl
  have hrknown := fun (d px : Nat) (args : List AV) (m : Mem) (hl : args.length ≤ Try.f17.ntmps) => pvCall_own (P := Try.prog) (K := KN) (D := Dm) (L := 100000) (d := d) (px := px) (args := args) (m := m) (f := 17) (fn := Try.f17) rfl Try.func17 rfl (by decide) rfl rfl hl
  have hrweight := fun (d px : Nat) (args : List AV) (m : Mem) (hl : args.length ≤ Try.f44.ntmps) => pvCall_own (P := Try.prog) (K := KN) (D := Dm) (L := 100000) (d := d) (px := px) (args := args) (m := m) (f := 44) (fn := Try.f44) rfl Try.func44 rfl (by decide) rfl rfl hl
  have hrnext := fun (d px : Nat) (args : List AV) (m : Mem) (hl : args.length ≤ Try.f20.ntmps) => pvCall_own (P := Try.prog) (K := KN) (D := Dm) (L := 100000) (d := d) (px := px) (args := args) (m := m) (f := 20) (fn := Try.f20) rfl Try.func20 rfl (by decide) rfl rfl hl
  have hrheld := fun (d px : Nat) (args : List AV) (m : Mem) (hl : args.length ≤ Try.f47.ntmps) => pvCall_own (P := Try.prog) (K := KN) (D := Dm) (L := 100000) (d := d) (px := px) (args := args) (m := m) (f := 47) (fn := Try.f47) rfl Try.func47 rfl (by decide) rfl rfl hl
  have hrup := fun (d px : Nat) (args : List AV) (m : Mem) (hl : args.length ≤ Try.f18.ntmps) => pvCall_own (P := Try.prog) (K := KN) (D := Dm) (L := 100000) (d := d) (px := px) (args := args) (m := m) (f := 18) (fn := Try.f18) rfl Try.func18 rfl (by decide) rfl rfl hl
  have hrat := fun (d px : Nat) (args : List AV) (m : Mem) (hl : args.length ≤ Try.f19.ntmps) => pvCall_own (P := Try.prog) (K := KN) (D := Dm) (L := 100000) (d := d) (px := px) (args := args) (m := m) (f := 19) (fn := Try.f19) rfl Try.func19 rfl (by decide) rfl rfl hl
  have hrtick := fun (d px : Nat) (args : List AV) (m : Mem) (hl : args.length ≤ Try.f21.ntmps) => pvCall_own (P := Try.prog) (K := KN) (D := Dm) (L := 100000) (d := d) (px := px) (args := args) (m := m) (f := 21) (fn := Try.f21) rfl Try.func21 rfl (by decide) rfl rfl hl
  have hrrising := fun (d px : Nat) (args : List AV) (m : Mem) (hl : args.length ≤ Try.f23.ntmps) => pvCall_own (P := Try.prog) (K := KN) (D := Dm) (L := 100000) (d := d) (px := px) (args := args) (m := m) (f := 23) (fn := Try.f23) rfl Try.func23 rfl (by decide) rfl rfl hl
  have hrdown := fun (d px : Nat) (args : List AV) (m : Mem) (hl : args.length ≤ Try.f24.ntmps) => pvCall_own (P := Try.prog) (K := KN) (D := Dm) (L := 100000) (d := d) (px := px) (args := args) (m := m) (f := 24) (fn := Try.f24) rfl Try.func24 rfl (by decide) rfl rfl hl
  have hrset := fun (d px : Nat) (args : List AV) (m : Mem) (hl : args.length ≤ Try.f25.ntmps) => pvCall_own (P := Try.prog) (K := KN) (D := Dm) (L := 100000) (d := d) (px := px) (args := args) (m := m) (f := 25) (fn := Try.f25) rfl Try.func25 rfl (by decide) rfl rfl hl
  have hrcopy := fun (d px : Nat) (args : List AV) (m : Mem) (hl : args.length ≤ Try.f26.ntmps) => pvCall_own (P := Try.prog) (K := KN) (D := Dm) (L := 100000) (d := d) (px := px) (args := args) (m := m) (f := 26) (fn := Try.f26) rfl Try.func26 rfl (by decide) rfl rfl hl
  have hrput := fun (d px : Nat) (args : List AV) (m : Mem) (hl : args.length ≤ Try.f45.ntmps) => pvCall_own (P := Try.prog) (K := KN) (D := Dm) (L := 100000) (d := d) (px := px) (args := args) (m := m) (f := 45) (fn := Try.f45) rfl Try.func45 rfl (by decide) rfl rfl hl
  have hrisnone := fun (d px : Nat) (args : List AV) (m : Mem) (hl : args.length ≤ Try.f46.ntmps) => pvCall_own (P := Try.prog) (K := KN) (D := Dm) (L := 100000) (d := d) (px := px) (args := args) (m := m) (f := 46) (fn := Try.f46) rfl Try.func46 rfl (by decide) rfl rfl hl
  rw [pvCall_own (fn := Try.f6) rfl Try.func6 rfl (by decide) rfl rfl (by simp)]
  by_cases h : (100 : Int) < (s.size : Int)
  · simp -implicitDefEqProofs [h, hrnew, hrknown, hrweight, hrnext, hrheld, hrup, hrat, hrtick, hrrising, hrdown, hrset, hrcopy, hrput, hrisnone, loopK_pos, splice, IntKind.wrap, IntKind.signed, IntKind.bits]
  simp -implicitDefEqProofs [h, hrnew, hrknown, hrweight, hrnext, hrheld, hrup, hrat, hrtick, hrrising, hrdown, hrset, hrcopy, hrput, hrisnone, loopK_pos, splice, IntKind.wrap, IntKind.signed, IntKind.bits]
theorem rampNone_walk (W : World) (s : ByteArray) (hs : s.size ≤ maxLen) (w : Int) (hw : (Lit.int .i64 w).wf = true) :
    Calls Try.prog 6 #[.string s, .int .i64 w] W fun e w' => e = .returned (.bool true) ∧ Below W.heap.size W w' := by
  have key := rnone_run s w
  obtain ⟨⟨y, m'⟩, k1, k2⟩ := Option.map_eq_some_iff.1 key
  simp only at k2
  subst k2
  exact law_of_run kn_ok follows_mixed dm_ok k1 (.cons .v (.cons .v (.nil _)))
end Go.Proofs.Ytfkneafghcndfaa
