/- Fragments: the page's example is true; the law PiecesNone. -/
import Derived.Test.YtfkneafghcndfaaEa
namespace Go.Proofs.Ytfkneafghcndfaa
open Go.RowKit Go.Pm
set_option linter.unusedVariables false
set_option linter.unusedSimpArgs false
set_option maxRecDepth 1000000
@[simp] theorem drawK_new' {P : Program} {K : FuncId → Option Con} {nt px : Nat} (ops : Array Oper) (masks : List Nat) (os : List Oper) (j : Nat) (hist : Hist) (dst : Option Tmp) (st : St) (x : AV) (u : Nat × Blk) (us : List (Nat × Blk)) : drawK P K nt px ops masks os j hist dst st (some (x, u :: us, [])) =
    if (hist.all (clearL (masks.getD j 0) (u.1 :: us.map (·.1)) (u.1 :: us.map (·.1)))) = true then (St.put nt ⟨st.t, applyU st.m (u :: us)⟩ dst x).bind (drawGo P K nt px ops masks os (j + 1) (hist ++ [(j, u.1 :: us.map (·.1), u.1 :: us.map (·.1))])) else none := rfl
noncomputable def KPB : Nat → Option Con
  | 65 => some (.pure fPWord)
  | 84 => some (.obj fAdd1)
  | 34 => some (.pure fOne)
  | _ => none
theorem kpb_ok : KOk Try.prog KPB := fun f F h => by
  unfold KPB at h
  split at h
  · cases h; exact ⟨pword_pure, _, Try.func65, rfl, by decide⟩
  · cases h; exact ⟨add1_obj, _, Try.func84, rfl, by decide⟩
  · cases h; exact ⟨one_pure, _, Try.func34, rfl, by decide⟩
  · cases h
section
variable {D : FuncId → Nat → List Nat} {L d px : Nat} {args : List AV} {m : Mem}
theorem ckpb_word : pvCall Try.prog KPB D L d px 65 args m = callBy fPWord m px args := pvCall_by rfl
theorem ckpb_add1 : pvCall Try.prog KPB D L d px 84 args m = appK m (objE fAdd1 m px args) := pvCall_obj rfl
theorem ckpb_one : pvCall Try.prog KPB D L d px 34 args m = callBy fOne m px args := pvCall_by rfl
end
theorem ekpb_word : KPB 65 = some (.pure fPWord) := rfl
theorem ekpb_add1 : KPB 84 = some (.obj fAdd1) := rfl
theorem ekpb_one : KPB 34 = some (.pure fOne) := rfl
attribute [simp] ckpb_word ekpb_word ckpb_add1 ekpb_add1 ckpb_one ekpb_one
set_option maxHeartbeats 64000000 in
theorem known38_run : runF Try.prog KPB Dm 100000 8 9 [] = some (.v (.bool true), []) := by
  have hpnew := fun (d px : Nat) (args : List AV) (m : Mem) (hl : args.length ≤ Try.f8.ntmps) => pvCall_own (P := Try.prog) (K := KPB) (D := Dm) (L := 100000) (d := d) (px := px) (args := args) (m := m) (f := 8) (fn := Try.f8) rfl Try.func8 rfl (by decide) rfl rfl hl
  have hpsee := fun (d px : Nat) (args : List AV) (m : Mem) (hl : args.length ≤ Try.f11.ntmps) => pvCall_own (P := Try.prog) (K := KPB) (D := Dm) (L := 100000) (d := d) (px := px) (args := args) (m := m) (f := 11) (fn := Try.f11) rfl Try.func11 rfl (by decide) rfl rfl hl
  have hpisnone := fun (d px : Nat) (args : List AV) (m : Mem) (hl : args.length ≤ Try.f37.ntmps) => pvCall_own (P := Try.prog) (K := KPB) (D := Dm) (L := 100000) (d := d) (px := px) (args := args) (m := m) (f := 37) (fn := Try.f37) rfl Try.func37 rfl (by decide) rfl rfl hl
  have hpread := fun (d px : Nat) (args : List AV) (m : Mem) (hl : args.length ≤ Try.f38.ntmps) => pvCall_own (P := Try.prog) (K := KPB) (D := Dm) (L := 100000) (d := d) (px := px) (args := args) (m := m) (f := 38) (fn := Try.f38) rfl Try.func38 rfl (by decide) rfl rfl hl
  have hpfirst := fun (d px : Nat) (args : List AV) (m : Mem) (hl : args.length ≤ Try.f40.ntmps) => pvCall_own (P := Try.prog) (K := KPB) (D := Dm) (L := 100000) (d := d) (px := px) (args := args) (m := m) (f := 40) (fn := Try.f40) rfl Try.func40 rfl (by decide) rfl rfl hl
  have hpfour := fun (d px : Nat) (args : List AV) (m : Mem) (hl : args.length ≤ Try.f56.ntmps) => pvCall_own (P := Try.prog) (K := KPB) (D := Dm) (L := 100000) (d := d) (px := px) (args := args) (m := m) (f := 56) (fn := Try.f56) rfl Try.func56 rfl (by decide) rfl rfl hl
  have hof := fun (d px : Nat) (args : List AV) (m : Mem) (hl : args.length ≤ Try.f66.ntmps) => pvCall_own (P := Try.prog) (K := KPB) (D := Dm) (L := 100000) (d := d) (px := px) (args := args) (m := m) (f := 66) (fn := Try.f66) rfl Try.func66 rfl (by decide) rfl rfl hl
  have hend := fun (d px : Nat) (args : List AV) (m : Mem) (hl : args.length ≤ Try.f71.ntmps) => pvCall_own (P := Try.prog) (K := KPB) (D := Dm) (L := 100000) (d := d) (px := px) (args := args) (m := m) (f := 71) (fn := Try.f71) rfl Try.func71 rfl (by decide) rfl rfl hl
  have hadd := fun (d px : Nat) (args : List AV) (m : Mem) (hl : args.length ≤ Try.f72.ntmps) => pvCall_own (P := Try.prog) (K := KPB) (D := Dm) (L := 100000) (d := d) (px := px) (args := args) (m := m) (f := 72) (fn := Try.f72) rfl Try.func72 rfl (by decide) rfl rfl hl
  have hfold := fun (d px : Nat) (args : List AV) (m : Mem) (hl : args.length ≤ Try.f85.ntmps) => pvCall_own (P := Try.prog) (K := KPB) (D := Dm) (L := 100000) (d := d) (px := px) (args := args) (m := m) (f := 85) (fn := Try.f85) rfl Try.func85 rfl (by decide) rfl rfl hl
  have hclone := fun (d px : Nat) (args : List AV) (m : Mem) (hl : args.length ≤ Try.f39.ntmps) => pvCall_own (P := Try.prog) (K := KPB) (D := Dm) (L := 100000) (d := d) (px := px) (args := args) (m := m) (f := 39) (fn := Try.f39) rfl Try.func39 rfl (by decide) rfl rfl hl
  have hconcat := fun (d px : Nat) (args : List AV) (m : Mem) (hl : args.length ≤ Try.f41.ntmps) => pvCall_own (P := Try.prog) (K := KPB) (D := Dm) (L := 100000) (d := d) (px := px) (args := args) (m := m) (f := 41) (fn := Try.f41) rfl Try.func41 rfl (by decide) rfl rfl hl
  have hgrow := fun (d px : Nat) (args : List AV) (m : Mem) (hl : args.length ≤ Try.f59.ntmps) => pvCall_own (P := Try.prog) (K := KPB) (D := Dm) (L := 100000) (d := d) (px := px) (args := args) (m := m) (f := 59) (fn := Try.f59) rfl Try.func59 rfl (by decide) rfl rfl hl
  have hclip := fun (d px : Nat) (args : List AV) (m : Mem) (hl : args.length ≤ Try.f42.ntmps) => pvCall_own (P := Try.prog) (K := KPB) (D := Dm) (L := 100000) (d := d) (px := px) (args := args) (m := m) (f := 42) (fn := Try.f42) rfl Try.func42 rfl (by decide) rfl rfl hl
  have hports := fun (d px : Nat) (args : List AV) (m : Mem) (hl : args.length ≤ Try.f58.ntmps) => pvCall_own (P := Try.prog) (K := KPB) (D := Dm) (L := 100000) (d := d) (px := px) (args := args) (m := m) (f := 58) (fn := Try.f58) rfl Try.func58 rfl (by decide) rfl rfl hl
  have hat := fun (d px : Nat) (args : List AV) (m : Mem) (hl : args.length ≤ Try.f67.ntmps) => pvCall_own (P := Try.prog) (K := KPB) (D := Dm) (L := 100000) (d := d) (px := px) (args := args) (m := m) (f := 67) (fn := Try.f67) rfl Try.func67 rfl (by decide) rfl rfl hl
  unfold runF
  rw [pvCall_own (fn := Try.f9) rfl Try.func9 rfl (by decide) rfl rfl (by simp)]
  simp (config := { maxSteps := 10000000 }) -implicitDefEqProofs [hpnew, hpsee, hpisnone, hpread, hpfirst, hpfour, hof, hend, hadd, hfold, hclone, hconcat, hgrow, hclip, hports, hat, ewP, fOne, fPWord, fAdd1, bytesB, w16, gb, bits, IntKind.max, asB8_nil'', asB8_cons'', B8vc, B8vn, eqV, vEq, loopK_pos, splice, IntKind.wrap, IntKind.signed, IntKind.bits, Nat.testBit_eq_decide_div_mod_eq, List.replicate_succ]
end Go.Proofs.Ytfkneafghcndfaa
