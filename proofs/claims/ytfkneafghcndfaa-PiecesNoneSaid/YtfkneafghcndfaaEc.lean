/- Fragments: books that are none; the law PiecesNone. -/
import Derived.Test.YtfkneafghcndfaaEb
import Derived.Test.YtfkneafghcndfaaRd
namespace Go.Proofs.Ytfkneafghcndfaa
open Go.RowKit Go.Pm Go.Wb
set_option linter.unusedVariables false
set_option linter.unusedSimpArgs false
set_option maxRecDepth 1000000

def fNoneI (r : AV) : ObjF
  | [.v (.pointer none)], [] => some (r, [], [])
  | [.ptr 0 0 0], [[.v (.int .i64 0), .v (.int .u64 0), .v (.map none)]] => some (r, [[.v (.int .i64 0), .v (.int .u64 0), .v (.map none)]], [])
  | _, _ => none
set_option maxHeartbeats 4000000 in
theorem nptick_obj : ObjOk' Try.prog 13 (fNoneI (.v (.int .i64 0))) := (runO_ok kn_ok follows_mixed dm_ok 100000 3 13).weaken fun args bs r h => by
  have hpisnone := fun (d px : Nat) (args : List AV) (m : Mem) (hl : args.length ≤ Try.f37.ntmps) => pvCall_own (P := Try.prog) (K := KN) (D := Dm) (L := 100000) (d := d) (px := px) (args := args) (m := m) (f := 37) (fn := Try.f37) rfl Try.func37 rfl (by decide) rfl rfl hl
  unfold fNoneI at h
  split at h
  · rw [← h]
    unfold runO
    rw [pvCall_own (fn := Try.f13) rfl Try.func13 rfl (by decide) rfl rfl (by simp)]
    simp -implicitDefEqProofs [blkMem, hpisnone, splice, IntKind.wrap, IntKind.signed, IntKind.bits]
  · rw [← h]
    unfold runO
    rw [pvCall_own (fn := Try.f13) rfl Try.func13 rfl (by decide) rfl rfl (by simp)]
    simp -implicitDefEqProofs [blkMem, hpisnone, splice, IntKind.wrap, IntKind.signed, IntKind.bits]
  · cases h
set_option maxHeartbeats 4000000 in
theorem nplen_obj : ObjOk' Try.prog 14 (fNoneI (.v (.int .i64 0))) := (runO_ok kn_ok follows_mixed dm_ok 100000 3 14).weaken fun args bs r h => by
  have hpisnone := fun (d px : Nat) (args : List AV) (m : Mem) (hl : args.length ≤ Try.f37.ntmps) => pvCall_own (P := Try.prog) (K := KN) (D := Dm) (L := 100000) (d := d) (px := px) (args := args) (m := m) (f := 37) (fn := Try.f37) rfl Try.func37 rfl (by decide) rfl rfl hl
  unfold fNoneI at h
  split at h
  · rw [← h]
    unfold runO
    rw [pvCall_own (fn := Try.f14) rfl Try.func14 rfl (by decide) rfl rfl (by simp)]
    simp -implicitDefEqProofs [blkMem, hpisnone, splice, IntKind.wrap, IntKind.signed, IntKind.bits]
  · rw [← h]
    unfold runO
    rw [pvCall_own (fn := Try.f14) rfl Try.func14 rfl (by decide) rfl rfl (by simp)]
    simp -implicitDefEqProofs [blkMem, hpisnone, splice, IntKind.wrap, IntKind.signed, IntKind.bits]
  · cases h
set_option maxHeartbeats 4000000 in
theorem npheld_obj : ObjOk' Try.prog 12 (fNoneI (.v (.int .i64 0))) := (runO_ok kn_ok follows_mixed dm_ok 100000 3 12).weaken fun args bs r h => by
  have hpisnone := fun (d px : Nat) (args : List AV) (m : Mem) (hl : args.length ≤ Try.f37.ntmps) => pvCall_own (P := Try.prog) (K := KN) (D := Dm) (L := 100000) (d := d) (px := px) (args := args) (m := m) (f := 37) (fn := Try.f37) rfl Try.func37 rfl (by decide) rfl rfl hl
  unfold fNoneI at h
  split at h
  · rw [← h]
    unfold runO
    rw [pvCall_own (fn := Try.f12) rfl Try.func12 rfl (by decide) rfl rfl (by simp)]
    simp -implicitDefEqProofs [blkMem, hpisnone, splice, IntKind.wrap, IntKind.signed, IntKind.bits]
  · rw [← h]
    unfold runO
    rw [pvCall_own (fn := Try.f12) rfl Try.func12 rfl (by decide) rfl rfl (by simp)]
    simp -implicitDefEqProofs [blkMem, hpisnone, splice, IntKind.wrap, IntKind.signed, IntKind.bits]
  · cases h
set_option maxHeartbeats 4000000 in
theorem npcopy_obj : ObjOk' Try.prog 15 (fNoneI (.v (.pointer none))) := (runO_ok kn_ok follows_mixed dm_ok 100000 3 15).weaken fun args bs r h => by
  have hpisnone := fun (d px : Nat) (args : List AV) (m : Mem) (hl : args.length ≤ Try.f37.ntmps) => pvCall_own (P := Try.prog) (K := KN) (D := Dm) (L := 100000) (d := d) (px := px) (args := args) (m := m) (f := 37) (fn := Try.f37) rfl Try.func37 rfl (by decide) rfl rfl hl
  unfold fNoneI at h
  split at h
  · rw [← h]
    unfold runO
    rw [pvCall_own (fn := Try.f15) rfl Try.func15 rfl (by decide) rfl rfl (by simp)]
    simp -implicitDefEqProofs [blkMem, hpisnone, splice, IntKind.wrap, IntKind.signed, IntKind.bits]
  · rw [← h]
    unfold runO
    rw [pvCall_own (fn := Try.f15) rfl Try.func15 rfl (by decide) rfl rfl (by simp)]
    simp -implicitDefEqProofs [blkMem, hpisnone, splice, IntKind.wrap, IntKind.signed, IntKind.bits]
  · cases h
def fKn38 : Fun
  | [] => some (.v (.bool true), [])
  | _ => none
theorem kn38_pure : Pure Try.prog 9 fKn38 := (runF_pure kpb_ok follows_mixed dm_ok 100000 8 9).weaken fun args r h => by
  unfold fKn38 at h
  split at h
  · rw [← h]; exact known38_run
  · cases h
noncomputable def KPC : Nat → Option Con
  | 9 => some (.pure fKn38)
  | 13 => some (.obj (fNoneI (.v (.int .i64 0))))
  | 14 => some (.obj (fNoneI (.v (.int .i64 0))))
  | 12 => some (.obj (fNoneI (.v (.int .i64 0))))
  | 15 => some (.obj (fNoneI (.v (.pointer none))))
  | _ => none
theorem kpc_ok : KOk Try.prog KPC := fun f F h => by
  unfold KPC at h
  split at h
  · cases h; exact ⟨kn38_pure, _, Try.func9, rfl, by decide⟩
  · cases h; exact ⟨nptick_obj, _, Try.func13, rfl, by decide⟩
  · cases h; exact ⟨nplen_obj, _, Try.func14, rfl, by decide⟩
  · cases h; exact ⟨npheld_obj, _, Try.func12, rfl, by decide⟩
  · cases h; exact ⟨npcopy_obj, _, Try.func15, rfl, by decide⟩
  · cases h
section
variable {D : FuncId → Nat → List Nat} {L d px : Nat} {args : List AV} {m : Mem}
theorem ckpc_kn38 : pvCall Try.prog KPC D L d px 9 args m = callBy fKn38 m px args := pvCall_by rfl
theorem ckpc_ptick : pvCall Try.prog KPC D L d px 13 args m = appK m (objE (fNoneI (.v (.int .i64 0))) m px args) := pvCall_obj rfl
theorem ckpc_plen : pvCall Try.prog KPC D L d px 14 args m = appK m (objE (fNoneI (.v (.int .i64 0))) m px args) := pvCall_obj rfl
theorem ckpc_pheld : pvCall Try.prog KPC D L d px 12 args m = appK m (objE (fNoneI (.v (.int .i64 0))) m px args) := pvCall_obj rfl
theorem ckpc_pcopy : pvCall Try.prog KPC D L d px 15 args m = appK m (objE (fNoneI (.v (.pointer none))) m px args) := pvCall_obj rfl
end
theorem ekpc_kn38 : KPC 9 = some (.pure fKn38) := rfl
theorem ekpc_ptick : KPC 13 = some (.obj (fNoneI (.v (.int .i64 0)))) := rfl
theorem ekpc_plen : KPC 14 = some (.obj (fNoneI (.v (.int .i64 0)))) := rfl
theorem ekpc_pheld : KPC 12 = some (.obj (fNoneI (.v (.int .i64 0)))) := rfl
theorem ekpc_pcopy : KPC 15 = some (.obj (fNoneI (.v (.pointer none)))) := rfl
attribute [simp] ckpc_kn38 ekpc_kn38 ckpc_ptick ekpc_ptick ckpc_plen ekpc_plen ckpc_pheld ekpc_pheld ckpc_pcopy ekpc_pcopy
set_option maxHeartbeats 16000000 in
theorem pnone_run (zs : List Int) : (pvCall Try.prog KPC Dm 100000 4 0 4 [.sl false (B8 zs) zs.length none] (fun _ => none)).map (·.1) = some (.v (.bool true)) := by
  have hpsee := fun (d px : Nat) (args : List AV) (m : Mem) (hl : args.length ≤ Try.f11.ntmps) => pvCall_own (P := Try.prog) (K := KPC) (D := Dm) (L := 100000) (d := d) (px := px) (args := args) (m := m) (f := 11) (fn := Try.f11) rfl Try.func11 rfl (by decide) rfl rfl hl
  have hpisnone := fun (d px : Nat) (args : List AV) (m : Mem) (hl : args.length ≤ Try.f37.ntmps) => pvCall_own (P := Try.prog) (K := KPC) (D := Dm) (L := 100000) (d := d) (px := px) (args := args) (m := m) (f := 37) (fn := Try.f37) rfl Try.func37 rfl (by decide) rfl rfl hl
  rw [pvCall_own (fn := Try.f4) rfl Try.func4 rfl (by decide) rfl rfl (by simp)]
  by_cases h : (2000 : Int) < (zs.length : Int)
  · simp -implicitDefEqProofs [h, fNoneI, fKn38, blkMem, loopK_pos, hpsee, hpisnone, splice, IntKind.wrap, IntKind.signed, IntKind.bits]
  simp -implicitDefEqProofs [h, fNoneI, fKn38, blkMem, eqV, vEq, loopK_pos, List.replicate_succ, hpsee, hpisnone, splice, IntKind.wrap, IntKind.signed, IntKind.bits]
theorem rel_isrow {w : World} {v : Value} {zs : List Int} (h : IsRow .u8 w v zs) : Rel (noneAt w) (.sl false (B8 zs) zs.length none) v := by
  obtain ⟨a, len, cap, rfl, rfl, h1, h2, h3, h4, h5⟩ := h
  have g : ∀ (i : Nat) x, (B8 zs)[i]? = some x → i < zs.length ∧ x = .v (.int .u8 (zs.getD i 0)) := fun i x hi => by
    have hlt : i < zs.length := by have := (List.getElem?_eq_some_iff.1 hi).1; simpa [B8] using this
    rw [B8_get _ _ hlt] at hi
    cases hi
    exact ⟨hlt, rfl⟩
  refine .sl (fun i => .int .u8 (zs.getD i 0)) h1 h2 (fun q e => by cases e) (fun e => ⟨rfl, h5 e, by have := h5 e; omega⟩) (fun p e hp => ?_) (fun i x hi => ?_) (fun i x hi => ?_)
  · rcases h3 with h0 | ⟨b, o, e2, _⟩
    · omega
    · rw [e2] at e; cases e; rfl
  · rcases h3 with h0 | ⟨b, o, e2, _, e3⟩
    · have := (g i x hi).1; omega
    · exact ⟨b, o, e2, (fun ⟨n, k, h, _⟩ => by cases h), e3 i (g i x hi).1⟩
  · rw [(g i x hi).2]; exact .v
def InRow (w : World) (v : Value) : Prop := ∃ zs, IsRow .u8 w v zs
set_option maxRecDepth 1000000 in
theorem openT23 {H : Type} {enc : TypeId × Value → H} {w : World} {base b0 : Nat} {spare : Nat → Bool} {held : Bool} {r : Reach} {v : Value} {d : DataW H} {p : List MemPlace} (hv : Value.okWide Try.prog w r b0 23 v) (h : DataW.Trod enc Try.prog w base spare held 23 v d p) : InRow w v :=
  open_row Try.underlying23 Try.underlying5 (by kernel_rfl) hv h
theorem piecesNone_walk (W : World) (v : Value) (o : InRow W v) :
    Calls Try.prog 4 #[v] W fun e w' => e = .returned (.bool true) ∧ Below W.heap.size W w' := by
  obtain ⟨zs, hz⟩ := o
  have key := pnone_run zs
  obtain ⟨⟨y, m'⟩, k1, k2⟩ := Option.map_eq_some_iff.1 key
  simp only at k2
  subst k2
  exact law_of_run kpc_ok follows_mixed dm_ok k1 (.cons (rel_isrow hz) (.nil _))
end Go.Proofs.Ytfkneafghcndfaa
