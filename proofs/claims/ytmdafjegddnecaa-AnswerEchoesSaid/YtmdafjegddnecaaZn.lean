/- The law AnswerEchoes as a function of values. -/
import Derived.Test.YtmdafjegddnecaaMh
import Derived.Test.YtmdafjegddnecaaZl
import Derived.Test.YtmdafjegddnecaaZm
namespace Go.Proofs.Ytmdafjegddnecaa
open Go.Pm Go.Wb Go.RowKit
set_option linter.unusedVariables false
set_option linter.unusedSimpArgs false
set_option maxRecDepth 1000000
noncomputable def KAQ : Nat → Option Con
  | 46 => some fAEcho
  | 47 => some fAEcho
  | 48 => some fATooBig
  | 49 => some fATooBig
  | 50 => some fAMay
  | 51 => some fAMay
  | 37 => some fKnown37
  | _ => none
theorem kaq_ok : KOk Try.prog KAQ := fun f F h => by
  unfold KAQ at h
  split at h
  · cases h; exact ⟨aecho_pure, _, Try.func46, rfl, by decide⟩
  · cases h; exact ⟨arecho_pure, _, Try.func47, rfl, by decide⟩
  · cases h; exact ⟨abig_pure, _, Try.func48, rfl, by decide⟩
  · cases h; exact ⟨arbig_pure, _, Try.func49, rfl, by decide⟩
  · cases h; exact ⟨amay_pure, _, Try.func50, rfl, by decide⟩
  · cases h; exact ⟨armay_pure, _, Try.func51, rfl, by decide⟩
  · cases h; exact ⟨known37_pure, _, Try.func37, rfl, by decide⟩
  · cases h
section
variable {D : FuncId → Nat → List Nat} {L d px : Nat} {args : List AV} {m : Mem}
theorem ckaq_aecho : pvCall Try.prog KAQ D L d px 46 args m = callBy fAEcho m px args := pvCall_by rfl
theorem ckaq_arecho : pvCall Try.prog KAQ D L d px 47 args m = callBy fAEcho m px args := pvCall_by rfl
theorem ckaq_abig : pvCall Try.prog KAQ D L d px 48 args m = callBy fATooBig m px args := pvCall_by rfl
theorem ckaq_arbig : pvCall Try.prog KAQ D L d px 49 args m = callBy fATooBig m px args := pvCall_by rfl
theorem ckaq_amay : pvCall Try.prog KAQ D L d px 50 args m = callBy fAMay m px args := pvCall_by rfl
theorem ckaq_armay : pvCall Try.prog KAQ D L d px 51 args m = callBy fAMay m px args := pvCall_by rfl
theorem ckaq_known : pvCall Try.prog KAQ D L d px 37 args m = callBy fKnown37 m px args := pvCall_by rfl
end
theorem ekaq_aecho : KAQ 46 = some (.pure fAEcho) := rfl
theorem ekaq_arecho : KAQ 47 = some (.pure fAEcho) := rfl
theorem ekaq_abig : KAQ 48 = some (.pure fATooBig) := rfl
theorem ekaq_arbig : KAQ 49 = some (.pure fATooBig) := rfl
theorem ekaq_amay : KAQ 50 = some (.pure fAMay) := rfl
theorem ekaq_armay : KAQ 51 = some (.pure fAMay) := rfl
theorem ekaq_known : KAQ 37 = some (.pure fKnown37) := rfl
attribute [simp] ckaq_aecho ekaq_aecho ckaq_arecho ekaq_arecho ckaq_abig ekaq_abig ckaq_arbig ekaq_arbig ckaq_amay ekaq_amay ckaq_armay ekaq_armay ckaq_known ekaq_known
theorem pk_len (v6 : Bool) (S D b : List Int) (hS : S.length = 16) (hD : D.length = 16) : (∃ e, ¬ e = 0 ∧ pkV v6 S D b = ewE e) ∨ (∃ W, pkV v6 S D b = ewC W ∧ W.length ≤ 5000) := by
  unfold pkV
  cases v6 with
  | true =>
    simp only [if_true]
    unfold w6V
    split
    · exact .inl ⟨_, by decide, rfl⟩
    split
    · exact .inl ⟨_, by decide, rfl⟩
    · refine .inr ⟨_, rfl, ?_⟩
      simp [head6, hS, hD]
      rename_i q; simp at q; omega
  | false =>
    simp only [Bool.false_eq_true, if_false]
    unfold w4V
    split
    · rename_i q; exact .inl ⟨_, q, rfl⟩
    split
    · exact .inl ⟨_, by decide, rfl⟩
    split
    · exact .inl ⟨_, by decide, rfl⟩
    · refine .inr ⟨_, rfl, ?_⟩
      simp [putS, head4]
      rename_i q; simp at q; omega
theorem ek_len (zs : List Int) (hl : zs.length ≤ 500000) (hz : bytesB zs = true) : (∃ e, ¬ e = 0 ∧ ekV zs = ewE e) ∨ (∃ W, ekV zs = ewC W ∧ W.length ≤ 5000) := by
  unfold ekV
  split
  · rename_i q; exact .inl ⟨_, q, rfl⟩
  rename_i q
  split
  · exact .inl ⟨_, by decide, rfl⟩
  · have he : anEr zs = 0 := by
      apply Classical.byContradiction
      intro h
      apply q
      unfold ekE
      rw [if_pos h]
      exact h
    obtain ⟨_, _, _, hS, hD, _⟩ := an_ok hl hz he
    exact pk_len _ _ _ _ hD hS
theorem tb_len (zs fr : List Int) (size : Int) (hl : zs.length ≤ 500000) (hz : bytesB zs = true) (hF : fr.length = 16) : (∃ e, ¬ e = 0 ∧ tbV zs fr size = ewE e) ∨ (∃ W, tbV zs fr size = ewC W ∧ W.length ≤ 5000) := by
  unfold tbV
  split
  · rename_i q; exact .inl ⟨_, q, rfl⟩
  rename_i q
  have he : anEr zs = 0 := by
    apply Classical.byContradiction
    intro h
    apply q
    unfold tbE
    rw [if_pos h]
    exact h
  obtain ⟨_, _, _, hS, hD, _⟩ := an_ok hl hz he
  exact pk_len _ _ _ _ hF hS
set_option maxHeartbeats 8000000 in
theorem aechoes_long (zs fr : List Int) (size : Int) (nn : Bool) (cap : Option Nat) (hl : zs.length ≤ 9223372036854775807) (hF : fr.length = 16) (hb : 1800 < zs.length) : (pvCall Try.prog KAQ Dm 100000 1 0 13 [.sl nn (B8 zs) zs.length cap, .agg (B8 fr), .v (.int .u16 size)] (fun _ => none)).map (·.1) = some (.v (.bool true)) := by
  have tF : fr.take 16 = fr := List.take_of_length_le (by omega)
  rw [pvCall_own (fn := Try.f13) rfl Try.func13 rfl (by decide) rfl rfl (by simp)]
  have i1 : (1800 : Int) < (zs.length : Int) := by omega
  simp -implicitDefEqProofs [i1, hF, tF, fKnown37, splice]
set_option maxHeartbeats 16000000 in
theorem aechoes_ee (zs fr : List Int) (size : Int) (nn : Bool) (cap : Option Nat) (e1 : Int) (hA : ekV zs = ewE e1) (e2 : Int) (hB : tbV zs fr size = ewE e2) (h1 : zs.length ≤ 1800) (hz : bytesB zs = true) (hF : fr.length = 16) (bF : bytesB fr = true) (z0 : 0 ≤ size) (z1 : size ≤ 65535) : (pvCall Try.prog KAQ Dm 100000 1 0 13 [.sl nn (B8 zs) zs.length cap, .agg (B8 fr), .v (.int .u16 size)] (fun _ => none)).map (·.1) = some (.v (.bool true)) := by
  have u1 : ¬ (1800 : Int) < (zs.length : Int) := by omega
  have tF : fr.take 16 = fr := List.take_of_length_le (by omega)
  have l4 : zs.length ≤ 500000 := by omega
  have l5 : zs.length ≤ 549755813888 := by omega
  have l6 : zs.take zs.length = zs := List.take_length
  have l7 : zs.length ≤ 9223372036854775807 := by omega
  rw [pvCall_own (fn := Try.f13) rfl Try.func13 rfl (by decide) rfl rfl (by simp)]
  simp -implicitDefEqProofs [u1, tF, l4, l5, l6, l7, hz, hF, bF, z0, z1, hA, hB, fAEcho, fATooBig, fAMay, fKnown37, splice, Nat.testBit_eq_decide_div_mod_eq, asB8_nil'', ewE, ewC]
set_option maxHeartbeats 16000000 in
theorem aechoes_eo (zs fr : List Int) (size : Int) (nn : Bool) (cap : Option Nat) (e1 : Int) (hA : ekV zs = ewE e1) (B : List Int) (hBl : B.length ≤ 5000) (hB : tbV zs fr size = ewC B) (h1 : zs.length ≤ 1800) (hz : bytesB zs = true) (hF : fr.length = 16) (bF : bytesB fr = true) (z0 : 0 ≤ size) (z1 : size ≤ 65535) : (pvCall Try.prog KAQ Dm 100000 1 0 13 [.sl nn (B8 zs) zs.length cap, .agg (B8 fr), .v (.int .u16 size)] (fun _ => none)).map (·.1) = some (.v (.bool true)) := by
  have u1 : ¬ (1800 : Int) < (zs.length : Int) := by omega
  have tF : fr.take 16 = fr := List.take_of_length_le (by omega)
  have l4 : zs.length ≤ 500000 := by omega
  have l5 : zs.length ≤ 549755813888 := by omega
  have l6 : zs.take zs.length = zs := List.take_length
  have l7 : zs.length ≤ 9223372036854775807 := by omega
  have w3 : B.length ≤ 9223372036854775807 := by omega
  have w4 : B.take B.length = B := List.take_length
  rw [pvCall_own (fn := Try.f13) rfl Try.func13 rfl (by decide) rfl rfl (by simp)]
  simp -implicitDefEqProofs [u1, tF, l4, l5, l6, l7, hz, hF, bF, z0, z1, hA, hB, fAEcho, fATooBig, fAMay, fKnown37, splice, Nat.testBit_eq_decide_div_mod_eq, asB8_nil'', ewE, ewC, w3, w4]
set_option maxHeartbeats 16000000 in
theorem aechoes_oe (zs fr : List Int) (size : Int) (nn : Bool) (cap : Option Nat) (A : List Int) (hAl : A.length ≤ 5000) (hA : ekV zs = ewC A) (e2 : Int) (hB : tbV zs fr size = ewE e2) (h1 : zs.length ≤ 1800) (hz : bytesB zs = true) (hF : fr.length = 16) (bF : bytesB fr = true) (z0 : 0 ≤ size) (z1 : size ≤ 65535) : (pvCall Try.prog KAQ Dm 100000 1 0 13 [.sl nn (B8 zs) zs.length cap, .agg (B8 fr), .v (.int .u16 size)] (fun _ => none)).map (·.1) = some (.v (.bool true)) := by
  have u1 : ¬ (1800 : Int) < (zs.length : Int) := by omega
  have tF : fr.take 16 = fr := List.take_of_length_le (by omega)
  have l4 : zs.length ≤ 500000 := by omega
  have l5 : zs.length ≤ 549755813888 := by omega
  have l6 : zs.take zs.length = zs := List.take_length
  have l7 : zs.length ≤ 9223372036854775807 := by omega
  have w1 : A.length ≤ 9223372036854775807 := by omega
  have w2 : A.take A.length = A := List.take_length
  rw [pvCall_own (fn := Try.f13) rfl Try.func13 rfl (by decide) rfl rfl (by simp)]
  simp -implicitDefEqProofs [u1, tF, l4, l5, l6, l7, hz, hF, bF, z0, z1, hA, hB, fAEcho, fATooBig, fAMay, fKnown37, splice, Nat.testBit_eq_decide_div_mod_eq, asB8_nil'', ewE, ewC, w1, w2]
set_option maxHeartbeats 16000000 in
theorem aechoes_oo (zs fr : List Int) (size : Int) (nn : Bool) (cap : Option Nat) (A : List Int) (hAl : A.length ≤ 5000) (hA : ekV zs = ewC A) (B : List Int) (hBl : B.length ≤ 5000) (hB : tbV zs fr size = ewC B) (h1 : zs.length ≤ 1800) (hz : bytesB zs = true) (hF : fr.length = 16) (bF : bytesB fr = true) (z0 : 0 ≤ size) (z1 : size ≤ 65535) : (pvCall Try.prog KAQ Dm 100000 1 0 13 [.sl nn (B8 zs) zs.length cap, .agg (B8 fr), .v (.int .u16 size)] (fun _ => none)).map (·.1) = some (.v (.bool true)) := by
  have u1 : ¬ (1800 : Int) < (zs.length : Int) := by omega
  have tF : fr.take 16 = fr := List.take_of_length_le (by omega)
  have l4 : zs.length ≤ 500000 := by omega
  have l5 : zs.length ≤ 549755813888 := by omega
  have l6 : zs.take zs.length = zs := List.take_length
  have l7 : zs.length ≤ 9223372036854775807 := by omega
  have w1 : A.length ≤ 9223372036854775807 := by omega
  have w2 : A.take A.length = A := List.take_length
  have w3 : B.length ≤ 9223372036854775807 := by omega
  have w4 : B.take B.length = B := List.take_length
  rw [pvCall_own (fn := Try.f13) rfl Try.func13 rfl (by decide) rfl rfl (by simp)]
  simp -implicitDefEqProofs [u1, tF, l4, l5, l6, l7, hz, hF, bF, z0, z1, hA, hB, fAEcho, fATooBig, fAMay, fKnown37, splice, Nat.testBit_eq_decide_div_mod_eq, asB8_nil'', ewE, ewC, w1, w2, w3, w4]
theorem aechoes_run (zs fr : List Int) (size : Int) (nn : Bool) (cap : Option Nat) (hl : zs.length ≤ 9223372036854775807) (hz : bytesB zs = true) (hF : fr.length = 16) (bF : bytesB fr = true) (z0 : 0 ≤ size) (z1 : size ≤ 65535) : (pvCall Try.prog KAQ Dm 100000 1 0 13 [.sl nn (B8 zs) zs.length cap, .agg (B8 fr), .v (.int .u16 size)] (fun _ => none)).map (·.1) = some (.v (.bool true)) := by
  by_cases hlong : 1800 < zs.length
  · exact aechoes_long zs fr size nn cap hl hF hlong
  have h1 : zs.length ≤ 1800 := by omega
  rcases ek_len zs (by omega) hz with ⟨e1, _, hA⟩ | ⟨A, hA, hAl⟩ <;> rcases tb_len zs fr size (by omega) hz hF with ⟨e2, _, hB⟩ | ⟨B, hB, hBl⟩
  · exact aechoes_ee zs fr size nn cap _ hA _ hB h1 hz hF bF z0 z1
  · exact aechoes_eo zs fr size nn cap _ hA _ hBl hB h1 hz hF bF z0 z1
  · exact aechoes_oe zs fr size nn cap _ hAl hA _ hB h1 hz hF bF z0 z1
  · exact aechoes_oo zs fr size nn cap _ hAl hA _ hBl hB h1 hz hF bF z0 z1
theorem answerEchoes_walk (w : World) (v0 : Value) (o0 : In8 w v0) (v1 : Value) (o1 : InAr 16 v1) (size : Int) (h2 : (Lit.int .u16 size).wf = true) :
    Calls Try.prog 13 #[v0, v1, .int .u16 size] w fun e w' => e = .returned (.bool true) ∧ Below w.heap.size w w' := by
  obtain ⟨a, len, cap, zs, rfl, ro⟩ := o0
  obtain ⟨fr, rfl, s1, s2⟩ := o1
  have hol : zs.length = len := ro.1
  subst hol
  have hx := bounds_u16 h2
  have ra : RelL (noneAt w) [.sl false (B8 zs) zs.length none, .agg (B8 fr), .v (.int .u16 size)] (#[.slice a zs.length cap, .agg (ar fr), .int .u16 size] : Array Value).toList :=
    .cons (rel_row ro) (.cons (rel_ar _ fr) (.cons .v (.nil _)))
  have hb : zs.length ≤ 9223372036854775807 := by have := ro.le; have := ro.cap_le; omega
  have key := aechoes_run zs fr size false none hb (bytesB_iff.2 ro.5) s1 (bytesB_iff.2 s2) (by omega) (by omega)
  obtain ⟨⟨x, m'⟩, k1, k2⟩ := Option.map_eq_some_iff.1 key
  simp only at k2
  subst k2
  exact law_of_run kaq_ok follows_mixed dm_ok k1 ra
end Go.Proofs.Ytmdafjegddnecaa
