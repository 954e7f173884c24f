import Derived.Test.YtmdafjegddnecaaMq
import Derived.Test.YtmdafjegddnecaaMy
/- Encapsulation: contracts; what is wrapped is unwrapped (plain). -/
namespace Go.Proofs.Ytmdafjegddnecaa
open Go.Pm Go.Wb
set_option linter.unusedVariables false
set_option linter.unusedSimpArgs false
set_option maxRecDepth 1000000
def fEWrap : Fun
  | [x, .sl nn c len cap] => (asOut x).bind fun r => (asB8 c).bind fun inner => if r.2.2.1.length = 16 ∧ r.2.2.2.1.length = 16 ∧ bytesB r.2.2.1 = true ∧ bytesB r.2.2.2.1 = true ∧ bytesB inner = true ∧ inner.length = len ∧ len ≤ 1700 ∧ 0 ≤ r.2.2.2.2 ∧ r.2.2.2.2 ≤ 65535 then some (wrV r.1 r.2.1 r.2.2.1 r.2.2.2.1 r.2.2.2.2 inner) else none
  | _ => none
theorem ewrap_pure : Pure Try.prog 32 fEWrap := (runF_pure kew_ok follows_mixed dm_ok 100000 2 32).weaken fun args r h => by
  unfold fEWrap at h
  split at h
  · rename_i x nn c len cap
    obtain ⟨⟨v6, mode, S, D, sp⟩, e1, h1⟩ := Option.bind_eq_some_iff.1 h
    obtain ⟨inner, e2, he⟩ := Option.bind_eq_some_iff.1 h1
    clear h h1
    split at he
    case isFalse => cases he
    rename_i hh
    simp only at hh he
    obtain ⟨x1, x2, x3, x4, x5, rfl, x7, x8, x9⟩ := hh
    obtain rfl := asOut_eq e1
    obtain rfl := asB8_eq e2
    rw [← he]
    exact ewrap_run v6 mode S D sp inner nn cap x1 x2 x3 x4 x5 x7 x8 x9
  · cases h
def fEUnwrap : Fun
  | [.v (.bool v6), .sl nn c len cap] => (asB8 c).bind fun zs => if zs.length = len ∧ len ≤ 500000 ∧ bytesB zs = true ∧ anEr zs = 0 ∧ an6 zs = v6 then some (unV v6 zs) else none
  | _ => none
theorem eunwrap_pure : Pure Try.prog 33 fEUnwrap := (runF_pure keu_ok follows_mixed dm_ok 100000 2 33).weaken fun args r h => by
  unfold fEUnwrap at h
  split at h
  · rename_i v6 nn c len cap
    obtain ⟨zs, e2, he⟩ := Option.bind_eq_some_iff.1 h
    clear h
    split at he
    case isFalse => cases he
    rename_i hh
    obtain ⟨rfl, x2, x3, x4, x5⟩ := hh
    obtain rfl := asB8_eq e2
    rw [← he]
    exact eunwrap_run v6 zs nn cap x2 x3 x4 x5
  · cases h
def fEKindN : Fun := fun args => fEKind (args.map AV.norm)
theorem wr_ok {v6 : Bool} {mode : Int} {S D : List Int} {sp : Int} {inner : List Int} (hm : mayO v6 mode S D sp = true) (hk : ¬ kndV inner = 0) (hS : S.length = 16) (hD : D.length = 16) (bS : bytesB S = true) (bD : bytesB D = true) (hz : bytesB inner = true) (hf : hdO v6 + (bO v6 mode S D sp inner).length ≤ 1646) :
    ∃ W, wrV v6 mode S D sp inner = ewC W ∧ pkO v6 (prO mode inner) S D (bO v6 mode S D sp inner) = ewC W ∧ W.length = hdO v6 + (bO v6 mode S D sp inner).length ∧ Said v6 (prO mode inner) S D (bO v6 mode S D sp inner) W := by
  obtain ⟨z, hmode⟩ := may_ok hm
  have hkr := kndV_range inner
  have hp : prO mode inner = 4 ∨ prO mode inner = 41 ∨ prO mode inner = 17 := by unfold prO; split <;> omega
  have hb : bytesB (bO v6 mode S D sp inner) = true := by
    unfold bO
    split
    · exact hz
    · refine eudpW_bytes ?_
      unfold gueB
      simp only [bytesB_cons, hz, Bool.and_true, Bool.and_eq_true, decide_eq_true_eq]
      omega
  obtain ⟨W, h1, h2, h3⟩ := pkO_said hp hS hD z bS bD hb hf
  refine ⟨W, ?_, h1, h2, h3⟩
  unfold wrV
  rw [hm, if_neg (by simp), if_neg hk, if_neg (by omega), h1]
theorem bO_len (v6 : Bool) (mode : Int) (S D : List Int) (sp : Int) (inner : List Int) : (bO v6 mode S D sp inner).length = (if mode = 1 then 0 else 12) + inner.length := by
  unfold bO
  split
  · omega
  · rw [eudpW_len]; simp [gueB]; omega
noncomputable def KEK : Nat → Option Con
  | 32 => some fEWrap
  | 80 => some fEKindN
  | _ => none
theorem kek_ok : KOk Try.prog KEK := fun f F h => by
  unfold KEK at h
  split at h
  · cases h; exact ⟨ewrap_pure, _, Try.func32, rfl, by decide⟩
  · cases h; exact ⟨ekind_pure.norm, _, Try.func80, rfl, by decide⟩
  · cases h
section
variable {D : FuncId → Nat → List Nat} {L d px : Nat} {args : List AV} {m : Mem}
theorem ckek_ewrap : pvCall Try.prog KEK D L d px 32 args m = callBy fEWrap m px args := pvCall_by rfl
theorem ckek_ekind : pvCall Try.prog KEK D L d px 80 args m = callBy fEKindN m px args := pvCall_by rfl
end
theorem ekek_ewrap : KEK 32 = some (.pure fEWrap) := rfl
theorem ekek_ekind : KEK 80 = some (.pure fEKindN) := rfl
attribute [simp] ckek_ewrap ekek_ewrap ckek_ekind ekek_ekind
theorem ze_arr4 : zeroOf Try.prog 141 = some (.v (.bool false) :: .v (.int .u8 0) :: (List.replicate 32 (.v (.int .u8 0)) ++ (.v (.int .u16 0) :: .v (.int .i64 0) :: .v (.bool false) :: .v (.int .u8 0) :: (List.replicate 32 (.v (.int .u8 0)) ++ (.v (.int .u16 0) :: .v (.int .i64 0) :: .v (.bool false) :: .v (.int .u8 0) :: (List.replicate 32 (.v (.int .u8 0)) ++ (.v (.int .u16 0) :: .v (.int .i64 0) :: .v (.bool false) :: .v (.int .u8 0) :: (List.replicate 32 (.v (.int .u8 0)) ++ (.v (.int .u16 0) :: .v (.int .i64 0) :: []))))))))) := by kernel_rfl
set_option maxHeartbeats 32000000 in
theorem known08_run : runF Try.prog KEK Dm 100000 1 31 [] = some (.v (.bool true), []) := by
  have hk : kndV [69, 1, 2] = 4 := by decide
  have hk0 : kndV [] = 0 := by decide
  obtain ⟨W1, w1, _, l1, _⟩ := wr_ok (v6 := false) (mode := 1) (S := z16) (D := z16) (sp := 0) (inner := [69, 1, 2]) (by decide) (by decide) rfl rfl (by decide) (by decide) (by decide) (by rw [bO_len]; decide)
  obtain ⟨W2, w2, _, l2, _⟩ := wr_ok (v6 := true) (mode := 1) (S := z16) (D := z16) (sp := 0) (inner := [69, 1, 2]) (by decide) (by decide) rfl rfl (by decide) (by decide) (by decide) (by rw [bO_len]; decide)
  obtain ⟨W3, w3, _, l3, _⟩ := wr_ok (v6 := false) (mode := 2) (S := z16) (D := z16) (sp := 50000) (inner := [69, 1, 2]) (by decide) (by decide) rfl rfl (by decide) (by decide) (by decide) (by rw [bO_len]; decide)
  obtain ⟨W4, w4, _, l4, _⟩ := wr_ok (v6 := true) (mode := 2) (S := z16) (D := z16) (sp := 50000) (inner := [69, 1, 2]) (by decide) (by decide) rfl rfl (by decide) (by decide) (by decide) (by rw [bO_len]; decide)
  rw [bO_len] at l1 l2 l3 l4
  have m1 : W1.length = 23 := l1
  have m2 : W2.length = 43 := l2
  have m3 : W3.length = 35 := l3
  have m4 : W4.length = 55 := l4
  have a0 := fun (v6 : Bool) (mode sp : Int) => asOut_at (v6 := v6) (mode := mode) (sp := sp) (S := z16) (D := z16) rfl rfl
  simp only [z16, B8vc, B8vn, List.cons_append, List.nil_append] at a0 w1 w2 w3 w4
  unfold runF
  rw [pvCall_own (fn := Try.f31) rfl Try.func31 rfl (by decide) rfl rfl (by simp)]
  simp -implicitDefEqProofs [show IntKind.i64.wrap 23 = 23 by decide, show IntKind.i64.wrap 35 = 35 by decide, show IntKind.i64.wrap 43 = 43 by decide, show IntKind.i64.wrap 55 = 55 by decide, ze_arr4, a0, w1, w2, w3, w4, m1, m2, m3, m4, hk, hk0, fEWrap, fEKindN, fEKind, ewC, bytesB, loopK_pos, asB8_nil'', asB8_cons'', B8vc, B8vn, splice, List.replicate_succ]
def fKnown08 : Fun
  | [] => some (.v (.bool true), [])
  | _ => none
theorem known08_pure : Pure Try.prog 31 fKnown08 := (runF_pure kek_ok follows_mixed dm_ok 100000 1 31).weaken fun args r h => by
  unfold fKnown08 at h
  split at h
  · rw [← h]; exact known08_run
  · cases h
end Go.Proofs.Ytmdafjegddnecaa

/- Plain law: what is wrapped is unwrapped; with another inner packet it is another one, or wrong. -/
namespace Go.Proofs.Ytmdafjegddnecaa
open Go.Pm Go.Wb
set_option linter.unusedVariables false
set_option linter.unusedSimpArgs false
set_option maxRecDepth 1000000
theorem eck_zero {v6 : Bool} {ss ds H T : List Int} {pr C : Int} (bs : bytesB ss = true) (bd : bytesB ds = true) (p0 : 0 ≤ pr) (p1 : pr ≤ 255) (hH : bytesB H = true) (hT : bytesB T = true) (he : par false H.length = false)
    (hC : C = ck v6 ss ds pr (H ++ 0 :: 0 :: T) ∨ C = udpC (ck v6 ss ds pr (H ++ 0 :: 0 :: T))) : ck v6 ss ds pr (H ++ C / 256 % 256 :: C % 256 :: T) = 0 := by
  have h0 := (ws_nonneg false H (bytesB_iff.1 hH)).1
  have t0 := (ws_nonneg false T (bytesB_iff.1 hT)).1
  have s0 := (sumTo_range (s := 0) (o := false) (Int.le_refl 0) (phead_b (v6 := v6) (pr := pr) (n := ((H ++ 0 :: 0 :: T).length : Nat)) (bytesB_iff.1 bs) (bytesB_iff.1 bd) p0 p1))
  have hl : (H ++ C / 256 % 256 :: C % 256 :: T).length = (H ++ 0 :: 0 :: T).length := by simp
  have w1 : ws false (H ++ C / 256 % 256 :: C % 256 :: T) = ws false H + (C / 256 % 256 * 256 + (C % 256 + ws false T)) := by rw [ws_append, he]; rfl
  have w0 : ws false (H ++ 0 :: 0 :: T) = ws false H + (0 * 256 + (0 + ws false T)) := by rw [ws_append, he]; rfl
  have hc := ck_range (v6 := v6) (ss := ss) (ds := ds) (pr := pr) (zs := H ++ 0 :: 0 :: T) (fun x hx => by
    rcases List.mem_append.1 hx with h | h
    · exact bytesB_iff.1 hH x h
    · rcases List.mem_cons.1 h with rfl | h
      · omega
      · rcases List.mem_cons.1 h with rfl | h
        · omega
        · exact bytesB_iff.1 hT x h) s0.1
  unfold ck at hC hc ⊢
  unfold udpC at hC
  rw [hl]
  unfold sumTo at hC hc s0 ⊢
  rw [w0] at hC hc
  rw [w1]
  generalize cn (0 + ws false (phead v6 ss ds pr ((H ++ 0 :: 0 :: T).length : Nat))) = s at *
  generalize ws false H = h at *
  generalize ws false T = t at *
  clear hl w1 w0 hH hT he bs bd
  unfold cn at *
  repeat' split at hC
  all_goals (split <;> omega)
/-- What stands ahead of a payload. -/
def hdrO (v6 : Bool) (pr : Int) (S D : List Int) (n : Nat) : List Int := if v6 = true then head6 0 0 pr 64 (n : Int) ++ (S ++ D) else putS (head4 0 0 false 64 pr S D [] (20 + (([] : List Int).length : Int) + (n : Int))) (ofV (head4 0 0 false 64 pr S D [] (20 + (([] : List Int).length : Int) + (n : Int))))
theorem pkO_eq {v6 : Bool} {pr : Int} {S D b W : List Int} (h : pkO v6 pr S D b = ewC W) : W = hdrO v6 pr S D b.length ++ b := by
  unfold pkO at h
  unfold hdrO
  cases v6 with
  | true =>
    simp only [if_true] at h ⊢
    unfold w6V at h
    split at h
    · simp [errB, ewC] at h
    split at h
    · simp [errB, ewC] at h
    · unfold wB ewC at h
      have h2 := (Prod.mk.inj h).2
      have h3 := B8_inj (List.cons.inj h2).1
      rw [← h3]; simp
  | false =>
    simp only [Bool.false_eq_true, if_false] at h ⊢
    unfold w4V at h
    split at h
    · simp [errC, ewC] at h
    split at h
    · simp [errC, ewC] at h
    split at h
    · simp [errC, ewC] at h
    · unfold wC ewC at h
      have h2 := (Prod.mk.inj h).2
      exact (B8_inj (List.cons.inj h2).1).symm
theorem hdrO_len {v6 : Bool} {pr : Int} {S D : List Int} {n : Nat} (hS : S.length = 16) (hD : D.length = 16) : (hdrO v6 pr S D n).length = hdO v6 := by
  unfold hdrO hdO
  cases v6 with
  | true => simp [head6, hS, hD]
  | false => simp [putS, head4]
/-- What stands ahead of the inner packet in GUE. -/
def preG (sp c k : Int) (n : Nat) : List Int := [sp / 256 % 256, sp % 256, 6080 / 256 % 256, 6080 % 256, (8 + ((4 + n : Nat) : Int)) / 256 % 256, (8 + ((4 + n : Nat) : Int)) % 256, c / 256 % 256, c % 256, 0, k, 0, 0]
theorem gueB_len (k : Int) (inner : List Int) : (gueB k inner).length = 4 + inner.length := by simp [gueB]; omega
theorem bO_gue (v6 : Bool) (S D : List Int) (sp : Int) (inner : List Int) : bO v6 2 S D sp inner = preG sp (udpC (ck v6 S D 17 (udpHead sp 6080 (gueB (kndV inner) inner) ++ gueB (kndV inner) inner))) (kndV inner) inner.length ++ inner := by
  unfold bO
  rw [if_neg (by decide), eudpW_eq, gueB_len]
  rfl
theorem unV_gue {v6 : Bool} {S D R W : List Int} (h : Said v6 17 S D R W) : unV v6 W = if ¬ guE v6 S D R = 0 then errO (guE v6 S D R) else if ¬ guX R = 0 then errO (guX R) else okO v6 2 S D (w16 R 0) (R.drop 12) := by
  obtain ⟨_, _, _, s3, s4, s5, s6⟩ := h
  unfold unV
  rw [s3, s4, s5, s6, if_neg (by decide), if_pos rfl]
theorem unV_ip {v6 : Bool} {pr : Int} {S D R W : List Int} (hp : pr = 4 ∨ pr = 41) (h : Said v6 pr S D R W) : unV v6 W = if kndV R = pr then okO v6 1 S D 0 R else errO 5 := by
  obtain ⟨_, _, _, s3, s4, s5, s6⟩ := h
  unfold unV
  rw [s3, s4, s5, s6, if_pos hp]
theorem guX_pre {sp c k : Int} {inner x : List Int} (hn : x.length = inner.length) : guX (preG sp c k inner.length ++ x) = if k = 0 ∨ ¬ kndV x = k then 5 else 0 := by
  have e1 : w16 (preG sp c k inner.length ++ x) 2 = 6080 := by show (6080 : Int) / 256 % 256 * 256 + 6080 % 256 = 6080; decide
  have e2 : (preG sp c k inner.length ++ x).drop 12 = x := rfl
  have e3 : ¬ (preG sp c k inner.length ++ x).length < 12 := by simp [preG]
  have e8 : gb (preG sp c k inner.length ++ x) 8 = 0 := rfl
  have e9 : gb (preG sp c k inner.length ++ x) 9 = k := rfl
  have e10 : gb (preG sp c k inner.length ++ x) 10 = 0 := rfl
  have e11 : gb (preG sp c k inner.length ++ x) 11 = 0 := rfl
  unfold guX
  rw [e1, e2, e8, e9, e10, e11, if_neg (by simp), if_neg e3, if_neg (by simp)]
theorem enc_law {v6 : Bool} {mode : Int} {S D : List Int} {sp : Int} {inner : List Int} (hS : S.length = 16) (hD : D.length = 16) (bS : bytesB S = true) (bD : bytesB D = true) (hz : bytesB inner = true) (hl : inner.length ≤ 1700) (s0 : 0 ≤ sp) (s1 : sp ≤ 65535) :
    (∃ e, ¬ e = 0 ∧ wrV v6 mode S D sp inner = ewE e) ∨ ∃ A, wrV v6 mode S D sp inner = ewC (A ++ inner) ∧ (A ++ inner).length ≤ 1646 ∧ 20 ≤ A.length ∧ 0 < inner.length ∧ unV v6 (A ++ inner) = okO v6 mode S D sp inner ∧
      ∀ x : List Int, x.length = inner.length → bytesB x = true → bytesB (A ++ x) = true ∧ anEr (A ++ x) = 0 ∧ an6 (A ++ x) = v6 ∧ ((∃ e, ¬ e = 0 ∧ unV v6 (A ++ x) = errO e) ∨ ∃ m2 sp2, unV v6 (A ++ x) = okO v6 m2 S D sp2 x) := by
  cases hm : mayO v6 mode S D sp with
  | false => exact .inl ⟨2, by decide, by unfold wrV; rw [hm, if_pos rfl]⟩
  | true =>
    by_cases hk : kndV inner = 0
    · exact .inl ⟨5, by decide, by unfold wrV; rw [hm, if_neg (by simp), if_pos hk]⟩
    by_cases hf : 1646 < hdO v6 + (bO v6 mode S D sp inner).length
    · exact .inl ⟨3, by decide, by unfold wrV; rw [hm, if_neg (by simp), if_neg hk, if_pos hf]⟩
    right
    obtain ⟨W, hw, hpk, hWl, hsaid⟩ := wr_ok hm hk hS hD bS bD hz (by omega)
    obtain ⟨z, hmode⟩ := may_ok hm
    have hkr := kndV_range inner
    have hpos := knd_pos hk
    have hW := pkO_eq hpk
    have hd20 : 20 ≤ hdO v6 := by cases v6 <;> decide
    rcases hmode with ⟨rfl, rfl⟩ | ⟨rfl, hsp⟩
    · have hb : bO v6 1 S D 0 inner = inner := rfl
      have hp : prO 1 inner = kndV inner := rfl
      rw [hb, hp] at hpk hsaid hW
      rw [hb] at hf hWl
      have hkk : kndV inner = 4 ∨ kndV inner = 41 := by omega
      have hk3 : kndV inner = 4 ∨ kndV inner = 41 ∨ kndV inner = 17 := by omega
      refine ⟨hdrO v6 (kndV inner) S D inner.length, by rw [hw, hW], by rw [← hW]; omega, by rw [hdrO_len hS hD]; exact hd20, hpos, ?_, ?_⟩
      · rw [← hW, unV_ip hkk hsaid, if_pos rfl]
      · intro x hx bx
        obtain ⟨W2, hP2, _, hs2⟩ := pkO_said hk3 hS hD z bS bD bx (by omega)
        have hW2 := pkO_eq hP2
        rw [hx] at hW2
        rw [← hW2]
        refine ⟨hs2.1, hs2.2.1, hs2.2.2.1, ?_⟩
        rw [unV_ip hkk hs2]
        split
        · exact .inr ⟨1, 0, rfl⟩
        · exact .inl ⟨5, by decide, rfl⟩
    · have hb := bO_gue v6 S D sp inner
      have hp : prO 2 inner = 17 := rfl
      have hbl := bO_len v6 2 S D sp inner
      have hbe : bO v6 2 S D sp inner = udpW v6 S D (udpHead sp 6080 (gueB (kndV inner) inner) ++ gueB (kndV inner) inner) := rfl
      have hGz : bytesB (gueB (kndV inner) inner) = true := by
        unfold gueB
        simp only [bytesB_cons, hz, Bool.and_true, Bool.and_eq_true, decide_eq_true_eq]
        omega
      have hbz : bytesB (bO v6 2 S D sp inner) = true := by rw [hbe]; exact eudpW_bytes hGz
      have hck : ck v6 S D 17 (bO v6 2 S D sp inner) = 0 := by
        rw [hbe, eudpW_eq]
        exact eck_zero bS bD (by decide) (by decide) (hl8_bytes _) hGz (by simp [par]) (.inr rfl)
      have hcr : 1 ≤ udpC (ck v6 S D 17 (udpHead sp 6080 (gueB (kndV inner) inner) ++ gueB (kndV inner) inner)) ∧ udpC (ck v6 S D 17 (udpHead sp 6080 (gueB (kndV inner) inner) ++ gueB (kndV inner) inner)) ≤ 65535 := by
        have hZ : bytesB (udpHead sp 6080 (gueB (kndV inner) inner) ++ gueB (kndV inner) inner) = true := by rw [bytesB_append, hGz, udpHead, hl8_bytes]; rfl
        have r := ck_range (v6 := v6) (ss := S) (ds := D) (pr := 17) (bytesB_iff.1 hZ) (sumTo_range (Int.le_refl 0) (phead_b (bytesB_iff.1 bS) (bytesB_iff.1 bD) (by decide) (by decide))).1
        unfold udpC
        split <;> omega
      generalize udpC (ck v6 S D 17 (udpHead sp 6080 (gueB (kndV inner) inner) ++ gueB (kndV inner) inner)) = c at *
      clear hbe
      rw [hp] at hpk hsaid hW
      have hpl : (preG sp c (kndV inner) inner.length).length = 12 := rfl
      have h17 : (17 : Int) = 4 ∨ (17 : Int) = 41 ∨ (17 : Int) = 17 := .inr (.inr rfl)
      have hpre : bytesB (preG sp c (kndV inner) inner.length) = true := by
        rw [hb, bytesB_append, Bool.and_eq_true] at hbz
        exact hbz.1
      have gE : ∀ x : List Int, x.length = inner.length → ¬ guE v6 S D (preG sp c (kndV inner) inner.length ++ x) = 0 → ¬ guE v6 S D (preG sp c (kndV inner) inner.length ++ x) = 0 := fun _ _ h => h
      have e0 : ∀ x : List Int, w16 (preG sp c (kndV inner) inner.length ++ x) 0 = sp := fun x => by show sp / 256 % 256 * 256 + sp % 256 = sp; omega
      have g0 : guE v6 S D (preG sp c (kndV inner) inner.length ++ inner) = 0 := by
        rw [hb] at hck
        have e4 : w16 (preG sp c (kndV inner) inner.length ++ inner) 4 = ((preG sp c (kndV inner) inner.length ++ inner).length : Nat) := by
          show (8 + ((4 + inner.length : Nat) : Int)) / 256 % 256 * 256 + (8 + ((4 + inner.length : Nat) : Int)) % 256 = _
          rw [List.length_append, hpl]; omega
        have e6 : w16 (preG sp c (kndV inner) inner.length ++ inner) 6 = c := by
          show c / 256 % 256 * 256 + c % 256 = c
          omega
        unfold guE
        rw [e4, e6, if_neg (by rw [List.length_append, hpl]; omega), if_neg (by simp), if_neg (by omega), if_neg (by simp [hck])]
      refine ⟨hdrO v6 17 S D (bO v6 2 S D sp inner).length ++ preG sp c (kndV inner) inner.length, ?_, ?_, ?_, hpos, ?_, ?_⟩
      · rw [hw, hW, List.append_assoc, ← hb]
      · rw [List.append_assoc, ← hb, ← hW]; omega
      · rw [List.length_append, hdrO_len hS hD]; omega
      · rw [List.append_assoc, ← hb, ← hW, unV_gue hsaid, hb, if_neg (by simp [g0]), guX_pre rfl, if_neg (by simp [hk]), e0]
        rfl
      · intro x hx bx
        have hxl : (preG sp c (kndV inner) inner.length ++ x).length = (bO v6 2 S D sp inner).length := by rw [hb, List.length_append, List.length_append, hx]
        have bpx : bytesB (preG sp c (kndV inner) inner.length ++ x) = true := by rw [bytesB_append, hpre, bx]; rfl
        obtain ⟨W2, hP2, _, hs2⟩ := pkO_said h17 hS hD z bS bD bpx (by omega)
        have hW2 := pkO_eq hP2
        rw [hxl, ← List.append_assoc] at hW2
        rw [← hW2]
        refine ⟨hs2.1, hs2.2.1, hs2.2.2.1, ?_⟩
        rw [unV_gue hs2]
        split
        · rename_i h; exact .inl ⟨_, h, rfl⟩
        split
        · rename_i h; exact .inl ⟨_, h, rfl⟩
        · exact .inr ⟨2, _, rfl⟩
end Go.Proofs.Ytmdafjegddnecaa

/- The law EncapBack: its run, its walk. -/
namespace Go.Proofs.Ytmdafjegddnecaa
open Go.ChangeShapes Go.WideShapes Go.ChangeAt Go.RowKit Go.Wb Go.Pm
set_option linter.unusedVariables false
set_option linter.unusedSimpArgs false
set_option maxRecDepth 1000000
theorem eqV_ci (k : IntKind) (a : Int) (x y : List Value) : eqV (.int k a :: x) (.int k a :: y) = eqV x y := by
  show (decide _ && eqV x y) = _
  simp
theorem eqV_cb (a : Bool) (x y : List Value) : eqV (.bool a :: x) (.bool a :: y) = eqV x y := by
  show (decide _ && eqV x y) = _
  simp
theorem eqV_n : eqV [] [] = true := rfl
theorem eqV_m (S : List Int) (x y : List Value) : eqV (S.map (Value.int .u8) ++ x) (S.map (Value.int .u8) ++ y) = eqV x y := by
  induction S with
  | nil => rfl
  | cons z S ih => show eqV (.int .u8 z :: (S.map (Value.int .u8) ++ x)) (.int .u8 z :: (S.map (Value.int .u8) ++ y)) = _; rw [eqV_ci, ih]
theorem pairOk_app {S : List Int} {ks : List LK} {x : List Value} : pairOk ((S.map fun _ => LK.int) ++ ks) (S.map (Value.int .u8) ++ x) (S.map (Value.int .u8) ++ x) = pairOk ks x x := by
  induction S with
  | nil => rfl
  | cons z S ih => simp only [List.map_cons, List.cons_append, pairOk, leafOk, decide_true, Bool.true_and]; exact ih
theorem pairOk34 {S E : List Int} (hS : S.length = 16) (hE : E.length = 16) (sp dp : Int) : pairOk [.int, .int, .int, .int, .int, .int, .int, .int, .int, .int, .int, .int, .int, .int, .int, .int, .int, .int, .int, .int, .int, .int, .int, .int, .int, .int, .int, .int, .int, .int, .int, .int, .int, .int] (S.map (Value.int .u8) ++ (E.map (Value.int .u8) ++ [Value.int .u16 sp, Value.int .u16 dp])) (S.map (Value.int .u8) ++ (E.map (Value.int .u8) ++ [Value.int .u16 sp, Value.int .u16 dp])) = true := by
  have e : ([.int, .int, .int, .int, .int, .int, .int, .int, .int, .int, .int, .int, .int, .int, .int, .int, .int, .int, .int, .int, .int, .int, .int, .int, .int, .int, .int, .int, .int, .int, .int, .int, .int, .int] : List LK) = (S.map fun _ => LK.int) ++ ((E.map fun _ => LK.int) ++ [.int, .int]) := by rw [kinds_of hS, kinds_of hE]; rfl
  rw [e, pairOk_app, pairOk_app]; rfl
theorem pairOk33 {S E : List Int} (hS : S.length = 16) (hE : E.length = 16) (sp : Int) : pairOk [.int, .int, .int, .int, .int, .int, .int, .int, .int, .int, .int, .int, .int, .int, .int, .int, .int, .int, .int, .int, .int, .int, .int, .int, .int, .int, .int, .int, .int, .int, .int, .int, .int] (S.map (Value.int .u8) ++ (E.map (Value.int .u8) ++ [Value.int .u16 sp])) (S.map (Value.int .u8) ++ (E.map (Value.int .u8) ++ [Value.int .u16 sp])) = true := by
  have e : ([.int, .int, .int, .int, .int, .int, .int, .int, .int, .int, .int, .int, .int, .int, .int, .int, .int, .int, .int, .int, .int, .int, .int, .int, .int, .int, .int, .int, .int, .int, .int, .int, .int] : List LK) = (S.map fun _ => LK.int) ++ ((E.map fun _ => LK.int) ++ [.int]) := by rw [kinds_of hS, kinds_of hE]; rfl
  rw [e, pairOk_app, pairOk_app]; rfl
theorem valsOf_B8app (zs : List Int) (T : List AV) : valsOf (B8 zs ++ T) = (valsOf T).map (zs.map (Value.int .u8) ++ ·) := by
  induction zs with
  | nil => show valsOf T = _; cases valsOf T <;> rfl
  | cons z zs ih =>
    show (valsOf (B8 zs ++ T)).map _ = _
    rw [ih]; cases valsOf T <;> rfl
theorem pb_toList (a : List Int) : (Go.Pm.bstr a).toList = a.map fun z => UInt8.ofNat z.toNat := by simp [Go.Pm.bstr]
theorem str_ne {a b : List Int} (ha : bytesB a = true) (hb : bytesB b = true) (h : ¬ a = b) : ((Go.Pm.bstr a).toList == (Go.Pm.bstr b).toList) = false := by
  rw [pb_toList, pb_toList]
  rw [beq_eq_false_iff_ne]
  intro e
  refine h (bstr_inj (bytesB_iff.1 ha) (bytesB_iff.1 hb) ?_)
  show (⟨_⟩ : ByteArray) = ⟨_⟩
  rw [e]
theorem exor_in {a b : Int} (a0 : 0 ≤ a) (a1 : a ≤ 255) (b0 : 0 ≤ b) (b1 : b ≤ 255) : 0 ≤ bits .xor .u8 a b ∧ bits .xor .u8 a b ≤ 255 := by
  rw [u8_xor a b a0 (by omega) b0 (by omega)]
  have := @Nat.xor_lt_two_pow a.toNat b.toNat 8 (by omega) (by omega)
  omega
theorem exor_other {a b : Int} (a0 : 0 ≤ a) (a1 : a ≤ 255) (b0 : 0 ≤ b) (b1 : b ≤ 255) (h : ¬ b = 0) : bits .xor .u8 a b ≠ a := by
  rw [u8_xor a b a0 (by omega) b0 (by omega)]
  intro e
  have e2 : a.toNat ^^^ b.toNat = a.toNat := by omega
  have e3 : a.toNat ^^^ (a.toNat ^^^ b.toNat) = a.toNat ^^^ a.toNat := by rw [e2]
  rw [← Nat.xor_assoc, Nat.xor_self, Nat.zero_xor] at e3
  omega
theorem exor_zero {a : Int} (a0 : 0 ≤ a) (a1 : a ≤ 255) : bits .xor .u8 a 0 = a := by
  rw [u8_xor a 0 a0 (by omega) (by omega) (by omega)]
  simp; omega
noncomputable def KEL : Nat → Option Con
  | 32 => some fEWrap
  | 33 => some fEUnwrap
  | 31 => some fKnown08
  | _ => none
theorem kel_ok : KOk Try.prog KEL := fun f F h => by
  unfold KEL at h
  split at h
  · cases h; exact ⟨ewrap_pure, _, Try.func32, rfl, by decide⟩
  · cases h; exact ⟨eunwrap_pure, _, Try.func33, rfl, by decide⟩
  · cases h; exact ⟨known08_pure, _, Try.func31, rfl, by decide⟩
  · cases h
section
variable {D : FuncId → Nat → List Nat} {L d px : Nat} {args : List AV} {m : Mem}
theorem ckel_ewrap : pvCall Try.prog KEL D L d px 32 args m = callBy fEWrap m px args := pvCall_by rfl
theorem ckel_eunwrap : pvCall Try.prog KEL D L d px 33 args m = callBy fEUnwrap m px args := pvCall_by rfl
theorem ckel_known : pvCall Try.prog KEL D L d px 31 args m = callBy fKnown08 m px args := pvCall_by rfl
end
theorem ekel_ewrap : KEL 32 = some (.pure fEWrap) := rfl
theorem ekel_eunwrap : KEL 33 = some (.pure fEUnwrap) := rfl
theorem ekel_known : KEL 31 = some (.pure fKnown08) := rfl
attribute [simp] ckel_ewrap ekel_ewrap ckel_eunwrap ekel_eunwrap ckel_known ekel_known
set_option maxHeartbeats 8000000 in
theorem eback_long (v6 : Bool) (mode : Int) (S D : List Int) (sp : Int) (inner : List Int) (nn : Bool) (cap : Option Nat) (at_ x : Int) (hS : S.length = 16) (hD : D.length = 16) (hl : inner.length ≤ 9223372036854775807) (hb : 1700 < inner.length) : (pvCall Try.prog KEL Dm 100000 1 0 9 [outA v6 mode S D sp, .sl nn (B8 inner) inner.length cap, .v (.int .i64 at_), .v (.int .u8 x)] (fun _ => none)).map (·.1) = some (.v (.bool true)) := by
  have u1 : (1700 : Int) < (inner.length : Int) := by omega
  have t1 : S.take 16 = S := List.take_of_length_le (by omega)
  have t2 : D.take 16 = D := List.take_of_length_le (by omega)
  have k33 : ∀ x : AV, (B8 S ++ (B8 D ++ [x])).take 33 = B8 S ++ (B8 D ++ [x]) := fun x => List.take_of_length_le (by simp [hS, hD])
  have a0 := asOut_at (v6 := v6) (mode := mode) (sp := sp) hS hD
  rw [pvCall_own (fn := Try.f9) rfl Try.func9 rfl (by decide) rfl rfl (by simp)]
  simp -implicitDefEqProofs [u1, outA, a0, k33, hS, hD, t1, t2, splice, fKnown08, IntKind.bits, Nat.testBit_eq_decide_div_mod_eq, B8t16 hS, B8d16 hS, B8t33 hS, B8t17 hS, B8d32 hS, B8t32 hS, B8d33 hS, B8d17 hS, B8d34 hS, B8d18 hS, B8t34 hS, B8t18 hS, B8t16 hD, B8d16 hD, B8t33 hD, B8t17 hD, B8d32 hD, B8t32 hD, B8d33 hD, B8d17 hD, B8d34 hD, B8d18 hD, B8t34 hD, B8t18 hD, -B8_append]
set_option maxHeartbeats 16000000 in
theorem eback_err (v6 : Bool) (mode : Int) (S D : List Int) (sp : Int) (inner : List Int) (nn : Bool) (cap : Option Nat) (at_ x : Int) (hS : S.length = 16) (hD : D.length = 16) (bS : bytesB S = true) (bD : bytesB D = true) (hz : bytesB inner = true) (s0 : 0 ≤ sp) (s1 : sp ≤ 65535) (hl : inner.length ≤ 1700) (e : Int) (ne : ¬ e = 0) (hW : wrV v6 mode S D sp inner = ewE e) : (pvCall Try.prog KEL Dm 100000 1 0 9 [outA v6 mode S D sp, .sl nn (B8 inner) inner.length cap, .v (.int .i64 at_), .v (.int .u8 x)] (fun _ => none)).map (·.1) = some (.v (.bool true)) := by
  have u1 : ¬ (1700 : Int) < (inner.length : Int) := by omega
  have ne1 : (e != 0) = true := by simp [ne]
  have t1 : S.take 16 = S := List.take_of_length_le (by omega)
  have t2 : D.take 16 = D := List.take_of_length_le (by omega)
  have k33 : ∀ x : AV, (B8 S ++ (B8 D ++ [x])).take 33 = B8 S ++ (B8 D ++ [x]) := fun x => List.take_of_length_le (by simp [hS, hD])
  have a0 := asOut_at (v6 := v6) (mode := mode) (sp := sp) hS hD
  rw [pvCall_own (fn := Try.f9) rfl Try.func9 rfl (by decide) rfl rfl (by simp)]
  simp -implicitDefEqProofs [u1, ne, ne1, hW, hl, hz, bS, bD, s0, s1, ewE, fEWrap, outA, a0, k33, hS, hD, t1, t2, splice, fKnown08, IntKind.bits, Nat.testBit_eq_decide_div_mod_eq, B8t16 hS, B8d16 hS, B8t33 hS, B8t17 hS, B8d32 hS, B8t32 hS, B8d33 hS, B8d17 hS, B8d34 hS, B8d18 hS, B8t34 hS, B8t18 hS, B8t16 hD, B8d16 hD, B8t33 hD, B8t17 hD, B8d32 hD, B8t32 hD, B8d33 hD, B8d17 hD, B8d34 hD, B8d18 hD, B8t34 hD, B8t18 hD, -B8_append]
set_option maxHeartbeats 32000000 in
theorem eback_known (v6 : Bool) (mode : Int) (S D : List Int) (sp : Int) (inner : List Int) (nn : Bool) (cap : Option Nat) (at_ x : Int) (hS : S.length = 16) (hD : D.length = 16) (bS : bytesB S = true) (bD : bytesB D = true) (hz : bytesB inner = true) (s0 : 0 ≤ sp) (s1 : sp ≤ 65535) (hl : inner.length ≤ 1700) (W : List Int) (a i : Nat) (hW : wrV v6 mode S D sp inner = ewC W) (hWa : W.length = a + inner.length) (hWm : W.length ≤ 1646) (ha : 20 ≤ a) (hWz : bytesB W = true) (h0 : anEr W = 0) (h6 : an6 W = v6) (hV : unV v6 W = okO v6 mode S D sp inner) (hi : (IntKind.u64.wrap at_).tmod (W.length : Int) = (i : Int)) (hi2 : i < W.length) (hia : i < a) : (pvCall Try.prog KEL Dm 100000 1 0 9 [outA v6 mode S D sp, .sl nn (B8 inner) inner.length cap, .v (.int .i64 at_), .v (.int .u8 x)] (fun _ => none)).map (·.1) = some (.v (.bool true)) := by
  have u1 : ¬ (1700 : Int) < (inner.length : Int) := by omega
  have l1 : inner.length ≤ 9223372036854775807 := by omega
  have l2 : inner.take inner.length = inner := List.take_length
  have w1 : W.length ≤ 500000 := by omega
  have w2 : W.take W.length = W := List.take_length
  have w3 : ¬ (1646 : Int) < (W.length : Int) := by omega
  have w4 : ¬ (W.length : Int) ≤ (inner.length : Int) := by omega
  have w4n : ¬ W.length ≤ inner.length := by omega
  have w5 : IntKind.u64.wrap (W.length : Int) = (W.length : Int) := by simp [IntKind.wrap, IntKind.signed, IntKind.bits]; omega
  have w6 : ¬ (W.length : Int) = 0 := by omega
  have w6b : ((W.length : Int) == 0) = false := by simp; intro h; rw [h] at hWa; simp at hWa; omega
  have w6n : ¬ W = [] := by intro h; rw [h] at hWa; simp at hWa; omega
  have w7 : IntKind.i64.wrap (i : Int) = (i : Int) := wrap64_id (by omega) (by omega)
  have w8 : IntKind.i64.wrap ((W.length : Int) - (inner.length : Int)) = (a : Int) := by rw [wrap64_id (by omega) (by omega)]; omega
  have w9 : (i : Int) < (W.length : Int) := by omega
  have z1 : ¬ (a : Int) ≤ (i : Int) := by omega
  have z2 : ¬ a ≤ i := by omega
  have t1 : S.take 16 = S := List.take_of_length_le (by omega)
  have t2 : D.take 16 = D := List.take_of_length_le (by omega)
  have k33 : ∀ x : AV, (B8 S ++ (B8 D ++ [x])).take 33 = B8 S ++ (B8 D ++ [x]) := fun x => List.take_of_length_le (by simp [hS, hD])
  have a0 := asOut_at (v6 := v6) (mode := mode) (sp := sp) hS hD
  rw [pvCall_own (fn := Try.f9) rfl Try.func9 rfl (by decide) rfl rfl (by simp)]
  simp -implicitDefEqProofs [u1, l1, l2, w1, w2, w3, w4, w4n, w5, w6, w6b, w6n, w7, w8, w9, hi, hi2, hW, hl, hz, bS, bD, s0, s1, hWz, h0, h6, hV, okO, errO, ewC, fEWrap, fEUnwrap, valsOf_B8app, eqV_ci, eqV_cb, eqV_n, eqV_m, pairOk33 hS hD, z1, z2, outA, a0, k33, hS, hD, t1, t2, splice, fKnown08, IntKind.bits, Nat.testBit_eq_decide_div_mod_eq, B8t16 hS, B8d16 hS, B8t33 hS, B8t17 hS, B8d32 hS, B8t32 hS, B8d33 hS, B8d17 hS, B8d34 hS, B8d18 hS, B8t34 hS, B8t18 hS, B8t16 hD, B8d16 hD, B8t33 hD, B8t17 hD, B8d32 hD, B8t32 hD, B8d33 hD, B8d17 hD, B8d34 hD, B8d18 hD, B8t34 hD, B8t18 hD, -B8_append]
set_option maxHeartbeats 32000000 in
theorem eback_zero (v6 : Bool) (mode : Int) (S D : List Int) (sp : Int) (inner : List Int) (nn : Bool) (cap : Option Nat) (at_ x : Int) (hS : S.length = 16) (hD : D.length = 16) (bS : bytesB S = true) (bD : bytesB D = true) (hz : bytesB inner = true) (s0 : 0 ≤ sp) (s1 : sp ≤ 65535) (hl : inner.length ≤ 1700) (W : List Int) (a i : Nat) (hW : wrV v6 mode S D sp inner = ewC W) (hWa : W.length = a + inner.length) (hWm : W.length ≤ 1646) (ha : 20 ≤ a) (hWz : bytesB W = true) (h0 : anEr W = 0) (h6 : an6 W = v6) (hV : unV v6 W = okO v6 mode S D sp inner) (hi : (IntKind.u64.wrap at_).tmod (W.length : Int) = (i : Int)) (hi2 : i < W.length) (hia : a ≤ i) (U : List Int) (hU : W.take i ++ bits .xor .u8 (gb W i) x :: W.drop (i + 1) = U) (hUz : bytesB U = true) (g0 : anEr U = 0) (g6 : an6 U = v6) (hx : x = 0) (hVU : unV v6 U = okO v6 mode S D sp inner) : (pvCall Try.prog KEL Dm 100000 1 0 9 [outA v6 mode S D sp, .sl nn (B8 inner) inner.length cap, .v (.int .i64 at_), .v (.int .u8 x)] (fun _ => none)).map (·.1) = some (.v (.bool true)) := by
  subst hx
  have u1 : ¬ (1700 : Int) < (inner.length : Int) := by omega
  have l1 : inner.length ≤ 9223372036854775807 := by omega
  have l2 : inner.take inner.length = inner := List.take_length
  have w1 : W.length ≤ 500000 := by omega
  have w2 : W.take W.length = W := List.take_length
  have w3 : ¬ (1646 : Int) < (W.length : Int) := by omega
  have w4 : ¬ (W.length : Int) ≤ (inner.length : Int) := by omega
  have w4n : ¬ W.length ≤ inner.length := by omega
  have w5 : IntKind.u64.wrap (W.length : Int) = (W.length : Int) := by simp [IntKind.wrap, IntKind.signed, IntKind.bits]; omega
  have w6 : ¬ (W.length : Int) = 0 := by omega
  have w6b : ((W.length : Int) == 0) = false := by simp; intro h; rw [h] at hWa; simp at hWa; omega
  have w6n : ¬ W = [] := by intro h; rw [h] at hWa; simp at hWa; omega
  have w7 : IntKind.i64.wrap (i : Int) = (i : Int) := wrap64_id (by omega) (by omega)
  have w8 : IntKind.i64.wrap ((W.length : Int) - (inner.length : Int)) = (a : Int) := by rw [wrap64_id (by omega) (by omega)]; omega
  have w9 : (i : Int) < (W.length : Int) := by omega
  have z1 : (a : Int) ≤ (i : Int) := by omega
  have ai := B8_at0 W i hi2
  have y1 : i ≤ W.length := by omega
  have y2 : i + 1 ≤ W.length := by omega
  have y3 := B8_mid' (W.take i) (W.drop (i + 1)) (bits .xor .u8 (gb W i) 0)
  have y4 : U.length = W.length := by rw [← hU]; simp; omega
  have y5 : U.take W.length = U := List.take_of_length_le (by omega)
  have y6 : (W.take i ++ bits .xor .u8 (gb W i) 0 :: W.drop (i + 1)).take W.length = U := by rw [hU]; exact y5
  have t1 : S.take 16 = S := List.take_of_length_le (by omega)
  have t2 : D.take 16 = D := List.take_of_length_le (by omega)
  have k33 : ∀ x : AV, (B8 S ++ (B8 D ++ [x])).take 33 = B8 S ++ (B8 D ++ [x]) := fun x => List.take_of_length_le (by simp [hS, hD])
  have a0 := asOut_at (v6 := v6) (mode := mode) (sp := sp) hS hD
  rw [pvCall_own (fn := Try.f9) rfl Try.func9 rfl (by decide) rfl rfl (by simp)]
  simp -implicitDefEqProofs [u1, l1, l2, w1, w2, w3, w4, w4n, w5, w6, w6b, w6n, w7, w8, w9, hi, hi2, hW, hl, hz, bS, bD, s0, s1, hWz, h0, h6, hV, okO, errO, ewC, fEWrap, fEUnwrap, valsOf_B8app, eqV_ci, eqV_cb, eqV_n, eqV_m, pairOk33 hS hD, z1, hia, ai, y1, y2, y3, y4, y5, y6, hU, hUz, g0, g6, hVU, outA, a0, k33, hS, hD, t1, t2, splice, fKnown08, IntKind.bits, Nat.testBit_eq_decide_div_mod_eq, B8t16 hS, B8d16 hS, B8t33 hS, B8t17 hS, B8d32 hS, B8t32 hS, B8d33 hS, B8d17 hS, B8d34 hS, B8d18 hS, B8t34 hS, B8t18 hS, B8t16 hD, B8d16 hD, B8t33 hD, B8t17 hD, B8d32 hD, B8t32 hD, B8d33 hD, B8d17 hD, B8d34 hD, B8d18 hD, B8t34 hD, B8t18 hD, -B8_append]
set_option maxHeartbeats 32000000 in
theorem eback_wrong (v6 : Bool) (mode : Int) (S D : List Int) (sp : Int) (inner : List Int) (nn : Bool) (cap : Option Nat) (at_ x : Int) (hS : S.length = 16) (hD : D.length = 16) (bS : bytesB S = true) (bD : bytesB D = true) (hz : bytesB inner = true) (s0 : 0 ≤ sp) (s1 : sp ≤ 65535) (hl : inner.length ≤ 1700) (W : List Int) (a i : Nat) (hW : wrV v6 mode S D sp inner = ewC W) (hWa : W.length = a + inner.length) (hWm : W.length ≤ 1646) (ha : 20 ≤ a) (hWz : bytesB W = true) (h0 : anEr W = 0) (h6 : an6 W = v6) (hV : unV v6 W = okO v6 mode S D sp inner) (hi : (IntKind.u64.wrap at_).tmod (W.length : Int) = (i : Int)) (hi2 : i < W.length) (hia : a ≤ i) (U : List Int) (hU : W.take i ++ bits .xor .u8 (gb W i) x :: W.drop (i + 1) = U) (hUz : bytesB U = true) (g0 : anEr U = 0) (g6 : an6 U = v6) (hx : ¬ x = 0) (e : Int) (ne : ¬ e = 0) (hVU : unV v6 U = errO e) : (pvCall Try.prog KEL Dm 100000 1 0 9 [outA v6 mode S D sp, .sl nn (B8 inner) inner.length cap, .v (.int .i64 at_), .v (.int .u8 x)] (fun _ => none)).map (·.1) = some (.v (.bool true)) := by
  have u1 : ¬ (1700 : Int) < (inner.length : Int) := by omega
  have l1 : inner.length ≤ 9223372036854775807 := by omega
  have l2 : inner.take inner.length = inner := List.take_length
  have w1 : W.length ≤ 500000 := by omega
  have w2 : W.take W.length = W := List.take_length
  have w3 : ¬ (1646 : Int) < (W.length : Int) := by omega
  have w4 : ¬ (W.length : Int) ≤ (inner.length : Int) := by omega
  have w4n : ¬ W.length ≤ inner.length := by omega
  have w5 : IntKind.u64.wrap (W.length : Int) = (W.length : Int) := by simp [IntKind.wrap, IntKind.signed, IntKind.bits]; omega
  have w6 : ¬ (W.length : Int) = 0 := by omega
  have w6b : ((W.length : Int) == 0) = false := by simp; intro h; rw [h] at hWa; simp at hWa; omega
  have w6n : ¬ W = [] := by intro h; rw [h] at hWa; simp at hWa; omega
  have w7 : IntKind.i64.wrap (i : Int) = (i : Int) := wrap64_id (by omega) (by omega)
  have w8 : IntKind.i64.wrap ((W.length : Int) - (inner.length : Int)) = (a : Int) := by rw [wrap64_id (by omega) (by omega)]; omega
  have w9 : (i : Int) < (W.length : Int) := by omega
  have z1 : (a : Int) ≤ (i : Int) := by omega
  have ai := B8_at0 W i hi2
  have y1 : i ≤ W.length := by omega
  have y2 : i + 1 ≤ W.length := by omega
  have y3 := B8_mid' (W.take i) (W.drop (i + 1)) (bits .xor .u8 (gb W i) x)
  have y4 : U.length = W.length := by rw [← hU]; simp; omega
  have y5 : U.take W.length = U := List.take_of_length_le (by omega)
  have y6 : (W.take i ++ bits .xor .u8 (gb W i) x :: W.drop (i + 1)).take W.length = U := by rw [hU]; exact y5
  have ne1 : (e == 0) = false := by simp [ne]
  have hx1 : (x == 0) = false := by simp [hx]
  have t1 : S.take 16 = S := List.take_of_length_le (by omega)
  have t2 : D.take 16 = D := List.take_of_length_le (by omega)
  have k33 : ∀ x : AV, (B8 S ++ (B8 D ++ [x])).take 33 = B8 S ++ (B8 D ++ [x]) := fun x => List.take_of_length_le (by simp [hS, hD])
  have a0 := asOut_at (v6 := v6) (mode := mode) (sp := sp) hS hD
  rw [pvCall_own (fn := Try.f9) rfl Try.func9 rfl (by decide) rfl rfl (by simp)]
  simp -implicitDefEqProofs [u1, l1, l2, w1, w2, w3, w4, w4n, w5, w6, w6b, w6n, w7, w8, w9, hi, hi2, hW, hl, hz, bS, bD, s0, s1, hWz, h0, h6, hV, okO, errO, ewC, fEWrap, fEUnwrap, valsOf_B8app, eqV_ci, eqV_cb, eqV_n, eqV_m, pairOk33 hS hD, z1, hia, ai, y1, y2, y3, y4, y5, y6, hU, hUz, g0, g6, hVU, ne, ne1, hx, hx1, asB8_nil'', outA, a0, k33, hS, hD, t1, t2, splice, fKnown08, IntKind.bits, Nat.testBit_eq_decide_div_mod_eq, B8t16 hS, B8d16 hS, B8t33 hS, B8t17 hS, B8d32 hS, B8t32 hS, B8d33 hS, B8d17 hS, B8d34 hS, B8d18 hS, B8t34 hS, B8t18 hS, B8t16 hD, B8d16 hD, B8t33 hD, B8t17 hD, B8d32 hD, B8t32 hD, B8d33 hD, B8d17 hD, B8d34 hD, B8d18 hD, B8t34 hD, B8t18 hD, -B8_append]
set_option maxHeartbeats 32000000 in
theorem eback_other (v6 : Bool) (mode : Int) (S D : List Int) (sp : Int) (inner : List Int) (nn : Bool) (cap : Option Nat) (at_ x : Int) (hS : S.length = 16) (hD : D.length = 16) (bS : bytesB S = true) (bD : bytesB D = true) (hz : bytesB inner = true) (s0 : 0 ≤ sp) (s1 : sp ≤ 65535) (hl : inner.length ≤ 1700) (W : List Int) (a i : Nat) (hW : wrV v6 mode S D sp inner = ewC W) (hWa : W.length = a + inner.length) (hWm : W.length ≤ 1646) (ha : 20 ≤ a) (hWz : bytesB W = true) (h0 : anEr W = 0) (h6 : an6 W = v6) (hV : unV v6 W = okO v6 mode S D sp inner) (hi : (IntKind.u64.wrap at_).tmod (W.length : Int) = (i : Int)) (hi2 : i < W.length) (hia : a ≤ i) (U : List Int) (hU : W.take i ++ bits .xor .u8 (gb W i) x :: W.drop (i + 1) = U) (hUz : bytesB U = true) (g0 : anEr U = 0) (g6 : an6 U = v6) (hx : ¬ x = 0) (m2 sp2 : Int) (inner2 : List Int) (hn2 : inner2.length = inner.length) (hne : ((Go.Pm.bstr inner2).toList == (Go.Pm.bstr inner).toList) = false) (hVU : unV v6 U = okO v6 m2 S D sp2 inner2) : (pvCall Try.prog KEL Dm 100000 1 0 9 [outA v6 mode S D sp, .sl nn (B8 inner) inner.length cap, .v (.int .i64 at_), .v (.int .u8 x)] (fun _ => none)).map (·.1) = some (.v (.bool true)) := by
  have u1 : ¬ (1700 : Int) < (inner.length : Int) := by omega
  have l1 : inner.length ≤ 9223372036854775807 := by omega
  have l2 : inner.take inner.length = inner := List.take_length
  have w1 : W.length ≤ 500000 := by omega
  have w2 : W.take W.length = W := List.take_length
  have w3 : ¬ (1646 : Int) < (W.length : Int) := by omega
  have w4 : ¬ (W.length : Int) ≤ (inner.length : Int) := by omega
  have w4n : ¬ W.length ≤ inner.length := by omega
  have w5 : IntKind.u64.wrap (W.length : Int) = (W.length : Int) := by simp [IntKind.wrap, IntKind.signed, IntKind.bits]; omega
  have w6 : ¬ (W.length : Int) = 0 := by omega
  have w6b : ((W.length : Int) == 0) = false := by simp; intro h; rw [h] at hWa; simp at hWa; omega
  have w6n : ¬ W = [] := by intro h; rw [h] at hWa; simp at hWa; omega
  have w7 : IntKind.i64.wrap (i : Int) = (i : Int) := wrap64_id (by omega) (by omega)
  have w8 : IntKind.i64.wrap ((W.length : Int) - (inner.length : Int)) = (a : Int) := by rw [wrap64_id (by omega) (by omega)]; omega
  have w9 : (i : Int) < (W.length : Int) := by omega
  have z1 : (a : Int) ≤ (i : Int) := by omega
  have ai := B8_at0 W i hi2
  have y1 : i ≤ W.length := by omega
  have y2 : i + 1 ≤ W.length := by omega
  have y3 := B8_mid' (W.take i) (W.drop (i + 1)) (bits .xor .u8 (gb W i) x)
  have y4 : U.length = W.length := by rw [← hU]; simp; omega
  have y5 : U.take W.length = U := List.take_of_length_le (by omega)
  have y6 : (W.take i ++ bits .xor .u8 (gb W i) x :: W.drop (i + 1)).take W.length = U := by rw [hU]; exact y5
  have hx1 : (x == 0) = false := by simp [hx]
  have n1 : inner2.length ≤ 9223372036854775807 := by omega
  have n2 : inner2.take inner2.length = inner2 := List.take_length
  have t1 : S.take 16 = S := List.take_of_length_le (by omega)
  have t2 : D.take 16 = D := List.take_of_length_le (by omega)
  have k33 : ∀ x : AV, (B8 S ++ (B8 D ++ [x])).take 33 = B8 S ++ (B8 D ++ [x]) := fun x => List.take_of_length_le (by simp [hS, hD])
  have a0 := asOut_at (v6 := v6) (mode := mode) (sp := sp) hS hD
  rw [pvCall_own (fn := Try.f9) rfl Try.func9 rfl (by decide) rfl rfl (by simp)]
  simp -implicitDefEqProofs [u1, l1, l2, w1, w2, w3, w4, w4n, w5, w6, w6b, w6n, w7, w8, w9, hi, hi2, hW, hl, hz, bS, bD, s0, s1, hWz, h0, h6, hV, okO, errO, ewC, fEWrap, fEUnwrap, valsOf_B8app, eqV_ci, eqV_cb, eqV_n, eqV_m, pairOk33 hS hD, z1, hia, ai, y1, y2, y3, y4, y5, y6, hU, hUz, g0, g6, hVU, hx, hx1, n1, n2, hne, outA, a0, k33, hS, hD, t1, t2, splice, fKnown08, IntKind.bits, Nat.testBit_eq_decide_div_mod_eq, B8t16 hS, B8d16 hS, B8t33 hS, B8t17 hS, B8d32 hS, B8t32 hS, B8d33 hS, B8d17 hS, B8d34 hS, B8d18 hS, B8t34 hS, B8t18 hS, B8t16 hD, B8d16 hD, B8t33 hD, B8t17 hD, B8d32 hD, B8t32 hD, B8d33 hD, B8d17 hD, B8d34 hD, B8d18 hD, B8t34 hD, B8t18 hD, -B8_append]
theorem put_same {W : List Int} {i : Nat} (h : i < W.length) : W.take i ++ gb W i :: W.drop (i + 1) = W := by
  have e : W.drop i = gb W i :: W.drop (i + 1) := by
    rw [List.drop_eq_getElem_cons h]
    congr 1
    unfold gb
    rw [List.getD_eq_getElem?_getD, List.getElem?_eq_getElem h]; rfl
  rw [← e, List.take_append_drop]
theorem eback_run (v6 : Bool) (mode : Int) (S D : List Int) (sp : Int) (inner : List Int) (nn : Bool) (cap : Option Nat) (at_ x : Int) (hS : S.length = 16) (hD : D.length = 16) (bS : bytesB S = true) (bD : bytesB D = true) (hz : bytesB inner = true) (s0 : 0 ≤ sp) (s1 : sp ≤ 65535) (hl : inner.length ≤ 9223372036854775807) (x0 : 0 ≤ x) (x1 : x ≤ 255) : (pvCall Try.prog KEL Dm 100000 1 0 9 [outA v6 mode S D sp, .sl nn (B8 inner) inner.length cap, .v (.int .i64 at_), .v (.int .u8 x)] (fun _ => none)).map (·.1) = some (.v (.bool true)) := by
  by_cases hlong : 1700 < inner.length
  · exact eback_long v6 mode S D sp inner nn cap at_ x hS hD hl hlong
  have hl2 : inner.length ≤ 1700 := by omega
  rcases enc_law (v6 := v6) (mode := mode) hS hD bS bD hz hl2 s0 s1 with ⟨e, ne, hW⟩ | ⟨A, hW, hWm, hA, hpos, hV, hall⟩
  · exact eback_err v6 mode S D sp inner nn cap at_ x hS hD bS bD hz s0 s1 hl2 e ne hW
  obtain ⟨bW, h0, h6, _⟩ := hall inner rfl hz
  have hWa : (A ++ inner).length = A.length + inner.length := List.length_append
  have m0 : 0 ≤ IntKind.u64.wrap at_ := by simp [IntKind.wrap, IntKind.signed, IntKind.bits]; omega
  have m1 := Int.tmod_nonneg ((A ++ inner).length : Int) m0
  have m2 := Int.tmod_lt_of_pos (IntKind.u64.wrap at_) (show (0 : Int) < ((A ++ inner).length : Int) by omega)
  obtain ⟨i, hi⟩ := Int.eq_ofNat_of_zero_le m1
  rw [hi] at m2
  have hi2 : i < (A ++ inner).length := by omega
  by_cases hia : i < A.length
  · exact eback_known v6 mode S D sp inner nn cap at_ x hS hD bS bD hz s0 s1 hl2 (A ++ inner) A.length i hW hWa hWm hA bW h0 h6 hV hi hi2 hia
  have gi : gb (A ++ inner) i = gb inner (i - A.length) := by
    unfold gb
    rw [List.getD_eq_getElem?_getD, List.getD_eq_getElem?_getD, List.getElem?_append_right (by omega)]
  have gr := gb_range bW i
  have hU : (A ++ inner).take i ++ bits .xor .u8 (gb (A ++ inner) i) x :: (A ++ inner).drop (i + 1) = A ++ (inner.take (i - A.length) ++ bits .xor .u8 (gb (A ++ inner) i) x :: inner.drop (i - A.length + 1)) := by
    rw [List.take_append, List.take_of_length_le (by omega), List.drop_append, List.drop_eq_nil_of_le (by omega), List.nil_append, List.append_assoc, show i + 1 - A.length = i - A.length + 1 by omega]
  have yr := exor_in gr.1 gr.2 x0 x1
  have hn2 : (inner.take (i - A.length) ++ bits .xor .u8 (gb (A ++ inner) i) x :: inner.drop (i - A.length + 1)).length = inner.length := by simp; omega
  have hb2 : bytesB (inner.take (i - A.length) ++ bits .xor .u8 (gb (A ++ inner) i) x :: inner.drop (i - A.length + 1)) = true := by
    rw [bytesB_append, bytesB_take hz, bytesB_cons, bytesB_drop hz]
    simp [yr.1, yr.2]
  obtain ⟨bU, g0, g6, hform⟩ := hall _ hn2 hb2
  by_cases hx : x = 0
  · have hUW : (A ++ inner).take i ++ bits .xor .u8 (gb (A ++ inner) i) x :: (A ++ inner).drop (i + 1) = A ++ inner := by
      rw [hx, exor_zero gr.1 gr.2]
      exact put_same hi2
    exact eback_zero v6 mode S D sp inner nn cap at_ x hS hD bS bD hz s0 s1 hl2 (A ++ inner) A.length i hW hWa hWm hA bW h0 h6 hV hi hi2 (by omega) _ hUW bW h0 h6 hx hV
  · rcases hform with ⟨e, ne, hVU⟩ | ⟨m2', sp2, hVU⟩
    · exact eback_wrong v6 mode S D sp inner nn cap at_ x hS hD bS bD hz s0 s1 hl2 (A ++ inner) A.length i hW hWa hWm hA bW h0 h6 hV hi hi2 (by omega) _ hU bU g0 g6 hx e ne hVU
    · have hne : ¬ inner.take (i - A.length) ++ bits .xor .u8 (gb (A ++ inner) i) x :: inner.drop (i - A.length + 1) = inner := by
        intro h
        have h1 : gb _ (i - A.length) = gb inner (i - A.length) := congrArg (fun l => gb l (i - A.length)) h
        have hlt : (inner.take (i - A.length)).length = i - A.length := by simp; omega
        have e1 : gb (inner.take (i - A.length) ++ bits .xor .u8 (gb (A ++ inner) i) x :: inner.drop (i - A.length + 1)) (i - A.length) = bits .xor .u8 (gb (A ++ inner) i) x := by
          unfold gb
          rw [List.getD_eq_getElem?_getD, List.getElem?_append_right (by omega), hlt, Nat.sub_self]
          rfl
        rw [e1, ← gi] at h1
        exact exor_other gr.1 gr.2 x0 x1 hx h1
      exact eback_other v6 mode S D sp inner nn cap at_ x hS hD bS bD hz s0 s1 hl2 (A ++ inner) A.length i hW hWa hWm hA bW h0 h6 hV hi hi2 (by omega) _ hU bU g0 g6 hx m2' sp2 _ hn2 (str_ne hb2 hz hne) hVU
def vOut (v6 : Bool) (mode : Int) (S D : List Int) (sp : Int) : List Value := .bool v6 :: .int .u8 mode :: (S.map (Value.int .u8) ++ (D.map (Value.int .u8) ++ [.int .u16 sp]))
def InOut (v : Value) : Prop := ∃ v6 mode S D sp, v = .agg (vOut v6 mode S D sp).toArray ∧ S.length = 16 ∧ D.length = 16 ∧ bytesB S = true ∧ bytesB D = true ∧ 0 ≤ sp ∧ sp ≤ 65535
theorem flat62 : flat Try.prog 4 62 = some (4 :: 5 :: (List.replicate 16 5 ++ (List.replicate 16 5 ++ [47]))) := by kernel_rfl
set_option maxRecDepth 1000000 in
theorem openT62 {H : Type} {enc : TypeId × Value → H} {w : World} {base b0 : Nat} {spare : Nat → Bool} {held : Bool} {r : Reach} {v : Value} {d : DataW H} {p : List MemPlace} (hv : Value.okWide Try.prog w r b0 62 v) (h : DataW.Trod enc Try.prog w base spare held 62 v d p) : InOut v := by
  obtain ⟨cs, rfl, hl⟩ := open_flat flat62 (agg_struct Try.underlying62 hv) h
  obtain ⟨v6, v0, rfl, hl1⟩ := Wb.leaves_bool Try.underlying4 hl
  obtain ⟨mode, v1, rfl, e1, hl2⟩ := leaves_int Try.underlying5 hl1
  obtain ⟨S, us, hn, rfl, hw, hl3⟩ := leaves_ints Try.underlying5 16 hl2
  obtain ⟨D, us, hn2, rfl, hw2, hl4⟩ := leaves_ints Try.underlying5 16 hl3
  obtain ⟨sp, v9, rfl, e2, hl5⟩ := leaves_int Try.underlying47 hl4
  obtain rfl := Wb.leaves_nil hl5
  have b2 := bounds_u16 e2
  exact ⟨v6, mode, S, D, sp, rfl, hn, hn2, bytesB_iff.2 fun x hx => bounds_u8 (hw x hx), bytesB_iff.2 fun x hx => bounds_u8 (hw2 x hx), by omega, by omega⟩
theorem encapBack_walk (w : World) (v0 : Value) (o0 : InOut v0) (v1 : Value) (o1 : In8 w v1) (at_ : Int) (h2 : (Lit.int .i64 at_).wf = true) (x : Int) (h3 : (Lit.int .u8 x).wf = true) :
    Calls Try.prog 9 #[v0, v1, .int .i64 at_, .int .u8 x] w fun e w' => e = .returned (.bool true) ∧ Below w.heap.size w w' := by
  obtain ⟨v6, mode, S, D, sp, rfl, hS, hD, bS, bD, s0, s1⟩ := o0
  obtain ⟨a, len, cap, inner, rfl, ro⟩ := o1
  have hol : inner.length = len := ro.1
  subst hol
  have hx := bounds_u8 h3
  have r0 : Rel (noneAt w) (outA v6 mode S D sp) (.agg (vOut v6 mode S D sp).toArray) := by
    refine .mkAgg ?_
    show RelL _ _ (vOut v6 mode S D sp)
    exact .cons .v (.cons .v ((relL_ints _ S).append ((relL_ints _ D).append (.cons .v (.nil _)))))
  have ra : RelL (noneAt w) [outA v6 mode S D sp, .sl false (B8 inner) inner.length none, .v (.int .i64 at_), .v (.int .u8 x)] (#[.agg (vOut v6 mode S D sp).toArray, .slice a inner.length cap, .int .i64 at_, .int .u8 x] : Array Value).toList :=
    .cons r0 (.cons (rel_row ro) (.cons .v (.cons .v (.nil _))))
  have hb : inner.length ≤ 9223372036854775807 := by have := ro.le; have := ro.cap_le; omega
  have key := eback_run v6 mode S D sp inner false none at_ x hS hD bS bD (bytesB_iff.2 ro.5) s0 s1 hb hx.1 hx.2
  obtain ⟨⟨y, m'⟩, k1, k2⟩ := Option.map_eq_some_iff.1 key
  simp only at k2
  subst k2
  exact law_of_run kel_ok follows_mixed dm_ok k1 ra
end Go.Proofs.Ytmdafjegddnecaa
