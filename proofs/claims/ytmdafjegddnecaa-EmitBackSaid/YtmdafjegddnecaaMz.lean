import Derived.Test.YtmdafjegddnecaaMy
/- Encapsulation: contracts; what is wrapped is unwrapped (plain). -/
namespace Go.Proofs.Ytmdafjegddnecaa
open Go.Pm Go.Wb
set_option linter.unusedVariables false
set_option linter.unusedSimpArgs false
set_option maxRecDepth 1000000
def fEWrap : Fun
  | [x, .sl nn c len cap] => (asOut x).bind fun r => (asB8 c).bind fun inner => if r.2.2.1.length = 16 ∧ r.2.2.2.1.length = 16 ∧ bytesB r.2.2.1 = true ∧ bytesB r.2.2.2.1 = true ∧ bytesB inner = true ∧ inner.length = len ∧ len ≤ 1700 ∧ 0 ≤ r.2.2.2.2 ∧ r.2.2.2.2 ≤ 65535 then some (wrV r.1 r.2.1 r.2.2.1 r.2.2.2.1 r.2.2.2.2 inner) else none
  | _ => none
theorem ewrap_pure : Pure Try.prog 32 fEWrap := (runF_pure kew_ok follows_mixed dm_ok 100000 2 32).weaken fun args r h => by
  unfold fEWrap at h
  split at h
  · rename_i x nn c len cap
    obtain ⟨⟨v6, mode, S, D, sp⟩, e1, h1⟩ := Option.bind_eq_some_iff.1 h
    obtain ⟨inner, e2, he⟩ := Option.bind_eq_some_iff.1 h1
    clear h h1
    split at he
    case isFalse => cases he
    rename_i hh
    simp only at hh he
    obtain ⟨x1, x2, x3, x4, x5, rfl, x7, x8, x9⟩ := hh
    obtain rfl := asOut_eq e1
    obtain rfl := asB8_eq e2
    rw [← he]
    exact ewrap_run v6 mode S D sp inner nn cap x1 x2 x3 x4 x5 x7 x8 x9
  · cases h
def fEUnwrap : Fun
  | [.v (.bool v6), .sl nn c len cap] => (asB8 c).bind fun zs => if zs.length = len ∧ len ≤ 500000 ∧ bytesB zs = true ∧ anEr zs = 0 ∧ an6 zs = v6 then some (unV v6 zs) else none
  | _ => none
theorem eunwrap_pure : Pure Try.prog 33 fEUnwrap := (runF_pure keu_ok follows_mixed dm_ok 100000 2 33).weaken fun args r h => by
  unfold fEUnwrap at h
  split at h
  · rename_i v6 nn c len cap
    obtain ⟨zs, e2, he⟩ := Option.bind_eq_some_iff.1 h
    clear h
    split at he
    case isFalse => cases he
    rename_i hh
    obtain ⟨rfl, x2, x3, x4, x5⟩ := hh
    obtain rfl := asB8_eq e2
    rw [← he]
    exact eunwrap_run v6 zs nn cap x2 x3 x4 x5
  · cases h
def fEKindN : Fun := fun args => fEKind (args.map AV.norm)
theorem wr_ok {v6 : Bool} {mode : Int} {S D : List Int} {sp : Int} {inner : List Int} (hm : mayO v6 mode S D sp = true) (hk : ¬ kndV inner = 0) (hS : S.length = 16) (hD : D.length = 16) (bS : bytesB S = true) (bD : bytesB D = true) (hz : bytesB inner = true) (hf : hdO v6 + (bO v6 mode S D sp inner).length ≤ 1646) :
    ∃ W, wrV v6 mode S D sp inner = ewC W ∧ pkO v6 (prO mode inner) S D (bO v6 mode S D sp inner) = ewC W ∧ W.length = hdO v6 + (bO v6 mode S D sp inner).length ∧ Said v6 (prO mode inner) S D (bO v6 mode S D sp inner) W := by
  obtain ⟨z, hmode⟩ := may_ok hm
  have hkr := kndV_range inner
  have hp : prO mode inner = 4 ∨ prO mode inner = 41 ∨ prO mode inner = 17 := by unfold prO; split <;> omega
  have hb : bytesB (bO v6 mode S D sp inner) = true := by
    unfold bO
    split
    · exact hz
    · refine eudpW_bytes ?_
      unfold gueB
      simp only [bytesB_cons, hz, Bool.and_true, Bool.and_eq_true, decide_eq_true_eq]
      omega
  obtain ⟨W, h1, h2, h3⟩ := pkO_said hp hS hD z bS bD hb hf
  refine ⟨W, ?_, h1, h2, h3⟩
  unfold wrV
  rw [hm, if_neg (by simp), if_neg hk, if_neg (by omega), h1]
theorem bO_len (v6 : Bool) (mode : Int) (S D : List Int) (sp : Int) (inner : List Int) : (bO v6 mode S D sp inner).length = (if mode = 1 then 0 else 12) + inner.length := by
  unfold bO
  split
  · omega
  · rw [eudpW_len]; simp [gueB]; omega
noncomputable def KEK : Nat → Option Con
  | 32 => some fEWrap
  | 80 => some fEKindN
  | _ => none
theorem kek_ok : KOk Try.prog KEK := fun f F h => by
  unfold KEK at h
  split at h
  · cases h; exact ⟨ewrap_pure, _, Try.func32, rfl, by decide⟩
  · cases h; exact ⟨ekind_pure.norm, _, Try.func80, rfl, by decide⟩
  · cases h
section
variable {D : FuncId → Nat → List Nat} {L d px : Nat} {args : List AV} {m : Mem}
theorem ckek_ewrap : pvCall Try.prog KEK D L d px 32 args m = callBy fEWrap m px args := pvCall_by rfl
theorem ckek_ekind : pvCall Try.prog KEK D L d px 80 args m = callBy fEKindN m px args := pvCall_by rfl
end
theorem ekek_ewrap : KEK 32 = some (.pure fEWrap) := rfl
theorem ekek_ekind : KEK 80 = some (.pure fEKindN) := rfl
attribute [simp] ckek_ewrap ekek_ewrap ckek_ekind ekek_ekind
theorem ze_arr4 : zeroOf Try.prog 141 = some (.v (.bool false) :: .v (.int .u8 0) :: (List.replicate 32 (.v (.int .u8 0)) ++ (.v (.int .u16 0) :: .v (.int .i64 0) :: .v (.bool false) :: .v (.int .u8 0) :: (List.replicate 32 (.v (.int .u8 0)) ++ (.v (.int .u16 0) :: .v (.int .i64 0) :: .v (.bool false) :: .v (.int .u8 0) :: (List.replicate 32 (.v (.int .u8 0)) ++ (.v (.int .u16 0) :: .v (.int .i64 0) :: .v (.bool false) :: .v (.int .u8 0) :: (List.replicate 32 (.v (.int .u8 0)) ++ (.v (.int .u16 0) :: .v (.int .i64 0) :: []))))))))) := by kernel_rfl
set_option maxHeartbeats 32000000 in
theorem known08_run : runF Try.prog KEK Dm 100000 1 31 [] = some (.v (.bool true), []) := by
  have hk : kndV [69, 1, 2] = 4 := by decide
  have hk0 : kndV [] = 0 := by decide
  obtain ⟨W1, w1, _, l1, _⟩ := wr_ok (v6 := false) (mode := 1) (S := z16) (D := z16) (sp := 0) (inner := [69, 1, 2]) (by decide) (by decide) rfl rfl (by decide) (by decide) (by decide) (by rw [bO_len]; decide)
  obtain ⟨W2, w2, _, l2, _⟩ := wr_ok (v6 := true) (mode := 1) (S := z16) (D := z16) (sp := 0) (inner := [69, 1, 2]) (by decide) (by decide) rfl rfl (by decide) (by decide) (by decide) (by rw [bO_len]; decide)
  obtain ⟨W3, w3, _, l3, _⟩ := wr_ok (v6 := false) (mode := 2) (S := z16) (D := z16) (sp := 50000) (inner := [69, 1, 2]) (by decide) (by decide) rfl rfl (by decide) (by decide) (by decide) (by rw [bO_len]; decide)
  obtain ⟨W4, w4, _, l4, _⟩ := wr_ok (v6 := true) (mode := 2) (S := z16) (D := z16) (sp := 50000) (inner := [69, 1, 2]) (by decide) (by decide) rfl rfl (by decide) (by decide) (by decide) (by rw [bO_len]; decide)
  rw [bO_len] at l1 l2 l3 l4
  have m1 : W1.length = 23 := l1
  have m2 : W2.length = 43 := l2
  have m3 : W3.length = 35 := l3
  have m4 : W4.length = 55 := l4
  have a0 := fun (v6 : Bool) (mode sp : Int) => asOut_at (v6 := v6) (mode := mode) (sp := sp) (S := z16) (D := z16) rfl rfl
  simp only [z16, B8vc, B8vn, List.cons_append, List.nil_append] at a0 w1 w2 w3 w4
  unfold runF
  rw [pvCall_own (fn := Try.f31) rfl Try.func31 rfl (by decide) rfl rfl (by simp)]
  simp -implicitDefEqProofs [show IntKind.i64.wrap 23 = 23 by decide, show IntKind.i64.wrap 35 = 35 by decide, show IntKind.i64.wrap 43 = 43 by decide, show IntKind.i64.wrap 55 = 55 by decide, ze_arr4, a0, w1, w2, w3, w4, m1, m2, m3, m4, hk, hk0, fEWrap, fEKindN, fEKind, ewC, bytesB, loopK_pos, asB8_nil'', asB8_cons'', B8vc, B8vn, splice, List.replicate_succ]
def fKnown08 : Fun
  | [] => some (.v (.bool true), [])
  | _ => none
theorem known08_pure : Pure Try.prog 31 fKnown08 := (runF_pure kek_ok follows_mixed dm_ok 100000 1 31).weaken fun args r h => by
  unfold fKnown08 at h
  split at h
  · rw [← h]; exact known08_run
  · cases h
end Go.Proofs.Ytmdafjegddnecaa

/- Plain law: what is wrapped is unwrapped; with another inner packet it is another one, or wrong. -/
namespace Go.Proofs.Ytmdafjegddnecaa
open Go.Pm Go.Wb
set_option linter.unusedVariables false
set_option linter.unusedSimpArgs false
set_option maxRecDepth 1000000
theorem eck_zero {v6 : Bool} {ss ds H T : List Int} {pr C : Int} (bs : bytesB ss = true) (bd : bytesB ds = true) (p0 : 0 ≤ pr) (p1 : pr ≤ 255) (hH : bytesB H = true) (hT : bytesB T = true) (he : par false H.length = false)
    (hC : C = ck v6 ss ds pr (H ++ 0 :: 0 :: T) ∨ C = udpC (ck v6 ss ds pr (H ++ 0 :: 0 :: T))) : ck v6 ss ds pr (H ++ C / 256 % 256 :: C % 256 :: T) = 0 := by
  have h0 := (ws_nonneg false H (bytesB_iff.1 hH)).1
  have t0 := (ws_nonneg false T (bytesB_iff.1 hT)).1
  have s0 := (sumTo_range (s := 0) (o := false) (Int.le_refl 0) (phead_b (v6 := v6) (pr := pr) (n := ((H ++ 0 :: 0 :: T).length : Nat)) (bytesB_iff.1 bs) (bytesB_iff.1 bd) p0 p1))
  have hl : (H ++ C / 256 % 256 :: C % 256 :: T).length = (H ++ 0 :: 0 :: T).length := by simp
  have w1 : ws false (H ++ C / 256 % 256 :: C % 256 :: T) = ws false H + (C / 256 % 256 * 256 + (C % 256 + ws false T)) := by rw [ws_append, he]; rfl
  have w0 : ws false (H ++ 0 :: 0 :: T) = ws false H + (0 * 256 + (0 + ws false T)) := by rw [ws_append, he]; rfl
  have hc := ck_range (v6 := v6) (ss := ss) (ds := ds) (pr := pr) (zs := H ++ 0 :: 0 :: T) (fun x hx => by
    rcases List.mem_append.1 hx with h | h
    · exact bytesB_iff.1 hH x h
    · rcases List.mem_cons.1 h with rfl | h
      · omega
      · rcases List.mem_cons.1 h with rfl | h
        · omega
        · exact bytesB_iff.1 hT x h) s0.1
  unfold ck at hC hc ⊢
  unfold udpC at hC
  rw [hl]
  unfold sumTo at hC hc s0 ⊢
  rw [w0] at hC hc
  rw [w1]
  generalize cn (0 + ws false (phead v6 ss ds pr ((H ++ 0 :: 0 :: T).length : Nat))) = s at *
  generalize ws false H = h at *
  generalize ws false T = t at *
  clear hl w1 w0 hH hT he bs bd
  unfold cn at *
  repeat' split at hC
  all_goals (split <;> omega)
/-- What stands ahead of a payload. -/
def hdrO (v6 : Bool) (pr : Int) (S D : List Int) (n : Nat) : List Int := if v6 = true then head6 0 0 pr 64 (n : Int) ++ (S ++ D) else putS (head4 0 0 false 64 pr S D [] (20 + (([] : List Int).length : Int) + (n : Int))) (ofV (head4 0 0 false 64 pr S D [] (20 + (([] : List Int).length : Int) + (n : Int))))
theorem pkO_eq {v6 : Bool} {pr : Int} {S D b W : List Int} (h : pkO v6 pr S D b = ewC W) : W = hdrO v6 pr S D b.length ++ b := by
  unfold pkO at h
  unfold hdrO
  cases v6 with
  | true =>
    simp only [if_true] at h ⊢
    unfold w6V at h
    split at h
    · simp [errB, ewC] at h
    split at h
    · simp [errB, ewC] at h
    · unfold wB ewC at h
      have h2 := (Prod.mk.inj h).2
      have h3 := B8_inj (List.cons.inj h2).1
      rw [← h3]; simp
  | false =>
    simp only [Bool.false_eq_true, if_false] at h ⊢
    unfold w4V at h
    split at h
    · simp [errC, ewC] at h
    split at h
    · simp [errC, ewC] at h
    split at h
    · simp [errC, ewC] at h
    · unfold wC ewC at h
      have h2 := (Prod.mk.inj h).2
      exact (B8_inj (List.cons.inj h2).1).symm
theorem hdrO_len {v6 : Bool} {pr : Int} {S D : List Int} {n : Nat} (hS : S.length = 16) (hD : D.length = 16) : (hdrO v6 pr S D n).length = hdO v6 := by
  unfold hdrO hdO
  cases v6 with
  | true => simp [head6, hS, hD]
  | false => simp [putS, head4]
/-- What stands ahead of the inner packet in GUE. -/
def preG (sp c k : Int) (n : Nat) : List Int := [sp / 256 % 256, sp % 256, 6080 / 256 % 256, 6080 % 256, (8 + ((4 + n : Nat) : Int)) / 256 % 256, (8 + ((4 + n : Nat) : Int)) % 256, c / 256 % 256, c % 256, 0, k, 0, 0]
theorem gueB_len (k : Int) (inner : List Int) : (gueB k inner).length = 4 + inner.length := by simp [gueB]; omega
theorem bO_gue (v6 : Bool) (S D : List Int) (sp : Int) (inner : List Int) : bO v6 2 S D sp inner = preG sp (udpC (ck v6 S D 17 (udpHead sp 6080 (gueB (kndV inner) inner) ++ gueB (kndV inner) inner))) (kndV inner) inner.length ++ inner := by
  unfold bO
  rw [if_neg (by decide), eudpW_eq, gueB_len]
  rfl
theorem unV_gue {v6 : Bool} {S D R W : List Int} (h : Said v6 17 S D R W) : unV v6 W = if ¬ guE v6 S D R = 0 then errO (guE v6 S D R) else if ¬ guX R = 0 then errO (guX R) else okO v6 2 S D (w16 R 0) (R.drop 12) := by
  obtain ⟨_, _, _, s3, s4, s5, s6⟩ := h
  unfold unV
  rw [s3, s4, s5, s6, if_neg (by decide), if_pos rfl]
theorem unV_ip {v6 : Bool} {pr : Int} {S D R W : List Int} (hp : pr = 4 ∨ pr = 41) (h : Said v6 pr S D R W) : unV v6 W = if kndV R = pr then okO v6 1 S D 0 R else errO 5 := by
  obtain ⟨_, _, _, s3, s4, s5, s6⟩ := h
  unfold unV
  rw [s3, s4, s5, s6, if_pos hp]
theorem guX_pre {sp c k : Int} {inner x : List Int} (hn : x.length = inner.length) : guX (preG sp c k inner.length ++ x) = if k = 0 ∨ ¬ kndV x = k then 5 else 0 := by
  have e1 : w16 (preG sp c k inner.length ++ x) 2 = 6080 := by show (6080 : Int) / 256 % 256 * 256 + 6080 % 256 = 6080; decide
  have e2 : (preG sp c k inner.length ++ x).drop 12 = x := rfl
  have e3 : ¬ (preG sp c k inner.length ++ x).length < 12 := by simp [preG]
  have e8 : gb (preG sp c k inner.length ++ x) 8 = 0 := rfl
  have e9 : gb (preG sp c k inner.length ++ x) 9 = k := rfl
  have e10 : gb (preG sp c k inner.length ++ x) 10 = 0 := rfl
  have e11 : gb (preG sp c k inner.length ++ x) 11 = 0 := rfl
  unfold guX
  rw [e1, e2, e8, e9, e10, e11, if_neg (by simp), if_neg e3, if_neg (by simp)]
theorem enc_law {v6 : Bool} {mode : Int} {S D : List Int} {sp : Int} {inner : List Int} (hS : S.length = 16) (hD : D.length = 16) (bS : bytesB S = true) (bD : bytesB D = true) (hz : bytesB inner = true) (hl : inner.length ≤ 1700) (s0 : 0 ≤ sp) (s1 : sp ≤ 65535) :
    (∃ e, ¬ e = 0 ∧ wrV v6 mode S D sp inner = ewE e) ∨ ∃ A, wrV v6 mode S D sp inner = ewC (A ++ inner) ∧ (A ++ inner).length ≤ 1646 ∧ 20 ≤ A.length ∧ 0 < inner.length ∧ unV v6 (A ++ inner) = okO v6 mode S D sp inner ∧
      ∀ x : List Int, x.length = inner.length → bytesB x = true → bytesB (A ++ x) = true ∧ anEr (A ++ x) = 0 ∧ an6 (A ++ x) = v6 ∧ ((∃ e, ¬ e = 0 ∧ unV v6 (A ++ x) = errO e) ∨ ∃ m2 sp2, unV v6 (A ++ x) = okO v6 m2 S D sp2 x) := by
  cases hm : mayO v6 mode S D sp with
  | false => exact .inl ⟨2, by decide, by unfold wrV; rw [hm, if_pos rfl]⟩
  | true =>
    by_cases hk : kndV inner = 0
    · exact .inl ⟨5, by decide, by unfold wrV; rw [hm, if_neg (by simp), if_pos hk]⟩
    by_cases hf : 1646 < hdO v6 + (bO v6 mode S D sp inner).length
    · exact .inl ⟨3, by decide, by unfold wrV; rw [hm, if_neg (by simp), if_neg hk, if_pos hf]⟩
    right
    obtain ⟨W, hw, hpk, hWl, hsaid⟩ := wr_ok hm hk hS hD bS bD hz (by omega)
    obtain ⟨z, hmode⟩ := may_ok hm
    have hkr := kndV_range inner
    have hpos := knd_pos hk
    have hW := pkO_eq hpk
    have hd20 : 20 ≤ hdO v6 := by cases v6 <;> decide
    rcases hmode with ⟨rfl, rfl⟩ | ⟨rfl, hsp⟩
    · have hb : bO v6 1 S D 0 inner = inner := rfl
      have hp : prO 1 inner = kndV inner := rfl
      rw [hb, hp] at hpk hsaid hW
      rw [hb] at hf hWl
      have hkk : kndV inner = 4 ∨ kndV inner = 41 := by omega
      have hk3 : kndV inner = 4 ∨ kndV inner = 41 ∨ kndV inner = 17 := by omega
      refine ⟨hdrO v6 (kndV inner) S D inner.length, by rw [hw, hW], by rw [← hW]; omega, by rw [hdrO_len hS hD]; exact hd20, hpos, ?_, ?_⟩
      · rw [← hW, unV_ip hkk hsaid, if_pos rfl]
      · intro x hx bx
        obtain ⟨W2, hP2, _, hs2⟩ := pkO_said hk3 hS hD z bS bD bx (by omega)
        have hW2 := pkO_eq hP2
        rw [hx] at hW2
        rw [← hW2]
        refine ⟨hs2.1, hs2.2.1, hs2.2.2.1, ?_⟩
        rw [unV_ip hkk hs2]
        split
        · exact .inr ⟨1, 0, rfl⟩
        · exact .inl ⟨5, by decide, rfl⟩
    · have hb := bO_gue v6 S D sp inner
      have hp : prO 2 inner = 17 := rfl
      have hbl := bO_len v6 2 S D sp inner
      have hbe : bO v6 2 S D sp inner = udpW v6 S D (udpHead sp 6080 (gueB (kndV inner) inner) ++ gueB (kndV inner) inner) := rfl
      have hGz : bytesB (gueB (kndV inner) inner) = true := by
        unfold gueB
        simp only [bytesB_cons, hz, Bool.and_true, Bool.and_eq_true, decide_eq_true_eq]
        omega
      have hbz : bytesB (bO v6 2 S D sp inner) = true := by rw [hbe]; exact eudpW_bytes hGz
      have hck : ck v6 S D 17 (bO v6 2 S D sp inner) = 0 := by
        rw [hbe, eudpW_eq]
        exact eck_zero bS bD (by decide) (by decide) (hl8_bytes _) hGz (by simp [par]) (.inr rfl)
      have hcr : 1 ≤ udpC (ck v6 S D 17 (udpHead sp 6080 (gueB (kndV inner) inner) ++ gueB (kndV inner) inner)) ∧ udpC (ck v6 S D 17 (udpHead sp 6080 (gueB (kndV inner) inner) ++ gueB (kndV inner) inner)) ≤ 65535 := by
        have hZ : bytesB (udpHead sp 6080 (gueB (kndV inner) inner) ++ gueB (kndV inner) inner) = true := by rw [bytesB_append, hGz, udpHead, hl8_bytes]; rfl
        have r := ck_range (v6 := v6) (ss := S) (ds := D) (pr := 17) (bytesB_iff.1 hZ) (sumTo_range (Int.le_refl 0) (phead_b (bytesB_iff.1 bS) (bytesB_iff.1 bD) (by decide) (by decide))).1
        unfold udpC
        split <;> omega
      generalize udpC (ck v6 S D 17 (udpHead sp 6080 (gueB (kndV inner) inner) ++ gueB (kndV inner) inner)) = c at *
      clear hbe
      rw [hp] at hpk hsaid hW
      have hpl : (preG sp c (kndV inner) inner.length).length = 12 := rfl
      have h17 : (17 : Int) = 4 ∨ (17 : Int) = 41 ∨ (17 : Int) = 17 := .inr (.inr rfl)
      have hpre : bytesB (preG sp c (kndV inner) inner.length) = true := by
        rw [hb, bytesB_append, Bool.and_eq_true] at hbz
        exact hbz.1
      have gE : ∀ x : List Int, x.length = inner.length → ¬ guE v6 S D (preG sp c (kndV inner) inner.length ++ x) = 0 → ¬ guE v6 S D (preG sp c (kndV inner) inner.length ++ x) = 0 := fun _ _ h => h
      have e0 : ∀ x : List Int, w16 (preG sp c (kndV inner) inner.length ++ x) 0 = sp := fun x => by show sp / 256 % 256 * 256 + sp % 256 = sp; omega
      have g0 : guE v6 S D (preG sp c (kndV inner) inner.length ++ inner) = 0 := by
        rw [hb] at hck
        have e4 : w16 (preG sp c (kndV inner) inner.length ++ inner) 4 = ((preG sp c (kndV inner) inner.length ++ inner).length : Nat) := by
          show (8 + ((4 + inner.length : Nat) : Int)) / 256 % 256 * 256 + (8 + ((4 + inner.length : Nat) : Int)) % 256 = _
          rw [List.length_append, hpl]; omega
        have e6 : w16 (preG sp c (kndV inner) inner.length ++ inner) 6 = c := by
          show c / 256 % 256 * 256 + c % 256 = c
          omega
        unfold guE
        rw [e4, e6, if_neg (by rw [List.length_append, hpl]; omega), if_neg (by simp), if_neg (by omega), if_neg (by simp [hck])]
      refine ⟨hdrO v6 17 S D (bO v6 2 S D sp inner).length ++ preG sp c (kndV inner) inner.length, ?_, ?_, ?_, hpos, ?_, ?_⟩
      · rw [hw, hW, List.append_assoc, ← hb]
      · rw [List.append_assoc, ← hb, ← hW]; omega
      · rw [List.length_append, hdrO_len hS hD]; omega
      · rw [List.append_assoc, ← hb, ← hW, unV_gue hsaid, hb, if_neg (by simp [g0]), guX_pre rfl, if_neg (by simp [hk]), e0]
        rfl
      · intro x hx bx
        have hxl : (preG sp c (kndV inner) inner.length ++ x).length = (bO v6 2 S D sp inner).length := by rw [hb, List.length_append, List.length_append, hx]
        have bpx : bytesB (preG sp c (kndV inner) inner.length ++ x) = true := by rw [bytesB_append, hpre, bx]; rfl
        obtain ⟨W2, hP2, _, hs2⟩ := pkO_said h17 hS hD z bS bD bpx (by omega)
        have hW2 := pkO_eq hP2
        rw [hxl, ← List.append_assoc] at hW2
        rw [← hW2]
        refine ⟨hs2.1, hs2.2.1, hs2.2.2.1, ?_⟩
        rw [unV_gue hs2]
        split
        · rename_i h; exact .inl ⟨_, h, rfl⟩
        split
        · rename_i h; exact .inl ⟨_, h, rfl⟩
        · exact .inr ⟨2, _, rfl⟩
end Go.Proofs.Ytmdafjegddnecaa
