/- The law IcmpWrites as a function of values. -/
import Derived.Test.YtcbjjkpjbdcakaaVh
import Derived.Test.YtcbjjkpjbdcakaaVj
namespace Go.Proofs.Ytcbjjkpjbdcakaa
open Go.Pm Go.Wb
set_option linter.unusedVariables false
set_option linter.unusedSimpArgs false
set_option maxRecDepth 1000000
noncomputable def KX : Nat → Option Con
  | 50 => some fW6
  | 51 => some fW6
  | 43 => some fWithin
  | 46 => some fRead
  | 44 => some fKnown6
  | _ => none
theorem kx_ok : KOk Try.prog KX := fun f F h => by
  unfold KX at h
  split at h
  · cases h; exact ⟨write6_pure, _, Try.func50, rfl, by decide⟩
  · cases h; exact ⟨rwrite6_pure, _, Try.func51, rfl, by decide⟩
  · cases h; exact ⟨within_pure, _, Try.func43, rfl, by decide⟩
  · cases h; exact ⟨read_pure, _, Try.func46, rfl, by decide⟩
  · cases h; exact ⟨known6_pure, _, Try.func44, rfl, by decide⟩
  · cases h
section
variable {D : FuncId → Nat → List Nat} {L d px : Nat} {args : List AV} {m : Mem}
theorem ckx_write : pvCall Try.prog KX D L d px 50 args m = callBy fW6 m px args := pvCall_by rfl
theorem ckx_rwrite : pvCall Try.prog KX D L d px 51 args m = callBy fW6 m px args := pvCall_by rfl
theorem ckx_within : pvCall Try.prog KX D L d px 43 args m = callBy fWithin m px args := pvCall_by rfl
theorem ckx_read : pvCall Try.prog KX D L d px 46 args m = callBy fRead m px args := pvCall_by rfl
theorem ckx_known : pvCall Try.prog KX D L d px 44 args m = callBy fKnown6 m px args := pvCall_by rfl
end
theorem ekx_write : KX 50 = some (.pure fW6) := rfl
theorem ekx_rwrite : KX 51 = some (.pure fW6) := rfl
theorem ekx_within : KX 43 = some (.pure fWithin) := rfl
theorem ekx_read : KX 46 = some (.pure fRead) := rfl
theorem ekx_known : KX 44 = some (.pure fKnown6) := rfl
attribute [simp] ckx_write ekx_write ckx_rwrite ekx_rwrite ckx_within ekx_within ckx_read ekx_read ckx_known ekx_known
theorem ck6_zero {v6 : Bool} {ss ds H T : List Int} {pr C : Int} (bs : bytesB ss = true) (bd : bytesB ds = true) (p0 : 0 ≤ pr) (p1 : pr ≤ 255) (hH : bytesB H = true) (hT : bytesB T = true) (he : par false H.length = false)
    (hC : C = ck v6 ss ds pr (H ++ 0 :: 0 :: T)) : ck v6 ss ds pr (H ++ C / 256 :: C % 256 :: T) = 0 := by
  have h0 := (ws_nonneg false H (bytesB_iff.1 hH)).1
  have t0 := (ws_nonneg false T (bytesB_iff.1 hT)).1
  have s0 := (sumTo_range (s := 0) (o := false) (Int.le_refl 0) (phead_b (v6 := v6) (pr := pr) (n := ((H ++ 0 :: 0 :: T).length : Nat)) (bytesB_iff.1 bs) (bytesB_iff.1 bd) p0 p1))
  have hl : (H ++ C / 256 :: C % 256 :: T).length = (H ++ 0 :: 0 :: T).length := by simp
  have w1 : ws false (H ++ C / 256 :: C % 256 :: T) = ws false H + (C / 256 * 256 + (C % 256 + ws false T)) := by rw [ws_append, he]; rfl
  have w0 : ws false (H ++ 0 :: 0 :: T) = ws false H + (0 * 256 + (0 + ws false T)) := by rw [ws_append, he]; rfl
  have hb : bytesB (H ++ 0 :: 0 :: T) = true := by rw [bytesB_append, bytesB_cons, bytesB_cons, hH, hT]; rfl
  have hc := ck_range (v6 := v6) (ss := ss) (ds := ds) (pr := pr) (zs := H ++ 0 :: 0 :: T) (bytesB_iff.1 hb) s0.1
  unfold ck at hC hc ⊢
  rw [hl]
  unfold sumTo at hC hc s0 ⊢
  rw [w0] at hC hc
  rw [w1]
  generalize cn (0 + ws false (phead v6 ss ds pr ((H ++ 0 :: 0 :: T).length : Nat))) = s at *
  generalize ws false H = h at *
  generalize ws false T = t at *
  clear hl w1 w0 hH hT he bs bd hb
  unfold cn at *
  repeat' split at hC
  all_goals (split <;> omega)
theorem of6_zero {H T : List Int} {C : Int} (hH : bytesB H = true) (hT : bytesB T = true) (he : par false H.length = false) (hC : C = ofV (H ++ 0 :: 0 :: T)) : ofV (H ++ C / 256 :: C % 256 :: T) = 0 := by
  have hb : bytesB (H ++ 0 :: 0 :: T) = true := by rw [bytesB_append, bytesB_cons, bytesB_cons, hH, hT]; rfl
  have hr := ofV_range hb
  have h0 := (ws_nonneg false H (bytesB_iff.1 hH)).1
  have t0 := (ws_nonneg false T (bytesB_iff.1 hT)).1
  have w1 : ws false (H ++ C / 256 :: C % 256 :: T) = ws false H + (C / 256 * 256 + (C % 256 + ws false T)) := by rw [ws_append, he]; rfl
  have w0 : ws false (H ++ 0 :: 0 :: T) = ws false H + (0 * 256 + (0 + ws false T)) := by rw [ws_append, he]; rfl
  unfold ofV sumTo at hC hr ⊢
  rw [w0] at hC hr
  rw [w1]
  generalize ws false H = a at *
  generalize ws false T = b at *
  clear w1 w0 hH hT he hb
  unfold cn at *
  split at hC <;> split <;> omega
theorem skV_back {v6 : Bool} {ss ds h ps : List Int} {k c : Int} {len : Nat} (hg : good6 k c ss ds h ps len) : skV v6 ss ds (w6M k c (skV v6 ss ds (k :: c :: 0 :: 0 :: (h ++ ps))) h ps) = 0 := by
  obtain ⟨_, hl, hs, hd, hh, hz, bs, bd, bh, k0, k1, c0, c1⟩ := id hg
  have hH : bytesB [k, c] = true := by simp only [bytesB_cons]; simp [k0, k1, c0, c1]; rfl
  have hT : bytesB (h ++ ps) = true := by rw [bytesB_append, bh, hz]; rfl
  unfold w6M
  cases v6 with
  | true => exact ck6_zero (H := [k, c]) (T := h ++ ps) bs bd (by omega) (by omega) hH hT (by simp [par]) rfl
  | false => exact of6_zero (H := [k, c]) (T := h ++ ps) hH hT (by simp [par]) rfl
theorem w6M_len {k c K : Int} {h ps : List Int} (hh : h.length = 4) : (w6M k c K h ps).length = 8 + ps.length := by simp [w6M, hh]; omega
theorem w6M_drop {k c K : Int} {h ps : List Int} (hh : h.length = 4) : (w6M k c K h ps).drop 8 = ps := by
  match h, hh with
  | [x, y, z, u], _ => rfl
theorem rdE_back {v6 : Bool} {ss ds h ps : List Int} {k c : Int} {len : Nat} (hg : good6 k c ss ds h ps len) (he : isE v6 k = true) : rdE v6 ss ds (w6M k c (skV v6 ss ds (k :: c :: 0 :: 0 :: (h ++ ps))) h ps) = wiE v6 ps := by
  have hh := hg.2.2.2.2.1
  have h0 := skV_back (v6 := v6) hg
  unfold rdE
  rw [if_neg (by rw [w6M_len hh]; omega), if_neg (by rw [h0]; simp), if_neg (by show ¬ isE v6 k = false; simp [he]), w6M_drop hh]
theorem rdT_back {v6 : Bool} {ss ds h ps : List Int} {k c : Int} {len : Nat} (hg : good6 k c ss ds h ps len) (he : isE v6 k = true) : rdT v6 ss ds (w6M k c (skV v6 ss ds (k :: c :: 0 :: 0 :: (h ++ ps))) h ps) = if wiE v6 ps = 0 then repA k c v6 (hdP v6 ps) (hdS v6 ps) (hdD v6 ps) (w16 ps (hdN v6 ps + 2)) (w16 ps (hdN v6 ps)) else noRep := by
  have hh := hg.2.2.2.2.1
  unfold rdT
  rw [rdE_back hg he, w6M_drop hh]; rfl
theorem goodM_back {v6 : Bool} {ss ds h ps : List Int} {k c : Int} {len : Nat} (hg : good6 k c ss ds h ps len) (hl : ps.length ≤ 1652) : goodM ss ds (w6M k c (skV v6 ss ds (k :: c :: 0 :: 0 :: (h ++ ps))) h ps) (8 + ps.length) := by
  obtain ⟨_, _, hs, hd, hh, hz, bs, bd, bh, k0, k1, c0, c1⟩ := id hg
  have hT : bytesB (h ++ ps) = true := by rw [bytesB_append, bh, hz]; rfl
  have hK := skV_range (v6 := v6) (ss := ss) (ds := ds) (zs := k :: c :: 0 :: 0 :: (h ++ ps)) (by simp only [bytesB_cons, hT]; simp [k0, k1, c0, c1]) bs bd
  refine ⟨w6M_len hh, by omega, hs, hd, ?_, bs, bd⟩
  unfold w6M
  rw [bytesB_cons, bytesB_cons, bytesB_cons, bytesB_cons, hT]
  simp only [Bool.and_true, Bool.and_eq_true, decide_eq_true_eq]
  omega
set_option maxHeartbeats 16000000 in
theorem icw_long (v6 : Bool) (ss ds : List Int) (k c : Int) (h ps : List Int) (nn : Bool) (cap : Option Nat) (hl : ps.length ≤ 9223372036854775807) (hs : ss.length = 16) (hd : ds.length = 16) (hh : h.length = 4) (h1 : 1700 < ps.length) : (pvCall Try.prog KX Dm 100000 1 0 13 [.v (.bool v6), .agg (B8 ss), .agg (B8 ds), .v (.int .u8 k), .v (.int .u8 c), .agg (B8 h), .sl nn (B8 ps) ps.length cap] (fun _ => none)).map (·.1) = some (.v (.bool true)) := by
  have i1 : (1700 : Int) < (ps.length : Int) := by omega
  rw [pvCall_own (fn := Try.f13) rfl Try.func13 rfl (by decide) rfl rfl (by simp)]
  simp -implicitDefEqProofs [i1, fKnown6, splice, hs, hd, hh]
set_option maxHeartbeats 16000000 in
theorem icw_err (v6 : Bool) (ss ds : List Int) (k c : Int) (h ps : List Int) (nn : Bool) (cap : Option Nat) (hl : ps.length ≤ 9223372036854775807) (hg : good6 k c ss ds h ps ps.length) (h1 : ps.length ≤ 1700) (e : Int) (he : ¬ e = 0) (hW : w6V v6 ss ds k c h ps = w6E e) : (pvCall Try.prog KX Dm 100000 1 0 13 [.v (.bool v6), .agg (B8 ss), .agg (B8 ds), .v (.int .u8 k), .v (.int .u8 c), .agg (B8 h), .sl nn (B8 ps) ps.length cap] (fun _ => none)).map (·.1) = some (.v (.bool true)) := by
  obtain ⟨_, l5, hs, hd, hh, hz, bs, bd, bh, k0, k1, c0, c1⟩ := id hg
  have t1 : ss.take 16 = ss := List.take_of_length_le (by omega)
  have t2 : ds.take 16 = ds := List.take_of_length_le (by omega)
  have t3 : h.take 4 = h := List.take_of_length_le (by omega)
  have i1 : ¬ (1700 : Int) < (ps.length : Int) := by omega
  have l6 : ps.length ≤ 549755813888 := by omega
  have l7 : ps.take ps.length = ps := List.take_length
  have en : (e != 0) = true := by simp [he]
  rw [pvCall_own (fn := Try.f13) rfl Try.func13 rfl (by decide) rfl rfl (by simp)]
  simp -implicitDefEqProofs [i1, l5, l6, l7, hg, hz, t1, t2, t3, hs, hd, hh, fKnown6, fW6, hW, splice, Nat.testBit_eq_decide_div_mod_eq, w6E, he, en, asB8_nil'']
set_option maxHeartbeats 16000000 in
theorem icw_in (v6 : Bool) (ss ds : List Int) (k c : Int) (h ps : List Int) (nn : Bool) (cap : Option Nat) (hl : ps.length ≤ 9223372036854775807) (hg : good6 k c ss ds h ps ps.length) (h1 : ps.length ≤ 1700) (W : List Int) (hW : w6V v6 ss ds k c h ps = w6C W) (hgW : goodM ss ds W (8 + ps.length)) (hw : ¬ wiE v6 ps = 0) (hE : rdE v6 ss ds W = wiE v6 ps) (hT : rdT v6 ss ds W = noRep) : (pvCall Try.prog KX Dm 100000 1 0 13 [.v (.bool v6), .agg (B8 ss), .agg (B8 ds), .v (.int .u8 k), .v (.int .u8 c), .agg (B8 h), .sl nn (B8 ps) ps.length cap] (fun _ => none)).map (·.1) = some (.v (.bool true)) := by
  obtain ⟨_, l5, hs, hd, hh, hz, bs, bd, bh, k0, k1, c0, c1⟩ := id hg
  have t1 : ss.take 16 = ss := List.take_of_length_le (by omega)
  have t2 : ds.take 16 = ds := List.take_of_length_le (by omega)
  have t3 : h.take 4 = h := List.take_of_length_le (by omega)
  have i1 : ¬ (1700 : Int) < (ps.length : Int) := by omega
  have l6 : ps.length ≤ 549755813888 := by omega
  have l7 : ps.take ps.length = ps := List.take_length
  have m1 : W.length = 8 + ps.length := hgW.1
  have m2 : W.take (8 + ps.length) = W := List.take_of_length_le (by omega)
  have m3 : 8 + ps.length ≤ 549755813888 := by have := hgW.2.1; omega
  have en : (wiE v6 ps != 0) = true := by simp [hw]
  have wT : wiT v6 ps = noTup := by unfold wiT; rw [if_neg hw]
  rw [pvCall_own (fn := Try.f13) rfl Try.func13 rfl (by decide) rfl rfl (by simp)]
  simp -implicitDefEqProofs [i1, l5, l6, l7, hg, hz, t1, t2, t3, hs, hd, hh, fKnown6, fW6, hW, splice, Nat.testBit_eq_decide_div_mod_eq, w6C, m1, m2, m3, hgW, rdV, hE, hT, fRead, fWithin, hw, en, wT, noTup, tupA, noRep, repA, t16, B8vc, B8vn, eqV_ci, eqV_cb, eqV_n]
set_option maxHeartbeats 16000000 in
theorem icw_ok (v6 : Bool) (ss ds : List Int) (k c : Int) (h ps : List Int) (nn : Bool) (cap : Option Nat) (hl : ps.length ≤ 9223372036854775807) (hg : good6 k c ss ds h ps ps.length) (h1 : ps.length ≤ 1700) (W : List Int) (hW : w6V v6 ss ds k c h ps = w6C W) (hgW : goodM ss ds W (8 + ps.length)) (hw : wiE v6 ps = 0) (hE : rdE v6 ss ds W = wiE v6 ps) (p : Int) (S D : List Int) (sp dp : Int) (hS : S.length = 16) (hD : D.length = 16) (wT : wiT v6 ps = tupA v6 p S D sp dp) (hT : rdT v6 ss ds W = repA k c v6 p S D sp dp) : (pvCall Try.prog KX Dm 100000 1 0 13 [.v (.bool v6), .agg (B8 ss), .agg (B8 ds), .v (.int .u8 k), .v (.int .u8 c), .agg (B8 h), .sl nn (B8 ps) ps.length cap] (fun _ => none)).map (·.1) = some (.v (.bool true)) := by
  obtain ⟨_, l5, hs, hd, hh, hz, bs, bd, bh, k0, k1, c0, c1⟩ := id hg
  have t1 : ss.take 16 = ss := List.take_of_length_le (by omega)
  have t2 : ds.take 16 = ds := List.take_of_length_le (by omega)
  have t3 : h.take 4 = h := List.take_of_length_le (by omega)
  have i1 : ¬ (1700 : Int) < (ps.length : Int) := by omega
  have l6 : ps.length ≤ 549755813888 := by omega
  have l7 : ps.take ps.length = ps := List.take_length
  have m1 : W.length = 8 + ps.length := hgW.1
  have m2 : W.take (8 + ps.length) = W := List.take_of_length_le (by omega)
  have m3 : 8 + ps.length ≤ 549755813888 := by have := hgW.2.1; omega
  rw [pvCall_own (fn := Try.f13) rfl Try.func13 rfl (by decide) rfl rfl (by simp)]
  simp -implicitDefEqProofs [i1, l5, l6, l7, hg, hz, t1, t2, t3, hs, hd, hh, fKnown6, fW6, hW, splice, Nat.testBit_eq_decide_div_mod_eq, w6C, m1, m2, m3, hgW, rdV, hE, hT, fRead, fWithin, hw, wT, tupA, repA, hS, hD, B8t16 hS, B8d16 hS, B8t33 hS, B8t17 hS, B8d32 hS, B8t32 hS, B8d33 hS, B8d17 hS, B8d34 hS, B8d18 hS, B8t34 hS, B8t18 hS, B8t16 hD, B8d16 hD, B8t33 hD, B8t17 hD, B8d32 hD, B8t32 hD, B8d33 hD, B8d17 hD, B8d34 hD, B8d18 hD, B8t34 hD, B8t18 hD, valsOf_B8app, eqV_ci, eqV_cb, eqV_n, eqV_m, pairOk34 hS hD, -B8_append]
end Go.Proofs.Ytcbjjkpjbdcakaa

