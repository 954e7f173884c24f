/- The walk of ip6.Chain. -/
import Derived.Test.YtmdafjegddnecaaId
import Derived.WalkMore
namespace Go.Proofs.Ytmdafjegddnecaa
open Go.RowKit Go.Wb
set_option linter.unusedVariables false
set_option linter.unusedSimpArgs false

/-- What is wrong with a header of a kind. -/
def herr2 (k : Int) (l : List Int) : Int := if k = 43 then k3e (l.getD 3 0) else if k = 44 then k4e (l.getD 2 0) (l.getD 3 0) else 0
def isExt (n : Int) : Prop := n = 0 ∨ n = 43 ∨ n = 44 ∨ n = 60
instance (n : Int) : Decidable (isExt n) := by unfold isExt; infer_instance

/-- The chain from a header on: of j headers so far, k bytes. -/
def chainF : Nat → Int → List Int → Nat → Int → Int × Int × Int
  | 0, _, _, _, _ => (0, 0, 0)
  | f + 1, n, l, j, k =>
    if ¬ isExt n then (n, k, 0) else if 8 ≤ j then (0, 0, 3) else if n = 0 ∧ 1 ≤ j then (0, 0, 5) else if l.length < 8 then (0, 0, 4) else
    if (l.length : Int) < hlen n l then (0, 0, 4) else if herr2 n l = 0 then chainF f (l.getD 0 0) (l.drop (hlen n l).toNat) (j + 1) (k + hlen n l) else (0, 0, herr2 n l)

theorem find_not (b : Nat) (n : Int) (h : ¬ isExt n) : Instr.findNow (.int .u8) (.int .u8 n) (ent b).toList 0 = some none := by
  unfold isExt at h
  have h0 : (n == 0) = false := by simp; omega
  have h1 : (n == 60) = false := by simp; omega
  have h2 : (n == 43) = false := by simp; omega
  have h3 : (n == 44) = false := by simp; omega
  simp [ent, Instr.findNow, Instr.sameNow, h0, h1, h2, h3]
theorem zero_fn (w : World) : (zeroValue 201).run Try.prog w = .ok .nilFunc w := by kernel_rfl

theorem wpList_look {P : Program} {ops : Array Oper} {rest : List Oper} {op : Oper} {ac : Act} {w : World} {Q : Exit → Act → World → Prop} (hg : op.guard = none) (t : TypeId) (m k : Operand) (ho : op.op = .lookup t m k true)
    (r : Nat) (kk : IntKind) (n : Int) (em : ac.eval m = .map (some r)) (ek : ac.eval k = .int kk n) (v : Value) (hrun : (Instr.lookup t (.map (some r)) (.int kk n) true).run P w = .ok v w) (K : wpList P ops Q rest (ac.put op.dst v) w) : wpList P ops Q (op :: rest) ac w := by
  refine wpList_plain hg fun K' hK => ?_
  unfold Oper.wp
  simp [execOp, ho, em, ek, hrun, Result.andThen]
  exact hK _ _ K

theorem Row8.from {w : World} {b off len cap : Nat} {zs : List Int} (h : Row8 w (some ⟨b, off, none⟩) len cap zs) {k : Nat} (hk : k ≤ len) : Row8 w (some ⟨b, off + k, none⟩) (len - k) (cap - k) (zs.drop k) := h.drop hk

set_option maxRecDepth 100000 in
set_option maxHeartbeats 4000000 in
theorem chain_any (n0 : Int) (a : Option Addr) (len cap : Nat) (zs : List Int) (w : World) (r1 r2 r3 : Int) (hn0 : 0 ≤ n0) (hn1 : n0 ≤ 255) (h : Row8 w a len cap zs) (hl : len ≤ 1099511627776) (hr : chainF 9 n0 zs 0 0 = (r1, r2, r3)) :
    Calls Try.prog 65 #[.int .u8 n0, .slice a len cap] w fun e w' => e = .returned (.tuple #[.int .u8 r1, .int .i64 r2, .int .i64 r3]) ∧ Below w.heap.size w w' := by
  have H := Lib.hid h
  have R := Lib.hid hr
  have hcap := h.cap_le
  have hle := h.le
  clear h hr
  go_enter Try.func65, Try.ntmps65
  go_wp2_with fail
  go_step3
  go_wp2_with fail
  refine (kinds_any w).mono ?_
  rintro e w1 ⟨rfl, hg, hm, hb⟩
  have G := Lib.hid hg
  have M := Lib.hid hm
  have B := Lib.hid hb
  have H1 : Hid (Row8 w1 a len cap zs) := H.out.below hb
  clear hg hm hb H
  go_wp2_with fail
  go_step3
  go_wp2_with fail
  go_loop [0, 8, 9] (fun nx at_ m => ∃ (n : Int) (k j : Nat), nx = .int .u8 n ∧ at_ = .int .i64 k ∧ m = .int .i64 j ∧ 0 ≤ n ∧ n ≤ 255 ∧ k ≤ len ∧ j ≤ 8 ∧ Hid (chainF (9 - j) n (zs.drop k) j k = (r1, r2, r3))) (fun _ _ m => 9 - (intOf m).toNat)
  case atStart => exact ⟨n0, 0, 0, rfl, rfl, rfl, hn0, hn1, by omega, by omega, R⟩
  case round =>
    obtain ⟨n, k, j, rfl, rfl, rfl, n0', n1', hk, hj, hR⟩ := hrel
    have hF : Hid (∃ f, 9 - j = f + 1 ∧ f = 9 - (j + 1)) := ⟨8 - j, by omega, by omega⟩
    obtain ⟨f, hf, hf'⟩ := hF.out
    have hS := hR.out
    rw [hf, chainF] at hS
    clear hF hR
    have HF := Lib.hid hf'
    clear hf hf' R
    have ldrop : Hid ((zs.drop k).length = len - k) := by show _ = _; rw [List.length_drop, H1.out.length]
    by_cases hext : isExt n
    · rw [if_neg (by simpa using hext)] at hS
      rcases hext with rfl | rfl | rfl | rfl
      · have LK := run_lookup_lit w1 199 5 201 .u8 (w.heap.size + 1) (ent w.heap.size) 4 0 0 (.func (.func 153) #[] #[.pointer (some ⟨w.heap.size, 0, none⟩)]) Try.underlying199 Try.underlying5 M.out rfl
        have L := Lib.hid LK
        clear LK n0' n1'
        by_cases hj8 : 8 ≤ j
        · rw [if_pos hj8] at hS
          have E : Hid (r1 = 0 ∧ r2 = 0 ∧ r3 = 3) := by cases hS; exact ⟨rfl, rfl, rfl⟩
          clear hS
          go_wp2_with (refine wpList_look rfl 199 _ _ rfl (w.heap.size + 1) .u8 0 rfl rfl _ L.out ?_; clear L)
          go_ret3
          exact ⟨by obtain ⟨h1, h2, h3⟩ := E.out; rw [h1, h2, h3]; rfl, B.out⟩
        · rw [if_neg hj8] at hS
          by_cases hj1 : 1 ≤ j
          · rw [if_pos ⟨rfl, hj1⟩] at hS
            have E : Hid (r1 = 0 ∧ r2 = 0 ∧ r3 = 5) := by cases hS; exact ⟨rfl, rfl, rfl⟩
            clear hS
            go_wp2_with (refine wpList_look rfl 199 _ _ rfl (w.heap.size + 1) .u8 0 rfl rfl _ L.out ?_; clear L)
            go_ret3
            exact ⟨by obtain ⟨h1, h2, h3⟩ := E.out; rw [h1, h2, h3]; rfl, B.out⟩
          · rw [if_neg (fun h => hj1 h.2)] at hS
            rw [ldrop.out] at hS
            by_cases hsh : len - k < 8
            · rw [if_pos hsh] at hS
              have E : Hid (r1 = 0 ∧ r2 = 0 ∧ r3 = 4) := by cases hS; exact ⟨rfl, rfl, rfl⟩
              clear hS
              go_wp2_with (refine wpList_look rfl 199 _ _ rfl (w.heap.size + 1) .u8 0 rfl rfl _ L.out ?_; clear L)
              go_ret3
              exact ⟨by obtain ⟨h1, h2, h3⟩ := E.out; rw [h1, h2, h3]; rfl, B.out⟩
            · rw [if_neg hsh] at hS
              obtain ⟨b, off, rfl⟩ := H1.out.none_of (by omega)
              have D := Lib.hid (H1.out.from hk)
              have CK := Lib.hid (k2_any D.out (by omega) G.out)
              have rb := D.out.getD 1
              have c0 := D.out.at (i := 0) (by omega)
              rw [Nat.add_zero] at c0
              have q0 := D.out.getD 0
              have HL : Hid (hlen 0 (zs.drop k) = 8 * (1 + (zs.drop k).getD 1 0)) := by show _ = _; rw [hlen, if_neg (by omega)]
              have HE : Hid (herr2 0 (zs.drop k) = 0) := by show _ = _; rw [herr2, if_neg (by omega), if_neg (by omega)]
              obtain ⟨hl, hhl⟩ : ∃ hl, 8 * (1 + (zs.drop k).getD 1 0) = hl := ⟨_, rfl⟩
              have hl8 : 8 ≤ hl := by omega
              have hl9 : hl ≤ 2048 := by omega
              rw [hhl] at HL CK
              clear hhl rb
              rw [HL.out, HE.out] at hS
              obtain ⟨nx, hnx⟩ : ∃ nx, (zs.drop k).getD 0 0 = nx := ⟨_, rfl⟩
              rw [hnx] at c0 q0 hS
              obtain ⟨q00, q01⟩ := q0
              have kc : (k : Int) < (cap : Int) := by omega
              have kl : (k : Int) ≤ (len : Int) := by omega
              have kl2 : (k : Int) < (len : Int) := by omega
              have k0 : (0 : Int) ≤ (k : Int) := by omega
              have ln : (len : Int) ≤ (cap : Int) := by omega
              clear hnx HL HE D ldrop
              by_cases hlong : ((len - k : Nat) : Int) < hl
              · rw [if_pos hlong] at hS
                have E : Hid (r1 = 0 ∧ r2 = 0 ∧ r3 = 4) := by cases hS; exact ⟨rfl, rfl, rfl⟩
                have hlong2 : (len : Int) - (k : Int) < hl := by omega
                clear hS hlong
                go_wp2_with (refine wpList_look rfl 199 _ _ rfl (w.heap.size + 1) .u8 0 rfl rfl _ L.out ?_; clear L)
                refine CK.out.mono ?_
                rintro e w2 ⟨rfl, rfl⟩
                go_wp2_with fail
                (try rw [Exit.noGoto_ret])
                go_ret3
                exact ⟨by obtain ⟨h1, h2, h3⟩ := E.out; rw [h1, h2, h3]; rfl, B.out⟩
              · rw [if_neg hlong] at hS
                have hlong2 : hl ≤ (len : Int) - (k : Int) := by omega
                rw [if_pos rfl, List.drop_drop] at hS
                have HR := Lib.hid hS
                have kk : Hid (((k + (hl : Int).toNat : Nat) : Int) = (k : Int) + hl) := by show _ = _; omega
                clear hS hlong
                go_wp2_with (refine wpList_look rfl 199 _ _ rfl (w.heap.size + 1) .u8 0 rfl rfl _ L.out ?_; clear L)
                refine CK.out.mono ?_
                rintro e w2 ⟨rfl, rfl⟩
                go_wp2_with fail
                go_round
                case rel => exact ⟨nx, k + (hl : Int).toNat, j + 1, rfl, by rw [kk.out], by go_num, q00, q01, by omega, by omega, by rw [← HF.out, kk.out]; exact HR.out⟩
                case measure => simp [intOf]; omega
      · have LK := run_lookup_lit w1 199 5 201 .u8 (w.heap.size + 1) (ent w.heap.size) 4 43 2 (.func (.func 154) #[] #[.pointer (some ⟨w.heap.size, 0, none⟩)]) Try.underlying199 Try.underlying5 M.out rfl
        have L := Lib.hid LK
        clear LK n0' n1'
        by_cases hj8 : 8 ≤ j
        · rw [if_pos hj8] at hS
          have E : Hid (r1 = 0 ∧ r2 = 0 ∧ r3 = 3) := by cases hS; exact ⟨rfl, rfl, rfl⟩
          clear hS
          go_wp2_with (refine wpList_look rfl 199 _ _ rfl (w.heap.size + 1) .u8 43 rfl rfl _ L.out ?_; clear L)
          go_ret3
          exact ⟨by obtain ⟨h1, h2, h3⟩ := E.out; rw [h1, h2, h3]; rfl, B.out⟩
        · rw [if_neg hj8] at hS
          rw [if_neg (by omega)] at hS
          rw [ldrop.out] at hS
          by_cases hsh : len - k < 8
          · rw [if_pos hsh] at hS
            have E : Hid (r1 = 0 ∧ r2 = 0 ∧ r3 = 4) := by cases hS; exact ⟨rfl, rfl, rfl⟩
            clear hS
            go_wp2_with (refine wpList_look rfl 199 _ _ rfl (w.heap.size + 1) .u8 43 rfl rfl _ L.out ?_; clear L)
            go_ret3
            exact ⟨by obtain ⟨h1, h2, h3⟩ := E.out; rw [h1, h2, h3]; rfl, B.out⟩
          · rw [if_neg hsh] at hS
            obtain ⟨b, off, rfl⟩ := H1.out.none_of (by omega)
            have D := Lib.hid (H1.out.from hk)
            have CK := Lib.hid (k3_any D.out (by omega) G.out)
            have rb := D.out.getD 1
            have c0 := D.out.at (i := 0) (by omega)
            rw [Nat.add_zero] at c0
            have q0 := D.out.getD 0
            have HL : Hid (hlen 43 (zs.drop k) = 8 * (1 + (zs.drop k).getD 1 0)) := by show _ = _; rw [hlen, if_neg (by omega)]
            have HE : Hid (herr2 43 (zs.drop k) = k3e ((zs.drop k).getD 3 0)) := by show _ = _; rw [herr2, if_pos rfl]
            obtain ⟨he, hhe⟩ : ∃ he, k3e ((zs.drop k).getD 3 0) = he := ⟨_, rfl⟩
            rw [hhe] at HE CK
            clear hhe
            obtain ⟨hl, hhl⟩ : ∃ hl, 8 * (1 + (zs.drop k).getD 1 0) = hl := ⟨_, rfl⟩
            have hl8 : 8 ≤ hl := by omega
            have hl9 : hl ≤ 2048 := by omega
            rw [hhl] at HL CK
            clear hhl rb
            rw [HL.out, HE.out] at hS
            obtain ⟨nx, hnx⟩ : ∃ nx, (zs.drop k).getD 0 0 = nx := ⟨_, rfl⟩
            rw [hnx] at c0 q0 hS
            obtain ⟨q00, q01⟩ := q0
            have kc : (k : Int) < (cap : Int) := by omega
            have kl : (k : Int) ≤ (len : Int) := by omega
            have kl2 : (k : Int) < (len : Int) := by omega
            have k0 : (0 : Int) ≤ (k : Int) := by omega
            have ln : (len : Int) ≤ (cap : Int) := by omega
            clear hnx HL HE D ldrop
            by_cases hlong : ((len - k : Nat) : Int) < hl
            · rw [if_pos hlong] at hS
              have E : Hid (r1 = 0 ∧ r2 = 0 ∧ r3 = 4) := by cases hS; exact ⟨rfl, rfl, rfl⟩
              have hlong2 : (len : Int) - (k : Int) < hl := by omega
              clear hS hlong
              go_wp2_with (refine wpList_look rfl 199 _ _ rfl (w.heap.size + 1) .u8 43 rfl rfl _ L.out ?_; clear L)
              refine CK.out.mono ?_
              rintro e w2 ⟨rfl, rfl⟩
              go_wp2_with fail
              (try rw [Exit.noGoto_ret])
              go_ret3
              exact ⟨by obtain ⟨h1, h2, h3⟩ := E.out; rw [h1, h2, h3]; rfl, B.out⟩
            · rw [if_neg hlong] at hS
              have hlong2 : hl ≤ (len : Int) - (k : Int) := by omega
              by_cases hz : he = 0
              · subst hz
                rw [if_pos rfl, List.drop_drop] at hS
                have HR := Lib.hid hS
                have kk : Hid (((k + (hl : Int).toNat : Nat) : Int) = (k : Int) + hl) := by show _ = _; omega
                clear hS hlong
                go_wp2_with (refine wpList_look rfl 199 _ _ rfl (w.heap.size + 1) .u8 43 rfl rfl _ L.out ?_; clear L)
                refine CK.out.mono ?_
                rintro e w2 ⟨rfl, rfl⟩
                go_wp2_with fail
                go_round
                case rel => exact ⟨nx, k + (hl : Int).toNat, j + 1, rfl, by rw [kk.out], by go_num, q00, q01, by omega, by omega, by rw [← HF.out, kk.out]; exact HR.out⟩
                case measure => simp [intOf]; omega
              · rw [if_neg hz] at hS
                have E : Hid (r1 = 0 ∧ r2 = 0 ∧ r3 = he) := by cases hS; exact ⟨rfl, rfl, rfl⟩
                have hz2 : (he == 0) = false := by simp; omega
                clear hS hlong hz
                go_wp2_with (refine wpList_look rfl 199 _ _ rfl (w.heap.size + 1) .u8 43 rfl rfl _ L.out ?_; clear L)
                refine CK.out.mono ?_
                rintro e w2 ⟨rfl, rfl⟩
                go_wp2_with fail
                (try rw [Exit.noGoto_ret])
                go_ret3
                exact ⟨by obtain ⟨h1, h2, h3⟩ := E.out; rw [h1, h2, h3]; rfl, B.out⟩
      · have LK := run_lookup_lit w1 199 5 201 .u8 (w.heap.size + 1) (ent w.heap.size) 4 44 3 (.func (.func 155) #[] #[]) Try.underlying199 Try.underlying5 M.out rfl
        have L := Lib.hid LK
        clear LK n0' n1'
        by_cases hj8 : 8 ≤ j
        · rw [if_pos hj8] at hS
          have E : Hid (r1 = 0 ∧ r2 = 0 ∧ r3 = 3) := by cases hS; exact ⟨rfl, rfl, rfl⟩
          clear hS
          go_wp2_with (refine wpList_look rfl 199 _ _ rfl (w.heap.size + 1) .u8 44 rfl rfl _ L.out ?_; clear L)
          go_ret3
          exact ⟨by obtain ⟨h1, h2, h3⟩ := E.out; rw [h1, h2, h3]; rfl, B.out⟩
        · rw [if_neg hj8] at hS
          rw [if_neg (by omega)] at hS
          rw [ldrop.out] at hS
          by_cases hsh : len - k < 8
          · rw [if_pos hsh] at hS
            have E : Hid (r1 = 0 ∧ r2 = 0 ∧ r3 = 4) := by cases hS; exact ⟨rfl, rfl, rfl⟩
            clear hS
            go_wp2_with (refine wpList_look rfl 199 _ _ rfl (w.heap.size + 1) .u8 44 rfl rfl _ L.out ?_; clear L)
            go_ret3
            exact ⟨by obtain ⟨h1, h2, h3⟩ := E.out; rw [h1, h2, h3]; rfl, B.out⟩
          · rw [if_neg hsh] at hS
            obtain ⟨b, off, rfl⟩ := H1.out.none_of (by omega)
            have D := Lib.hid (H1.out.from hk)
            have CK := Lib.hid (k4_any D.out (by omega))
            have rb := D.out.getD 1
            have c0 := D.out.at (i := 0) (by omega)
            rw [Nat.add_zero] at c0
            have q0 := D.out.getD 0
            have HL : Hid (hlen 44 (zs.drop k) = 8) := by show _ = _; rw [hlen, if_pos rfl]
            have HE : Hid (herr2 44 (zs.drop k) = k4e ((zs.drop k).getD 2 0) ((zs.drop k).getD 3 0)) := by show _ = _; rw [herr2, if_neg (by omega), if_pos rfl]
            obtain ⟨he, hhe⟩ : ∃ he, k4e ((zs.drop k).getD 2 0) ((zs.drop k).getD 3 0) = he := ⟨_, rfl⟩
            rw [hhe] at HE CK
            clear hhe
            clear rb
            rw [HL.out, HE.out] at hS
            obtain ⟨nx, hnx⟩ : ∃ nx, (zs.drop k).getD 0 0 = nx := ⟨_, rfl⟩
            rw [hnx] at c0 q0 hS
            obtain ⟨q00, q01⟩ := q0
            have kc : (k : Int) < (cap : Int) := by omega
            have kl : (k : Int) ≤ (len : Int) := by omega
            have kl2 : (k : Int) < (len : Int) := by omega
            have k0 : (0 : Int) ≤ (k : Int) := by omega
            have ln : (len : Int) ≤ (cap : Int) := by omega
            clear hnx HL HE D ldrop
            by_cases hlong : ((len - k : Nat) : Int) < 8
            · exact absurd hlong (by omega)
            · rw [if_neg hlong] at hS
              have hlong2 : 8 ≤ (len : Int) - (k : Int) := by omega
              by_cases hz : he = 0
              · subst hz
                rw [if_pos rfl, List.drop_drop] at hS
                have HR := Lib.hid hS
                have kk : Hid (((k + (8 : Int).toNat : Nat) : Int) = (k : Int) + 8) := by show _ = _; omega
                clear hS hlong
                go_wp2_with (refine wpList_look rfl 199 _ _ rfl (w.heap.size + 1) .u8 44 rfl rfl _ L.out ?_; clear L)
                refine CK.out.mono ?_
                rintro e w2 ⟨rfl, rfl⟩
                go_wp2_with fail
                go_round
                case rel => exact ⟨nx, k + (8 : Int).toNat, j + 1, rfl, by rw [kk.out], by go_num, q00, q01, by omega, by omega, by rw [← HF.out, kk.out]; exact HR.out⟩
                case measure => simp [intOf]; omega
              · rw [if_neg hz] at hS
                have E : Hid (r1 = 0 ∧ r2 = 0 ∧ r3 = he) := by cases hS; exact ⟨rfl, rfl, rfl⟩
                have hz2 : (he == 0) = false := by simp; omega
                clear hS hlong hz
                go_wp2_with (refine wpList_look rfl 199 _ _ rfl (w.heap.size + 1) .u8 44 rfl rfl _ L.out ?_; clear L)
                refine CK.out.mono ?_
                rintro e w2 ⟨rfl, rfl⟩
                go_wp2_with fail
                (try rw [Exit.noGoto_ret])
                go_ret3
                exact ⟨by obtain ⟨h1, h2, h3⟩ := E.out; rw [h1, h2, h3]; rfl, B.out⟩
      · have LK := run_lookup_lit w1 199 5 201 .u8 (w.heap.size + 1) (ent w.heap.size) 4 60 1 (.func (.func 153) #[] #[.pointer (some ⟨w.heap.size, 0, none⟩)]) Try.underlying199 Try.underlying5 M.out rfl
        have L := Lib.hid LK
        clear LK n0' n1'
        by_cases hj8 : 8 ≤ j
        · rw [if_pos hj8] at hS
          have E : Hid (r1 = 0 ∧ r2 = 0 ∧ r3 = 3) := by cases hS; exact ⟨rfl, rfl, rfl⟩
          clear hS
          go_wp2_with (refine wpList_look rfl 199 _ _ rfl (w.heap.size + 1) .u8 60 rfl rfl _ L.out ?_; clear L)
          go_ret3
          exact ⟨by obtain ⟨h1, h2, h3⟩ := E.out; rw [h1, h2, h3]; rfl, B.out⟩
        · rw [if_neg hj8] at hS
          rw [if_neg (by omega)] at hS
          rw [ldrop.out] at hS
          by_cases hsh : len - k < 8
          · rw [if_pos hsh] at hS
            have E : Hid (r1 = 0 ∧ r2 = 0 ∧ r3 = 4) := by cases hS; exact ⟨rfl, rfl, rfl⟩
            clear hS
            go_wp2_with (refine wpList_look rfl 199 _ _ rfl (w.heap.size + 1) .u8 60 rfl rfl _ L.out ?_; clear L)
            go_ret3
            exact ⟨by obtain ⟨h1, h2, h3⟩ := E.out; rw [h1, h2, h3]; rfl, B.out⟩
          · rw [if_neg hsh] at hS
            obtain ⟨b, off, rfl⟩ := H1.out.none_of (by omega)
            have D := Lib.hid (H1.out.from hk)
            have CK := Lib.hid (k2_any D.out (by omega) G.out)
            have rb := D.out.getD 1
            have c0 := D.out.at (i := 0) (by omega)
            rw [Nat.add_zero] at c0
            have q0 := D.out.getD 0
            have HL : Hid (hlen 60 (zs.drop k) = 8 * (1 + (zs.drop k).getD 1 0)) := by show _ = _; rw [hlen, if_neg (by omega)]
            have HE : Hid (herr2 60 (zs.drop k) = 0) := by show _ = _; rw [herr2, if_neg (by omega), if_neg (by omega)]
            obtain ⟨hl, hhl⟩ : ∃ hl, 8 * (1 + (zs.drop k).getD 1 0) = hl := ⟨_, rfl⟩
            have hl8 : 8 ≤ hl := by omega
            have hl9 : hl ≤ 2048 := by omega
            rw [hhl] at HL CK
            clear hhl rb
            rw [HL.out, HE.out] at hS
            obtain ⟨nx, hnx⟩ : ∃ nx, (zs.drop k).getD 0 0 = nx := ⟨_, rfl⟩
            rw [hnx] at c0 q0 hS
            obtain ⟨q00, q01⟩ := q0
            have kc : (k : Int) < (cap : Int) := by omega
            have kl : (k : Int) ≤ (len : Int) := by omega
            have kl2 : (k : Int) < (len : Int) := by omega
            have k0 : (0 : Int) ≤ (k : Int) := by omega
            have ln : (len : Int) ≤ (cap : Int) := by omega
            clear hnx HL HE D ldrop
            by_cases hlong : ((len - k : Nat) : Int) < hl
            · rw [if_pos hlong] at hS
              have E : Hid (r1 = 0 ∧ r2 = 0 ∧ r3 = 4) := by cases hS; exact ⟨rfl, rfl, rfl⟩
              have hlong2 : (len : Int) - (k : Int) < hl := by omega
              clear hS hlong
              go_wp2_with (refine wpList_look rfl 199 _ _ rfl (w.heap.size + 1) .u8 60 rfl rfl _ L.out ?_; clear L)
              refine CK.out.mono ?_
              rintro e w2 ⟨rfl, rfl⟩
              go_wp2_with fail
              (try rw [Exit.noGoto_ret])
              go_ret3
              exact ⟨by obtain ⟨h1, h2, h3⟩ := E.out; rw [h1, h2, h3]; rfl, B.out⟩
            · rw [if_neg hlong] at hS
              have hlong2 : hl ≤ (len : Int) - (k : Int) := by omega
              rw [if_pos rfl, List.drop_drop] at hS
              have HR := Lib.hid hS
              have kk : Hid (((k + (hl : Int).toNat : Nat) : Int) = (k : Int) + hl) := by show _ = _; omega
              clear hS hlong
              go_wp2_with (refine wpList_look rfl 199 _ _ rfl (w.heap.size + 1) .u8 60 rfl rfl _ L.out ?_; clear L)
              refine CK.out.mono ?_
              rintro e w2 ⟨rfl, rfl⟩
              go_wp2_with fail
              go_round
              case rel => exact ⟨nx, k + (hl : Int).toNat, j + 1, rfl, by rw [kk.out], by go_num, q00, q01, by omega, by omega, by rw [← HF.out, kk.out]; exact HR.out⟩
              case measure => simp [intOf]; omega
    · rw [if_pos hext] at hS
      have E : Hid (r1 = n ∧ r2 = k ∧ r3 = 0) := by cases hS; exact ⟨rfl, rfl, rfl⟩
      have LK := run_lookup_not w1 199 5 201 .u8 (w.heap.size + 1) (ent w.heap.size) 4 n .nilFunc Try.underlying199 Try.underlying5 M.out zero_fn (find_not _ n hext)
      have L := Lib.hid LK
      clear hS hext LK
      go_wp2_with (refine wpList_look rfl 199 _ _ rfl (w.heap.size + 1) .u8 n rfl rfl _ L.out ?_; clear L)
      go_ret3
      exact ⟨by obtain ⟨h1, h2, h3⟩ := E.out; rw [h1, h2, h3]; rfl, B.out⟩
end Go.Proofs.Ytmdafjegddnecaa
