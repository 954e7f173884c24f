import Derived.Test.YtmdafjegddnecaaMs
import Derived.Test.YtmdafjegddnecaaLr
/- The law EmitBack: its run. -/
namespace Go.Proofs.Ytmdafjegddnecaa
open Go.Pm Go.Wb
set_option linter.unusedVariables false
set_option linter.unusedSimpArgs false
set_option maxRecDepth 1000000
theorem eqV_ci (k : IntKind) (a : Int) (x y : List Value) : eqV (.int k a :: x) (.int k a :: y) = eqV x y := by
  show (decide _ && eqV x y) = _
  simp
theorem eqV_cb (a : Bool) (x y : List Value) : eqV (.bool a :: x) (.bool a :: y) = eqV x y := by
  show (decide _ && eqV x y) = _
  simp
theorem eqV_n : eqV [] [] = true := rfl
theorem eqV_m (S : List Int) (x y : List Value) : eqV (S.map (Value.int .u8) ++ x) (S.map (Value.int .u8) ++ y) = eqV x y := by
  induction S with
  | nil => rfl
  | cons z S ih => show eqV (.int .u8 z :: (S.map (Value.int .u8) ++ x)) (.int .u8 z :: (S.map (Value.int .u8) ++ y)) = _; rw [eqV_ci, ih]
theorem pairOk_app {S : List Int} {ks : List LK} {x : List Value} : pairOk ((S.map fun _ => LK.int) ++ ks) (S.map (Value.int .u8) ++ x) (S.map (Value.int .u8) ++ x) = pairOk ks x x := by
  induction S with
  | nil => rfl
  | cons z S ih => simp only [List.map_cons, List.cons_append, pairOk, leafOk, decide_true, Bool.true_and]; exact ih
theorem pairOk34 {S E : List Int} (hS : S.length = 16) (hE : E.length = 16) (sp dp : Int) : pairOk [.int, .int, .int, .int, .int, .int, .int, .int, .int, .int, .int, .int, .int, .int, .int, .int, .int, .int, .int, .int, .int, .int, .int, .int, .int, .int, .int, .int, .int, .int, .int, .int, .int, .int] (S.map (Value.int .u8) ++ (E.map (Value.int .u8) ++ [Value.int .u16 sp, Value.int .u16 dp])) (S.map (Value.int .u8) ++ (E.map (Value.int .u8) ++ [Value.int .u16 sp, Value.int .u16 dp])) = true := by
  have e : ([.int, .int, .int, .int, .int, .int, .int, .int, .int, .int, .int, .int, .int, .int, .int, .int, .int, .int, .int, .int, .int, .int, .int, .int, .int, .int, .int, .int, .int, .int, .int, .int, .int, .int] : List LK) = (S.map fun _ => LK.int) ++ ((E.map fun _ => LK.int) ++ [.int, .int]) := by rw [kinds_of hS, kinds_of hE]; rfl
  rw [e, pairOk_app, pairOk_app]; rfl
noncomputable def KEB : Nat → Option Con
  | 92 => some fMSite
  | 32 => some fEWrap
  | 93 => some fEthW
  | 91 => some fHTuple
  | 90 => some fEPort
  | 71 => some fEthR
  | 72 => some fEOurs
  | 33 => some fEUnwrap
  | 34 => some fKnown30
  | _ => none
theorem keb_ok : KOk Try.prog KEB := fun f F h => by
  unfold KEB at h
  split at h
  · cases h; exact ⟨msite_pure, _, Try.func92, rfl, by decide⟩
  · cases h; exact ⟨ewrap_pure, _, Try.func32, rfl, by decide⟩
  · cases h; exact ⟨ethw_pure, _, Try.func93, rfl, by decide⟩
  · cases h; exact ⟨htuple_pure, _, Try.func91, rfl, by decide⟩
  · cases h; exact ⟨eport_pure, _, Try.func90, rfl, by decide⟩
  · cases h; exact ⟨eread_pure, _, Try.func71, rfl, by decide⟩
  · cases h; exact ⟨eours_pure, _, Try.func72, rfl, by decide⟩
  · cases h; exact ⟨eunwrap_pure, _, Try.func33, rfl, by decide⟩
  · cases h; exact ⟨known30_pure, _, Try.func34, rfl, by decide⟩
  · cases h
section
variable {D : FuncId → Nat → List Nat} {L d px : Nat} {args : List AV} {m : Mem}
theorem ckeb_msite : pvCall Try.prog KEB D L d px 92 args m = callBy fMSite m px args := pvCall_by rfl
theorem ckeb_ewrap : pvCall Try.prog KEB D L d px 32 args m = callBy fEWrap m px args := pvCall_by rfl
theorem ckeb_ethw : pvCall Try.prog KEB D L d px 93 args m = callBy fEthW m px args := pvCall_by rfl
theorem ckeb_htuple : pvCall Try.prog KEB D L d px 91 args m = callBy fHTuple m px args := pvCall_by rfl
theorem ckeb_eport : pvCall Try.prog KEB D L d px 90 args m = callBy fEPort m px args := pvCall_by rfl
theorem ckeb_ethr : pvCall Try.prog KEB D L d px 71 args m = callBy fEthR m px args := pvCall_by rfl
theorem ckeb_eours : pvCall Try.prog KEB D L d px 72 args m = callBy fEOurs m px args := pvCall_by rfl
theorem ckeb_eunwrap : pvCall Try.prog KEB D L d px 33 args m = callBy fEUnwrap m px args := pvCall_by rfl
theorem ckeb_known : pvCall Try.prog KEB D L d px 34 args m = callBy fKnown30 m px args := pvCall_by rfl
end
theorem ekeb_msite : KEB 92 = some (.pure fMSite) := rfl
theorem ekeb_ewrap : KEB 32 = some (.pure fEWrap) := rfl
theorem ekeb_ethw : KEB 93 = some (.pure fEthW) := rfl
theorem ekeb_htuple : KEB 91 = some (.pure fHTuple) := rfl
theorem ekeb_eport : KEB 90 = some (.pure fEPort) := rfl
theorem ekeb_ethr : KEB 71 = some (.pure fEthR) := rfl
theorem ekeb_eours : KEB 72 = some (.pure fEOurs) := rfl
theorem ekeb_eunwrap : KEB 33 = some (.pure fEUnwrap) := rfl
theorem ekeb_known : KEB 34 = some (.pure fKnown30) := rfl
attribute [simp] ckeb_msite ekeb_msite ckeb_ewrap ekeb_ewrap ckeb_ethw ekeb_ethw ckeb_htuple ekeb_htuple ckeb_eport ekeb_eport ckeb_ethr ekeb_ethr ckeb_eours ekeb_eours ckeb_eunwrap ekeb_eunwrap ckeb_known ekeb_known
def backA (nm : Value) (v6 : Bool) (addr : List Int) (b0 b1 b2 b3 b4 b5 : Value) : AV := .agg (.v nm :: .v (.bool v6) :: (B8 addr ++ [.v b0, .v b1, .v b2, .v b3, .v b4, .v b5]))
def packA (ed es : List Int) (ty : Int) (fv6 : Bool) (pr : Int) (S D : List Int) (sp dp : Int) (fl rep : Value) (nn : Bool) (inner : List Int) (cap : Option Nat) : AV := .agg (B8 ed ++ (B8 es ++ (.v (.int .u16 ty) :: .v (.bool fv6) :: .v (.int .u8 pr) :: (B8 S ++ (B8 D ++ [.v (.int .u16 sp), .v (.int .u16 dp), .v fl, .v rep, .sl nn (B8 inner) inner.length cap])))))
theorem F8d19 {ss : List Int} (h : ss.length = 16) (T : List AV) : (B8 ss ++ T).drop 19 = T.drop 3 := by
  rw [show (19 : Nat) = 16 + 3 from rfl, ← List.drop_drop, B8d16 h]
theorem F8t19 {ss : List Int} (h : ss.length = 16) (T : List AV) : (B8 ss ++ T).take 19 = B8 ss ++ T.take 3 := by
  rw [List.take_append, B8_length, h, List.take_of_length_le (by simp [h])]
theorem F8d20 {ss : List Int} (h : ss.length = 16) (T : List AV) : (B8 ss ++ T).drop 20 = T.drop 4 := by
  rw [show (20 : Nat) = 16 + 4 from rfl, ← List.drop_drop, B8d16 h]
theorem F8t20 {ss : List Int} (h : ss.length = 16) (T : List AV) : (B8 ss ++ T).take 20 = B8 ss ++ T.take 4 := by
  rw [List.take_append, B8_length, h, List.take_of_length_le (by simp [h])]
theorem F8d21 {ss : List Int} (h : ss.length = 16) (T : List AV) : (B8 ss ++ T).drop 21 = T.drop 5 := by
  rw [show (21 : Nat) = 16 + 5 from rfl, ← List.drop_drop, B8d16 h]
theorem F8t21 {ss : List Int} (h : ss.length = 16) (T : List AV) : (B8 ss ++ T).take 21 = B8 ss ++ T.take 5 := by
  rw [List.take_append, B8_length, h, List.take_of_length_le (by simp [h])]
theorem F8d22 {ss : List Int} (h : ss.length = 16) (T : List AV) : (B8 ss ++ T).drop 22 = T.drop 6 := by
  rw [show (22 : Nat) = 16 + 6 from rfl, ← List.drop_drop, B8d16 h]
theorem F8t22 {ss : List Int} (h : ss.length = 16) (T : List AV) : (B8 ss ++ T).take 22 = B8 ss ++ T.take 6 := by
  rw [List.take_append, B8_length, h, List.take_of_length_le (by simp [h])]
theorem F8d23 {ss : List Int} (h : ss.length = 16) (T : List AV) : (B8 ss ++ T).drop 23 = T.drop 7 := by
  rw [show (23 : Nat) = 16 + 7 from rfl, ← List.drop_drop, B8d16 h]
theorem F8t23 {ss : List Int} (h : ss.length = 16) (T : List AV) : (B8 ss ++ T).take 23 = B8 ss ++ T.take 7 := by
  rw [List.take_append, B8_length, h, List.take_of_length_le (by simp [h])]
theorem F8d35 {ss : List Int} (h : ss.length = 16) (T : List AV) : (B8 ss ++ T).drop 35 = T.drop 19 := by
  rw [show (35 : Nat) = 16 + 19 from rfl, ← List.drop_drop, B8d16 h]
theorem F8t35 {ss : List Int} (h : ss.length = 16) (T : List AV) : (B8 ss ++ T).take 35 = B8 ss ++ T.take 19 := by
  rw [List.take_append, B8_length, h, List.take_of_length_le (by simp [h])]
theorem F8d36 {ss : List Int} (h : ss.length = 16) (T : List AV) : (B8 ss ++ T).drop 36 = T.drop 20 := by
  rw [show (36 : Nat) = 16 + 20 from rfl, ← List.drop_drop, B8d16 h]
theorem F8t36 {ss : List Int} (h : ss.length = 16) (T : List AV) : (B8 ss ++ T).take 36 = B8 ss ++ T.take 20 := by
  rw [List.take_append, B8_length, h, List.take_of_length_le (by simp [h])]
theorem F8d37 {ss : List Int} (h : ss.length = 16) (T : List AV) : (B8 ss ++ T).drop 37 = T.drop 21 := by
  rw [show (37 : Nat) = 16 + 21 from rfl, ← List.drop_drop, B8d16 h]
theorem F8t37 {ss : List Int} (h : ss.length = 16) (T : List AV) : (B8 ss ++ T).take 37 = B8 ss ++ T.take 21 := by
  rw [List.take_append, B8_length, h, List.take_of_length_le (by simp [h])]
theorem F8d38 {ss : List Int} (h : ss.length = 16) (T : List AV) : (B8 ss ++ T).drop 38 = T.drop 22 := by
  rw [show (38 : Nat) = 16 + 22 from rfl, ← List.drop_drop, B8d16 h]
theorem F8t38 {ss : List Int} (h : ss.length = 16) (T : List AV) : (B8 ss ++ T).take 38 = B8 ss ++ T.take 22 := by
  rw [List.take_append, B8_length, h, List.take_of_length_le (by simp [h])]
theorem F8d39 {ss : List Int} (h : ss.length = 16) (T : List AV) : (B8 ss ++ T).drop 39 = T.drop 23 := by
  rw [show (39 : Nat) = 16 + 23 from rfl, ← List.drop_drop, B8d16 h]
theorem F8t39 {ss : List Int} (h : ss.length = 16) (T : List AV) : (B8 ss ++ T).take 39 = B8 ss ++ T.take 23 := by
  rw [List.take_append, B8_length, h, List.take_of_length_le (by simp [h])]
attribute [simp] splice B8vc B8vn fKnown30 IntKind.bits Nat.testBit_eq_decide_div_mod_eq B8t16 B8d16 B8t33 B8t17 B8d32 B8t32 B8d33 B8d17 B8d34 B8d18 B8t34 B8t18 F8d19 F8d20 F8d21 F8d22 F8d23 F8d35 F8d36 F8d37 F8d38 F8d39 F8t19 F8t20 F8t21 F8t22 F8t23 F8t35 F8t36 F8t37 F8t38 F8t39
set_option maxHeartbeats 8000000 in
theorem mback_long (o0 o1 o2 o3 o4 o5 n0 n1 n2 n3 n4 n5 d0 d1 d2 d3 d4 d5 e0 e1 e2 e3 e4 e5 : Int) (s4 s6 : List Int) (mode : Int) (nm : Value) (v6 : Bool) (addr : List Int) (b0 b1 b2 b3 b4 b5 : Value) (ty : Int) (fv6 : Bool) (pr : Int) (S D : List Int) (sp dp : Int) (fl rep : Value) (nn : Bool) (inner : List Int) (cap : Option Nat) (h4 : s4.length = 16) (h6 : s6.length = 16) (hA : addr.length = 16) (hS : S.length = 16) (hD : D.length = 16) (hl : inner.length ≤ 9223372036854775807) (hb : 1700 < inner.length) : (pvCall Try.prog KEB Dm 100000 2 0 10 [siteA [o0, o1, o2, o3, o4, o5] [n0, n1, n2, n3, n4, n5] s4 s6, .v (.int .u8 mode), backA nm v6 addr b0 b1 b2 b3 b4 b5, packA [d0, d1, d2, d3, d4, d5] [e0, e1, e2, e3, e4, e5] ty fv6 pr S D sp dp fl rep nn inner cap] (fun _ => none)).map (·.1) = some (.v (.bool true)) := by
  have u1 : (1700 : Int) < (inner.length : Int) := by omega
  have hfr := fun (px : Nat) (args : List AV) (m : Mem) (hl : args.length ≤ Try.f35.ntmps) => pvCall_own (P := Try.prog) (K := KEB) (D := Dm) (L := 100000) (d := 0) (px := px) (args := args) (m := m) (f := 35) (fn := Try.f35) rfl Try.func35 rfl (by decide) rfl rfl hl
  have hop := fun (px : Nat) (args : List AV) (m : Mem) (hl : args.length ≤ Try.f36.ntmps) => pvCall_own (P := Try.prog) (K := KEB) (D := Dm) (L := 100000) (d := 0) (px := px) (args := args) (m := m) (f := 36) (fn := Try.f36) rfl Try.func36 rfl (by decide) rfl rfl hl
  have t4 : s4.take 16 = s4 := List.take_of_length_le (by omega)
  have t6 : s6.take 16 = s6 := List.take_of_length_le (by omega)
  have tA : addr.take 16 = addr := List.take_of_length_le (by omega)
  have k6 : (B8 s6).take 16 = B8 s6 := List.take_of_length_le (by simp [h6])
  have n36 : 36 ≤ S.length + (D.length + 5) := by omega
  rw [pvCall_own (fn := Try.f10) rfl Try.func10 rfl (by decide) rfl rfl (by simp)]
  simp -implicitDefEqProofs [u1, n36, hfr, hop, siteA, backA, packA, t4, t6, tA, k6, h4, h6, hA, hS, hD, -B8_append]
def hyB (s4 s6 addr S D inner : List Int) (pr sp dp : Int) : Prop := s4.length = 16 ∧ s6.length = 16 ∧ addr.length = 16 ∧ S.length = 16 ∧ D.length = 16 ∧ bytesB s4 = true ∧ bytesB s6 = true ∧ bytesB addr = true ∧ bytesB S = true ∧ bytesB D = true ∧ bytesB inner = true ∧ 0 ≤ pr ∧ pr ≤ 255 ∧ 0 ≤ sp ∧ sp ≤ 65535 ∧ 0 ≤ dp ∧ dp ≤ 65535 ∧ inner.length ≤ 1700
variable {o0 o1 o2 o3 o4 o5 n0 n1 n2 n3 n4 n5 d0 d1 d2 d3 d4 d5 e0 e1 e2 e3 e4 e5 : Int} {s4 s6 : List Int} {mode : Int} {nm : Value} {addr : List Int} {b0 b1 b2 b3 b4 b5 : Value} {ty : Int} {fv6 : Bool} {pr : Int} {S D : List Int} {sp dp : Int} {fl rep : Value} {nn : Bool} {inner : List Int} {cap : Option Nat}
set_option maxHeartbeats 32000000 in
theorem mback_arg_4g (H : hyB s4 s6 addr S D inner pr sp dp) (hs : ¬ s4.drop 4 = zero12) : (pvCall Try.prog KEB Dm 100000 2 0 10 [siteA [o0, o1, o2, o3, o4, o5] [n0, n1, n2, n3, n4, n5] s4 s6, .v (.int .u8 2), backA nm false addr b0 b1 b2 b3 b4 b5, packA [d0, d1, d2, d3, d4, d5] [e0, e1, e2, e3, e4, e5] ty fv6 pr S D sp dp fl rep nn inner cap] (fun _ => none)).map (·.1) = some (.v (.bool true)) := by
  obtain ⟨h4, h6, hA, hS, hD, z4, z6, zA, zS, zD, hz, p0, p1, sp0, sp1, dp0, dp1, hl⟩ := H
  have u1 : ¬ (1700 : Int) < (inner.length : Int) := by omega
  have l1 : inner.length ≤ 9223372036854775807 := by omega
  have l2 : inner.take inner.length = inner := List.take_length
  have hr := mixV_range (bits .xor .u64 (fnvF 14695981039346656037 (tupB fv6 pr S D sp dp)) (mixV 0))
  have hr1 : 0 ≤ hashV fv6 pr S D sp dp := hr.1
  have hr2 : hashV fv6 pr S D sp dp < 18446744073709551616 := hr.2
  have hr3 : 0 ≤ 49152 + hashV fv6 pr S D sp dp % 16384 := by omega
  have hr4 : 49152 + hashV fv6 pr S D sp dp % 16384 ≤ 65535 := by omega
  have ms := asSite_at (a := [o0, o1, o2, o3, o4, o5]) (b := [n0, n1, n2, n3, n4, n5]) (d := s6) rfl rfl h4
  simp only [B8vc, B8vn, List.cons_append, List.nil_append] at ms
  have a0 := asOut_at (v6 := false) (mode := 2) (sp := (49152 + hashV fv6 pr S D sp dp % 16384)) h4 hA
  have n36 : 36 ≤ S.length + (D.length + 5) := by omega
  have hfr := fun (px : Nat) (args : List AV) (m : Mem) (hl : args.length ≤ Try.f35.ntmps) => pvCall_own (P := Try.prog) (K := KEB) (D := Dm) (L := 100000) (d := 0) (px := px) (args := args) (m := m) (f := 35) (fn := Try.f35) rfl Try.func35 rfl (by decide) rfl rfl hl
  have hop := fun (px : Nat) (args : List AV) (m : Mem) (hl : args.length ≤ Try.f36.ntmps) => pvCall_own (P := Try.prog) (K := KEB) (D := Dm) (L := 100000) (d := 0) (px := px) (args := args) (m := m) (f := 36) (fn := Try.f36) rfl Try.func36 rfl (by decide) rfl rfl hl
  have t4 : s4.take 16 = s4 := List.take_of_length_le (by omega)
  have t6 : s6.take 16 = s6 := List.take_of_length_le (by omega)
  have tA : addr.take 16 = addr := List.take_of_length_le (by omega)
  have k6 : (B8 s6).take 16 = B8 s6 := List.take_of_length_le (by simp [h6])
  rw [pvCall_own (fn := Try.f10) rfl Try.func10 rfl (by decide) rfl rfl (by simp)]
  simp -implicitDefEqProofs [u1, l1, l2, hl, hz, z4, z6, zA, zS, zD, h4, h6, hA, hS, hD, p0, p1, sp0, sp1, dp0, dp1, hr1, hr2, hr3, hr4, ms, a0, fMSite, fEWrap, fEPort, fHTuple, hs, n36, hfr, hop, siteA, backA, packA, t4, t6, tA, k6, h4, h6, hA, hS, hD, -B8_append]
set_option maxHeartbeats 32000000 in
theorem mback_err_4g (H : hyB s4 s6 addr S D inner pr sp dp) (hs : s4.drop 4 = zero12) (e : Int) (ne : ¬ e = 0) (hW : wrV false 2 s4 addr (49152 + hashV fv6 pr S D sp dp % 16384) inner = ewE e) : (pvCall Try.prog KEB Dm 100000 2 0 10 [siteA [o0, o1, o2, o3, o4, o5] [n0, n1, n2, n3, n4, n5] s4 s6, .v (.int .u8 2), backA nm false addr b0 b1 b2 b3 b4 b5, packA [d0, d1, d2, d3, d4, d5] [e0, e1, e2, e3, e4, e5] ty fv6 pr S D sp dp fl rep nn inner cap] (fun _ => none)).map (·.1) = some (.v (.bool true)) := by
  obtain ⟨h4, h6, hA, hS, hD, z4, z6, zA, zS, zD, hz, p0, p1, sp0, sp1, dp0, dp1, hl⟩ := H
  have u1 : ¬ (1700 : Int) < (inner.length : Int) := by omega
  have l1 : inner.length ≤ 9223372036854775807 := by omega
  have l2 : inner.take inner.length = inner := List.take_length
  have hr := mixV_range (bits .xor .u64 (fnvF 14695981039346656037 (tupB fv6 pr S D sp dp)) (mixV 0))
  have hr1 : 0 ≤ hashV fv6 pr S D sp dp := hr.1
  have hr2 : hashV fv6 pr S D sp dp < 18446744073709551616 := hr.2
  have hr3 : 0 ≤ 49152 + hashV fv6 pr S D sp dp % 16384 := by omega
  have hr4 : 49152 + hashV fv6 pr S D sp dp % 16384 ≤ 65535 := by omega
  have ms := asSite_at (a := [o0, o1, o2, o3, o4, o5]) (b := [n0, n1, n2, n3, n4, n5]) (d := s6) rfl rfl h4
  simp only [B8vc, B8vn, List.cons_append, List.nil_append] at ms
  have a0 := asOut_at (v6 := false) (mode := 2) (sp := (49152 + hashV fv6 pr S D sp dp % 16384)) h4 hA
  have ne1 : (e != 0) = true := by simp [ne]
  have n36 : 36 ≤ S.length + (D.length + 5) := by omega
  have hfr := fun (px : Nat) (args : List AV) (m : Mem) (hl : args.length ≤ Try.f35.ntmps) => pvCall_own (P := Try.prog) (K := KEB) (D := Dm) (L := 100000) (d := 0) (px := px) (args := args) (m := m) (f := 35) (fn := Try.f35) rfl Try.func35 rfl (by decide) rfl rfl hl
  have hop := fun (px : Nat) (args : List AV) (m : Mem) (hl : args.length ≤ Try.f36.ntmps) => pvCall_own (P := Try.prog) (K := KEB) (D := Dm) (L := 100000) (d := 0) (px := px) (args := args) (m := m) (f := 36) (fn := Try.f36) rfl Try.func36 rfl (by decide) rfl rfl hl
  have t4 : s4.take 16 = s4 := List.take_of_length_le (by omega)
  have t6 : s6.take 16 = s6 := List.take_of_length_le (by omega)
  have tA : addr.take 16 = addr := List.take_of_length_le (by omega)
  have k6 : (B8 s6).take 16 = B8 s6 := List.take_of_length_le (by simp [h6])
  rw [pvCall_own (fn := Try.f10) rfl Try.func10 rfl (by decide) rfl rfl (by simp)]
  simp -implicitDefEqProofs [u1, l1, l2, hl, hz, z4, z6, zA, zS, zD, h4, h6, hA, hS, hD, p0, p1, sp0, sp1, dp0, dp1, hr1, hr2, hr3, hr4, ms, a0, fMSite, fEWrap, fEPort, fHTuple, hs, ne, ne1, hW, ewE, n36, hfr, hop, siteA, backA, packA, t4, t6, tA, k6, h4, h6, hA, hS, hD, -B8_append]
set_option maxHeartbeats 32000000 in
theorem mback_ok_4g (H : hyB s4 s6 addr S D inner pr sp dp) (hs : s4.drop 4 = zero12) (zo : bytesB [o0, o1, o2, o3, o4, o5] = true) (zn : bytesB [n0, n1, n2, n3, n4, n5] = true) (W : List Int) (hW : wrV false 2 s4 addr (49152 + hashV fv6 pr S D sp dp % 16384) inner = ewC W) (w1 : W.length ≤ 1646) (w2 : 20 ≤ W.length) (wz : bytesB W = true) (w0 : anEr W = 0) (w6 : an6 W = false) (hV : unV false W = okO false 2 s4 addr (49152 + hashV fv6 pr S D sp dp % 16384) inner) : (pvCall Try.prog KEB Dm 100000 2 0 10 [siteA [o0, o1, o2, o3, o4, o5] [n0, n1, n2, n3, n4, n5] s4 s6, .v (.int .u8 2), backA nm false addr b0 b1 b2 b3 b4 b5, packA [d0, d1, d2, d3, d4, d5] [e0, e1, e2, e3, e4, e5] ty fv6 pr S D sp dp fl rep nn inner cap] (fun _ => none)).map (·.1) = some (.v (.bool true)) := by
  obtain ⟨h4, h6, hA, hS, hD, z4, z6, zA, zS, zD, hz, p0, p1, sp0, sp1, dp0, dp1, hl⟩ := H
  have u1 : ¬ (1700 : Int) < (inner.length : Int) := by omega
  have l1 : inner.length ≤ 9223372036854775807 := by omega
  have l2 : inner.take inner.length = inner := List.take_length
  have hr := mixV_range (bits .xor .u64 (fnvF 14695981039346656037 (tupB fv6 pr S D sp dp)) (mixV 0))
  have hr1 : 0 ≤ hashV fv6 pr S D sp dp := hr.1
  have hr2 : hashV fv6 pr S D sp dp < 18446744073709551616 := hr.2
  have hr3 : 0 ≤ 49152 + hashV fv6 pr S D sp dp % 16384 := by omega
  have hr4 : 49152 + hashV fv6 pr S D sp dp % 16384 ≤ 65535 := by omega
  have ms := asSite_at (a := [o0, o1, o2, o3, o4, o5]) (b := [n0, n1, n2, n3, n4, n5]) (d := s6) rfl rfl h4
  simp only [B8vc, B8vn, List.cons_append, List.nil_append] at ms
  have a0 := asOut_at (v6 := false) (mode := 2) (sp := (49152 + hashV fv6 pr S D sp dp % 16384)) h4 hA
  have be : bytesB [n0, n1, n2, n3, n4, n5, o0, o1, o2, o3, o4, o5, 8, 0] = true := by
    simp only [bytesB_cons, Bool.and_eq_true, decide_eq_true_eq] at zo zn ⊢
    refine ⟨zn.1, zn.2.1, zn.2.2.1, zn.2.2.2.1, zn.2.2.2.2.1, zn.2.2.2.2.2.1, zo.1, zo.2.1, zo.2.2.1, zo.2.2.2.1, zo.2.2.2.2.1, zo.2.2.2.2.2.1, ⟨by omega, by omega⟩, ⟨by omega, by omega⟩, rfl⟩
  have er : ethR [n0, n1, n2, n3, n4, n5, o0, o1, o2, o3, o4, o5, 8, 0] = (.tup [ethA [n0, n1, n2, n3, n4, n5] [o0, o1, o2, o3, o4, o5] 2048, .own 0 0 0 0 1 (.whole 5), .v (.int .i64 0)], [B8 []]) := by
    unfold ethR
    rw [if_neg (by simp), if_neg (by simp)]
    rfl
  have y1 : ¬ 1646 < W.length := by omega
  have y2 : W.length ≤ 500000 := by omega
  have y3 : W.take W.length = W := List.take_length
  have y4 : ¬ (W.length : Int) + 14 < 14 := by omega
  have y5 : ¬ (1660 : Int) < (W.length : Int) + 14 := by omega
  have y6 : W.length + 14 ≤ 549755813888 := by omega
  have y7 : (W.length : Int) + 14 ≤ 1660 := by omega
  have y8 : 6 + (6 + (W.length + 1 + 1)) = W.length + 14 := by omega
  have y9 : (6 : Int) + (6 + ((W.length : Int) + 1 + 1)) = (W.length : Int) + 14 := by omega
  have n36 : 36 ≤ S.length + (D.length + 5) := by omega
  have hfr := fun (px : Nat) (args : List AV) (m : Mem) (hl : args.length ≤ Try.f35.ntmps) => pvCall_own (P := Try.prog) (K := KEB) (D := Dm) (L := 100000) (d := 0) (px := px) (args := args) (m := m) (f := 35) (fn := Try.f35) rfl Try.func35 rfl (by decide) rfl rfl hl
  have hop := fun (px : Nat) (args : List AV) (m : Mem) (hl : args.length ≤ Try.f36.ntmps) => pvCall_own (P := Try.prog) (K := KEB) (D := Dm) (L := 100000) (d := 0) (px := px) (args := args) (m := m) (f := 36) (fn := Try.f36) rfl Try.func36 rfl (by decide) rfl rfl hl
  have t4 : s4.take 16 = s4 := List.take_of_length_le (by omega)
  have t6 : s6.take 16 = s6 := List.take_of_length_le (by omega)
  have tA : addr.take 16 = addr := List.take_of_length_le (by omega)
  have k6 : (B8 s6).take 16 = B8 s6 := List.take_of_length_le (by simp [h6])
  rw [pvCall_own (fn := Try.f10) rfl Try.func10 rfl (by decide) rfl rfl (by simp)]
  simp -implicitDefEqProofs [u1, l1, l2, hl, hz, z4, z6, zA, zS, zD, h4, h6, hA, hS, hD, p0, p1, sp0, sp1, dp0, dp1, hr1, hr2, hr3, hr4, ms, a0, fMSite, fEWrap, fEPort, fHTuple, hs, hW, wz, w0, w6, hV, be, er, y1, y2, y3, y4, y5, y6, y7, y8, y9, eqV_ci, eqV_cb, eqV_n, eqV_m, pairOk16 h4 h4, pairOk16 h6 h6, pairOk16 hA hA, eqV_ints (ss := s4) (ds := s4) rfl, eqV_ints (ss := s6) (ds := s6) rfl, eqV_ints (ss := addr) (ds := addr) rfl, asB8_nil'', asB8_cons'', ewC, okO, outA, ethV, ethW, ethA, fEthW, asEth, fEthR, fEOurs, fEUnwrap, n36, hfr, hop, siteA, backA, packA, t4, t6, tA, k6, h4, h6, hA, hS, hD, -B8_append]
set_option maxHeartbeats 32000000 in
theorem mback_arg_4i (hm : ¬ mode = 2) (H : hyB s4 s6 addr S D inner pr sp dp) (hs : ¬ s4.drop 4 = zero12) : (pvCall Try.prog KEB Dm 100000 2 0 10 [siteA [o0, o1, o2, o3, o4, o5] [n0, n1, n2, n3, n4, n5] s4 s6, .v (.int .u8 mode), backA nm false addr b0 b1 b2 b3 b4 b5, packA [d0, d1, d2, d3, d4, d5] [e0, e1, e2, e3, e4, e5] ty fv6 pr S D sp dp fl rep nn inner cap] (fun _ => none)).map (·.1) = some (.v (.bool true)) := by
  obtain ⟨h4, h6, hA, hS, hD, z4, z6, zA, zS, zD, hz, p0, p1, sp0, sp1, dp0, dp1, hl⟩ := H
  have u1 : ¬ (1700 : Int) < (inner.length : Int) := by omega
  have l1 : inner.length ≤ 9223372036854775807 := by omega
  have l2 : inner.take inner.length = inner := List.take_length
  have hm1 : (mode == 2) = false := by simp [hm]
  have ms := asSite_at (a := [o0, o1, o2, o3, o4, o5]) (b := [n0, n1, n2, n3, n4, n5]) (d := s6) rfl rfl h4
  simp only [B8vc, B8vn, List.cons_append, List.nil_append] at ms
  have a0 := asOut_at (v6 := false) (mode := mode) (sp := 0) h4 hA
  have n36 : 36 ≤ S.length + (D.length + 5) := by omega
  have hfr := fun (px : Nat) (args : List AV) (m : Mem) (hl : args.length ≤ Try.f35.ntmps) => pvCall_own (P := Try.prog) (K := KEB) (D := Dm) (L := 100000) (d := 0) (px := px) (args := args) (m := m) (f := 35) (fn := Try.f35) rfl Try.func35 rfl (by decide) rfl rfl hl
  have hop := fun (px : Nat) (args : List AV) (m : Mem) (hl : args.length ≤ Try.f36.ntmps) => pvCall_own (P := Try.prog) (K := KEB) (D := Dm) (L := 100000) (d := 0) (px := px) (args := args) (m := m) (f := 36) (fn := Try.f36) rfl Try.func36 rfl (by decide) rfl rfl hl
  have t4 : s4.take 16 = s4 := List.take_of_length_le (by omega)
  have t6 : s6.take 16 = s6 := List.take_of_length_le (by omega)
  have tA : addr.take 16 = addr := List.take_of_length_le (by omega)
  have k6 : (B8 s6).take 16 = B8 s6 := List.take_of_length_le (by simp [h6])
  rw [pvCall_own (fn := Try.f10) rfl Try.func10 rfl (by decide) rfl rfl (by simp)]
  simp -implicitDefEqProofs [u1, l1, l2, hl, hz, z4, z6, zA, zS, zD, h4, h6, hA, hS, hD, p0, p1, sp0, sp1, dp0, dp1, hm, hm1, ms, a0, fMSite, fEWrap, fEPort, fHTuple, hs, n36, hfr, hop, siteA, backA, packA, t4, t6, tA, k6, h4, h6, hA, hS, hD, -B8_append]
set_option maxHeartbeats 32000000 in
theorem mback_err_4i (hm : ¬ mode = 2) (H : hyB s4 s6 addr S D inner pr sp dp) (hs : s4.drop 4 = zero12) (e : Int) (ne : ¬ e = 0) (hW : wrV false mode s4 addr 0 inner = ewE e) : (pvCall Try.prog KEB Dm 100000 2 0 10 [siteA [o0, o1, o2, o3, o4, o5] [n0, n1, n2, n3, n4, n5] s4 s6, .v (.int .u8 mode), backA nm false addr b0 b1 b2 b3 b4 b5, packA [d0, d1, d2, d3, d4, d5] [e0, e1, e2, e3, e4, e5] ty fv6 pr S D sp dp fl rep nn inner cap] (fun _ => none)).map (·.1) = some (.v (.bool true)) := by
  obtain ⟨h4, h6, hA, hS, hD, z4, z6, zA, zS, zD, hz, p0, p1, sp0, sp1, dp0, dp1, hl⟩ := H
  have u1 : ¬ (1700 : Int) < (inner.length : Int) := by omega
  have l1 : inner.length ≤ 9223372036854775807 := by omega
  have l2 : inner.take inner.length = inner := List.take_length
  have hm1 : (mode == 2) = false := by simp [hm]
  have ms := asSite_at (a := [o0, o1, o2, o3, o4, o5]) (b := [n0, n1, n2, n3, n4, n5]) (d := s6) rfl rfl h4
  simp only [B8vc, B8vn, List.cons_append, List.nil_append] at ms
  have a0 := asOut_at (v6 := false) (mode := mode) (sp := 0) h4 hA
  have ne1 : (e != 0) = true := by simp [ne]
  have n36 : 36 ≤ S.length + (D.length + 5) := by omega
  have hfr := fun (px : Nat) (args : List AV) (m : Mem) (hl : args.length ≤ Try.f35.ntmps) => pvCall_own (P := Try.prog) (K := KEB) (D := Dm) (L := 100000) (d := 0) (px := px) (args := args) (m := m) (f := 35) (fn := Try.f35) rfl Try.func35 rfl (by decide) rfl rfl hl
  have hop := fun (px : Nat) (args : List AV) (m : Mem) (hl : args.length ≤ Try.f36.ntmps) => pvCall_own (P := Try.prog) (K := KEB) (D := Dm) (L := 100000) (d := 0) (px := px) (args := args) (m := m) (f := 36) (fn := Try.f36) rfl Try.func36 rfl (by decide) rfl rfl hl
  have t4 : s4.take 16 = s4 := List.take_of_length_le (by omega)
  have t6 : s6.take 16 = s6 := List.take_of_length_le (by omega)
  have tA : addr.take 16 = addr := List.take_of_length_le (by omega)
  have k6 : (B8 s6).take 16 = B8 s6 := List.take_of_length_le (by simp [h6])
  rw [pvCall_own (fn := Try.f10) rfl Try.func10 rfl (by decide) rfl rfl (by simp)]
  simp -implicitDefEqProofs [u1, l1, l2, hl, hz, z4, z6, zA, zS, zD, h4, h6, hA, hS, hD, p0, p1, sp0, sp1, dp0, dp1, hm, hm1, ms, a0, fMSite, fEWrap, fEPort, fHTuple, hs, ne, ne1, hW, ewE, n36, hfr, hop, siteA, backA, packA, t4, t6, tA, k6, h4, h6, hA, hS, hD, -B8_append]
set_option maxHeartbeats 32000000 in
theorem mback_ok_4i (hm : ¬ mode = 2) (H : hyB s4 s6 addr S D inner pr sp dp) (hs : s4.drop 4 = zero12) (zo : bytesB [o0, o1, o2, o3, o4, o5] = true) (zn : bytesB [n0, n1, n2, n3, n4, n5] = true) (W : List Int) (hW : wrV false mode s4 addr 0 inner = ewC W) (w1 : W.length ≤ 1646) (w2 : 20 ≤ W.length) (wz : bytesB W = true) (w0 : anEr W = 0) (w6 : an6 W = false) (hV : unV false W = okO false mode s4 addr 0 inner) : (pvCall Try.prog KEB Dm 100000 2 0 10 [siteA [o0, o1, o2, o3, o4, o5] [n0, n1, n2, n3, n4, n5] s4 s6, .v (.int .u8 mode), backA nm false addr b0 b1 b2 b3 b4 b5, packA [d0, d1, d2, d3, d4, d5] [e0, e1, e2, e3, e4, e5] ty fv6 pr S D sp dp fl rep nn inner cap] (fun _ => none)).map (·.1) = some (.v (.bool true)) := by
  obtain ⟨h4, h6, hA, hS, hD, z4, z6, zA, zS, zD, hz, p0, p1, sp0, sp1, dp0, dp1, hl⟩ := H
  have u1 : ¬ (1700 : Int) < (inner.length : Int) := by omega
  have l1 : inner.length ≤ 9223372036854775807 := by omega
  have l2 : inner.take inner.length = inner := List.take_length
  have hm1 : (mode == 2) = false := by simp [hm]
  have ms := asSite_at (a := [o0, o1, o2, o3, o4, o5]) (b := [n0, n1, n2, n3, n4, n5]) (d := s6) rfl rfl h4
  simp only [B8vc, B8vn, List.cons_append, List.nil_append] at ms
  have a0 := asOut_at (v6 := false) (mode := mode) (sp := 0) h4 hA
  have be : bytesB [n0, n1, n2, n3, n4, n5, o0, o1, o2, o3, o4, o5, 8, 0] = true := by
    simp only [bytesB_cons, Bool.and_eq_true, decide_eq_true_eq] at zo zn ⊢
    refine ⟨zn.1, zn.2.1, zn.2.2.1, zn.2.2.2.1, zn.2.2.2.2.1, zn.2.2.2.2.2.1, zo.1, zo.2.1, zo.2.2.1, zo.2.2.2.1, zo.2.2.2.2.1, zo.2.2.2.2.2.1, ⟨by omega, by omega⟩, ⟨by omega, by omega⟩, rfl⟩
  have er : ethR [n0, n1, n2, n3, n4, n5, o0, o1, o2, o3, o4, o5, 8, 0] = (.tup [ethA [n0, n1, n2, n3, n4, n5] [o0, o1, o2, o3, o4, o5] 2048, .own 0 0 0 0 1 (.whole 5), .v (.int .i64 0)], [B8 []]) := by
    unfold ethR
    rw [if_neg (by simp), if_neg (by simp)]
    rfl
  have y1 : ¬ 1646 < W.length := by omega
  have y2 : W.length ≤ 500000 := by omega
  have y3 : W.take W.length = W := List.take_length
  have y4 : ¬ (W.length : Int) + 14 < 14 := by omega
  have y5 : ¬ (1660 : Int) < (W.length : Int) + 14 := by omega
  have y6 : W.length + 14 ≤ 549755813888 := by omega
  have y7 : (W.length : Int) + 14 ≤ 1660 := by omega
  have y8 : 6 + (6 + (W.length + 1 + 1)) = W.length + 14 := by omega
  have y9 : (6 : Int) + (6 + ((W.length : Int) + 1 + 1)) = (W.length : Int) + 14 := by omega
  have n36 : 36 ≤ S.length + (D.length + 5) := by omega
  have hfr := fun (px : Nat) (args : List AV) (m : Mem) (hl : args.length ≤ Try.f35.ntmps) => pvCall_own (P := Try.prog) (K := KEB) (D := Dm) (L := 100000) (d := 0) (px := px) (args := args) (m := m) (f := 35) (fn := Try.f35) rfl Try.func35 rfl (by decide) rfl rfl hl
  have hop := fun (px : Nat) (args : List AV) (m : Mem) (hl : args.length ≤ Try.f36.ntmps) => pvCall_own (P := Try.prog) (K := KEB) (D := Dm) (L := 100000) (d := 0) (px := px) (args := args) (m := m) (f := 36) (fn := Try.f36) rfl Try.func36 rfl (by decide) rfl rfl hl
  have t4 : s4.take 16 = s4 := List.take_of_length_le (by omega)
  have t6 : s6.take 16 = s6 := List.take_of_length_le (by omega)
  have tA : addr.take 16 = addr := List.take_of_length_le (by omega)
  have k6 : (B8 s6).take 16 = B8 s6 := List.take_of_length_le (by simp [h6])
  rw [pvCall_own (fn := Try.f10) rfl Try.func10 rfl (by decide) rfl rfl (by simp)]
  simp -implicitDefEqProofs [u1, l1, l2, hl, hz, z4, z6, zA, zS, zD, h4, h6, hA, hS, hD, p0, p1, sp0, sp1, dp0, dp1, hm, hm1, ms, a0, fMSite, fEWrap, fEPort, fHTuple, hs, hW, wz, w0, w6, hV, be, er, y1, y2, y3, y4, y5, y6, y7, y8, y9, eqV_ci, eqV_cb, eqV_n, eqV_m, pairOk16 h4 h4, pairOk16 h6 h6, pairOk16 hA hA, eqV_ints (ss := s4) (ds := s4) rfl, eqV_ints (ss := s6) (ds := s6) rfl, eqV_ints (ss := addr) (ds := addr) rfl, asB8_nil'', asB8_cons'', ewC, okO, outA, ethV, ethW, ethA, fEthW, asEth, fEthR, fEOurs, fEUnwrap, n36, hfr, hop, siteA, backA, packA, t4, t6, tA, k6, h4, h6, hA, hS, hD, -B8_append]
set_option maxHeartbeats 32000000 in
theorem mback_arg_6g (H : hyB s4 s6 addr S D inner pr sp dp) (hs : ¬ s4.drop 4 = zero12) : (pvCall Try.prog KEB Dm 100000 2 0 10 [siteA [o0, o1, o2, o3, o4, o5] [n0, n1, n2, n3, n4, n5] s4 s6, .v (.int .u8 2), backA nm true addr b0 b1 b2 b3 b4 b5, packA [d0, d1, d2, d3, d4, d5] [e0, e1, e2, e3, e4, e5] ty fv6 pr S D sp dp fl rep nn inner cap] (fun _ => none)).map (·.1) = some (.v (.bool true)) := by
  obtain ⟨h4, h6, hA, hS, hD, z4, z6, zA, zS, zD, hz, p0, p1, sp0, sp1, dp0, dp1, hl⟩ := H
  have u1 : ¬ (1700 : Int) < (inner.length : Int) := by omega
  have l1 : inner.length ≤ 9223372036854775807 := by omega
  have l2 : inner.take inner.length = inner := List.take_length
  have hr := mixV_range (bits .xor .u64 (fnvF 14695981039346656037 (tupB fv6 pr S D sp dp)) (mixV 0))
  have hr1 : 0 ≤ hashV fv6 pr S D sp dp := hr.1
  have hr2 : hashV fv6 pr S D sp dp < 18446744073709551616 := hr.2
  have hr3 : 0 ≤ 49152 + hashV fv6 pr S D sp dp % 16384 := by omega
  have hr4 : 49152 + hashV fv6 pr S D sp dp % 16384 ≤ 65535 := by omega
  have ms := asSite_at (a := [o0, o1, o2, o3, o4, o5]) (b := [n0, n1, n2, n3, n4, n5]) (d := s6) rfl rfl h4
  simp only [B8vc, B8vn, List.cons_append, List.nil_append] at ms
  have a0 := asOut_at (v6 := true) (mode := 2) (sp := (49152 + hashV fv6 pr S D sp dp % 16384)) h6 hA
  have n36 : 36 ≤ S.length + (D.length + 5) := by omega
  have hfr := fun (px : Nat) (args : List AV) (m : Mem) (hl : args.length ≤ Try.f35.ntmps) => pvCall_own (P := Try.prog) (K := KEB) (D := Dm) (L := 100000) (d := 0) (px := px) (args := args) (m := m) (f := 35) (fn := Try.f35) rfl Try.func35 rfl (by decide) rfl rfl hl
  have hop := fun (px : Nat) (args : List AV) (m : Mem) (hl : args.length ≤ Try.f36.ntmps) => pvCall_own (P := Try.prog) (K := KEB) (D := Dm) (L := 100000) (d := 0) (px := px) (args := args) (m := m) (f := 36) (fn := Try.f36) rfl Try.func36 rfl (by decide) rfl rfl hl
  have t4 : s4.take 16 = s4 := List.take_of_length_le (by omega)
  have t6 : s6.take 16 = s6 := List.take_of_length_le (by omega)
  have tA : addr.take 16 = addr := List.take_of_length_le (by omega)
  have k6 : (B8 s6).take 16 = B8 s6 := List.take_of_length_le (by simp [h6])
  rw [pvCall_own (fn := Try.f10) rfl Try.func10 rfl (by decide) rfl rfl (by simp)]
  simp -implicitDefEqProofs [u1, l1, l2, hl, hz, z4, z6, zA, zS, zD, h4, h6, hA, hS, hD, p0, p1, sp0, sp1, dp0, dp1, hr1, hr2, hr3, hr4, ms, a0, fMSite, fEWrap, fEPort, fHTuple, hs, n36, hfr, hop, siteA, backA, packA, t4, t6, tA, k6, h4, h6, hA, hS, hD, -B8_append]
set_option maxHeartbeats 32000000 in
theorem mback_err_6g (H : hyB s4 s6 addr S D inner pr sp dp) (hs : s4.drop 4 = zero12) (e : Int) (ne : ¬ e = 0) (hW : wrV true 2 s6 addr (49152 + hashV fv6 pr S D sp dp % 16384) inner = ewE e) : (pvCall Try.prog KEB Dm 100000 2 0 10 [siteA [o0, o1, o2, o3, o4, o5] [n0, n1, n2, n3, n4, n5] s4 s6, .v (.int .u8 2), backA nm true addr b0 b1 b2 b3 b4 b5, packA [d0, d1, d2, d3, d4, d5] [e0, e1, e2, e3, e4, e5] ty fv6 pr S D sp dp fl rep nn inner cap] (fun _ => none)).map (·.1) = some (.v (.bool true)) := by
  obtain ⟨h4, h6, hA, hS, hD, z4, z6, zA, zS, zD, hz, p0, p1, sp0, sp1, dp0, dp1, hl⟩ := H
  have u1 : ¬ (1700 : Int) < (inner.length : Int) := by omega
  have l1 : inner.length ≤ 9223372036854775807 := by omega
  have l2 : inner.take inner.length = inner := List.take_length
  have hr := mixV_range (bits .xor .u64 (fnvF 14695981039346656037 (tupB fv6 pr S D sp dp)) (mixV 0))
  have hr1 : 0 ≤ hashV fv6 pr S D sp dp := hr.1
  have hr2 : hashV fv6 pr S D sp dp < 18446744073709551616 := hr.2
  have hr3 : 0 ≤ 49152 + hashV fv6 pr S D sp dp % 16384 := by omega
  have hr4 : 49152 + hashV fv6 pr S D sp dp % 16384 ≤ 65535 := by omega
  have ms := asSite_at (a := [o0, o1, o2, o3, o4, o5]) (b := [n0, n1, n2, n3, n4, n5]) (d := s6) rfl rfl h4
  simp only [B8vc, B8vn, List.cons_append, List.nil_append] at ms
  have a0 := asOut_at (v6 := true) (mode := 2) (sp := (49152 + hashV fv6 pr S D sp dp % 16384)) h6 hA
  have ne1 : (e != 0) = true := by simp [ne]
  have n36 : 36 ≤ S.length + (D.length + 5) := by omega
  have hfr := fun (px : Nat) (args : List AV) (m : Mem) (hl : args.length ≤ Try.f35.ntmps) => pvCall_own (P := Try.prog) (K := KEB) (D := Dm) (L := 100000) (d := 0) (px := px) (args := args) (m := m) (f := 35) (fn := Try.f35) rfl Try.func35 rfl (by decide) rfl rfl hl
  have hop := fun (px : Nat) (args : List AV) (m : Mem) (hl : args.length ≤ Try.f36.ntmps) => pvCall_own (P := Try.prog) (K := KEB) (D := Dm) (L := 100000) (d := 0) (px := px) (args := args) (m := m) (f := 36) (fn := Try.f36) rfl Try.func36 rfl (by decide) rfl rfl hl
  have t4 : s4.take 16 = s4 := List.take_of_length_le (by omega)
  have t6 : s6.take 16 = s6 := List.take_of_length_le (by omega)
  have tA : addr.take 16 = addr := List.take_of_length_le (by omega)
  have k6 : (B8 s6).take 16 = B8 s6 := List.take_of_length_le (by simp [h6])
  rw [pvCall_own (fn := Try.f10) rfl Try.func10 rfl (by decide) rfl rfl (by simp)]
  simp -implicitDefEqProofs [u1, l1, l2, hl, hz, z4, z6, zA, zS, zD, h4, h6, hA, hS, hD, p0, p1, sp0, sp1, dp0, dp1, hr1, hr2, hr3, hr4, ms, a0, fMSite, fEWrap, fEPort, fHTuple, hs, ne, ne1, hW, ewE, n36, hfr, hop, siteA, backA, packA, t4, t6, tA, k6, h4, h6, hA, hS, hD, -B8_append]
set_option maxHeartbeats 32000000 in
theorem mback_ok_6g (H : hyB s4 s6 addr S D inner pr sp dp) (hs : s4.drop 4 = zero12) (zo : bytesB [o0, o1, o2, o3, o4, o5] = true) (zn : bytesB [n0, n1, n2, n3, n4, n5] = true) (W : List Int) (hW : wrV true 2 s6 addr (49152 + hashV fv6 pr S D sp dp % 16384) inner = ewC W) (w1 : W.length ≤ 1646) (w2 : 20 ≤ W.length) (wz : bytesB W = true) (w0 : anEr W = 0) (w6 : an6 W = true) (hV : unV true W = okO true 2 s6 addr (49152 + hashV fv6 pr S D sp dp % 16384) inner) : (pvCall Try.prog KEB Dm 100000 2 0 10 [siteA [o0, o1, o2, o3, o4, o5] [n0, n1, n2, n3, n4, n5] s4 s6, .v (.int .u8 2), backA nm true addr b0 b1 b2 b3 b4 b5, packA [d0, d1, d2, d3, d4, d5] [e0, e1, e2, e3, e4, e5] ty fv6 pr S D sp dp fl rep nn inner cap] (fun _ => none)).map (·.1) = some (.v (.bool true)) := by
  obtain ⟨h4, h6, hA, hS, hD, z4, z6, zA, zS, zD, hz, p0, p1, sp0, sp1, dp0, dp1, hl⟩ := H
  have u1 : ¬ (1700 : Int) < (inner.length : Int) := by omega
  have l1 : inner.length ≤ 9223372036854775807 := by omega
  have l2 : inner.take inner.length = inner := List.take_length
  have hr := mixV_range (bits .xor .u64 (fnvF 14695981039346656037 (tupB fv6 pr S D sp dp)) (mixV 0))
  have hr1 : 0 ≤ hashV fv6 pr S D sp dp := hr.1
  have hr2 : hashV fv6 pr S D sp dp < 18446744073709551616 := hr.2
  have hr3 : 0 ≤ 49152 + hashV fv6 pr S D sp dp % 16384 := by omega
  have hr4 : 49152 + hashV fv6 pr S D sp dp % 16384 ≤ 65535 := by omega
  have ms := asSite_at (a := [o0, o1, o2, o3, o4, o5]) (b := [n0, n1, n2, n3, n4, n5]) (d := s6) rfl rfl h4
  simp only [B8vc, B8vn, List.cons_append, List.nil_append] at ms
  have a0 := asOut_at (v6 := true) (mode := 2) (sp := (49152 + hashV fv6 pr S D sp dp % 16384)) h6 hA
  have be : bytesB [n0, n1, n2, n3, n4, n5, o0, o1, o2, o3, o4, o5, 134, 221] = true := by
    simp only [bytesB_cons, Bool.and_eq_true, decide_eq_true_eq] at zo zn ⊢
    refine ⟨zn.1, zn.2.1, zn.2.2.1, zn.2.2.2.1, zn.2.2.2.2.1, zn.2.2.2.2.2.1, zo.1, zo.2.1, zo.2.2.1, zo.2.2.2.1, zo.2.2.2.2.1, zo.2.2.2.2.2.1, ⟨by omega, by omega⟩, ⟨by omega, by omega⟩, rfl⟩
  have er : ethR [n0, n1, n2, n3, n4, n5, o0, o1, o2, o3, o4, o5, 134, 221] = (.tup [ethA [n0, n1, n2, n3, n4, n5] [o0, o1, o2, o3, o4, o5] 34525, .own 0 0 0 0 1 (.whole 5), .v (.int .i64 0)], [B8 []]) := by
    unfold ethR
    rw [if_neg (by simp), if_neg (by simp)]
    rfl
  have y1 : ¬ 1646 < W.length := by omega
  have y2 : W.length ≤ 500000 := by omega
  have y3 : W.take W.length = W := List.take_length
  have y4 : ¬ (W.length : Int) + 14 < 14 := by omega
  have y5 : ¬ (1660 : Int) < (W.length : Int) + 14 := by omega
  have y6 : W.length + 14 ≤ 549755813888 := by omega
  have y7 : (W.length : Int) + 14 ≤ 1660 := by omega
  have y8 : 6 + (6 + (W.length + 1 + 1)) = W.length + 14 := by omega
  have y9 : (6 : Int) + (6 + ((W.length : Int) + 1 + 1)) = (W.length : Int) + 14 := by omega
  have n36 : 36 ≤ S.length + (D.length + 5) := by omega
  have hfr := fun (px : Nat) (args : List AV) (m : Mem) (hl : args.length ≤ Try.f35.ntmps) => pvCall_own (P := Try.prog) (K := KEB) (D := Dm) (L := 100000) (d := 0) (px := px) (args := args) (m := m) (f := 35) (fn := Try.f35) rfl Try.func35 rfl (by decide) rfl rfl hl
  have hop := fun (px : Nat) (args : List AV) (m : Mem) (hl : args.length ≤ Try.f36.ntmps) => pvCall_own (P := Try.prog) (K := KEB) (D := Dm) (L := 100000) (d := 0) (px := px) (args := args) (m := m) (f := 36) (fn := Try.f36) rfl Try.func36 rfl (by decide) rfl rfl hl
  have t4 : s4.take 16 = s4 := List.take_of_length_le (by omega)
  have t6 : s6.take 16 = s6 := List.take_of_length_le (by omega)
  have tA : addr.take 16 = addr := List.take_of_length_le (by omega)
  have k6 : (B8 s6).take 16 = B8 s6 := List.take_of_length_le (by simp [h6])
  rw [pvCall_own (fn := Try.f10) rfl Try.func10 rfl (by decide) rfl rfl (by simp)]
  simp -implicitDefEqProofs [u1, l1, l2, hl, hz, z4, z6, zA, zS, zD, h4, h6, hA, hS, hD, p0, p1, sp0, sp1, dp0, dp1, hr1, hr2, hr3, hr4, ms, a0, fMSite, fEWrap, fEPort, fHTuple, hs, hW, wz, w0, w6, hV, be, er, y1, y2, y3, y4, y5, y6, y7, y8, y9, eqV_ci, eqV_cb, eqV_n, eqV_m, pairOk16 h4 h4, pairOk16 h6 h6, pairOk16 hA hA, eqV_ints (ss := s4) (ds := s4) rfl, eqV_ints (ss := s6) (ds := s6) rfl, eqV_ints (ss := addr) (ds := addr) rfl, asB8_nil'', asB8_cons'', ewC, okO, outA, ethV, ethW, ethA, fEthW, asEth, fEthR, fEOurs, fEUnwrap, n36, hfr, hop, siteA, backA, packA, t4, t6, tA, k6, h4, h6, hA, hS, hD, -B8_append]
set_option maxHeartbeats 32000000 in
theorem mback_arg_6i (hm : ¬ mode = 2) (H : hyB s4 s6 addr S D inner pr sp dp) (hs : ¬ s4.drop 4 = zero12) : (pvCall Try.prog KEB Dm 100000 2 0 10 [siteA [o0, o1, o2, o3, o4, o5] [n0, n1, n2, n3, n4, n5] s4 s6, .v (.int .u8 mode), backA nm true addr b0 b1 b2 b3 b4 b5, packA [d0, d1, d2, d3, d4, d5] [e0, e1, e2, e3, e4, e5] ty fv6 pr S D sp dp fl rep nn inner cap] (fun _ => none)).map (·.1) = some (.v (.bool true)) := by
  obtain ⟨h4, h6, hA, hS, hD, z4, z6, zA, zS, zD, hz, p0, p1, sp0, sp1, dp0, dp1, hl⟩ := H
  have u1 : ¬ (1700 : Int) < (inner.length : Int) := by omega
  have l1 : inner.length ≤ 9223372036854775807 := by omega
  have l2 : inner.take inner.length = inner := List.take_length
  have hm1 : (mode == 2) = false := by simp [hm]
  have ms := asSite_at (a := [o0, o1, o2, o3, o4, o5]) (b := [n0, n1, n2, n3, n4, n5]) (d := s6) rfl rfl h4
  simp only [B8vc, B8vn, List.cons_append, List.nil_append] at ms
  have a0 := asOut_at (v6 := true) (mode := mode) (sp := 0) h6 hA
  have n36 : 36 ≤ S.length + (D.length + 5) := by omega
  have hfr := fun (px : Nat) (args : List AV) (m : Mem) (hl : args.length ≤ Try.f35.ntmps) => pvCall_own (P := Try.prog) (K := KEB) (D := Dm) (L := 100000) (d := 0) (px := px) (args := args) (m := m) (f := 35) (fn := Try.f35) rfl Try.func35 rfl (by decide) rfl rfl hl
  have hop := fun (px : Nat) (args : List AV) (m : Mem) (hl : args.length ≤ Try.f36.ntmps) => pvCall_own (P := Try.prog) (K := KEB) (D := Dm) (L := 100000) (d := 0) (px := px) (args := args) (m := m) (f := 36) (fn := Try.f36) rfl Try.func36 rfl (by decide) rfl rfl hl
  have t4 : s4.take 16 = s4 := List.take_of_length_le (by omega)
  have t6 : s6.take 16 = s6 := List.take_of_length_le (by omega)
  have tA : addr.take 16 = addr := List.take_of_length_le (by omega)
  have k6 : (B8 s6).take 16 = B8 s6 := List.take_of_length_le (by simp [h6])
  rw [pvCall_own (fn := Try.f10) rfl Try.func10 rfl (by decide) rfl rfl (by simp)]
  simp -implicitDefEqProofs [u1, l1, l2, hl, hz, z4, z6, zA, zS, zD, h4, h6, hA, hS, hD, p0, p1, sp0, sp1, dp0, dp1, hm, hm1, ms, a0, fMSite, fEWrap, fEPort, fHTuple, hs, n36, hfr, hop, siteA, backA, packA, t4, t6, tA, k6, h4, h6, hA, hS, hD, -B8_append]
set_option maxHeartbeats 32000000 in
theorem mback_err_6i (hm : ¬ mode = 2) (H : hyB s4 s6 addr S D inner pr sp dp) (hs : s4.drop 4 = zero12) (e : Int) (ne : ¬ e = 0) (hW : wrV true mode s6 addr 0 inner = ewE e) : (pvCall Try.prog KEB Dm 100000 2 0 10 [siteA [o0, o1, o2, o3, o4, o5] [n0, n1, n2, n3, n4, n5] s4 s6, .v (.int .u8 mode), backA nm true addr b0 b1 b2 b3 b4 b5, packA [d0, d1, d2, d3, d4, d5] [e0, e1, e2, e3, e4, e5] ty fv6 pr S D sp dp fl rep nn inner cap] (fun _ => none)).map (·.1) = some (.v (.bool true)) := by
  obtain ⟨h4, h6, hA, hS, hD, z4, z6, zA, zS, zD, hz, p0, p1, sp0, sp1, dp0, dp1, hl⟩ := H
  have u1 : ¬ (1700 : Int) < (inner.length : Int) := by omega
  have l1 : inner.length ≤ 9223372036854775807 := by omega
  have l2 : inner.take inner.length = inner := List.take_length
  have hm1 : (mode == 2) = false := by simp [hm]
  have ms := asSite_at (a := [o0, o1, o2, o3, o4, o5]) (b := [n0, n1, n2, n3, n4, n5]) (d := s6) rfl rfl h4
  simp only [B8vc, B8vn, List.cons_append, List.nil_append] at ms
  have a0 := asOut_at (v6 := true) (mode := mode) (sp := 0) h6 hA
  have ne1 : (e != 0) = true := by simp [ne]
  have n36 : 36 ≤ S.length + (D.length + 5) := by omega
  have hfr := fun (px : Nat) (args : List AV) (m : Mem) (hl : args.length ≤ Try.f35.ntmps) => pvCall_own (P := Try.prog) (K := KEB) (D := Dm) (L := 100000) (d := 0) (px := px) (args := args) (m := m) (f := 35) (fn := Try.f35) rfl Try.func35 rfl (by decide) rfl rfl hl
  have hop := fun (px : Nat) (args : List AV) (m : Mem) (hl : args.length ≤ Try.f36.ntmps) => pvCall_own (P := Try.prog) (K := KEB) (D := Dm) (L := 100000) (d := 0) (px := px) (args := args) (m := m) (f := 36) (fn := Try.f36) rfl Try.func36 rfl (by decide) rfl rfl hl
  have t4 : s4.take 16 = s4 := List.take_of_length_le (by omega)
  have t6 : s6.take 16 = s6 := List.take_of_length_le (by omega)
  have tA : addr.take 16 = addr := List.take_of_length_le (by omega)
  have k6 : (B8 s6).take 16 = B8 s6 := List.take_of_length_le (by simp [h6])
  rw [pvCall_own (fn := Try.f10) rfl Try.func10 rfl (by decide) rfl rfl (by simp)]
  simp -implicitDefEqProofs [u1, l1, l2, hl, hz, z4, z6, zA, zS, zD, h4, h6, hA, hS, hD, p0, p1, sp0, sp1, dp0, dp1, hm, hm1, ms, a0, fMSite, fEWrap, fEPort, fHTuple, hs, ne, ne1, hW, ewE, n36, hfr, hop, siteA, backA, packA, t4, t6, tA, k6, h4, h6, hA, hS, hD, -B8_append]
set_option maxHeartbeats 32000000 in
theorem mback_ok_6i (hm : ¬ mode = 2) (H : hyB s4 s6 addr S D inner pr sp dp) (hs : s4.drop 4 = zero12) (zo : bytesB [o0, o1, o2, o3, o4, o5] = true) (zn : bytesB [n0, n1, n2, n3, n4, n5] = true) (W : List Int) (hW : wrV true mode s6 addr 0 inner = ewC W) (w1 : W.length ≤ 1646) (w2 : 20 ≤ W.length) (wz : bytesB W = true) (w0 : anEr W = 0) (w6 : an6 W = true) (hV : unV true W = okO true mode s6 addr 0 inner) : (pvCall Try.prog KEB Dm 100000 2 0 10 [siteA [o0, o1, o2, o3, o4, o5] [n0, n1, n2, n3, n4, n5] s4 s6, .v (.int .u8 mode), backA nm true addr b0 b1 b2 b3 b4 b5, packA [d0, d1, d2, d3, d4, d5] [e0, e1, e2, e3, e4, e5] ty fv6 pr S D sp dp fl rep nn inner cap] (fun _ => none)).map (·.1) = some (.v (.bool true)) := by
  obtain ⟨h4, h6, hA, hS, hD, z4, z6, zA, zS, zD, hz, p0, p1, sp0, sp1, dp0, dp1, hl⟩ := H
  have u1 : ¬ (1700 : Int) < (inner.length : Int) := by omega
  have l1 : inner.length ≤ 9223372036854775807 := by omega
  have l2 : inner.take inner.length = inner := List.take_length
  have hm1 : (mode == 2) = false := by simp [hm]
  have ms := asSite_at (a := [o0, o1, o2, o3, o4, o5]) (b := [n0, n1, n2, n3, n4, n5]) (d := s6) rfl rfl h4
  simp only [B8vc, B8vn, List.cons_append, List.nil_append] at ms
  have a0 := asOut_at (v6 := true) (mode := mode) (sp := 0) h6 hA
  have be : bytesB [n0, n1, n2, n3, n4, n5, o0, o1, o2, o3, o4, o5, 134, 221] = true := by
    simp only [bytesB_cons, Bool.and_eq_true, decide_eq_true_eq] at zo zn ⊢
    refine ⟨zn.1, zn.2.1, zn.2.2.1, zn.2.2.2.1, zn.2.2.2.2.1, zn.2.2.2.2.2.1, zo.1, zo.2.1, zo.2.2.1, zo.2.2.2.1, zo.2.2.2.2.1, zo.2.2.2.2.2.1, ⟨by omega, by omega⟩, ⟨by omega, by omega⟩, rfl⟩
  have er : ethR [n0, n1, n2, n3, n4, n5, o0, o1, o2, o3, o4, o5, 134, 221] = (.tup [ethA [n0, n1, n2, n3, n4, n5] [o0, o1, o2, o3, o4, o5] 34525, .own 0 0 0 0 1 (.whole 5), .v (.int .i64 0)], [B8 []]) := by
    unfold ethR
    rw [if_neg (by simp), if_neg (by simp)]
    rfl
  have y1 : ¬ 1646 < W.length := by omega
  have y2 : W.length ≤ 500000 := by omega
  have y3 : W.take W.length = W := List.take_length
  have y4 : ¬ (W.length : Int) + 14 < 14 := by omega
  have y5 : ¬ (1660 : Int) < (W.length : Int) + 14 := by omega
  have y6 : W.length + 14 ≤ 549755813888 := by omega
  have y7 : (W.length : Int) + 14 ≤ 1660 := by omega
  have y8 : 6 + (6 + (W.length + 1 + 1)) = W.length + 14 := by omega
  have y9 : (6 : Int) + (6 + ((W.length : Int) + 1 + 1)) = (W.length : Int) + 14 := by omega
  have n36 : 36 ≤ S.length + (D.length + 5) := by omega
  have hfr := fun (px : Nat) (args : List AV) (m : Mem) (hl : args.length ≤ Try.f35.ntmps) => pvCall_own (P := Try.prog) (K := KEB) (D := Dm) (L := 100000) (d := 0) (px := px) (args := args) (m := m) (f := 35) (fn := Try.f35) rfl Try.func35 rfl (by decide) rfl rfl hl
  have hop := fun (px : Nat) (args : List AV) (m : Mem) (hl : args.length ≤ Try.f36.ntmps) => pvCall_own (P := Try.prog) (K := KEB) (D := Dm) (L := 100000) (d := 0) (px := px) (args := args) (m := m) (f := 36) (fn := Try.f36) rfl Try.func36 rfl (by decide) rfl rfl hl
  have t4 : s4.take 16 = s4 := List.take_of_length_le (by omega)
  have t6 : s6.take 16 = s6 := List.take_of_length_le (by omega)
  have tA : addr.take 16 = addr := List.take_of_length_le (by omega)
  have k6 : (B8 s6).take 16 = B8 s6 := List.take_of_length_le (by simp [h6])
  rw [pvCall_own (fn := Try.f10) rfl Try.func10 rfl (by decide) rfl rfl (by simp)]
  simp -implicitDefEqProofs [u1, l1, l2, hl, hz, z4, z6, zA, zS, zD, h4, h6, hA, hS, hD, p0, p1, sp0, sp1, dp0, dp1, hm, hm1, ms, a0, fMSite, fEWrap, fEPort, fHTuple, hs, hW, wz, w0, w6, hV, be, er, y1, y2, y3, y4, y5, y6, y7, y8, y9, eqV_ci, eqV_cb, eqV_n, eqV_m, pairOk16 h4 h4, pairOk16 h6 h6, pairOk16 hA hA, eqV_ints (ss := s4) (ds := s4) rfl, eqV_ints (ss := s6) (ds := s6) rfl, eqV_ints (ss := addr) (ds := addr) rfl, asB8_nil'', asB8_cons'', ewC, okO, outA, ethV, ethW, ethA, fEthW, asEth, fEthR, fEOurs, fEUnwrap, n36, hfr, hop, siteA, backA, packA, t4, t6, tA, k6, h4, h6, hA, hS, hD, -B8_append]
end Go.Proofs.Ytmdafjegddnecaa

/- The law EmitBack: its walk. -/
namespace Go.Proofs.Ytmdafjegddnecaa
open Go.ChangeShapes Go.WideShapes Go.ChangeAt Go.RowKit Go.Wb Go.Pm
set_option linter.unusedVariables false
set_option linter.unusedSimpArgs false
set_option maxRecDepth 1000000
theorem mback_run (o0 o1 o2 o3 o4 o5 n0 n1 n2 n3 n4 n5 d0 d1 d2 d3 d4 d5 e0 e1 e2 e3 e4 e5 : Int) (s4 s6 : List Int) (mode : Int) (nm : Value) (v6 : Bool) (addr : List Int) (b0 b1 b2 b3 b4 b5 : Value) (ty : Int) (fv6 : Bool) (pr : Int) (S D : List Int) (sp dp : Int) (fl rep : Value) (nn : Bool) (inner : List Int) (cap : Option Nat) (h4 : s4.length = 16) (h6 : s6.length = 16) (hA : addr.length = 16) (hS : S.length = 16) (hD : D.length = 16) (zo : bytesB [o0, o1, o2, o3, o4, o5] = true) (zn : bytesB [n0, n1, n2, n3, n4, n5] = true) (z4 : bytesB s4 = true) (z6 : bytesB s6 = true) (zA : bytesB addr = true) (zS : bytesB S = true) (zD : bytesB D = true) (hz : bytesB inner = true) (p0 : 0 ≤ pr) (p1 : pr ≤ 255) (sp0 : 0 ≤ sp) (sp1 : sp ≤ 65535) (dp0 : 0 ≤ dp) (dp1 : dp ≤ 65535) (hl : inner.length ≤ 9223372036854775807) : (pvCall Try.prog KEB Dm 100000 2 0 10 [siteA [o0, o1, o2, o3, o4, o5] [n0, n1, n2, n3, n4, n5] s4 s6, .v (.int .u8 mode), backA nm v6 addr b0 b1 b2 b3 b4 b5, packA [d0, d1, d2, d3, d4, d5] [e0, e1, e2, e3, e4, e5] ty fv6 pr S D sp dp fl rep nn inner cap] (fun _ => none)).map (·.1) = some (.v (.bool true)) := by
  by_cases hlong : 1700 < inner.length
  · exact mback_long o0 o1 o2 o3 o4 o5 n0 n1 n2 n3 n4 n5 d0 d1 d2 d3 d4 d5 e0 e1 e2 e3 e4 e5 s4 s6 mode nm v6 addr b0 b1 b2 b3 b4 b5 ty fv6 pr S D sp dp fl rep nn inner cap h4 h6 hA hS hD hl hlong
  have hl' : inner.length ≤ 1700 := by omega
  have H : hyB s4 s6 addr S D inner pr sp dp := ⟨h4, h6, hA, hS, hD, z4, z6, zA, zS, zD, hz, p0, p1, sp0, sp1, dp0, dp1, hl'⟩
  have hr := mixV_range (bits .xor .u64 (fnvF 14695981039346656037 (tupB fv6 pr S D sp dp)) (mixV 0))
  have hr1 : 0 ≤ hashV fv6 pr S D sp dp := hr.1
  by_cases hm : mode = 2
  · subst hm
    cases v6 with
    | true =>
      by_cases hs : s4.drop 4 = zero12
      case neg => exact mback_arg_6g H hs
      rcases enc_law (v6 := true) (mode := 2) (S := s6) (D := addr) (sp := (49152 + hashV fv6 pr S D sp dp % 16384)) (inner := inner) h6 hA z6 zA hz hl' (by omega) (by omega) with ⟨e, ne, hW⟩ | ⟨A, hW, w1, w2, w3, hV, hx⟩
      · exact mback_err_6g H hs e ne hW
      · obtain ⟨wz, w0, w6, _⟩ := hx inner rfl hz
        exact mback_ok_6g H hs zo zn (A ++ inner) hW w1 (by rw [List.length_append]; omega) wz w0 w6 hV
    | false =>
      by_cases hs : s4.drop 4 = zero12
      case neg => exact mback_arg_4g H hs
      rcases enc_law (v6 := false) (mode := 2) (S := s4) (D := addr) (sp := (49152 + hashV fv6 pr S D sp dp % 16384)) (inner := inner) h4 hA z4 zA hz hl' (by omega) (by omega) with ⟨e, ne, hW⟩ | ⟨A, hW, w1, w2, w3, hV, hx⟩
      · exact mback_err_4g H hs e ne hW
      · obtain ⟨wz, w0, w6, _⟩ := hx inner rfl hz
        exact mback_ok_4g H hs zo zn (A ++ inner) hW w1 (by rw [List.length_append]; omega) wz w0 w6 hV
  · cases v6 with
    | true =>
      by_cases hs : s4.drop 4 = zero12
      case neg => exact mback_arg_6i hm H hs
      rcases enc_law (v6 := true) (mode := mode) (S := s6) (D := addr) (sp := 0) (inner := inner) h6 hA z6 zA hz hl' (by omega) (by omega) with ⟨e, ne, hW⟩ | ⟨A, hW, w1, w2, w3, hV, hx⟩
      · exact mback_err_6i hm H hs e ne hW
      · obtain ⟨wz, w0, w6, _⟩ := hx inner rfl hz
        exact mback_ok_6i hm H hs zo zn (A ++ inner) hW w1 (by rw [List.length_append]; omega) wz w0 w6 hV
    | false =>
      by_cases hs : s4.drop 4 = zero12
      case neg => exact mback_arg_4i hm H hs
      rcases enc_law (v6 := false) (mode := mode) (S := s4) (D := addr) (sp := 0) (inner := inner) h4 hA z4 zA hz hl' (by omega) (by omega) with ⟨e, ne, hW⟩ | ⟨A, hW, w1, w2, w3, hV, hx⟩
      · exact mback_err_4i hm H hs e ne hW
      · obtain ⟨wz, w0, w6, _⟩ := hx inner rfl hz
        exact mback_ok_4i hm H hs zo zn (A ++ inner) hW w1 (by rw [List.length_append]; omega) wz w0 w6 hV
def InSite (v : Value) : Prop := ∃ own nx s4 s6, v = .agg (own.map (Value.int .u8) ++ (nx.map (Value.int .u8) ++ (s4.map (Value.int .u8) ++ s6.map (Value.int .u8)))).toArray ∧ own.length = 6 ∧ nx.length = 6 ∧ s4.length = 16 ∧ s6.length = 16 ∧ bytesB own = true ∧ bytesB nx = true ∧ bytesB s4 = true ∧ bytesB s6 = true
theorem flat68 : flat Try.prog 4 68 = some (List.replicate 6 5 ++ (List.replicate 6 5 ++ (List.replicate 16 5 ++ (List.replicate 16 5 ++ [])))) := by kernel_rfl
set_option maxRecDepth 1000000 in
theorem openT68 {H : Type} {enc : TypeId × Value → H} {w : World} {base b0 : Nat} {spare : Nat → Bool} {held : Bool} {r : Reach} {v : Value} {d : DataW H} {p : List MemPlace} (hv : Value.okWide Try.prog w r b0 68 v) (h : DataW.Trod enc Try.prog w base spare held 68 v d p) : InSite v := by
  obtain ⟨cs, rfl, hl⟩ := open_flat flat68 (agg_struct Try.underlying68 hv) h
  obtain ⟨a, us, h1, rfl, w1, hl⟩ := leaves_ints Try.underlying5 6 hl
  obtain ⟨b, us, h2, rfl, w2, hl⟩ := leaves_ints Try.underlying5 6 hl
  obtain ⟨c, us, h3, rfl, w3, hl⟩ := leaves_ints Try.underlying5 16 hl
  obtain ⟨e, us, h4, rfl, w4, hl⟩ := leaves_ints Try.underlying5 16 hl
  obtain rfl := Wb.leaves_nil hl
  exact ⟨a, b, c, e, by simp, h1, h2, h3, h4, bytesB_iff.2 fun x hx => bounds_u8 (w1 x hx), bytesB_iff.2 fun x hx => bounds_u8 (w2 x hx), bytesB_iff.2 fun x hx => bounds_u8 (w3 x hx), bytesB_iff.2 fun x hx => bounds_u8 (w4 x hx)⟩
def InBack (v : Value) : Prop := ∃ nm v6 addr b0 b1 b2 b3 b4 b5, v = .agg (nm :: .bool v6 :: (addr.map (Value.int .u8) ++ [b0, b1, b2, b3, b4, b5])).toArray ∧ addr.length = 16 ∧ bytesB addr = true
theorem flat72 : flat Try.prog 5 72 = some (9 :: 4 :: (List.replicate 16 5 ++ [3, 37, 4, 3, 5, 37])) := by kernel_rfl
set_option maxRecDepth 1000000 in
theorem openT72 {H : Type} {enc : TypeId × Value → H} {w : World} {base b0 : Nat} {spare : Nat → Bool} {held : Bool} {r : Reach} {v : Value} {d : DataW H} {p : List MemPlace} (hv : Value.okWide Try.prog w r b0 72 v) (h : DataW.Trod enc Try.prog w base spare held 72 v d p) : InBack v := by
  obtain ⟨cs, rfl, hl⟩ := open_flat flat72 (agg_struct Try.underlying72 hv) h
  obtain ⟨nm, v1, rfl, _, hl⟩ := Wb.leaves_cons hl
  obtain ⟨v6, v2, rfl, hb⟩ := Wb.leaves_bool Try.underlying4 hl
  obtain ⟨a, us, h1, rfl, w1, hl⟩ := leaves_ints Try.underlying5 16 hb
  obtain ⟨b0, v3, rfl, _, hl⟩ := Wb.leaves_cons hl
  obtain ⟨b1, v4, rfl, _, hl⟩ := Wb.leaves_cons hl
  obtain ⟨b2, v5, rfl, _, hl⟩ := Wb.leaves_cons hl
  obtain ⟨b3, v6', rfl, _, hl⟩ := Wb.leaves_cons hl
  obtain ⟨b4, v7, rfl, _, hl⟩ := Wb.leaves_cons hl
  obtain ⟨b5, v8, rfl, _, hl⟩ := Wb.leaves_cons hl
  obtain rfl := Wb.leaves_nil hl
  exact ⟨nm, v6, a, b0, b1, b2, b3, b4, b5, rfl, h1, bytesB_iff.2 fun x hx => bounds_u8 (w1 x hx)⟩
def vPk (ed es : List Int) (ty : Int) (fv6 : Bool) (pr : Int) (S D : List Int) (sp dp : Int) (fl rep s : Value) : List Value := ed.map (Value.int .u8) ++ (es.map (Value.int .u8) ++ (.int .u16 ty :: .bool fv6 :: .int .u8 pr :: (S.map (Value.int .u8) ++ (D.map (Value.int .u8) ++ [.int .u16 sp, .int .u16 dp, fl, rep, s]))))
def InPack (w : World) (v : Value) : Prop := ∃ ed es ty fv6 pr S D sp dp fl rep a len cap inner, v = .agg (vPk ed es ty fv6 pr S D sp dp fl rep (.slice a len cap)).toArray ∧ Row8 w a len cap inner ∧ ed.length = 6 ∧ es.length = 6 ∧ S.length = 16 ∧ D.length = 16 ∧ bytesB S = true ∧ bytesB D = true ∧ 0 ≤ pr ∧ pr ≤ 255 ∧ 0 ≤ sp ∧ sp ≤ 65535 ∧ 0 ≤ dp ∧ dp ≤ 65535
theorem flat53 : flat Try.prog 5 53 = some (List.replicate 6 5 ++ (List.replicate 6 5 ++ (47 :: 4 :: 5 :: (List.replicate 16 5 ++ (List.replicate 16 5 ++ [47, 47, 5, 4, 24]))))) := by kernel_rfl
theorem cells5e : Try.prog.cellsOf 5 = 1 := by kernel_rfl
set_option maxRecDepth 1000000 in
theorem openT53 {H : Type} {enc : TypeId × Value → H} {w : World} {base b0 : Nat} {spare : Nat → Bool} {held : Bool} {r : Reach} {v : Value} {d : DataW H} {p : List MemPlace} (hv : Value.okWide Try.prog w r b0 53 v) (h : DataW.Trod enc Try.prog w base spare held 53 v d p) : InPack w v := by
  obtain ⟨cs, rfl, hl⟩ := open_flat flat53 (agg_struct Try.underlying53 hv) h
  obtain ⟨ed, us, h1, rfl, _, hl⟩ := leaves_ints Try.underlying5 6 hl
  obtain ⟨es, us, h2, rfl, _, hl⟩ := leaves_ints Try.underlying5 6 hl
  obtain ⟨ty, v0, rfl, _, hl⟩ := leaves_int Try.underlying47 hl
  obtain ⟨fv6, v1, rfl, hb⟩ := Wb.leaves_bool Try.underlying4 hl
  obtain ⟨pr, v2, rfl, e2, hl⟩ := leaves_int Try.underlying5 hb
  obtain ⟨S, us, h3, rfl, w3, hl⟩ := leaves_ints Try.underlying5 16 hl
  obtain ⟨D, us, h4, rfl, w4, hl⟩ := leaves_ints Try.underlying5 16 hl
  obtain ⟨sp, v5, rfl, e5, hl⟩ := leaves_int Try.underlying47 hl
  obtain ⟨dp, v6, rfl, e6, hl⟩ := leaves_int Try.underlying47 hl
  obtain ⟨fl, v7, rfl, _, hl⟩ := Wb.leaves_cons hl
  obtain ⟨rep, v8, rfl, _, hl⟩ := Wb.leaves_cons hl
  obtain ⟨s, v9, rfl, ⟨k, y, hy⟩, hl⟩ := Wb.leaves_cons hl
  obtain rfl := Wb.leaves_nil hl
  obtain ⟨zs, hz⟩ := leaf_row2 Try.underlying24 Try.underlying5 cells5e hy
  obtain ⟨a, len, cap, os, rfl, hrow⟩ := in8_of_row hz
  have b2 := bounds_u8 e2
  have b5 := bounds_u16 e5
  have b6 := bounds_u16 e6
  exact ⟨ed, es, ty, fv6, pr, S, D, sp, dp, fl, rep, a, len, cap, os, rfl, hrow, h1, h2, h3, h4, bytesB_iff.2 fun x hx => bounds_u8 (w3 x hx), bytesB_iff.2 fun x hx => bounds_u8 (w4 x hx), by omega, by omega, by omega, by omega, by omega, by omega⟩
theorem emitBack_walk (w : World) (v0 : Value) (o0 : InSite v0) (mode : Int) (h1 : (Lit.int .u8 mode).wf = true) (v2 : Value) (o2 : InBack v2) (v3 : Value) (o3 : InPack w v3) :
    Calls Try.prog 10 #[v0, .int .u8 mode, v2, v3] w fun e w' => e = .returned (.bool true) ∧ Below w.heap.size w w' := by
  obtain ⟨own, nx, s4, s6, rfl, l0, l1, h4, h6, zo, zn, z4, z6⟩ := o0
  obtain ⟨nm, v6, addr, b0, b1, b2, b3, b4, b5, rfl, hA, zA⟩ := o2
  obtain ⟨ed, es, ty, fv6, pr, S, D, sp, dp, fl, rep, a, len, cap, inner, rfl, ro, l2, l3, hS, hD, zS, zD, p0, p1, sp0, sp1, dp0, dp1⟩ := o3
  have hol : inner.length = len := ro.1
  subst hol
  have r0 : Rel (noneAt w) (siteA own nx s4 s6) (.agg (own.map (Value.int .u8) ++ (nx.map (Value.int .u8) ++ (s4.map (Value.int .u8) ++ s6.map (Value.int .u8)))).toArray) := by
    refine .mkAgg ?_
    exact (relL_ints _ own).append ((relL_ints _ nx).append ((relL_ints _ s4).append (relL_ints _ s6)))
  have r2 : Rel (noneAt w) (backA nm v6 addr b0 b1 b2 b3 b4 b5) (.agg (nm :: .bool v6 :: (addr.map (Value.int .u8) ++ [b0, b1, b2, b3, b4, b5])).toArray) := by
    refine .mkAgg ?_
    exact .cons .v (.cons .v ((relL_ints _ addr).append (.cons .v (.cons .v (.cons .v (.cons .v (.cons .v (.cons .v (.nil _)))))))))
  have r3 : Rel (noneAt w) (packA ed es ty fv6 pr S D sp dp fl rep false inner none) (.agg (vPk ed es ty fv6 pr S D sp dp fl rep (.slice a inner.length cap)).toArray) := by
    refine .mkAgg ?_
    exact (relL_ints _ ed).append ((relL_ints _ es).append (.cons .v (.cons .v (.cons .v ((relL_ints _ S).append ((relL_ints _ D).append (.cons .v (.cons .v (.cons .v (.cons .v (.cons (rel_row ro) (.nil _))))))))))))
  have hb : inner.length ≤ 9223372036854775807 := by have := ro.le; have := ro.cap_le; omega
  obtain ⟨o0, o1, o2, o3, o4, o5, rfl⟩ := list6 own l0
  obtain ⟨n0, n1, n2, n3, n4, n5, rfl⟩ := list6 nx l1
  obtain ⟨d0, d1, d2, d3, d4, d5, rfl⟩ := list6 ed l2
  obtain ⟨e0, e1, e2, e3, e4, e5, rfl⟩ := list6 es l3
  have key := mback_run o0 o1 o2 o3 o4 o5 n0 n1 n2 n3 n4 n5 d0 d1 d2 d3 d4 d5 e0 e1 e2 e3 e4 e5 s4 s6 mode nm v6 addr b0 b1 b2 b3 b4 b5 ty fv6 pr S D sp dp fl rep false inner none h4 h6 hA hS hD zo zn z4 z6 zA zS zD (bytesB_iff.2 ro.5) p0 p1 sp0 sp1 dp0 dp1 hb
  obtain ⟨⟨y, m'⟩, k1, k2⟩ := Option.map_eq_some_iff.1 key
  simp only at k2
  subst k2
  exact law_of_run keb_ok follows_mixed dm_ok k1 (.cons r0 (.cons .v (.cons r2 (.cons r3 (.nil _)))))
end Go.Proofs.Ytmdafjegddnecaa
