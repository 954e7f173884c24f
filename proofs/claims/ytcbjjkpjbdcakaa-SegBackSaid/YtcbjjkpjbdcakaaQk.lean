/- The reference's WriteTCP as a function of values. -/
import Derived.Test.YtcbjjkpjbdcakaaQi
import Derived.Test.YtcbjjkpjbdcakaaQj
namespace Go.Proofs.Ytcbjjkpjbdcakaa
open Go.Pm
set_option linter.unusedVariables false
set_option linter.unusedSimpArgs false
set_option maxRecDepth 1000000

noncomputable def K4 : Nat → Option Con
  | 59 => some (.app 5 fLay)
  | 22 => some fWTCP
  | 24 => some fWUDP
  | f => K3 f
theorem k4_ok : KOk Try.prog K4 := fun f F h => by
  unfold K4 at h
  split at h
  · cases h; exact ⟨lay_app, _, Try.func59, rfl, by decide⟩
  · cases h; exact ⟨wtcp_pure, _, Try.func22, rfl, by decide⟩
  · cases h; exact ⟨wudp_pure, _, Try.func24, rfl, by decide⟩
  · exact k3_ok f F h
theorem c4_right {D : FuncId → Nat → List Nat} {L d px : Nat} {args : List AV} {m : Mem} : pvCall Try.prog K4 D L d px 57 args m = callBy fSealed m px args := pvCall_by rfl
theorem c4_lay {D : FuncId → Nat → List Nat} {L d px : Nat} {args : List AV} {m : Mem} : pvCall Try.prog K4 D L d px 59 args m = appK m (appE 5 fLay m px args) := pvCall_app rfl
theorem k4_right : K4 57 = some (.pure fSealed) := rfl
theorem k4_lay : K4 59 = some (.app 5 fLay) := rfl
@[simp] theorem B8_app1 (zs : List Int) (x : Int) (xs : List AV) : B8 zs ++ (.v (.int .u8 x)) :: xs = B8 (zs ++ [x]) ++ xs := by simp [B8]
@[simp] theorem asB8_nil : asB8 [] = some [] := rfl
attribute [simp] c4_right c4_lay k4_right k4_lay appE fLay
theorem ckB_range {v6 : Bool} {ss ds zs : List Int} {pr : Int} (bs : bytesB ss = true) (bd : bytesB ds = true) (bz : bytesB zs = true) (p0 : 0 ≤ pr) (p1 : pr ≤ 255) : 0 ≤ ck v6 ss ds pr zs ∧ ck v6 ss ds pr zs ≤ 65535 :=
  ck_range (bytesB_iff.1 bz) (sumTo_range (Int.le_refl 0) (phead_b (bytesB_iff.1 bs) (bytesB_iff.1 bd) p0 p1)).1
theorem head_eq {p0 p1 sq ak re fl wi ur : Int} {os ps : List Int} (r0 : 0 ≤ re) (r1 : re ≤ 15) (f0 : 0 ≤ fl) (f1 : fl ≤ 255) (ho : os.length ≤ 40)
    (a0 : 0 ≤ p0) (a1 : p0 ≤ 65535) (b0 : 0 ≤ p1) (b1 : p1 ≤ 65535) (c0 : 0 ≤ sq) (c1 : sq < 4294967296) (d0 : 0 ≤ ak) (d1 : ak < 4294967296) (e0 : 0 ≤ wi) (e1 : wi ≤ 65535) (g0 : 0 ≤ ur) (g1 : ur ≤ 65535) :
    [p0 / 256 % 256, p0 % 256, p1 / 256 % 256, p1 % 256, sq / 256 / 256 / 256 % 256, sq / 256 / 256 % 256, sq / 256 % 256, sq % 256, ak / 256 / 256 / 256 % 256, ak / 256 / 256 % 256, ak / 256 % 256, ak % 256, 16 * (5 + (os.length : Int) / 4) + re, fl, wi / 256 % 256, wi % 256] ++ 0 :: 0 :: ([ur / 256 % 256, ur % 256] ++ (os ++ ps)) = tcpHead p0 p1 sq ak re fl wi ur os ++ (os ++ ps) := by
  simp only [tcpHead, hl8, List.cons_append, List.nil_append, List.cons.injEq, and_true, true_and]
  refine ⟨by omega, by omega, by omega, by omega, by omega, by omega, by omega, by omega, by omega, by omega, by omega, by omega⟩
theorem putSum_eq {H T : List Int} {k : Nat} {C : Int} {x y : Int} (h : H.length = k) : H ++ C / 256 % 256 :: C % 256 :: T = putSum (H ++ x :: y :: T) k C := by
  subst h
  unfold putSum
  rw [List.take_left' rfl, show H ++ x :: y :: T = (H ++ [x, y]) ++ T by simp, List.drop_left' (by simp)]
  simp
set_option maxHeartbeats 8000000 in
theorem rwt_ok (p0 p1 sq ak re fl wi ur : Int) (os ps : List Int) (v6 : Bool) (ss ds : List Int) (on pn : Bool) (oc pc : Option Nat) (r0 : 0 ≤ re) (r1 : re ≤ 15) (f0 : 0 ≤ fl) (f1 : fl ≤ 255) (ho : os.length ≤ 40) (h4 : os.length % 4 = 0) (hp : 20 + os.length + ps.length ≤ 1660)
    (a0 : 0 ≤ p0) (a1 : p0 ≤ 65535) (b0 : 0 ≤ p1) (b1 : p1 ≤ 65535) (c0 : 0 ≤ sq) (c1 : sq < 4294967296) (d0 : 0 ≤ ak) (d1 : ak < 4294967296) (e0 : 0 ≤ wi) (we1 : wi ≤ 65535) (g0 : 0 ≤ ur) (g1 : ur ≤ 65535)
    (hs : ss.length = 16) (hd : ds.length = 16) (hz : bytesB ps = true) (hoz : bytesB os = true) (bs : bytesB ss = true) (bd : bytesB ds = true) :
    runF Try.prog K4 Dm 100000 1 23 [.v (.bool v6), .agg (B8 ss), .agg (B8 ds), tcpA p0 p1 sq ak re fl wi ur (.sl on (B8 os) os.length oc), .sl pn (B8 ps) ps.length pc] = some (wR (tcpW v6 ss ds (tcpHead p0 p1 sq ak re fl wi ur os ++ (os ++ ps)))) := by
  have e1 : IntKind.i64.wrap (20 + (os.length : Int)) = 20 + (os.length : Int) := wrap64_id (by omega) (by omega)
  have e2 : IntKind.i64.wrap (20 + (os.length : Int) + (ps.length : Int)) = 20 + (os.length : Int) + (ps.length : Int) := wrap64_id (by omega) (by omega)
  have q1 : ¬ (40 : Int) < (os.length : Int) := by omega
  have q3 : ¬ (16 : Int) ≤ re := by omega
  have q4 : ¬ (1660 : Int) < 20 + (os.length : Int) + (ps.length : Int) := by omega
  have t1 : ss.take 16 = ss := List.take_of_length_le (by omega)
  have t2 : ds.take 16 = ds := List.take_of_length_le (by omega)
  have q5 : ((os.length : Int)).tmod 4 = 0 := by rw [Int.tmod_eq_emod_of_nonneg (by omega)]; omega
  have q6 : ((os.length : Int)).tdiv 4 = (os.length : Int) / 4 := by rw [Int.tdiv_eq_ediv_of_nonneg (by omega)]
  have e3 : IntKind.i64.wrap ((os.length : Int) / 4) = (os.length : Int) / 4 := wrap64_id (by omega) (by omega)
  have e4 : IntKind.i64.wrap (5 + (os.length : Int) / 4) = 5 + (os.length : Int) / 4 := wrap64_id (by omega) (by omega)
  have e5 : IntKind.i64.wrap (16 * (5 + (os.length : Int) / 4)) = 16 * (5 + (os.length : Int) / 4) := wrap64_id (by omega) (by omega)
  have u0 : IntKind.u32.wrap p0 = p0 := wrapu32_id (by omega) (by omega)
  have u1 : IntKind.u32.wrap p1 = p1 := wrapu32_id (by omega) (by omega)
  have u2 : IntKind.u32.wrap wi = wi := wrapu32_id (by omega) (by omega)
  have u3 : IntKind.u32.wrap ur = ur := wrapu32_id (by omega) (by omega)
  have x0 : p0 < 4294967296 := by omega
  have x1 : p1 < 4294967296 := by omega
  have x2 : wi < 4294967296 := by omega
  have x3 : ur < 4294967296 := by omega
  have y0 : IntKind.u8.wrap (16 * (5 + (os.length : Int) / 4)) = 16 * (5 + (os.length : Int) / 4) := wrapu8_id (by omega) (by omega)
  have y1 : IntKind.u8.wrap (16 * (5 + (os.length : Int) / 4) + re) = 16 * (5 + (os.length : Int) / 4) + re := wrapu8_id (by omega) (by omega)
  have m3 : os.length ≤ 500000 := by omega
  have m4 : ps.length ≤ 500000 := by omega
  obtain ⟨U, hU⟩ : ∃ U : List Int, [ur / 256 % 256, ur % 256] = U := ⟨_, rfl⟩
  have hUl : U.length = 2 := by rw [← hU]; rfl
  have hUb : bytesB U = true := by rw [← hU]; simp only [bytesB_cons, Bool.and_eq_true, decide_eq_true_eq]; refine ⟨⟨by omega, by omega⟩, ⟨by omega, by omega⟩, rfl⟩
  have hU2 : U.take 2 = U := List.take_of_length_le (by omega)
  have hU3 : (U ++ os).take (2 + os.length) = U ++ os := List.take_of_length_le (by simp; omega)
  obtain ⟨T, hT⟩ : ∃ T : List Int, U ++ (os ++ ps) = T := ⟨_, rfl⟩
  have hTl : T.length = 2 + os.length + ps.length := by rw [← hT]; simp; omega
  have hTb : bytesB T = true := by rw [← hT, bytesB_append, bytesB_append, hUb, hz, hoz]; rfl
  have hTt : T.take (2 + os.length + ps.length) = T := List.take_of_length_le (by omega)
  obtain ⟨H, hH⟩ : ∃ H : List Int, [p0 / 256 % 256, p0 % 256, p1 / 256 % 256, p1 % 256, sq / 256 / 256 / 256 % 256, sq / 256 / 256 % 256, sq / 256 % 256, sq % 256, ak / 256 / 256 / 256 % 256, ak / 256 / 256 % 256, ak / 256 % 256, ak % 256, 16 * (5 + (os.length : Int) / 4) + re, fl, wi / 256 % 256, wi % 256] = H := ⟨_, rfl⟩
  have hHl : H.length = 16 := by rw [← hH]; rfl
  have hHt : H.take 16 = H := List.take_of_length_le (by omega)
  have hHb : bytesB H = true := by
    rw [← hH]
    simp only [bytesB_cons, Bool.and_eq_true, decide_eq_true_eq]
    refine ⟨⟨by omega, by omega⟩, ⟨by omega, by omega⟩, ⟨by omega, by omega⟩, ⟨by omega, by omega⟩, ⟨by omega, by omega⟩, ⟨by omega, by omega⟩, ⟨by omega, by omega⟩, ⟨by omega, by omega⟩, ⟨by omega, by omega⟩, ⟨by omega, by omega⟩, ⟨by omega, by omega⟩, ⟨by omega, by omega⟩, ⟨by omega, by omega⟩, ⟨by omega, by omega⟩, ⟨by omega, by omega⟩, ⟨by omega, by omega⟩, rfl⟩
  have hHz : (H ++ [0, 0]).take 18 = H ++ [0, 0] := List.take_of_length_le (by simp; omega)
  obtain ⟨Z, hZ⟩ : ∃ Z : List Int, H ++ 0 :: 0 :: T = Z := ⟨_, rfl⟩
  have hZl : Z.length = 18 + (2 + os.length + ps.length) := by rw [← hZ]; simp; omega
  have hZb : bytesB Z = true := by rw [← hZ, bytesB_append, bytesB_cons, bytesB_cons, hHb, hTb]; rfl
  have hZt : Z.take (18 + (2 + os.length + ps.length)) = Z := List.take_of_length_le (by omega)
  obtain ⟨C, hC⟩ : ∃ C, ck v6 ss ds 6 Z = C := ⟨_, rfl⟩
  have hCr := ckB_range (v6 := v6) (pr := 6) bs bd hZb (by omega) (by omega)
  rw [hC] at hCr
  have hCw : IntKind.u32.wrap C = C := wrapu32_id (by omega) (by omega)
  have hC0 : 0 ≤ C := hCr.1
  have hC1 : C < 4294967296 := by omega
  have hHc : (H ++ [C / 256 % 256, C % 256]).take 18 = H ++ [C / 256 % 256, C % 256] := List.take_of_length_le (by simp; omega)
  have z6 : 18 + (2 + os.length + ps.length) ≤ 1099511627776 := by omega
  have z7 : 18 + (2 + os.length + ps.length) ≤ 500000 := by omega
  have z1 : 2 + os.length ≤ 549755813888 := by omega
  have z2 : 2 + os.length + ps.length ≤ 549755813888 := by omega
  have z3 : 16 + (2 + os.length + ps.length) ≤ 549755813888 := by omega
  have z4 : 18 + (2 + os.length + ps.length) ≤ 549755813888 := by omega
  have z5 : 2 + os.length ≤ 549755813886 := by omega
  have hZe : Z = tcpHead p0 p1 sq ak re fl wi ur os ++ (os ++ ps) := by rw [← hZ, ← hT, ← hU, ← hH]; exact head_eq r0 r1 f0 f1 ho a0 a1 b0 b1 c0 c1 d0 d1 e0 we1 g0 g1
  have hWe : H ++ C / 256 % 256 :: C % 256 :: T = putSum Z 16 C := by rw [← hZ]; exact putSum_eq hHl
  have hWl : (putSum Z 16 C).length = 18 + (2 + os.length + ps.length) := by rw [← hWe]; simp; omega
  unfold tcpW
  rw [← hZe, hC, ← hWe]
  unfold runF wR
  rw [hWe, hWl, ← hWe]
  rw [pvCall_own (fn := Try.f23) rfl Try.func23 rfl (by decide) rfl rfl (by simp)]
  simp -implicitDefEqProofs [hHz, hZ, hZl, hZb, hZt, hC, hCw, hC0, hC1, hHc, z6, z7, hU, hUl, hUb, hU2, hU3, hT, hTl, hTb, hTt, hH, hHl, hHt, hHb, z1, z2, z3, z4, z5, y0, y1, m3, m4, Nat.testBit_eq_decide_div_mod_eq, tcpA, splice, IntKind.bits, e1, e2, q1, q3, q4, q5, q6, e3, e4, e5, u0, u1, u2, u3, x0, x1, x2, x3, a0, b0, c0, c1, d0, d1, e0, g0, t1, t2, hs, hd, hz, hoz, bs, bd, fdiv_nn]
set_option maxHeartbeats 8000000 in
theorem rwt_form1 (p0 p1 sq ak re fl wi ur : Int) (os ps : List Int) (v6 : Bool) (ss ds : List Int) (on pn : Bool) (oc pc : Option Nat) (hol : os.length ≤ 1700) (hpl : ps.length ≤ 1700) (ho : 40 < os.length) :
    runF Try.prog K4 Dm 100000 1 23 [.v (.bool v6), .agg (B8 ss), .agg (B8 ds), tcpA p0 p1 sq ak re fl wi ur (.sl on (B8 os) os.length oc), .sl pn (B8 ps) ps.length pc] = some (errW 5) := by
  have e1 : IntKind.i64.wrap (20 + (os.length : Int)) = 20 + (os.length : Int) := wrap64_id (by omega) (by omega)
  have e2 : IntKind.i64.wrap (20 + (os.length : Int) + (ps.length : Int)) = 20 + (os.length : Int) + (ps.length : Int) := wrap64_id (by omega) (by omega)
  have q1 : (40 : Int) < (os.length : Int) := by omega
  unfold runF
  rw [pvCall_own (fn := Try.f23) rfl Try.func23 rfl (by decide) rfl rfl (by simp)]
  simp -implicitDefEqProofs [errW, tcpA, splice, IntKind.bits, e1, e2, q1]
set_option maxHeartbeats 8000000 in
theorem rwt_form2 (p0 p1 sq ak re fl wi ur : Int) (os ps : List Int) (v6 : Bool) (ss ds : List Int) (on pn : Bool) (oc pc : Option Nat) (hol : os.length ≤ 1700) (hpl : ps.length ≤ 1700) (ho : os.length ≤ 40) (h4 : ¬ os.length % 4 = 0) :
    runF Try.prog K4 Dm 100000 1 23 [.v (.bool v6), .agg (B8 ss), .agg (B8 ds), tcpA p0 p1 sq ak re fl wi ur (.sl on (B8 os) os.length oc), .sl pn (B8 ps) ps.length pc] = some (errW 5) := by
  have e1 : IntKind.i64.wrap (20 + (os.length : Int)) = 20 + (os.length : Int) := wrap64_id (by omega) (by omega)
  have e2 : IntKind.i64.wrap (20 + (os.length : Int) + (ps.length : Int)) = 20 + (os.length : Int) + (ps.length : Int) := wrap64_id (by omega) (by omega)
  have q1 : ¬ (40 : Int) < (os.length : Int) := by omega
  have q5 : ¬ ((os.length : Int)).tmod 4 = 0 := by rw [Int.tmod_eq_emod_of_nonneg (by omega)]; omega
  have q7 : (((os.length : Int)).tmod 4 != 0) = true := by simp [q5]
  unfold runF
  rw [pvCall_own (fn := Try.f23) rfl Try.func23 rfl (by decide) rfl rfl (by simp)]
  simp -implicitDefEqProofs [errW, tcpA, splice, IntKind.bits, e1, e2, q1, q5, q7]
set_option maxHeartbeats 8000000 in
theorem rwt_form3 (p0 p1 sq ak re fl wi ur : Int) (os ps : List Int) (v6 : Bool) (ss ds : List Int) (on pn : Bool) (oc pc : Option Nat) (hol : os.length ≤ 1700) (hpl : ps.length ≤ 1700) (ho : os.length ≤ 40) (h4 : os.length % 4 = 0) (r1 : 15 < re) :
    runF Try.prog K4 Dm 100000 1 23 [.v (.bool v6), .agg (B8 ss), .agg (B8 ds), tcpA p0 p1 sq ak re fl wi ur (.sl on (B8 os) os.length oc), .sl pn (B8 ps) ps.length pc] = some (errW 5) := by
  have e1 : IntKind.i64.wrap (20 + (os.length : Int)) = 20 + (os.length : Int) := wrap64_id (by omega) (by omega)
  have e2 : IntKind.i64.wrap (20 + (os.length : Int) + (ps.length : Int)) = 20 + (os.length : Int) + (ps.length : Int) := wrap64_id (by omega) (by omega)
  have q1 : ¬ (40 : Int) < (os.length : Int) := by omega
  have q5 : ((os.length : Int)).tmod 4 = 0 := by rw [Int.tmod_eq_emod_of_nonneg (by omega)]; omega
  have r2 : 16 ≤ re := by omega
  unfold runF
  rw [pvCall_own (fn := Try.f23) rfl Try.func23 rfl (by decide) rfl rfl (by simp)]
  simp -implicitDefEqProofs [errW, tcpA, splice, IntKind.bits, e1, e2, q1, q5, r2]
set_option maxHeartbeats 8000000 in
theorem rwt_long (p0 p1 sq ak re fl wi ur : Int) (os ps : List Int) (v6 : Bool) (ss ds : List Int) (on pn : Bool) (oc pc : Option Nat) (hol : os.length ≤ 1700) (hpl : ps.length ≤ 1700) (ho : os.length ≤ 40) (h4 : os.length % 4 = 0) (r1 : re ≤ 15) (hp : 1660 < 20 + os.length + ps.length) :
    runF Try.prog K4 Dm 100000 1 23 [.v (.bool v6), .agg (B8 ss), .agg (B8 ds), tcpA p0 p1 sq ak re fl wi ur (.sl on (B8 os) os.length oc), .sl pn (B8 ps) ps.length pc] = some (errW 3) := by
  have e1 : IntKind.i64.wrap (20 + (os.length : Int)) = 20 + (os.length : Int) := wrap64_id (by omega) (by omega)
  have e2 : IntKind.i64.wrap (20 + (os.length : Int) + (ps.length : Int)) = 20 + (os.length : Int) + (ps.length : Int) := wrap64_id (by omega) (by omega)
  have q1 : ¬ (40 : Int) < (os.length : Int) := by omega
  have q5 : ((os.length : Int)).tmod 4 = 0 := by rw [Int.tmod_eq_emod_of_nonneg (by omega)]; omega
  have q3 : ¬ (16 : Int) ≤ re := by omega
  have q4 : (1660 : Int) < 20 + (os.length : Int) + (ps.length : Int) := by omega
  unfold runF
  rw [pvCall_own (fn := Try.f23) rfl Try.func23 rfl (by decide) rfl rfl (by simp)]
  simp -implicitDefEqProofs [errW, tcpA, splice, IntKind.bits, e1, e2, q1, q5, q3, q4]
def goodT2 (p0 p1 sq ak wi ur : Int) : Prop := (0 ≤ p0 ∧ p0 ≤ 65535) ∧ (0 ≤ p1 ∧ p1 ≤ 65535) ∧ (0 ≤ sq ∧ sq < 4294967296) ∧ (0 ≤ ak ∧ ak < 4294967296) ∧ (0 ≤ wi ∧ wi ≤ 65535) ∧ 0 ≤ ur ∧ ur ≤ 65535
instance (p0 p1 sq ak wi ur : Int) : Decidable (goodT2 p0 p1 sq ak wi ur) := by unfold goodT2; infer_instance
def fRWTCP : Fun
  | [.v (.bool v6), .agg a, .agg b, t, .sl nn c len cap] => (asB8 a).bind fun ss => (asB8 b).bind fun ds => (asTcp t).bind fun t => (asB8 c).bind fun ps =>
      if goodW ss ds ps len ∧ goodT t.2.2.2.2.1 t.2.2.2.2.2.1 t.2.2.2.2.2.2.2.2 ∧ goodT2 t.1 t.2.1 t.2.2.1 t.2.2.2.1 t.2.2.2.2.2.2.1 t.2.2.2.2.2.2.2.1 then some (wtcpV v6 ss ds t.1 t.2.1 t.2.2.1 t.2.2.2.1 t.2.2.2.2.1 t.2.2.2.2.2.1 t.2.2.2.2.2.2.1 t.2.2.2.2.2.2.2.1 t.2.2.2.2.2.2.2.2 ps) else none
  | _ => none
theorem rwtcp_pure : Pure Try.prog 23 fRWTCP := (runF_pure k4_ok follows_mixed dm_ok 100000 1 23).weaken fun args r h => by
  unfold fRWTCP at h
  split at h
  · rename_i v6 a b t nn c len cap
    obtain ⟨ss, e1, h1⟩ := Option.bind_eq_some_iff.1 h
    obtain ⟨ds, e2, h2⟩ := Option.bind_eq_some_iff.1 h1
    obtain ⟨⟨p0, p1, sq, ak, re, fl, wi, ur, os⟩, e4, h3⟩ := Option.bind_eq_some_iff.1 h2
    obtain ⟨ps, e3, he⟩ := Option.bind_eq_some_iff.1 h3
    clear h h1 h2 h3
    split at he
    case isFalse => cases he
    rename_i hh
    obtain ⟨⟨rfl, hl, h1, h2, h3, h4, h5⟩, ⟨g1, g2, g3, g4, g5, g6⟩, ⟨i1, i2, i3, i4, i5, i6⟩⟩ := hh
    obtain rfl := asB8_eq e1
    obtain rfl := asB8_eq e2
    obtain rfl := asB8_eq e3
    obtain ⟨on, oc, rfl⟩ := asTcp_eq e4
    rw [← he]
    simp only at g1 g2 g3 g4 g5 g6 i1 i2 i3 i4 i5 i6 ⊢
    unfold wtcpV
    split
    · rename_i q; exact rwt_form1 _ _ _ _ _ _ _ _ os ps v6 ss ds on nn oc cap g1 hl q
    split
    · rename_i q0 q; exact rwt_form2 _ _ _ _ _ _ _ _ os ps v6 ss ds on nn oc cap g1 hl (by omega) q
    split
    · rename_i q0 q1 q; exact rwt_form3 _ _ _ _ _ _ _ _ os ps v6 ss ds on nn oc cap g1 hl (by omega) (by omega) q
    split
    · rename_i q0 q1 q2 q; exact rwt_long _ _ _ _ _ _ _ _ os ps v6 ss ds on nn oc cap g1 hl (by omega) (by omega) (by omega) q
    · rename_i q0 q1 q2 q; exact rwt_ok _ _ _ _ _ _ _ _ os ps v6 ss ds on nn oc cap g2 (by omega) g4 g5 (by omega) (by omega) (by omega) i1.1 i1.2 i2.1 i2.2 i3.1 i3.2 i4.1 i4.2 i5.1 i5.2 i6.1 i6.2 h1 h2 h3 g6 h4 h5
  · cases h
end Go.Proofs.Ytcbjjkpjbdcakaa
