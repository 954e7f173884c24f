/- The law SegWrites as a function of values. -/
import Derived.Test.YtcbjjkpjbdcakaaQn
import Derived.Test.YtcbjjkpjbdcakaaRe
namespace Go.Proofs.Ytcbjjkpjbdcakaa
open Go.Pm
set_option linter.unusedVariables false
set_option linter.unusedSimpArgs false
set_option maxRecDepth 1000000

noncomputable def K6 : Nat → Option Con
  | 23 => some fRWTCP
  | 25 => some fRWUDP
  | 17 => some fSame
  | 14 => some fKnown
  | f => K4 f
theorem k6_ok : KOk Try.prog K6 := fun f F h => by
  unfold K6 at h
  split at h
  · cases h; exact ⟨rwtcp_pure, _, Try.func23, rfl, by decide⟩
  · cases h; exact ⟨rwudp_pure, _, Try.func25, rfl, by decide⟩
  · cases h; exact ⟨same_pure, _, Try.func17, rfl, by decide⟩
  · cases h; exact ⟨known_pure, _, Try.func14, rfl, by decide⟩
  · exact k4_ok f F h
section
variable {D : FuncId → Nat → List Nat} {L d px : Nat} {args : List AV} {m : Mem}
theorem c6_wt : pvCall Try.prog K6 D L d px 22 args m = callBy fWTCP m px args := pvCall_by rfl
theorem c6_wu : pvCall Try.prog K6 D L d px 24 args m = callBy fWUDP m px args := pvCall_by rfl
theorem c6_rwt : pvCall Try.prog K6 D L d px 23 args m = callBy fRWTCP m px args := pvCall_by rfl
theorem c6_rwu : pvCall Try.prog K6 D L d px 25 args m = callBy fRWUDP m px args := pvCall_by rfl
theorem c6_rt : pvCall Try.prog K6 D L d px 15 args m = callBy fTCP m px args := pvCall_by rfl
theorem c6_ru : pvCall Try.prog K6 D L d px 18 args m = callBy fUDP m px args := pvCall_by rfl
theorem c6_same : pvCall Try.prog K6 D L d px 17 args m = callBy fSame m px args := pvCall_by rfl
theorem c6_known : pvCall Try.prog K6 D L d px 14 args m = callBy fKnown m px args := pvCall_by rfl
end
theorem k6_wt : K6 22 = some (.pure fWTCP) := rfl
theorem k6_wu : K6 24 = some (.pure fWUDP) := rfl
theorem k6_rwt : K6 23 = some (.pure fRWTCP) := rfl
theorem k6_rwu : K6 25 = some (.pure fRWUDP) := rfl
theorem k6_rt : K6 15 = some (.pure fTCP) := rfl
theorem k6_ru : K6 18 = some (.pure fUDP) := rfl
theorem k6_same : K6 17 = some (.pure fSame) := rfl
theorem k6_known : K6 14 = some (.pure fKnown) := rfl
attribute [simp] c6_wt c6_wu c6_rwt c6_rwu c6_rt c6_ru c6_same c6_known k6_wt k6_wu k6_rwt k6_rwu k6_rt k6_ru k6_same k6_known
set_option maxHeartbeats 8000000 in
theorem writes_long (p0 p1 sq ak re fl wi ur q0 q1 : Int) (no : Bool) (os ps : List Int) (v6 : Bool) (ss ds : List Int) (on pn : Bool) (oc pc : Option Nat) (h : 1700 < os.length ∨ 1700 < ps.length) :
    (pvCall Try.prog K6 Dm 100000 1 0 4 [.v (.bool v6), .agg (B8 ss), .agg (B8 ds), tcpA p0 p1 sq ak re fl wi ur (.sl on (B8 os) os.length oc), udpA q0 q1 no, .sl pn (B8 ps) ps.length pc] (fun _ => none)).map (·.1) = some (.v (.bool true)) := by
  rw [pvCall_own (fn := Try.f4) rfl Try.func4 rfl (by decide) rfl rfl (by simp)]
  by_cases ho : (1700 : Int) < (os.length : Int)
  · simp -implicitDefEqProofs [tcpA, udpA, ho, fKnown]
  · have hp : (1700 : Int) < (ps.length : Int) := by omega
    simp -implicitDefEqProofs [tcpA, udpA, ho, hp, fKnown]
def OkT (v6 : Bool) (ss ds : List Int) (p0 p1 sq ak re fl wi ur : Int) (os ps W : List Int) : Prop := W.length ≤ 500000 ∧ goodIn ss ds W W.length ∧ tcpV v6 ss ds W = (.tup [tcpA p0 p1 sq ak re fl wi ur (.own 0 0 0 os.length 1 (.whole 5)), .own 1 0 0 ps.length 1 (.whole 5), .v (.int .i64 0)], [B8 os, B8 ps])
def OkU (v6 : Bool) (ss ds : List Int) (q0 q1 : Int) (no : Bool) (ps W : List Int) : Prop := W.length ≤ 500000 ∧ goodIn ss ds W W.length ∧ udpV v6 ss ds W = (.tup [udpA q0 q1 no, .own 0 0 0 ps.length 1 (.whole 5), .v (.int .i64 0)], [B8 ps])
theorem eqV_uub (a b : Int) (c : Bool) : eqV [Value.int .u16 a, Value.int .u16 b, Value.bool c] [Value.int .u16 a, Value.int .u16 b, Value.bool c] = true := by simp [eqV, vEq]
set_option maxHeartbeats 8000000 in
theorem writes_ok (p0 p1 sq ak re fl wi ur q0 q1 : Int) (no : Bool) (os ps : List Int) (v6 : Bool) (ss ds : List Int) (on pn : Bool) (oc pc : Option Nat) (ho : os.length ≤ 1700) (hp : ps.length ≤ 1700)
    (h1 : goodW ss ds ps ps.length) (h2 : goodT re fl os) (h3 : goodT2 p0 p1 sq ak wi ur) (a0 : 0 ≤ q0) (a1 : q0 ≤ 65535) (b0 : 0 ≤ q1) (b1 : q1 ≤ 65535) (W V : List Int)
    (rT : wtcpV v6 ss ds p0 p1 sq ak re fl wi ur os ps = wR W) (oT : OkT v6 ss ds p0 p1 sq ak re fl wi ur os ps W) (rU : wudpV v6 ss ds q0 q1 no ps = wR V) (oU : OkU v6 ss ds q0 q1 no ps V) :
    (pvCall Try.prog K6 Dm 100000 1 0 4 [.v (.bool v6), .agg (B8 ss), .agg (B8 ds), tcpA p0 p1 sq ak re fl wi ur (.sl on (B8 os) os.length oc), udpA q0 q1 no, .sl pn (B8 ps) ps.length pc] (fun _ => none)).map (·.1) = some (.v (.bool true)) := by
  obtain ⟨w1, w2, w3⟩ := oT
  obtain ⟨u1, u2, u3⟩ := oU
  have n1 : ¬ (1700 : Int) < (os.length : Int) := by omega
  have n2 : ¬ (1700 : Int) < (ps.length : Int) := by omega
  have n3 : os.length ≤ 500000 := by omega
  have n4 : ps.length ≤ 500000 := by omega
  have t1 : ss.take 16 = ss := List.take_of_length_le (by have := h1.2.2.1; omega)
  have t2 : ds.take 16 = ds := List.take_of_length_le (by have := h1.2.2.2.1; omega)
  have s1 : ss.length = 16 := h1.2.2.1
  have s2 : ds.length = 16 := h1.2.2.2.1
  rw [pvCall_own (fn := Try.f4) rfl Try.func4 rfl (by decide) rfl rfl (by simp)]
  simp -implicitDefEqProofs [tcpA, udpA, n1, n2, n3, n4, t1, t2, s1, s2, fKnown, fWTCP, fWUDP, fRWTCP, fRWUDP, fTCP, fUDP, fSame, asTcp, h1, h2, h3, a0, a1, b0, b1, rT, rU, wR, w1, w2, w3, u1, u2, u3, Nat.testBit_eq_decide_div_mod_eq, splice, eqV_uub]
set_option maxHeartbeats 8000000 in
theorem writes_te (p0 p1 sq ak re fl wi ur q0 q1 : Int) (no : Bool) (os ps : List Int) (v6 : Bool) (ss ds : List Int) (on pn : Bool) (oc pc : Option Nat) (ho : os.length ≤ 1700) (hp : ps.length ≤ 1700)
    (h1 : goodW ss ds ps ps.length) (h2 : goodT re fl os) (h3 : goodT2 p0 p1 sq ak wi ur) (a0 : 0 ≤ q0) (a1 : q0 ≤ 65535) (b0 : 0 ≤ q1) (b1 : q1 ≤ 65535) (V : List Int)
    (e1 : Int) (ne1 : ¬ e1 = 0) (rT : wtcpV v6 ss ds p0 p1 sq ak re fl wi ur os ps = errW e1) (rU : wudpV v6 ss ds q0 q1 no ps = wR V) (oU : OkU v6 ss ds q0 q1 no ps V) :
    (pvCall Try.prog K6 Dm 100000 1 0 4 [.v (.bool v6), .agg (B8 ss), .agg (B8 ds), tcpA p0 p1 sq ak re fl wi ur (.sl on (B8 os) os.length oc), udpA q0 q1 no, .sl pn (B8 ps) ps.length pc] (fun _ => none)).map (·.1) = some (.v (.bool true)) := by
  have be1 : (e1 == 0) = false := by simp [ne1]
  obtain ⟨u1, u2, u3⟩ := oU
  have n1 : ¬ (1700 : Int) < (os.length : Int) := by omega
  have n2 : ¬ (1700 : Int) < (ps.length : Int) := by omega
  have n3 : os.length ≤ 500000 := by omega
  have n4 : ps.length ≤ 500000 := by omega
  have t1 : ss.take 16 = ss := List.take_of_length_le (by have := h1.2.2.1; omega)
  have t2 : ds.take 16 = ds := List.take_of_length_le (by have := h1.2.2.2.1; omega)
  have s1 : ss.length = 16 := h1.2.2.1
  have s2 : ds.length = 16 := h1.2.2.2.1
  rw [pvCall_own (fn := Try.f4) rfl Try.func4 rfl (by decide) rfl rfl (by simp)]
  simp -implicitDefEqProofs [tcpA, udpA, n1, n2, n3, n4, t1, t2, s1, s2, fKnown, fWTCP, fWUDP, fRWTCP, fRWUDP, fTCP, fUDP, fSame, asTcp, h1, h2, h3, a0, a1, b0, b1, rT, rU, wR, errW, ne1, be1, u1, u2, u3, Nat.testBit_eq_decide_div_mod_eq, splice, eqV_uub]
set_option maxHeartbeats 8000000 in
theorem writes_ue (p0 p1 sq ak re fl wi ur q0 q1 : Int) (no : Bool) (os ps : List Int) (v6 : Bool) (ss ds : List Int) (on pn : Bool) (oc pc : Option Nat) (ho : os.length ≤ 1700) (hp : ps.length ≤ 1700)
    (h1 : goodW ss ds ps ps.length) (h2 : goodT re fl os) (h3 : goodT2 p0 p1 sq ak wi ur) (a0 : 0 ≤ q0) (a1 : q0 ≤ 65535) (b0 : 0 ≤ q1) (b1 : q1 ≤ 65535) (W : List Int)
    (rT : wtcpV v6 ss ds p0 p1 sq ak re fl wi ur os ps = wR W) (oT : OkT v6 ss ds p0 p1 sq ak re fl wi ur os ps W) (e2 : Int) (ne2 : ¬ e2 = 0) (rU : wudpV v6 ss ds q0 q1 no ps = errW e2) :
    (pvCall Try.prog K6 Dm 100000 1 0 4 [.v (.bool v6), .agg (B8 ss), .agg (B8 ds), tcpA p0 p1 sq ak re fl wi ur (.sl on (B8 os) os.length oc), udpA q0 q1 no, .sl pn (B8 ps) ps.length pc] (fun _ => none)).map (·.1) = some (.v (.bool true)) := by
  obtain ⟨w1, w2, w3⟩ := oT
  have be2 : (e2 == 0) = false := by simp [ne2]
  have n1 : ¬ (1700 : Int) < (os.length : Int) := by omega
  have n2 : ¬ (1700 : Int) < (ps.length : Int) := by omega
  have n3 : os.length ≤ 500000 := by omega
  have n4 : ps.length ≤ 500000 := by omega
  have t1 : ss.take 16 = ss := List.take_of_length_le (by have := h1.2.2.1; omega)
  have t2 : ds.take 16 = ds := List.take_of_length_le (by have := h1.2.2.2.1; omega)
  have s1 : ss.length = 16 := h1.2.2.1
  have s2 : ds.length = 16 := h1.2.2.2.1
  rw [pvCall_own (fn := Try.f4) rfl Try.func4 rfl (by decide) rfl rfl (by simp)]
  simp -implicitDefEqProofs [tcpA, udpA, n1, n2, n3, n4, t1, t2, s1, s2, fKnown, fWTCP, fWUDP, fRWTCP, fRWUDP, fTCP, fUDP, fSame, asTcp, h1, h2, h3, a0, a1, b0, b1, rT, rU, wR, w1, w2, w3, errW, ne2, be2, Nat.testBit_eq_decide_div_mod_eq, splice, eqV_uub]
set_option maxHeartbeats 8000000 in
theorem writes_tue (p0 p1 sq ak re fl wi ur q0 q1 : Int) (no : Bool) (os ps : List Int) (v6 : Bool) (ss ds : List Int) (on pn : Bool) (oc pc : Option Nat) (ho : os.length ≤ 1700) (hp : ps.length ≤ 1700)
    (h1 : goodW ss ds ps ps.length) (h2 : goodT re fl os) (h3 : goodT2 p0 p1 sq ak wi ur) (a0 : 0 ≤ q0) (a1 : q0 ≤ 65535) (b0 : 0 ≤ q1) (b1 : q1 ≤ 65535) 
    (e1 : Int) (ne1 : ¬ e1 = 0) (rT : wtcpV v6 ss ds p0 p1 sq ak re fl wi ur os ps = errW e1) (e2 : Int) (ne2 : ¬ e2 = 0) (rU : wudpV v6 ss ds q0 q1 no ps = errW e2) :
    (pvCall Try.prog K6 Dm 100000 1 0 4 [.v (.bool v6), .agg (B8 ss), .agg (B8 ds), tcpA p0 p1 sq ak re fl wi ur (.sl on (B8 os) os.length oc), udpA q0 q1 no, .sl pn (B8 ps) ps.length pc] (fun _ => none)).map (·.1) = some (.v (.bool true)) := by
  have be1 : (e1 == 0) = false := by simp [ne1]
  have be2 : (e2 == 0) = false := by simp [ne2]
  have n1 : ¬ (1700 : Int) < (os.length : Int) := by omega
  have n2 : ¬ (1700 : Int) < (ps.length : Int) := by omega
  have n3 : os.length ≤ 500000 := by omega
  have n4 : ps.length ≤ 500000 := by omega
  have t1 : ss.take 16 = ss := List.take_of_length_le (by have := h1.2.2.1; omega)
  have t2 : ds.take 16 = ds := List.take_of_length_le (by have := h1.2.2.2.1; omega)
  have s1 : ss.length = 16 := h1.2.2.1
  have s2 : ds.length = 16 := h1.2.2.2.1
  rw [pvCall_own (fn := Try.f4) rfl Try.func4 rfl (by decide) rfl rfl (by simp)]
  simp -implicitDefEqProofs [tcpA, udpA, n1, n2, n3, n4, t1, t2, s1, s2, fKnown, fWTCP, fWUDP, fRWTCP, fRWUDP, fTCP, fUDP, fSame, asTcp, h1, h2, h3, a0, a1, b0, b1, rT, rU, wR, errW, ne1, be1, errW, ne2, be2, Nat.testBit_eq_decide_div_mod_eq, splice, eqV_uub]
end Go.Proofs.Ytcbjjkpjbdcakaa
