/- What a segment's writer wrote is read as it was: plain facts. -/
import Derived.Test.YtcbjjkpjbdcakaaQm
namespace Go.Proofs.Ytcbjjkpjbdcakaa
open Go.Pm Go.Wb
set_option linter.unusedVariables false
set_option linter.unusedSimpArgs false

theorem ck_zero {v6 : Bool} {ss ds H T : List Int} {pr C : Int} (bs : bytesB ss = true) (bd : bytesB ds = true) (p0 : 0 ≤ pr) (p1 : pr ≤ 255) (hH : bytesB H = true) (hT : bytesB T = true) (he : par false H.length = false)
    (hC : C = ck v6 ss ds pr (H ++ 0 :: 0 :: T) ∨ C = udpC (ck v6 ss ds pr (H ++ 0 :: 0 :: T))) : ck v6 ss ds pr (H ++ C / 256 % 256 :: C % 256 :: T) = 0 := by
  have h0 := (ws_nonneg false H (bytesB_iff.1 hH)).1
  have t0 := (ws_nonneg false T (bytesB_iff.1 hT)).1
  have s0 := (sumTo_range (s := 0) (o := false) (Int.le_refl 0) (phead_b (v6 := v6) (pr := pr) (n := ((H ++ 0 :: 0 :: T).length : Nat)) (bytesB_iff.1 bs) (bytesB_iff.1 bd) p0 p1))
  have hl : (H ++ C / 256 % 256 :: C % 256 :: T).length = (H ++ 0 :: 0 :: T).length := by simp
  have w1 : ws false (H ++ C / 256 % 256 :: C % 256 :: T) = ws false H + (C / 256 % 256 * 256 + (C % 256 + ws false T)) := by rw [ws_append, he]; rfl
  have w0 : ws false (H ++ 0 :: 0 :: T) = ws false H + (0 * 256 + (0 + ws false T)) := by rw [ws_append, he]; rfl
  have hc := ck_range (v6 := v6) (ss := ss) (ds := ds) (pr := pr) (zs := H ++ 0 :: 0 :: T) (fun x hx => by
    rcases List.mem_append.1 hx with h | h
    · exact bytesB_iff.1 hH x h
    · rcases List.mem_cons.1 h with rfl | h
      · omega
      · rcases List.mem_cons.1 h with rfl | h
        · omega
        · exact bytesB_iff.1 hT x h) s0.1
  unfold ck at hC hc ⊢
  unfold udpC at hC
  rw [hl]
  unfold sumTo at hC hc s0 ⊢
  rw [w0] at hC hc
  rw [w1]
  generalize cn (0 + ws false (phead v6 ss ds pr ((H ++ 0 :: 0 :: T).length : Nat))) = s at *
  generalize ws false H = h at *
  generalize ws false T = t at *
  clear hl w1 w0 hH hT he bs bd
  unfold cn at *
  repeat' split at hC
  all_goals (split <;> omega)
theorem putSum_at {H T : List Int} {k : Nat} {C x y : Int} (h : H.length = k) : putSum (H ++ x :: y :: T) k C = H ++ C / 256 % 256 :: C % 256 :: T := (putSum_eq h).symm

section
variable {p0 p1 sq ak re fl wi ur : Int} {os ps ss ds : List Int} {v6 : Bool}
def hd16 (p0 p1 sq ak re fl wi : Int) (os : List Int) : List Int := hl8 [p0, p1, sq / 65536 % 65536, sq % 65536, ak / 65536 % 65536, ak % 65536, (5 + (os.length : Int) / 4) * 4096 + re * 256 + fl, wi]
theorem tcpHead_eq : tcpHead p0 p1 sq ak re fl wi ur os ++ (os ++ ps) = hd16 p0 p1 sq ak re fl wi os ++ 0 :: 0 :: (hl8 [ur] ++ (os ++ ps)) := rfl
theorem tcpW_eq : tcpW v6 ss ds (tcpHead p0 p1 sq ak re fl wi ur os ++ (os ++ ps)) = hd16 p0 p1 sq ak re fl wi os ++ ck v6 ss ds 6 (tcpHead p0 p1 sq ak re fl wi ur os ++ (os ++ ps)) / 256 % 256 :: ck v6 ss ds 6 (tcpHead p0 p1 sq ak re fl wi ur os ++ (os ++ ps)) % 256 :: (hl8 [ur] ++ (os ++ ps)) := by
  unfold tcpW
  exact putSum_at (H := hd16 p0 p1 sq ak re fl wi os) (T := hl8 [ur] ++ (os ++ ps)) (x := 0) (y := 0) (k := 16) rfl
theorem tcpW_len : (tcpW v6 ss ds (tcpHead p0 p1 sq ak re fl wi ur os ++ (os ++ ps))).length = 20 + os.length + ps.length := by
  rw [tcpW_eq]; simp [hd16]; omega
theorem tcpW_bytes (hos : bytesB os = true) (hps : bytesB ps = true) : bytesB (tcpW v6 ss ds (tcpHead p0 p1 sq ak re fl wi ur os ++ (os ++ ps))) = true := by
  rw [tcpW_eq, bytesB_append, bytesB_cons, bytesB_cons, bytesB_append, bytesB_append, hos, hps, hd16, hl8_bytes, hl8_bytes]
  simp only [Bool.and_true, Bool.true_and, Bool.and_eq_true, decide_eq_true_eq]
  omega
theorem tcp_back (r0 : 0 ≤ re) (r1 : re ≤ 15) (f0 : 0 ≤ fl) (f1 : fl ≤ 255) (ho : os.length ≤ 40) (h4 : os.length % 4 = 0) (hos : bytesB os = true) (hps : bytesB ps = true) (bs : bytesB ss = true) (bd : bytesB ds = true)
    (a0 : 0 ≤ p0) (a1 : p0 ≤ 65535) (b0 : 0 ≤ p1) (b1 : p1 ≤ 65535) (c0 : 0 ≤ sq) (c1 : sq < 4294967296) (d0 : 0 ≤ ak) (d1 : ak < 4294967296) (e0 : 0 ≤ wi) (e1 : wi ≤ 65535) (g0 : 0 ≤ ur) (g1 : ur ≤ 65535) :
    tcpV v6 ss ds (tcpW v6 ss ds (tcpHead p0 p1 sq ak re fl wi ur os ++ (os ++ ps))) = (.tup [tcpA p0 p1 sq ak re fl wi ur (.own 0 0 0 os.length 1 (.whole 5)), .own 1 0 0 ps.length 1 (.whole 5), .v (.int .i64 0)], [B8 os, B8 ps]) := by
  have hl : (tcpW v6 ss ds (tcpHead p0 p1 sq ak re fl wi ur os ++ (os ++ ps))).length = 20 + os.length + ps.length := tcpW_len
  have hck : ck v6 ss ds 6 (tcpW v6 ss ds (tcpHead p0 p1 sq ak re fl wi ur os ++ (os ++ ps))) = 0 := by
    rw [tcpW_eq]
    refine ck_zero bs bd (by omega) (by omega) (hl8_bytes _) ?_ (by simp [hd16, par]) (.inl rfl)
    rw [bytesB_append, bytesB_append, hl8_bytes, hos, hps]; rfl
  rw [tcpW_eq] at hl hck ⊢
  generalize ck v6 ss ds 6 (tcpHead p0 p1 sq ak re fl wi ur os ++ (os ++ ps)) = C at *
  generalize hW : hd16 p0 p1 sq ak re fl wi os ++ C / 256 % 256 :: C % 256 :: (hl8 [ur] ++ (os ++ ps)) = W at *
  have g12 : gb W 12 = ((5 + (os.length : Int) / 4) * 4096 + re * 256 + fl) / 256 % 256 := by rw [← hW]; rfl
  have g13 : gb W 13 = ((5 + (os.length : Int) / 4) * 4096 + re * 256 + fl) % 256 := by rw [← hW]; rfl
  have k0 : w16 W 0 = p0 / 256 % 256 * 256 + p0 % 256 := by rw [← hW]; rfl
  have k2 : w16 W 2 = p1 / 256 % 256 * 256 + p1 % 256 := by rw [← hW]; rfl
  have k4 : w16 W 4 = sq / 65536 % 65536 / 256 % 256 * 256 + sq / 65536 % 65536 % 256 := by rw [← hW]; rfl
  have k6 : w16 W 6 = sq % 65536 / 256 % 256 * 256 + sq % 65536 % 256 := by rw [← hW]; rfl
  have k8 : w16 W 8 = ak / 65536 % 65536 / 256 % 256 * 256 + ak / 65536 % 65536 % 256 := by rw [← hW]; rfl
  have k10 : w16 W 10 = ak % 65536 / 256 % 256 * 256 + ak % 65536 % 256 := by rw [← hW]; rfl
  have k14 : w16 W 14 = wi / 256 % 256 * 256 + wi % 256 := by rw [← hW]; rfl
  have k18 : w16 W 18 = ur / 256 % 256 * 256 + ur % 256 := by rw [← hW]; rfl
  have hd20 : W.drop 20 = os ++ ps := by rw [← hW]; rfl
  have hn : gb W 12 / 16 * 4 = 20 + (os.length : Int) := by rw [g12]; omega
  have hnn : (gb W 12 / 16 * 4).toNat = 20 + os.length := by omega
  have hdn : W.drop (20 + os.length) = ps := by rw [← List.drop_drop, hd20, List.drop_left' rfl]
  unfold tcpV
  rw [if_neg (by omega), if_neg (by omega), if_neg (by omega), if_pos hck, hnn]
  unfold tcpR tcpH tcpA w32
  rw [hd20, hdn, show 20 + os.length - 20 = os.length by omega, List.take_left' rfl, hl, show 20 + os.length + ps.length - (20 + os.length) = ps.length by omega]
  have i0 : w16 W 0 = p0 := by omega
  have i2 : w16 W 2 = p1 := by omega
  have i4 : w16 W 4 * 65536 + w16 W (4 + 2) = sq := by rw [show 4 + 2 = 6 from rfl, k4, k6]; omega
  have i8 : w16 W 8 * 65536 + w16 W (8 + 2) = ak := by rw [show 8 + 2 = 10 from rfl, k8, k10]; omega
  have i12 : gb W 12 % 16 = re := by rw [g12]; omega
  have i13 : gb W 13 = fl := by rw [g13]; omega
  have i14 : w16 W 14 = wi := by omega
  have i18 : w16 W 18 = ur := by omega
  rw [i0, i2, i4, i8, i12, i13, i14, i18]
def hd6 (p0 p1 : Int) (ps : List Int) : List Int := hl8 [p0, p1, 8 + (ps.length : Int)]
theorem udpW_eq : udpW v6 ss ds (udpHead p0 p1 ps ++ ps) = hd6 p0 p1 ps ++ udpC (ck v6 ss ds 17 (udpHead p0 p1 ps ++ ps)) / 256 % 256 :: udpC (ck v6 ss ds 17 (udpHead p0 p1 ps ++ ps)) % 256 :: ps := by
  unfold udpW
  exact putSum_at (H := hd6 p0 p1 ps) (T := ps) (x := 0) (y := 0) (k := 6) rfl
theorem udpW_len : (udpW v6 ss ds (udpHead p0 p1 ps ++ ps)).length = 8 + ps.length := by
  rw [udpW_eq]; simp [hd6]; omega
theorem udpW_bytes (hps : bytesB ps = true) : bytesB (udpW v6 ss ds (udpHead p0 p1 ps ++ ps)) = true := by
  rw [udpW_eq, bytesB_append, bytesB_cons, bytesB_cons, hps, hd6, hl8_bytes]
  simp only [Bool.and_true, Bool.true_and, Bool.and_eq_true, decide_eq_true_eq]
  omega
theorem udpZ_len : (udpHead p0 p1 ps ++ ps).length = 8 + ps.length := by simp [udpHead]
theorem udpZ_bytes (hps : bytesB ps = true) : bytesB (udpHead p0 p1 ps ++ ps) = true := by rw [bytesB_append, hps, udpHead, hl8_bytes]; rfl
theorem udp_back (hp : 8 + ps.length ≤ 1660) (hps : bytesB ps = true) (bs : bytesB ss = true) (bd : bytesB ds = true) (a0 : 0 ≤ p0) (a1 : p0 ≤ 65535) (b0 : 0 ≤ p1) (b1 : p1 ≤ 65535) :
    udpV v6 ss ds (udpW v6 ss ds (udpHead p0 p1 ps ++ ps)) = (.tup [udpA p0 p1 false, .own 0 0 0 ps.length 1 (.whole 5), .v (.int .i64 0)], [B8 ps]) := by
  have hl : (udpW v6 ss ds (udpHead p0 p1 ps ++ ps)).length = 8 + ps.length := udpW_len
  have hck : ck v6 ss ds 17 (udpW v6 ss ds (udpHead p0 p1 ps ++ ps)) = 0 := by
    rw [udpW_eq]
    exact ck_zero bs bd (by omega) (by omega) (hl8_bytes _) hps (by simp [hd6, par]) (.inr rfl)
  have hcr := ckB_range (v6 := v6) (pr := 17) bs bd (udpZ_bytes (p0 := p0) (p1 := p1) hps) (by omega) (by omega)
  rw [udpW_eq] at hl hck ⊢
  generalize ck v6 ss ds 17 (udpHead p0 p1 ps ++ ps) = C at *
  have hC : 1 ≤ udpC C ∧ udpC C ≤ 65535 := by unfold udpC; split <;> omega
  generalize udpC C = D at *
  generalize hW : hd6 p0 p1 ps ++ D / 256 % 256 :: D % 256 :: ps = W at *
  have k0 : w16 W 0 = p0 / 256 % 256 * 256 + p0 % 256 := by rw [← hW]; rfl
  have k2 : w16 W 2 = p1 / 256 % 256 * 256 + p1 % 256 := by rw [← hW]; rfl
  have k4 : w16 W 4 = (8 + (ps.length : Int)) / 256 % 256 * 256 + (8 + (ps.length : Int)) % 256 := by rw [← hW]; rfl
  have k6 : w16 W 6 = D / 256 % 256 * 256 + D % 256 := by rw [← hW]; rfl
  have hd8 : W.drop 8 = ps := by rw [← hW]; rfl
  have i0 : w16 W 0 = p0 := by omega
  have i2 : w16 W 2 = p1 := by omega
  have i6 : ¬ w16 W 6 = 0 := by omega
  unfold udpV
  rw [if_neg (by omega), if_pos (by omega), if_neg i6, if_pos hck]
  unfold udpR udpA
  rw [i0, i2, hd8, hl, show 8 + ps.length - 8 = ps.length by omega, decide_eq_false i6]
theorem udp_back0 (hp : 8 + ps.length ≤ 1660) (a0 : 0 ≤ p0) (a1 : p0 ≤ 65535) (b0 : 0 ≤ p1) (b1 : p1 ≤ 65535) :
    udpV false ss ds (udpHead p0 p1 ps ++ ps) = (.tup [udpA p0 p1 true, .own 0 0 0 ps.length 1 (.whole 5), .v (.int .i64 0)], [B8 ps]) := by
  have hl : (udpHead p0 p1 ps ++ ps).length = 8 + ps.length := udpZ_len
  generalize hW : udpHead p0 p1 ps ++ ps = W at *
  have k0 : w16 W 0 = p0 / 256 % 256 * 256 + p0 % 256 := by rw [← hW]; rfl
  have k2 : w16 W 2 = p1 / 256 % 256 * 256 + p1 % 256 := by rw [← hW]; rfl
  have k4 : w16 W 4 = (8 + (ps.length : Int)) / 256 % 256 * 256 + (8 + (ps.length : Int)) % 256 := by rw [← hW]; rfl
  have k6 : w16 W 6 = 0 := by rw [← hW]; rfl
  have hd8 : W.drop 8 = ps := by rw [← hW]; rfl
  have i0 : w16 W 0 = p0 := by omega
  have i2 : w16 W 2 = p1 := by omega
  unfold udpV
  rw [if_neg (by omega), if_pos (by omega), if_pos k6, if_neg (by simp)]
  unfold udpR udpA
  rw [i0, i2, hd8, hl, show 8 + ps.length - 8 = ps.length by omega, decide_eq_true k6]
end
end Go.Proofs.Ytcbjjkpjbdcakaa
