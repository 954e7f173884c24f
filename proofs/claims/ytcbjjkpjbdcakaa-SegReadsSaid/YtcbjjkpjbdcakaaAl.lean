/- What both readers of segments tell, in one word each. -/
import Derived.Test.YtcbjjkpjbdcakaaK5
namespace Go.Proofs.Ytcbjjkpjbdcakaa
open Go.RowKit Go.Wb
set_option linter.unusedVariables false
set_option linter.unusedSimpArgs false

structure TcpVal where
  (p0 p2 p4 p8 r f p14 p18 : Int)
  (o q : List Int)
  err : Int
def badTcp (e : Int) : TcpVal := ⟨0, 0, 0, 0, 0, 0, 0, 0, [], [], e⟩
def tcpOf (v6 : Bool) (ss ds zs : List Int) : TcpVal :=
  if zs.length < 20 then badTcp 4 else if tlen zs < 20 then badTcp 5 else if zs.length < tlen zs then badTcp 4 else if ck v6 ss ds 6 zs ≠ 0 then badTcp 6 else
  ⟨w16 zs 0, w16 zs 2, w32 zs 4, w32 zs 8, zs.getD 12 0 % 16, zs.getD 13 0, w16 zs 14, w16 zs 18, (zs.take (tlen zs)).drop 20, zs.drop (tlen zs), 0⟩
def TcpPost (x : TcpVal) (w : World) (e : Ending) (w' : World) : Prop := ∃ a1 c1 a2 c2 B1,
  e = .returned (.tuple #[.agg #[.int .u16 x.p0, .int .u16 x.p2, .int .u32 x.p4, .int .u32 x.p8, .int .u8 x.r, .int .u8 x.f, .int .u16 x.p14, .int .u16 x.p18, .slice a1 x.o.length c1], .slice a2 x.q.length c2, .int .i64 x.err]) ∧ Below w.heap.size w w' ∧
  Own8 w.heap.size w' a1 x.o.length c1 x.o ∧ w.heap.size ≤ B1 ∧ (∀ g, (Value.slice a1 x.o.length c1).ownBlock = some g → g < B1) ∧ Own8 B1 w' a2 x.q.length c2 x.q

structure UdpVal where
  (sp dp : Int)
  ns : Bool
  q : List Int
  err : Int
def badUdp (e : Int) : UdpVal := ⟨0, 0, false, [], e⟩
def udpOf (v6 : Bool) (ss ds zs : List Int) : UdpVal :=
  if zs.length < 8 then badUdp 4 else if w16 zs 4 ≠ zs.length then badUdp 5 else
  if w16 zs 6 = 0 then (if v6 then badUdp 6 else ⟨w16 zs 0, w16 zs 2, true, zs.drop 8, 0⟩) else
  if ck v6 ss ds 17 zs ≠ 0 then badUdp 6 else ⟨w16 zs 0, w16 zs 2, false, zs.drop 8, 0⟩
def UdpPost (x : UdpVal) (w : World) (e : Ending) (w' : World) : Prop := ∃ a c,
  e = .returned (.tuple #[.agg #[.int .u16 x.sp, .int .u16 x.dp, .bool x.ns], .slice a x.q.length c, .int .i64 x.err]) ∧ Below w.heap.size w w' ∧ Own8 w.heap.size w' a x.q.length c x.q

theorem post_badTcp {w w' : World} {e : Ending} {k : Int} (h : noTCP k w e w') : TcpPost (badTcp k) w e w' := by
  obtain ⟨rfl, hb⟩ := h
  exact ⟨none, 0, none, 0, w'.heap.size, rfl, hb, Own8.nil hb.size, hb.size, (by intro g hg; cases hg), Own8.nil (Nat.le_refl _)⟩
theorem post_badUdp {w w' : World} {e : Ending} {k : Int} (h : noUDP k w e w') : UdpPost (badUdp k) w e w' := by
  obtain ⟨rfl, hb⟩ := h
  exact ⟨none, 0, rfl, hb, Own8.nil hb.size⟩
theorem post_okTcp {w w' : World} {e : Ending} {len : Nat} {zs : List Int} (hl : zs.length = len) (h1 : 20 ≤ tlen zs) (h2 : tlen zs ≤ len) (h : okTCP len zs w e w') :
    TcpPost ⟨w16 zs 0, w16 zs 2, w32 zs 4, w32 zs 8, zs.getD 12 0 % 16, zs.getD 13 0, w16 zs 14, w16 zs 18, (zs.take (tlen zs)).drop 20, zs.drop (tlen zs), 0⟩ w e w' := by
  obtain ⟨a1, c1, a2, c2, B1, he, hb, o1, hB, hg, o2⟩ := h
  have e1 : ((zs.take (tlen zs)).drop 20).length = tlen zs - 20 := by rw [List.length_drop, List.length_take]; omega
  have e2 : (zs.drop (tlen zs)).length = len - tlen zs := by rw [List.length_drop]; omega
  refine ⟨a1, c1, a2, c2, B1, ?_, hb, ?_, hB, ?_, ?_⟩
  · simp only [e1, e2]; exact he
  · simp only [e1]; exact o1
  · simp only [e1]; exact hg
  · simp only [e2]; exact o2
theorem post_okUdp {w w' : World} {e : Ending} {len : Nat} {zs : List Int} {ns : Bool} (hl : zs.length = len) (h : okUDP ns len zs w e w') :
    UdpPost ⟨w16 zs 0, w16 zs 2, ns, zs.drop 8, 0⟩ w e w' := by
  obtain ⟨a, c, he, o, hb⟩ := h
  have e1 : (zs.drop 8).length = len - 8 := by rw [List.length_drop]; omega
  refine ⟨a, c, ?_, hb, ?_⟩
  · simp only [e1]; exact he
  · simp only [e1]; exact o

section
variable {w : World} {a : Option Addr} {len cap : Nat} {zs : List Int} (v6 : Bool) (ss ds : List Int) (h : Row8 w a len cap zs) (hl : len ≤ 1099511627776) (hs : ss.length = 16) (hd : ds.length = 16) (bs : ∀ x ∈ ss, 0 ≤ x ∧ x ≤ 255) (bd : ∀ x ∈ ds, 0 ≤ x ∧ x ≤ 255)
include h hl hs hd bs bd
theorem tcp_all : Calls Try.prog 15 #[.bool v6, .agg (ar ss), .agg (ar ds), .slice a len cap] w (TcpPost (tcpOf v6 ss ds zs) w) := by
  have hlen := h.length
  unfold tcpOf
  split
  · exact (tcp_short v6 ss ds h (by omega)).mono fun _ _ => post_badTcp
  obtain ⟨b, off, rfl, _, _⟩ := h.cells 0 (by omega)
  split
  · exact (tcp_form v6 ss ds h (by omega) hl hs hd bs bd (by omega)).mono fun _ _ => post_badTcp
  split
  · exact (tcp_short2 v6 ss ds h (by omega) hl hs hd bs bd (by omega) (by omega)).mono fun _ _ => post_badTcp
  split
  · exact (tcp_sum v6 ss ds h (by omega) hl hs hd bs bd (by omega) (by omega) (by assumption)).mono fun _ _ => post_badTcp
  · exact (tcp_ok v6 ss ds h (by omega) hl hs hd bs bd (by omega) (by omega) (by omega)).mono fun _ _ => post_okTcp hlen (by omega) (by omega)
theorem rtcp_all : Calls Try.prog 16 #[.bool v6, .agg (ar ss), .agg (ar ds), .slice a len cap] w (TcpPost (tcpOf v6 ss ds zs) w) := by
  have hlen := h.length
  unfold tcpOf
  split
  · exact (rtcp_short v6 ss ds h (by omega)).mono fun _ _ => post_badTcp
  obtain ⟨b, off, rfl, _, _⟩ := h.cells 0 (by omega)
  split
  · exact (rtcp_form v6 ss ds h (by omega) hl hs hd bs bd (by omega)).mono fun _ _ => post_badTcp
  split
  · exact (rtcp_short2 v6 ss ds h (by omega) hl hs hd bs bd (by omega) (by omega)).mono fun _ _ => post_badTcp
  split
  · exact (rtcp_sum v6 ss ds h (by omega) hl hs hd bs bd (by omega) (by omega) (by assumption)).mono fun _ _ => post_badTcp
  · exact (rtcp_ok v6 ss ds h (by omega) hl hs hd bs bd (by omega) (by omega) (by omega)).mono fun _ _ => post_okTcp hlen (by omega) (by omega)
theorem udp_all : Calls Try.prog 18 #[.bool v6, .agg (ar ss), .agg (ar ds), .slice a len cap] w (UdpPost (udpOf v6 ss ds zs) w) := by
  have hlen := h.length
  unfold udpOf
  split
  · exact (udp_short v6 ss ds h (by omega)).mono fun _ _ => post_badUdp
  obtain ⟨b, off, rfl, _, _⟩ := h.cells 0 (by omega)
  split
  · by_cases c6 : w16 zs 6 = 0
    · exact (udp_form_y v6 ss ds h (by omega) hl hs hd bs bd c6 (by omega)).mono fun _ _ => post_badUdp
    · exact (udp_form_n v6 ss ds h (by omega) hl hs hd bs bd c6 (by omega)).mono fun _ _ => post_badUdp
  split
  · cases v6
    · exact (udp_ok_none ss ds h (by omega) hl hs hd bs bd (by assumption) (by omega)).mono fun _ _ => post_okUdp hlen
    · exact (udp_none_v6 ss ds h (by omega) hl hs hd bs bd (by assumption) (by omega)).mono fun _ _ => post_badUdp
  split
  · exact (udp_sum v6 ss ds h (by omega) hl hs hd bs bd (by assumption) (by omega) (by assumption)).mono fun _ _ => post_badUdp
  · exact (udp_ok_sum v6 ss ds h (by omega) hl hs hd bs bd (by assumption) (by omega) (by omega)).mono fun _ _ => post_okUdp hlen
theorem rudp_all : Calls Try.prog 19 #[.bool v6, .agg (ar ss), .agg (ar ds), .slice a len cap] w (UdpPost (udpOf v6 ss ds zs) w) := by
  have hlen := h.length
  unfold udpOf
  split
  · exact (rudp_short v6 ss ds h (by omega)).mono fun _ _ => post_badUdp
  obtain ⟨b, off, rfl, _, _⟩ := h.cells 0 (by omega)
  split
  · exact (rudp_form v6 ss ds h (by omega) hl hs hd bs bd trivial (by omega)).mono fun _ _ => post_badUdp
  split
  · cases v6
    · exact (rudp_ok_none ss ds h (by omega) hl hs hd bs bd (by assumption) (by omega)).mono fun _ _ => post_okUdp hlen
    · exact (rudp_none_v6 ss ds h (by omega) hl hs hd bs bd (by assumption) (by omega)).mono fun _ _ => post_badUdp
  split
  · exact (rudp_sum v6 ss ds h (by omega) hl hs hd bs bd (by assumption) (by omega) (by assumption)).mono fun _ _ => post_badUdp
  · exact (rudp_ok_sum v6 ss ds h (by omega) hl hs hd bs bd (by assumption) (by omega) (by omega)).mono fun _ _ => post_okUdp hlen
end
end Go.Proofs.Ytcbjjkpjbdcakaa
