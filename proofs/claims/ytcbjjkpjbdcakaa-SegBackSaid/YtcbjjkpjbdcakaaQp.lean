/- The law SegWrites: what comes in, and the walk. -/
import Derived.Test.YtcbjjkpjbdcakaaQo
import Derived.Test.YtcbjjkpjbdcakaaIn
namespace Go.Wb
open Go.ChangeShapes Go.WideShapes Go.ChangeAt Go.RowKit
theorem leaf_row {H : Type} {enc : TypeId × Value → H} {P : Program} {w : World} {base : Nat} {spare : Nat → Bool} {held : Bool} {t e : TypeId} {k : IntKind} {v : Value} {y : DataW H × List MemPlace} {fuel : Nat} (ht : P.underlying t = some (.slice e)) (he : P.underlying e = some (.int k)) (hc : P.cellsOf e = 1)
    (hf : DataW.trod enc P w base spare held fuel t [v] = some y) : ∃ zs, IsRow k w v zs := by
  have hs : ∃ a len cap, v = .slice a len cap := by
    rcases open_ints ht he hc hf with ⟨hcs, _⟩ | ⟨x, l, c, zs, hcs, _⟩
    · simp at hcs; exact ⟨_, _, _, hcs⟩
    · simp at hcs; exact ⟨_, _, _, hcs⟩
  obtain ⟨a, len, cap, rfl⟩ := hs
  rcases open_ints ht he hc hf with ⟨hcs, _⟩ | ⟨x, l, c, zs, hcs, _, hl, hm, hz, _, hcell, hwz⟩
  · simp at hcs
    obtain ⟨rfl, rfl, rfl⟩ := hcs
    exact ⟨[], _, _, _, rfl, rfl, Nat.le_refl _, by simp [maxLen], .inl rfl, by simp, fun _ => rfl⟩
  · simp at hcs
    obtain ⟨rfl, rfl, rfl⟩ := hcs
    have hzl : len ≤ zs.length := by rw [hz]; split <;> omega
    refine ⟨zs.take len, _, _, _, rfl, by simp; omega, hl, hm, ?_, fun n hn => hwz n (List.mem_of_mem_take hn), fun h => by cases h⟩
    by_cases h0 : len = 0
    · exact .inl h0
    · right
      obtain ⟨b, off, spot⟩ := x
      have hc0 := hcell 0 (by omega)
      have hspot : spot = none := by simpa [Addr.add] using World.cell?_spot hc0
      subst hspot
      refine ⟨b, off, rfl, ?_, ?_⟩
      · have : (w.cell? ⟨b, off, none⟩) = some (.int k (zs.getD 0 0)) := by simpa [Addr.add] using hc0
        unfold World.cell? at this
        rcases Nat.lt_or_ge b w.heap.size with h' | h'
        · exact h'
        · simp [Array.getElem?_eq_none h'] at this
      · intro i hi
        have := hcell i (by omega)
        rw [List.getD_eq_getElem?_getD, List.getElem?_take_of_lt hi, ← List.getD_eq_getElem?_getD, ← this]
        unfold Addr.add
        split
        · rename_i h; simp [h]
        · rfl
end Go.Wb
namespace Go.Proofs.Ytcbjjkpjbdcakaa
open Go.ChangeShapes Go.WideShapes Go.ChangeAt Go.RowKit Go.Wb
set_option linter.unusedVariables false

theorem b_u32 {x : Int} (h : (Lit.int .u32 x).wf = true) : 0 ≤ x ∧ x < 4294967296 := by
  have := bounds_u32 h; omega
theorem flat28 : flat Try.prog 4 28 = some [25, 25, 26, 26, 5, 5, 25, 25, 23] := by kernel_rfl
theorem flat34 : flat Try.prog 4 34 = some [25, 25, 4] := by kernel_rfl
def InTcp (w : World) (v : Value) : Prop := ∃ p0 p1 sq ak re fl wi ur a len cap os, v = .agg #[.int .u16 p0, .int .u16 p1, .int .u32 sq, .int .u32 ak, .int .u8 re, .int .u8 fl, .int .u16 wi, .int .u16 ur, .slice a len cap] ∧ Row8 w a len cap os ∧ goodT2 p0 p1 sq ak wi ur ∧ (0 ≤ re ∧ re ≤ 255) ∧ 0 ≤ fl ∧ fl ≤ 255
def InUdp (v : Value) : Prop := ∃ p0 p1 no, v = .agg #[.int .u16 p0, .int .u16 p1, .bool no] ∧ (0 ≤ p0 ∧ p0 ≤ 65535) ∧ 0 ≤ p1 ∧ p1 ≤ 65535
set_option maxRecDepth 1000000 in
theorem openT28 {H : Type} {enc : TypeId × Value → H} {w : World} {base b0 : Nat} {spare : Nat → Bool} {held : Bool} {r : Reach} {v : Value} {d : DataW H} {p : List MemPlace} (hv : Value.okWide Try.prog w r b0 28 v) (h : DataW.Trod enc Try.prog w base spare held 28 v d p) : InTcp w v := by
  obtain ⟨cs, rfl, hl⟩ := open_flat flat28 (agg_struct Try.underlying28 hv) h
  obtain ⟨p0, v1, rfl, e0, hl⟩ := leaves_int Try.underlying25 hl
  obtain ⟨p1, v2, rfl, e1, hl⟩ := leaves_int Try.underlying25 hl
  obtain ⟨sq, v3, rfl, e2, hl⟩ := leaves_int Try.underlying26 hl
  obtain ⟨ak, v4, rfl, e3, hl⟩ := leaves_int Try.underlying26 hl
  obtain ⟨re, v5, rfl, e4, hl⟩ := leaves_int Try.underlying5 hl
  obtain ⟨fl, v6, rfl, e5, hl⟩ := leaves_int Try.underlying5 hl
  obtain ⟨wi, v7, rfl, e6, hl⟩ := leaves_int Try.underlying25 hl
  obtain ⟨ur, v8, rfl, e7, hl⟩ := leaves_int Try.underlying25 hl
  obtain ⟨s, v9, rfl, ⟨k, y, hy⟩, hl⟩ := Wb.leaves_cons hl
  obtain rfl := Wb.leaves_nil hl
  obtain ⟨zs, hz⟩ := leaf_row Try.underlying23 Try.underlying5 Try.cells5 hy
  obtain ⟨a, len, cap, os, rfl, hrow⟩ := in8_of_row hz
  exact ⟨p0, p1, sq, ak, re, fl, wi, ur, a, len, cap, os, rfl, hrow, ⟨bounds_u16 e0, bounds_u16 e1, b_u32 e2, b_u32 e3, bounds_u16 e6, bounds_u16 e7⟩, bounds_u8 e4, bounds_u8 e5⟩
set_option maxRecDepth 1000000 in
theorem openT34 {H : Type} {enc : TypeId × Value → H} {w : World} {base b0 : Nat} {spare : Nat → Bool} {held : Bool} {r : Reach} {v : Value} {d : DataW H} {p : List MemPlace} (hv : Value.okWide Try.prog w r b0 34 v) (h : DataW.Trod enc Try.prog w base spare held 34 v d p) : InUdp v := by
  obtain ⟨cs, rfl, hl⟩ := open_flat flat34 (agg_struct Try.underlying34 hv) h
  obtain ⟨p0, v1, rfl, e0, hl⟩ := leaves_int Try.underlying25 hl
  obtain ⟨p1, v2, rfl, e1, hl⟩ := leaves_int Try.underlying25 hl
  obtain ⟨no, v3, rfl, hl3⟩ := Wb.leaves_bool Try.underlying4 hl
  obtain rfl := Wb.leaves_nil hl3
  exact ⟨p0, p1, no, rfl, bounds_u16 e0, bounds_u16 e1⟩
end Go.Proofs.Ytcbjjkpjbdcakaa
namespace Go.Proofs.Ytcbjjkpjbdcakaa
open Go.Pm Go.RowKit Go.Wb
set_option linter.unusedVariables false
theorem t_cases {v6 : Bool} {ss ds : List Int} {p0 p1 sq ak re fl wi ur : Int} {os ps : List Int} (h1 : goodW ss ds ps ps.length) (h2 : goodT re fl os) (h3 : goodT2 p0 p1 sq ak wi ur) :
    (∃ e : Int, ¬ e = 0 ∧ wtcpV v6 ss ds p0 p1 sq ak re fl wi ur os ps = errW e) ∨ ∃ W, wtcpV v6 ss ds p0 p1 sq ak re fl wi ur os ps = wR W ∧ OkT v6 ss ds p0 p1 sq ak re fl wi ur os ps W := by
  obtain ⟨_, _, s1, s2, s3, s4, s5⟩ := h1
  obtain ⟨g1, g2, g3, g4, g5, g6⟩ := h2
  obtain ⟨i1, i2, i3, i4, i5, i6⟩ := h3
  unfold wtcpV
  split
  · exact .inl ⟨5, by omega, rfl⟩
  split
  · exact .inl ⟨5, by omega, rfl⟩
  split
  · exact .inl ⟨5, by omega, rfl⟩
  split
  · exact .inl ⟨3, by omega, rfl⟩
  · have hl := tcpW_len (v6 := v6) (ss := ss) (ds := ds) (p0 := p0) (p1 := p1) (sq := sq) (ak := ak) (re := re) (fl := fl) (wi := wi) (ur := ur) (os := os) (ps := ps)
    exact .inr ⟨_, rfl, by omega, ⟨rfl, by omega, s1, s2, tcpW_bytes g6 s3, s4, s5⟩, tcp_back g2 (by omega) g4 g5 (by omega) (by omega) g6 s3 s4 s5 i1.1 i1.2 i2.1 i2.2 i3.1 i3.2 i4.1 i4.2 i5.1 i5.2 i6.1 i6.2⟩
theorem u_cases {v6 : Bool} {ss ds : List Int} {p0 p1 : Int} {no : Bool} {ps : List Int} (h1 : goodW ss ds ps ps.length) (a0 : 0 ≤ p0) (a1 : p0 ≤ 65535) (b0 : 0 ≤ p1) (b1 : p1 ≤ 65535) :
    (∃ e : Int, ¬ e = 0 ∧ wudpV v6 ss ds p0 p1 no ps = errW e) ∨ ∃ W, wudpV v6 ss ds p0 p1 no ps = wR W ∧ OkU v6 ss ds p0 p1 no ps W := by
  obtain ⟨_, _, s1, s2, s3, s4, s5⟩ := h1
  unfold wudpV
  split
  · exact .inl ⟨2, by omega, rfl⟩
  rename_i hno
  split
  · exact .inl ⟨3, by omega, rfl⟩
  split
  · rename_i hn
    subst hn
    have hv : v6 = false := by cases v6 <;> simp_all
    subst hv
    have hl := udpZ_len (p0 := p0) (p1 := p1) (ps := ps)
    exact .inr ⟨_, rfl, by omega, ⟨rfl, by omega, s1, s2, udpZ_bytes s3, s4, s5⟩, udp_back0 (by omega) a0 a1 b0 b1⟩
  · rename_i hn
    have hv : no = false := by cases no <;> simp_all
    subst hv
    have hl := udpW_len (v6 := v6) (ss := ss) (ds := ds) (p0 := p0) (p1 := p1) (ps := ps)
    exact .inr ⟨_, rfl, by omega, ⟨rfl, by omega, s1, s2, udpW_bytes s3, s4, s5⟩, udp_back (by omega) s3 s4 s5 a0 a1 b0 b1⟩
theorem segWrites_walk (w : World) (v6 : Bool) (v1 : Value) (o1 : InAr 16 v1) (v2 : Value) (o2 : InAr 16 v2) (v3 : Value) (o3 : InTcp w v3) (v4 : Value) (o4 : InUdp v4) (v5 : Value) (o5 : In8 w v5) :
    Calls Try.prog 4 #[.bool v6, v1, v2, v3, v4, v5] w fun e w' => e = .returned (.bool true) ∧ Below w.heap.size w w' := by
  obtain ⟨ss, rfl, s1, s2⟩ := o1
  obtain ⟨ds, rfl, d1, d2⟩ := o2
  obtain ⟨p0, p1, sq, ak, re, fl, wi, ur, a, len, cap, os, rfl, ro, g2, g3, g4⟩ := o3
  obtain ⟨q0, q1, no, rfl, j1, j2⟩ := o4
  obtain ⟨b, plen, pcap, ps, rfl, rp⟩ := o5
  have hol : os.length = len := ro.1
  have hpl : ps.length = plen := rp.1
  subst hol hpl
  have ra : RelL (noneAt w) [.v (.bool v6), .agg (B8 ss), .agg (B8 ds), tcpA p0 p1 sq ak re fl wi ur (.sl false (B8 os) os.length none), udpA q0 q1 no, .sl false (B8 ps) ps.length none] (#[.bool v6, .agg (ar ss), .agg (ar ds), .agg #[.int .u16 p0, .int .u16 p1, .int .u32 sq, .int .u32 ak, .int .u8 re, .int .u8 fl, .int .u16 wi, .int .u16 ur, .slice a os.length cap], .agg #[.int .u16 q0, .int .u16 q1, .bool no], .slice b ps.length pcap] : Array Value).toList :=
    .cons .v (.cons (rel_ar _ ss) (.cons (rel_ar _ ds) (.cons (.mkAgg (.cons .v (.cons .v (.cons .v (.cons .v (.cons .v (.cons .v (.cons .v (.cons .v (.cons (rel_row ro) (.nil _))))))))))) (.cons (.mkAgg (.cons .v (.cons .v (.cons .v (.nil _))))) (.cons (rel_row rp) (.nil _))))))
  have key : (pvCall Try.prog K6 Dm 100000 1 0 4 [.v (.bool v6), .agg (B8 ss), .agg (B8 ds), tcpA p0 p1 sq ak re fl wi ur (.sl false (B8 os) os.length none), udpA q0 q1 no, .sl false (B8 ps) ps.length none] (fun _ => none)).map (·.1) = some (.v (.bool true)) := by
    by_cases hlong : 1700 < os.length ∨ 1700 < ps.length
    · exact writes_long _ _ _ _ _ _ _ _ _ _ _ _ _ _ _ _ _ _ _ _ hlong
    have ho : os.length ≤ 1700 := by omega
    have hp : ps.length ≤ 1700 := by omega
    have h1 : goodW ss ds ps ps.length := ⟨rfl, hp, s1, d1, bytesB_iff.2 rp.5, bytesB_iff.2 s2, bytesB_iff.2 d2⟩
    have h2 : goodT re fl os := ⟨ho, g3.1, g3.2, g4.1, g4.2, bytesB_iff.2 ro.5⟩
    rcases t_cases (v6 := v6) h1 h2 g2 with ⟨e1, n1, r1⟩ | ⟨W, r1, t1⟩ <;> rcases u_cases (v6 := v6) (no := no) h1 j1.1 j1.2 j2.1 j2.2 with ⟨e2, n2, r2⟩ | ⟨V, r2, t2⟩
    · exact writes_tue _ _ _ _ _ _ _ _ _ _ _ _ _ _ _ _ _ _ _ _ ho hp h1 h2 g2 j1.1 j1.2 j2.1 j2.2 e1 n1 r1 e2 n2 r2
    · exact writes_te _ _ _ _ _ _ _ _ _ _ _ _ _ _ _ _ _ _ _ _ ho hp h1 h2 g2 j1.1 j1.2 j2.1 j2.2 V e1 n1 r1 r2 t2
    · exact writes_ue _ _ _ _ _ _ _ _ _ _ _ _ _ _ _ _ _ _ _ _ ho hp h1 h2 g2 j1.1 j1.2 j2.1 j2.2 W r1 t1 e2 n2 r2
    · exact writes_ok _ _ _ _ _ _ _ _ _ _ _ _ _ _ _ _ _ _ _ _ ho hp h1 h2 g2 j1.1 j1.2 j2.1 j2.2 W V r1 t1 r2 t2
  obtain ⟨⟨x, m'⟩, k1, k2⟩ := Option.map_eq_some_iff.1 key
  simp only at k2
  subst k2
  exact law_of_run k6_ok follows_mixed dm_ok k1 ra
end Go.Proofs.Ytcbjjkpjbdcakaa
