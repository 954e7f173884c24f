/- The walk of the law SumUpdates. -/
import Derived.Test.YtamjhaomdfeemaaLx
import Derived.OpenShut
namespace Go.Proofs.Ytamjhaomdfeemaa
open Go.RowKit Go.Wb
set_option linter.unusedVariables false

theorem Own8.at {base : Nat} {w : World} {a : Option Addr} {len cap : Nat} {zs : List Int} (h : Own8 base w a len cap zs) (hl : 0 < len) :
    ∃ g, a = some ⟨g, 0, none⟩ ∧ base ≤ g ∧ g < w.heap.size ∧ (∀ i, w.frozen? ⟨g, i, none⟩ = false) ∧ ∀ i, i < len → w.cell? ⟨g, i, none⟩ = some (.int .u8 (zs.getD i 0)) := by
  have hr := h.row
  obtain ⟨⟨hlen, hv⟩, hb, _⟩ := h
  rcases hv with ⟨hv, hn⟩ | ⟨g, cap', cur, hv, hg, hh, hn, hc, hsz, htk⟩
  · omega
  · cases hv
    refine ⟨g, rfl, hg, lt_of_heap hh, fun i => free_of i hh, fun i hi => ?_⟩
    obtain ⟨b, off, e, _, hc⟩ := hr.cells i hi
    cases e
    rwa [Nat.zero_add] at hc

theorem Own8.set {base g : Nat} {w : World} {len cap : Nat} {zs : List Int} (h : Own8 base w (some ⟨g, 0, none⟩) len cap zs) {i : Nat} (hi : i < len) {v : Int} (v0 : 0 ≤ v) (v1 : v ≤ 255) :
    Own8 base (w.setCell ⟨g, i, none⟩ (.int .u8 v)) (some ⟨g, 0, none⟩) len cap (zs.set i v) := by
  obtain ⟨⟨hlen, hv⟩, hb, hs⟩ := h
  refine ⟨⟨by simpa using hlen, ?_⟩, ?_, by simpa [World.setCell] using hs⟩
  · rcases hv with ⟨hv, hn⟩ | ⟨g', cap', cur, hv, hg, hh, hn, hc, hsz, htk⟩
    · cases hv
    · cases hv
      refine .inr ⟨g, cap, cur.setIfInBounds i (.int .u8 v), rfl, hg, heap_setCell hh, hn, hc, by simpa using hsz, ?_⟩
      rw [Array.toList_setIfInBounds, List.take_set, htk, List.map_set]
  · intro x hx
    rcases List.mem_or_eq_of_mem_set hx with hx | rfl
    · exact hb x hx
    · exact ⟨v0, v1⟩

theorem split_at {zs : List Int} {p : Nat} (hp : p + 1 < zs.length) : zs = zs.take p ++ [zs.getD p 0, zs.getD (p + 1) 0] ++ zs.drop (p + 2) := by
  have h1 := take_succ_getD (l := zs) (k := p) (by omega)
  have h2 := take_succ_getD (l := zs) (k := p + 1) (by omega)
  rw [h1, List.append_assoc] at h2
  have := List.take_append_drop (p + 2) zs
  rw [show p + 2 = p + 1 + 1 from rfl, h2] at this
  exact this.symm

theorem set_at {zs : List Int} {p : Nat} (hp : p + 1 < zs.length) (x y : Int) : (zs.set p x).set (p + 1) y = zs.take p ++ [x, y] ++ zs.drop (p + 2) := by
  conv => lhs; rw [split_at hp]
  have hl : (zs.take p).length = p := by rw [List.length_take]; omega
  rw [List.append_assoc, List.set_append_right _ _ (by omega), hl, Nat.sub_self]
  simp only [List.cons_append, List.nil_append, List.set_cons_zero]
  rw [List.set_append_right _ _ (by omega), hl, Nat.add_sub_cancel_left]
  simp

theorem ws_word {u v : List Int} {x y : Int} (hu : u.length % 2 = 0) : ws false (u ++ [x, y] ++ v) = ws false u + (x * 256 + y) + ws false v := by
  have hp : par false u.length = false := by unfold par; rw [hu]; rfl
  rw [List.append_assoc, ws_append, hp]
  simp [ws]; omega

/-- Two sums that are one but for the order in which what is above 16 bits is added again. -/
theorem upd_cn {s old nw : Int} (h : 0 ≤ s - old) (o0 : 0 ≤ old) (o1 : old ≤ 65535) (t0 : 0 ≤ nw) (t1 : nw ≤ 65535) :
    let x := 65535 - cn (s - old + nw); let y := 65535 - cn (65535 - (65535 - cn s) + (65535 - old) + nw)
    x = y ∨ (x + y = 65535 ∧ (x = 0 ∨ y = 0)) := by
  unfold cn
  simp only
  split <;> split <;> split <;> omega

theorem rem_half (at_ : Int) (len : Nat) (h2 : 2 ≤ len) (hl : len ≤ 9223372036854775806) : ∃ k : Nat, wrap64 (2 * wrap64 ((IntKind.u64.wrap at_).tmod ((len : Int) / 2))) = ((2 * k : Nat) : Int) ∧ 2 * k + 1 < len := by
  have h0 : 0 ≤ IntKind.u64.wrap at_ := by rw [IntKind.wrap_u64]; omega
  rw [Int.tmod_eq_emod_of_nonneg h0]
  have h1 := Int.emod_nonneg (IntKind.u64.wrap at_) (show (len : Int) / 2 ≠ 0 by omega)
  have h2 := Int.emod_lt_of_pos (IntKind.u64.wrap at_) (show 0 < (len : Int) / 2 by omega)
  refine ⟨(IntKind.u64.wrap at_ % ((len : Int) / 2)).toNat, ?_, by omega⟩
  rw [IntWalk.wrap64_in (IntKind.u64.wrap at_ % ((len : Int) / 2)) (by omega), IntWalk.wrap64_in _ (by omega)]
  omega

set_option maxRecDepth 100000 in
set_option maxHeartbeats 1000000 in
theorem sumUpdates_out (at_ nw : Int) (a : Option Addr) (len cap : Nat) (zs : List Int) (w : World) (h : Row8 w a len cap zs) (ho : len < 2 ∨ 2000 < len) :
    Calls Try.prog 5 #[.slice a len cap, .int .i64 at_, .int .u16 nw] w fun e w' => e = .returned (.bool true) ∧ Below w.heap.size w w' := by
  have hcap := h.cap_le
  have hle := h.le
  clear h
  rcases ho with ho | ho
  all_goals
    go_enter Try.func5, Try.ntmps5
    go_wp2_with fail
    refine (known1_any _).mono ?_
    rintro e w1 ⟨rfl, hb⟩
    go_wp2_with fail
    go_ret
    exact ⟨rfl, hb⟩

set_option maxRecDepth 100000 in
set_option maxHeartbeats 1000000 in
theorem sumUpdates_main (at_ nw : Int) (a : Option Addr) (len cap : Nat) (zs : List Int) (w : World) (n0 : 0 ≤ nw) (n1 : nw ≤ 65535) (h : Row8 w a len cap zs) (hl2 : 2 ≤ len) (hl : len ≤ 2000) :
    Calls Try.prog 5 #[.slice a len cap, .int .i64 at_, .int .u16 nw] w fun e w' => e = .returned (.bool true) ∧ Below w.heap.size w w' := by
  obtain ⟨b, off, rfl⟩ := h.none_of (by omega)
  have H := Lib.hid h
  clear h
  have hcap := H.out.cap_le
  have hle := H.out.le
  have OWN0 := Lib.hid (Own8.empty (base := w.heap.size) (heap_alloc_new w (Obj.cells #[] 5)) (Nat.le_refl _))
  have BB := Lib.hid ((Below.refl w.heap.size w).alloc (Nat.le_refl _) (Obj.cells #[] 5))
  go_enter Try.func5, Try.ntmps5
  go_upto_region 5 with (at_builtin; refine wpList_app8 rfl _ _ rfl w.heap.size (some ⟨w.heap.size, 0, none⟩) 0 0 [] rfl OWN0.out (some ⟨b, off, none⟩) len cap zs rfl (H.out.below BB.out) (by omega) ?_; intro a1 cap1 w1 hr1 hg1; (simp only [Nat.zero_add, List.nil_append] at hr1 ⊢); have O1 := Lib.hid hr1; have B1 := Lib.hid (BB.out.grown hg1 BB.out.size (by intro q hq; cases hq; exact Nat.le_refl _)); clear hr1 hg1 OWN0 BB)
  obtain ⟨p, hp, hpl⟩ := rem_half at_ len hl2 (by omega)
  rw [hp]
  clear hp
  obtain ⟨q, hq⟩ : ∃ q, 2 * p = q := ⟨_, rfl⟩
  rw [hq] at hpl ⊢
  have HQ := Lib.hid hq
  clear hq
  obtain ⟨g, rfl, hg0, hg2, hgf, hgc⟩ := O1.out.at (by omega)
  have gf0 := hgf q
  have gf1 := hgf (q + 1)
  have gc0 := hgc q (by omega)
  have gc1 := hgc (q + 1) (by omega)
  clear hgf hgc
  have q0 : (q : Int) < (len : Int) := by omega
  have q1 : (q : Int) + 1 < (len : Int) := by omega
  go_wp2_with fail
  have O2 : Hid (Own8 w.heap.size ((w1.setCell ⟨g, q, none⟩ (.int .u8 (nw / 256))).setCell ⟨g, q + 1, none⟩ (.int .u8 (nw % 256))) (some ⟨g, 0, none⟩) len cap1 ((zs.set q (nw / 256)).set (q + 1) (nw % 256))) :=
    (O1.out.set (i := q) (by omega) (by omega) (by omega)).set (i := q + 1) (by omega) (by omega) (by omega)
  have B2 : Hid (Below w.heap.size w ((w1.setCell ⟨g, q, none⟩ (.int .u8 (nw / 256))).setCell ⟨g, q + 1, none⟩ (.int .u8 (nw % 256)))) := (B1.out.setCell (p := ⟨g, q, none⟩) hg0 _).setCell (p := ⟨g, q + 1, none⟩) hg0 _
  generalize (w1.setCell ⟨g, q, none⟩ (.int .u8 (nw / 256))).setCell ⟨g, q + 1, none⟩ (.int .u8 (nw % 256)) = w2 at *
  clear gf0 gf1 gc0 gc1 O1 B1
  have R2 : Hid (∀ W, Hid (Below w2.heap.size w2 W) → Row8 W (some ⟨g, 0, none⟩) len cap1 ((zs.set q (nw / 256)).set (q + 1) (nw % 256))) := fun W h => O2.out.row.below h.out
  have R0 : Hid (∀ W, Hid (Below w2.heap.size w2 W) → Row8 W (some ⟨b, off, none⟩) len cap zs) := fun W h => (H.out.below B2.out).below h.out
  have hz0 := H.out.getD q
  have hz1 := H.out.getD (q + 1)
  -- the two sums
  have SPLIT := Lib.hid (split_at (zs := zs) (p := q) (by have := H.out.length; omega))
  have SETS := Lib.hid (set_at (zs := zs) (p := q) (by have := H.out.length; omega) (nw / 256) (nw % 256))
  have hu : (zs.take q).length % 2 = 0 := by have h1 := HQ.out; rw [List.length_take, H.out.length, Nat.min_eq_left (by omega)]; omega
  have hS : ws false zs = ws false (zs.take q) + (zs.getD q 0 * 256 + zs.getD (q + 1) 0) + ws false (zs.drop (q + 2)) := (congrArg (ws false) SPLIT.out).trans (ws_word hu)
  have hT : ws false ((zs.set q (nw / 256)).set (q + 1) (nw % 256)) = ws false (zs.take q) + nw + ws false (zs.drop (q + 2)) := by rw [SETS.out, ws_word hu]; omega
  have hU := (ws_nonneg false (zs.take q) (fun x hx => H.out.bytes x (List.mem_of_mem_take hx))).1
  have hV := (ws_nonneg false (zs.drop (q + 2)) (fun x hx => H.out.bytes x (List.mem_of_mem_drop hx))).1
  obtain ⟨z0, hz0'⟩ : ∃ z, zs.getD q 0 = z := ⟨_, rfl⟩
  obtain ⟨z1, hz1'⟩ : ∃ z, zs.getD (q + 1) 0 = z := ⟨_, rfl⟩
  rw [hz0'] at hz0 hS
  rw [hz1'] at hz1 hS
  obtain ⟨z00, z01⟩ := hz0
  obtain ⟨z10, z11⟩ := hz1
  have FIN : Hid (65535 - sumTo 0 false ((zs.set q (nw / 256)).set (q + 1) (nw % 256)) = 65535 - cn (65535 - (65535 - sumTo 0 false zs) + (65535 - (z0 * 256 + z1)) + nw) ∨
      (65535 - sumTo 0 false ((zs.set q (nw / 256)).set (q + 1) (nw % 256)) + (65535 - cn (65535 - (65535 - sumTo 0 false zs) + (65535 - (z0 * 256 + z1)) + nw)) = 65535 ∧
      (65535 - sumTo 0 false ((zs.set q (nw / 256)).set (q + 1) (nw % 256)) = 0 ∨ 65535 - cn (65535 - (65535 - sumTo 0 false zs) + (65535 - (z0 * 256 + z1)) + nw) = 0))) := by
    have := upd_cn (s := ws false zs) (old := z0 * 256 + z1) (nw := nw) (by omega) (by omega) (by omega) n0 n1
    unfold sumTo
    rw [Int.zero_add, Int.zero_add, hT]
    rw [show ws false (zs.take q) + nw + ws false (zs.drop (q + 2)) = ws false zs - (z0 * 256 + z1) + nw by omega]
    exact this
  have s0r := sumTo_range (s := 0) (o := false) (zs := zs) (Int.le_refl 0) H.out.bytes
  have s1r := sumTo_range (s := 0) (o := false) (zs := (zs.set q (nw / 256)).set (q + 1) (nw % 256)) (Int.le_refl 0) O2.out.row.bytes
  have C0 : Hid (∀ W, Hid (Below w2.heap.size w2 W) → W.cell? ⟨b, off + q, none⟩ = some (.int .u8 z0) ∧ W.cell? ⟨b, off + (q + 1), none⟩ = some (.int .u8 z1)) := fun W h => by
    obtain ⟨b', off', e, _, hc⟩ := (R0.out W h).cells q (by omega)
    cases e
    obtain ⟨b', off', e, _, hc'⟩ := (R0.out W h).cells (q + 1) (by omega)
    cases e
    rw [hz0'] at hc
    rw [hz1'] at hc'
    exact ⟨hc, hc'⟩
  have OF1 := Lib.hid (fun W h => of_row (R2.out W h) (by omega))
  have OF0 := Lib.hid (fun W h => of_row (R0.out W h) (by omega))
  obtain ⟨x, hx⟩ : ∃ x, 65535 - sumTo 0 false ((zs.set q (nw / 256)).set (q + 1) (nw % 256)) = x := ⟨_, rfl⟩
  obtain ⟨y, hy⟩ : ∃ y, 65535 - sumTo 0 false zs = y := ⟨_, rfl⟩
  have x0 : 0 ≤ x := by omega
  have x1 : x ≤ 65535 := by omega
  have y0 : 0 ≤ y := by omega
  have y1 : y ≤ 65535 := by omega
  rw [hx] at OF1 FIN
  rw [hy] at OF0 FIN
  clear s0r s1r hx hy hS hT hu hU hV hz0' hz1' SPLIT SETS
  have UPD := Lib.hid (fun W => update_any y (z0 * 256 + z1) nw W y0 y1 (by omega) (by omega) n0 n1)
  have KEEP : Hid (∀ W, Hid (Below w2.heap.size w2 W) → Hid (Below w2.heap.size w2 W) ∧ W.cell? ⟨b, off + q, none⟩ = some (.int .u8 z0) ∧ W.cell? ⟨b, off + (q + 1), none⟩ = some (.int .u8 z1)) := fun W h => ⟨h, C0.out W h⟩
  have start : Hid (Below w2.heap.size w2 w2) := Below.refl _ _
  have j0 : IntKind.i64.wrap ((q : Int) + 1) = (q : Int) + 1 := IntWalk.i64_in _ (by omega)
  have j1 : IntKind.u16.wrap (z0 * 256) = z0 * 256 := IntWalk.u16_in _ (by omega)
  have j2 : IntKind.u16.wrap (z0 * 256 + z1) = z0 * 256 + z1 := IntWalk.u16_in _ (by omega)
  have j6 : IntKind.u16.wrap z0 = z0 := IntWalk.u16_in _ (by omega)
  have j7 : IntKind.u16.wrap z1 = z1 := IntWalk.u16_in _ (by omega)
  have j3 : ((q : Int) + 1).toNat = q + 1 := by omega
  have j4 : (0 : Int) ≤ (q : Int) := by omega
  have j5 : (0 : Int) ≤ (q : Int) + 1 := by omega
  go_region_held3 (fun W => Hid (Below w2.heap.size w2 W) ∧ W.cell? ⟨b, off + q, none⟩ = some (.int .u8 z0) ∧ W.cell? ⟨b, off + (q + 1), none⟩ = some (.int .u8 z1))
    (first | exact KEEP.out _ (by assumption) | exact KEEP.out _ (below_drew (by assumption)))
    (first
      | (go_at_call_of 16 (Value.slice (some ⟨g, 0, none⟩) len cap1); have hh := (‹Hid (Below w2.heap.size w2 _) ∧ _›).1; refine (OF1.out _ hh).mono ?_; rintro e W' ⟨rfl, hb'⟩; have hb2 := below_next hh hb'; clear hb' hh)
      | (go_at_call 16; have hh := (‹Hid (Below w2.heap.size w2 _) ∧ _›).1; refine (OF0.out _ hh).mono ?_; rintro e W' ⟨rfl, hb'⟩; have hb2 := below_next hh hb'; clear hb' hh)
      | (go_at_call 22; refine (UPD.out _).mono ?_; rintro e W' ⟨rfl, rfl⟩))
  have hh := (‹Hid (Below w2.heap.size w2 _) ∧ _›).1
  have B3 := Lib.hid (B2.out.trans (hh.out.mono B2.out.size))
  obtain ⟨Y, hY⟩ : ∃ Y, 65535 - cn (65535 - y + (65535 - (z0 * 256 + z1)) + nw) = Y := ⟨_, rfl⟩
  rw [hY] at FIN ⊢
  clear hY hh KEEP start j0 j1 j2 j3 j4 j5 j6 j7 C0 UPD OF0 OF1 R0 R2
  rcases FIN.out with hxy | ⟨hxy, hx0 | hx0⟩
  · subst hxy
    clear FIN
    go_wp2_with fail
    refine (known1_any _).mono ?_
    rintro e w7 ⟨rfl, hb⟩
    have B7 := Lib.hid (B3.out.trans (hb.mono B3.out.size))
    clear hb
    go_wp2_with fail
    go_ret
    exact ⟨rfl, B7.out⟩
  · obtain rfl : x = 0 := hx0
    obtain rfl : Y = 65535 := by omega
    clear FIN
    go_wp2_with fail
    refine (known1_any _).mono ?_
    rintro e w7 ⟨rfl, hb⟩
    have B7 := Lib.hid (B3.out.trans (hb.mono B3.out.size))
    clear hb
    go_wp2_with fail
    go_ret
    exact ⟨rfl, B7.out⟩
  · obtain rfl : Y = 0 := hx0
    obtain rfl : x = 65535 := by omega
    clear FIN
    go_wp2_with fail
    refine (known1_any _).mono ?_
    rintro e w7 ⟨rfl, hb⟩
    have B7 := Lib.hid (B3.out.trans (hb.mono B3.out.size))
    clear hb
    go_wp2_with fail
    go_ret
    exact ⟨rfl, B7.out⟩

theorem sumUpdates_walk (w : World) (b : Value) (hb : In8 w b) (at_ : Int) (wa : (Lit.int .i64 at_).wf = true) (nw : Int) (wn : (Lit.int .u16 nw).wf = true) :
    Calls Try.prog 5 #[b, .int .i64 at_, .int .u16 nw] w fun e w' => e = .returned (.bool true) ∧ Below w.heap.size w w' := by
  obtain ⟨a, len, cap, zs, rfl, h⟩ := hb
  have := bounds_u16 wn
  by_cases ho : len < 2 ∨ 2000 < len
  · exact sumUpdates_out at_ nw a len cap zs w h ho
  · exact sumUpdates_main at_ nw a len cap zs w this.1 this.2 h (by omega) (by omega)
end Go.Proofs.Ytamjhaomdfeemaa
