/- Small walks of package seg's reference; bytes.Clone. -/
import Derived.Test.YtmdafjegddnecaaSg
import Derived.Laws.AppendOwnNone
import Derived.Lib.SliceRun
namespace Go.Proofs.Ytmdafjegddnecaa
open Go.RowKit Go.Wb
set_option linter.unusedVariables false
set_option linter.unusedSimpArgs false

set_option maxRecDepth 1000000 in
set_option maxHeartbeats 2000000 in
theorem right_any {w : World} {a : Option Addr} {len cap : Nat} {zs : List Int} (v6 : Bool) (ss ds : List Int) (pr : Int) (h : Row8 w a len cap zs) (hl : len ≤ 1099511627776) (hs : ss.length = 16) (hd : ds.length = 16) (bs : ∀ x ∈ ss, 0 ≤ x ∧ x ≤ 255) (bd : ∀ x ∈ ds, 0 ≤ x ∧ x ≤ 255) (p0 : 0 ≤ pr) (p1 : pr ≤ 255) :
    Calls Try.prog 59 #[.bool v6, .agg (ar ss), .agg (ar ds), .int .u8 pr, .slice a len cap] w fun e w' => e = .returned (.int .u16 (ck v6 ss ds pr zs)) ∧ Below w.heap.size w w' := by
  have HX := heap_two w (Obj.cells (ar ss) 23) (Obj.cells (ar ds) 23)
  have X := Lib.hid HX.1
  have Y := Lib.hid HX.2
  have B0 : Hid (Below w.heap.size w ((w.alloc (Obj.cells (ar ss) 23)).alloc (Obj.cells (ar ds) 23))) := ((Below.refl _ _).alloc (Nat.le_refl _) _).alloc (by simp) _
  have HS := Lib.hid hs
  have HD := Lib.hid hd
  have CP := Lib.hid (fun W => rpseudo_any v6 ss ds pr len W hs hd bs bd p0 p1 (by omega) (by omega))
  obtain ⟨s1, hs1⟩ : ∃ s, sumTo 0 false (phead v6 ss ds pr len) = s := ⟨_, rfl⟩
  have r1 := sumTo_range (s := 0) (o := false) (zs := phead v6 ss ds pr len) (Int.le_refl 0) (phead_b bs bd p0 p1)
  rw [hs1] at CP r1
  obtain ⟨r10, r11⟩ := r1
  have CA := Lib.hid (fun W (hb : Below w.heap.size w W) => radd_row (h.below hb) hl s1 false r10 r11)
  obtain ⟨s2, hs2⟩ : ∃ s, sumTo s1 false zs = s := ⟨_, rfl⟩
  have r2 := sumTo_range (s := s1) (o := false) (zs := zs) r10 h.bytes
  rw [hs2] at CA r2
  obtain ⟨r20, r21⟩ := r2
  have CE := Lib.hid (fun (o : Bool) W => rend_any s2 o W r20 r21)
  have F : Hid (ck v6 ss ds pr zs = 65535 - s2) := by show _ = _; rw [ck, h.length, hs1, hs2]
  obtain ⟨o, ho⟩ : ∃ o, par false len = o := ⟨_, rfl⟩
  rw [ho] at CA
  have hcap := h.cap_le
  have hle := h.le
  clear HX hs1 hs2 h hs hd bs bd ho
  go_enter Try.func59, Try.ntmps59
  go_wp2_with (first | (refine arms_load rfl _ rfl rfl X.out HS.out ?_) | (refine arms_load rfl _ rfl rfl Y.out HD.out ?_))
  refine (CP.out _).mono ?_
  rintro e w1 ⟨rfl, hb⟩
  have B1 := Lib.hid (B0.out.trans (hb.mono B0.out.size))
  clear hb X Y B0
  go_wp2_with fail
  refine (CA.out _ B1.out).mono ?_
  rintro e w2 ⟨rfl, hb⟩
  have B2 := Lib.hid (B1.out.trans (hb.mono B1.out.size))
  clear hb
  go_wp2_with fail
  refine (CE.out o _).mono ?_
  rintro e w3 ⟨rfl, hb⟩
  have B3 := Lib.hid (B2.out.trans (hb.mono B2.out.size))
  clear hb
  go_wp2_with fail
  go_ret
  exact ⟨ret_int F.out.symm, B3.out⟩

set_option maxRecDepth 1000000 in
set_option maxHeartbeats 2000000 in
theorem num2 {w : World} {b off len cap : Nat} {zs : List Int} (h : Row8 w (some ⟨b, off, none⟩) len cap zs) (i : Nat) (hi : i + 1 < len) : Calls Try.prog 97 #[.slice (some ⟨b, off, none⟩) len cap, .int .i64 i, .int .i64 2] w fun e w' => e = .returned (.int .u32 (w16 zs i)) ∧ w = w' := by
  have c0 := h.at (i := i) (by omega)
  have c1 := h.at (i := i + 1) (by omega)
  have r0 := h.getD i
  have r1 := h.getD (i + 1)
  have hcap := h.cap_le
  have hle := h.le
  unfold w16
  obtain ⟨x, hx⟩ : ∃ x, zs.getD i 0 = x := ⟨_, rfl⟩
  obtain ⟨y, hy⟩ : ∃ y, zs.getD (i + 1) 0 = y := ⟨_, rfl⟩
  rw [hx] at c0 r0 ⊢
  rw [hy] at c1 r1 ⊢
  obtain ⟨x0, x1⟩ := r0
  obtain ⟨y0, y1⟩ := r1
  clear h hx hy
  have i0 : (i : Int) + 1 < (len : Int) := by omega
  go_enter Try.func97, Try.ntmps97
  go_wp2_with fail
  refine wp_loop_rounds 3 ?_
  rw [rounds_succ]
  go_wp2_with fail
  rw [rounds_succ]
  go_wp2_with fail
  rw [rounds_succ]
  go_wp2_with fail
  go_ret
  exact ⟨rfl, rfl⟩

set_option maxRecDepth 1000000 in
set_option maxHeartbeats 2000000 in
theorem num4 {w : World} {b off len cap : Nat} {zs : List Int} (h : Row8 w (some ⟨b, off, none⟩) len cap zs) (i : Nat) (hi : i + 3 < len) : Calls Try.prog 97 #[.slice (some ⟨b, off, none⟩) len cap, .int .i64 i, .int .i64 4] w fun e w' => e = .returned (.int .u32 (w32 zs i)) ∧ w = w' := by
  have c0 := h.at (i := i) (by omega)
  have c1 := h.at (i := i + 1) (by omega)
  have c2 := h.at (i := i + 2) (by omega)
  have c3 := h.at (i := i + 3) (by omega)
  have r0 := h.getD i
  have r1 := h.getD (i + 1)
  have r2 := h.getD (i + 2)
  have r3 := h.getD (i + 3)
  have hcap := h.cap_le
  have hle := h.le
  unfold w32 w16
  rw [show i + 2 + 1 = i + 3 from rfl]
  obtain ⟨x, hx⟩ : ∃ x, zs.getD i 0 = x := ⟨_, rfl⟩
  obtain ⟨y, hy⟩ : ∃ y, zs.getD (i + 1) 0 = y := ⟨_, rfl⟩
  obtain ⟨z, hz⟩ : ∃ z, zs.getD (i + 2) 0 = z := ⟨_, rfl⟩
  obtain ⟨u, hu⟩ : ∃ u, zs.getD (i + 3) 0 = u := ⟨_, rfl⟩
  rw [hx] at c0 r0 ⊢
  rw [hy] at c1 r1 ⊢
  rw [hz] at c2 r2 ⊢
  rw [hu] at c3 r3 ⊢
  obtain ⟨x0, x1⟩ := r0
  obtain ⟨y0, y1⟩ := r1
  obtain ⟨z0, z1⟩ := r2
  obtain ⟨u0, u1⟩ := r3
  clear h hx hy hz hu
  have i0 : (i : Int) + 3 < (len : Int) := by omega
  go_enter Try.func97, Try.ntmps97
  go_wp2_with fail
  refine wp_loop_rounds 5 ?_
  rw [rounds_succ]
  go_wp2_with fail
  rw [rounds_succ]
  go_wp2_with fail
  rw [rounds_succ]
  go_wp2_with fail
  rw [rounds_succ]
  go_wp2_with fail
  rw [rounds_succ]
  go_wp2_with fail
  go_ret
  exact ⟨ret_int (by omega), rfl⟩

set_option maxRecDepth 1000000 in
set_option maxHeartbeats 2000000 in
theorem clone_any {w : World} {a : Option Addr} {len cap : Nat} {zs : List Int} (h : Row8 w a len cap zs) (hl : len ≤ 1099511627776) : Calls Try.prog 66 #[.slice a len cap] w fun e w' => ∃ a' cap', e = .returned (.slice a' len cap') ∧ Own8 w.heap.size w' a' len cap' zs ∧ Below w.heap.size w w' := by
  have H := Lib.hid h
  have hcap := h.cap_le
  have hle := h.le
  cases a with
  | none =>
    have h0 : len = 0 := by
      rcases Nat.eq_zero_or_pos len with h0 | h0
      · exact h0
      · obtain ⟨b, off, e, _⟩ := h.cells 0 h0; cases e
    subst h0
    obtain rfl : zs = [] := List.length_eq_zero_iff.1 h.length
    obtain rfl := h.bare rfl
    clear h
    have EQ : ∀ w, (binOp .eql 24 (.slice none 0 0) (.slice none 0 0)).run Try.prog w = .ok (.bool true) w := fun w => Lib.run_eql_slice_nil w _ _ none 0 0 0 0 Try.underlying24
    go_enter Try.func66, Try.ntmps66
    go_wp2_with fail
    go_ret
    exact ⟨none, 0, rfl, Own8.nil (Nat.le_refl _), Below.refl _ _⟩
  | some ad =>
    clear h
    have EQ : ∀ w, (binOp .eql 24 (.slice (some ad) len cap) (.slice none 0 0)).run Try.prog w = .ok (.bool false) w := fun w => Lib.run_eql_slice_nil w _ _ (some ad) len cap 0 0 Try.underlying24
    have OWN0 := Lib.hid (Own8.empty (base := w.heap.size) (heap_alloc_new w (Obj.cells #[] 5)) (Nat.le_refl _))
    have BB := Lib.hid ((Below.refl w.heap.size w).alloc (Nat.le_refl _) (Obj.cells #[] 5))
    go_enter Try.func66, Try.ntmps66
    go_wp2_with (at_builtin; refine wpList_app8 rfl _ _ rfl w.heap.size (some ⟨w.heap.size, 0, none⟩) 0 0 [] rfl OWN0.out (some ad) len cap zs rfl (H.out.below BB.out) (by omega) ?_; intro a1 cap1 w1 hr1 hg1; (simp only [Nat.zero_add, List.nil_append] at hr1 ⊢); have O1 := Lib.hid hr1; have B1 := Lib.hid (BB.out.grown hg1 BB.out.size (by intro q hq; cases hq; exact Nat.le_refl _)); clear hr1 hg1 OWN0 BB)
    go_ret
    exact ⟨a1, cap1, rfl, O1.out, B1.out⟩

theorem ports_short {w : World} {a : Option Addr} {len cap : Nat} {zs : List Int} (h : Row8 w a len cap zs) (h4 : len < 4) : Calls Try.prog 146 #[.slice a len cap] w fun e w' => e = .returned (.tuple #[.int .u16 0, .int .u16 0, .int .i64 4]) ∧ Below w.heap.size w w' := by
  clear h
  go_enter Try.func146, Try.ntmps146
  go_wp2_with fail
  go_ret3
  exact ⟨rfl, Below.refl _ _⟩
set_option maxRecDepth 1000000 in
set_option maxHeartbeats 2000000 in
theorem ports_any {w : World} {b off len cap : Nat} {zs : List Int} (h : Row8 w (some ⟨b, off, none⟩) len cap zs) (h4 : 4 ≤ len) : Calls Try.prog 146 #[.slice (some ⟨b, off, none⟩) len cap] w fun e w' => e = .returned (.tuple #[.int .u16 (w16 zs 0), .int .u16 (w16 zs 2), .int .i64 0]) ∧ Below w.heap.size w w' := by
  have A0 := Lib.hid (at_any h 0 (by omega))
  have A1 := Lib.hid (fun W (hb : Below w.heap.size w W) => at_any (h.below hb) 2 (by omega))
  clear h
  go_enter Try.func146, Try.ntmps146
  go_wp2_with fail
  refine A0.out.mono ?_
  rintro e w1 ⟨rfl, hb⟩
  have B1 := Lib.hid hb
  clear hb
  go_wp2_with fail
  refine (A1.out _ B1.out).mono ?_
  rintro e w2 ⟨rfl, hb⟩
  have B2 := Lib.hid (B1.out.trans (hb.mono B1.out.size))
  clear hb
  go_wp2_with fail
  go_ret3
  exact ⟨rfl, B2.out⟩
end Go.Proofs.Ytmdafjegddnecaa
