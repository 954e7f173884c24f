/- Small walks of package seg and of its reference. -/
import Derived.Test.YtmdafjegddnecaaPr
import Derived.Test.YtmdafjegddnecaaId
import Derived.Deep.MidRow
import Derived.LoopN
namespace Go.Proofs.Ytmdafjegddnecaa
open Go.RowKit Go.Wb
set_option linter.unusedVariables false
set_option linter.unusedSimpArgs false

/-- Two bytes, four bytes as a number. -/
def w16 (zs : List Int) (i : Nat) : Int := zs.getD i 0 * 256 + zs.getD (i + 1) 0
def w32 (zs : List Int) (i : Nat) : Int := w16 zs i * 65536 + w16 zs (i + 2)
theorem w16_range {zs : List Int} (h : ∀ x ∈ zs, 0 ≤ x ∧ x ≤ 255) (i : Nat) : 0 ≤ w16 zs i ∧ w16 zs i ≤ 65535 := by
  have g : ∀ j, 0 ≤ zs.getD j 0 ∧ zs.getD j 0 ≤ 255 := fun j => by
    rw [List.getD_eq_getElem?_getD]
    rcases Nat.lt_or_ge j zs.length with h' | h'
    · rw [List.getElem?_eq_getElem h']; exact h _ (List.getElem_mem _)
    · rw [List.getElem?_eq_none h']; simp
  have := g i
  have := g (i + 1)
  unfold w16; omega
theorem or16 (x y : Int) (x0 : 0 ≤ x) (x1 : x ≤ 255) (y0 : 0 ≤ y) (y1 : y ≤ 255) : bits .or .u16 (x * 256) y = x * 256 + y := by
  obtain ⟨a, rfl⟩ := Int.eq_ofNat_of_zero_le x0
  obtain ⟨b, rfl⟩ := Int.eq_ofNat_of_zero_le y0
  have h := Nat.two_pow_add_eq_or_of_lt (i := 8) (b := b) (by omega) a
  rw [u16_or _ _ (by omega) (by omega) (by omega) (by omega), show ((a : Int) * 256).toNat = 2 ^ 8 * a from by omega, Int.toNat_natCast, ← h]
  omega
theorem or32 (x y : Int) (x0 : 0 ≤ x) (x1 : x ≤ 65535) (y0 : 0 ≤ y) (y1 : y ≤ 65535) : bits .or .u32 (x * 65536) y = x * 65536 + y := by
  obtain ⟨a, rfl⟩ := Int.eq_ofNat_of_zero_le x0
  obtain ⟨b, rfl⟩ := Int.eq_ofNat_of_zero_le y0
  have h := Nat.two_pow_add_eq_or_of_lt (i := 16) (b := b) (by omega) a
  rw [u32_or _ _ (by omega) (by omega) (by omega) (by omega), show ((a : Int) * 65536).toNat = 2 ^ 16 * a from by omega, Int.toNat_natCast, ← h]
  omega

theorem grew (w : World) (n : Nat) : Below w.heap.size w (w.drewN n) := ⟨rfl, rfl, rfl, Nat.le_refl _, fun _ _ => rfl⟩

set_option maxHeartbeats 1000000 in
theorem at_any {w : World} {b off len cap : Nat} {zs : List Int} (h : Row8 w (some ⟨b, off, none⟩) len cap zs) (i : Nat) (hi : i + 1 < len) : Calls Try.prog 135 #[.slice (some ⟨b, off, none⟩) len cap, .int .i64 i] w fun e w' => e = .returned (.int .u16 (w16 zs i)) ∧ Below w.heap.size w w' := by
  have c0 := h.at (i := i) (by omega)
  have c1 := h.at (i := i + 1) (by omega)
  have r0 := h.getD i
  have r1 := h.getD (i + 1)
  have hcap := h.cap_le
  have hle := h.le
  unfold w16
  obtain ⟨x, hx⟩ : ∃ x, zs.getD i 0 = x := ⟨_, rfl⟩
  obtain ⟨y, hy⟩ : ∃ y, zs.getD (i + 1) 0 = y := ⟨_, rfl⟩
  rw [hx] at c0 r0 ⊢
  rw [hy] at c1 r1 ⊢
  obtain ⟨x0, x1⟩ := r0
  obtain ⟨y0, y1⟩ := r1
  clear h hx hy
  have i0 : (i : Int) + 1 < (len : Int) := by omega
  have i1 : (i : Int) < (len : Int) := by omega
  have i2 : (0 : Int) ≤ (i : Int) := by omega
  have i3 : (0 : Int) ≤ (i : Int) + 1 := by omega
  have j0 : IntKind.i64.wrap ((i : Int) + 1) = (i : Int) + 1 := IntWalk.i64_in _ (by omega)
  have j1 : ((i : Int) + 1).toNat = i + 1 := by omega
  go_enter Try.func135, Try.ntmps135
  go_wp2_with fail
  go_quiet (fail)
  go_wp2_with fail
  go_ret
  exact ⟨ret_int (or16 x y x0 x1 y0 y1), grew w _⟩

set_option maxHeartbeats 1000000 in
theorem four_any {w : World} {b off len cap : Nat} {zs : List Int} (h : Row8 w (some ⟨b, off, none⟩) len cap zs) (i : Nat) (hi : i + 3 < len) (hl : len ≤ 1099511627776) : Calls Try.prog 157 #[.slice (some ⟨b, off, none⟩) len cap, .int .i64 i] w fun e w' => e = .returned (.int .u32 (w32 zs i)) ∧ Below w.heap.size w w' := by
  have H := Lib.hid h
  have r0 := w16_range h.bytes i
  have r1 := w16_range h.bytes (i + 2)
  unfold w32
  have A0 := Lib.hid (at_any h i (by omega))
  have A1 := Lib.hid (fun W (hb : Below w.heap.size w W) => at_any (h.below hb) (i + 2) (by omega))
  obtain ⟨x, hx⟩ : ∃ x, w16 zs i = x := ⟨_, rfl⟩
  obtain ⟨y, hy⟩ : ∃ y, w16 zs (i + 2) = y := ⟨_, rfl⟩
  rw [hx] at A0 r0 ⊢
  rw [hy] at A1 r1 ⊢
  obtain ⟨x0, x1⟩ := r0
  obtain ⟨y0, y1⟩ := r1
  have hcap := h.cap_le
  have hle := h.le
  clear h hx hy
  have i0 : (i : Int) + 3 < (len : Int) := by omega
  have e2 : Hid ((i : Int) + 2 = ((i + 2 : Nat) : Int)) := by show _ = _; omega
  go_enter Try.func157, Try.ntmps157
  go_wp2_with fail
  refine A0.out.mono ?_
  rintro e w1 ⟨rfl, hb⟩
  have B1 := Lib.hid hb
  clear hb
  go_wp2_with fail
  rw [e2.out]
  refine (A1.out _ B1.out).mono ?_
  rintro e w2 ⟨rfl, hb⟩
  have B2 := Lib.hid (B1.out.trans (hb.mono B1.out.size))
  clear hb
  go_wp2_with fail
  go_ret
  exact ⟨ret_int (or32 x y x0 x1 y0 y1), B2.out⟩

set_option maxHeartbeats 1000000 in
theorem word_any {w : World} {g b off len cap : Nat} {zs : List Int} (h : Row8 w (some ⟨b, off, none⟩) len cap zs) (hg : w.heap[g]? = some (.cells #[.slice (some ⟨b, off, none⟩) len cap] 24 (0, 0))) (i : Nat) (hi : i + 1 < len) : Calls Try.prog 156 #[.int .i64 i, .pointer (some ⟨g, 0, none⟩)] w fun e w' => e = .returned (.int .u16 (w16 zs i)) ∧ Below w.heap.size w w' := by
  have g0 := cell_of (v := .slice (some ⟨b, off, none⟩) len cap) 0 hg rfl
  have A0 := Lib.hid (at_any h i hi)
  clear h hg
  go_enter Try.func156, Try.ntmps156
  go_wp2_with fail
  refine A0.out.mono ?_
  rintro e w1 ⟨rfl, hb⟩
  have B1 := Lib.hid hb
  clear hb
  go_wp2_with fail
  go_ret
  exact ⟨rfl, B1.out⟩

/-- The checksum of bytes with a pseudo header ahead. -/
def ck (v6 : Bool) (ss ds : List Int) (pr : Int) (zs : List Int) : Int := 65535 - sumTo (sumTo 0 false (phead v6 ss ds pr zs.length)) false zs
theorem ck_range {v6 : Bool} {ss ds : List Int} {pr : Int} {zs : List Int} (h : ∀ x ∈ zs, 0 ≤ x ∧ x ≤ 255) (h0 : 0 ≤ sumTo 0 false (phead v6 ss ds pr zs.length)) : 0 ≤ ck v6 ss ds pr zs ∧ ck v6 ss ds pr zs ≤ 65535 := by
  have := sumTo_range (o := false) h0 h
  unfold ck; omega
theorem phead_b {v6 : Bool} {ss ds : List Int} {pr n : Int} (bs : ∀ x ∈ ss, 0 ≤ x ∧ x ≤ 255) (bd : ∀ x ∈ ds, 0 ≤ x ∧ x ≤ 255) (p0 : 0 ≤ pr) (p1 : pr ≤ 255) : ∀ x ∈ phead v6 ss ds pr n, 0 ≤ x ∧ x ≤ 255 := by
  intro x hx
  unfold phead at hx
  split at hx
  · rcases List.mem_append.1 hx with hx | hx
    · rcases List.mem_append.1 hx with hx | hx
      · exact bs x hx
      · exact bd x hx
    · exact tail6_b p0 p1 x hx
  · rcases List.mem_append.1 hx with hx | hx
    · rcases List.mem_append.1 hx with hx | hx
      · exact bs x (List.mem_of_mem_take hx)
      · exact bd x (List.mem_of_mem_take hx)
    · exact tail4_b p0 p1 x hx

theorem load_ar {W : World} {b : Nat} {ss : List Int} (h : W.heap[b]? = some (.cells (ar ss) 23 (0, 0))) (hs : ss.length = 16) : (Instr.loadAt 23 (.pointer (some ⟨b, 0, none⟩))).run Try.prog W = .ok (.agg (ar ss)) W := by
  have := run_loadAt_mid (P := Try.prog) W b 0 23 (ss.map (Value.int .u8)) (.array 16 5) (by
    have h1 := World.rangeAt_of_block h 0 (ar ss).size
    have e : (ar ss).extract 0 (0 + (ar ss).size) = ar ss := by simp
    rw [e] at h1; simpa [ar] using h1) Try.underlying23 rfl (by rw [List.length_map, hs]; kernel_rfl)
  exact this

theorem arms_load {W : World} {b : Nat} {ss : List Int} {ops : Array Oper} {rest : List Oper} {op : Oper} {ac : Act} {Q : Exit → Act → World → Prop} (hg : op.guard = none) (x : Operand) (ho : op.op = .load 23 x) (hx : ac.eval x = .pointer (some ⟨b, 0, none⟩)) (h : W.heap[b]? = some (.cells (ar ss) 23 (0, 0))) (hs : ss.length = 16)
    (K : wpList Try.prog ops Q rest (ac.put op.dst (.agg (ar ss))) W) : wpList Try.prog ops Q (op :: rest) ac W := by
  refine wpList_plain hg fun K' hK => ?_
  unfold Oper.wp
  simp [execOp, ho, hx, load_ar h hs, Result.andThen]
  exact hK _ _ K

set_option maxHeartbeats 2000000 in
theorem sealed_any {w : World} {a : Option Addr} {len cap : Nat} {zs : List Int} (v6 : Bool) (ss ds : List Int) (pr : Int) (h : Row8 w a len cap zs) (hl : len ≤ 1099511627776) (hs : ss.length = 16) (hd : ds.length = 16) (bs : ∀ x ∈ ss, 0 ≤ x ∧ x ≤ 255) (bd : ∀ x ∈ ds, 0 ≤ x ∧ x ≤ 255) (p0 : 0 ≤ pr) (p1 : pr ≤ 255) :
    Calls Try.prog 136 #[.bool v6, .agg (ar ss), .agg (ar ds), .int .u8 pr, .slice a len cap] w fun e w' => e = .returned (.int .u16 (ck v6 ss ds pr zs)) ∧ Below w.heap.size w w' := by
  have HX := heap_two w (Obj.cells (ar ss) 23) (Obj.cells (ar ds) 23)
  have X := Lib.hid HX.1
  have Y := Lib.hid HX.2
  have B0 : Hid (Below w.heap.size w ((w.alloc (Obj.cells (ar ss) 23)).alloc (Obj.cells (ar ds) 23))) := ((Below.refl _ _).alloc (Nat.le_refl _) _).alloc (by simp) _
  have HS := Lib.hid hs
  have HD := Lib.hid hd
  have CP := Lib.hid (fun W => pseudo_any v6 ss ds pr len W hs hd bs bd p0 p1 (by omega) (by omega))
  obtain ⟨s1, hs1⟩ : ∃ s, sumTo 0 false (phead v6 ss ds pr len) = s := ⟨_, rfl⟩
  have r1 := sumTo_range (s := 0) (o := false) (zs := phead v6 ss ds pr len) (Int.le_refl 0) (phead_b bs bd p0 p1)
  rw [hs1] at CP r1
  obtain ⟨r10, r11⟩ := r1
  have CA := Lib.hid (fun W (hb : Below w.heap.size w W) => add_row (h.below hb) hl s1 false r10 r11)
  obtain ⟨s2, hs2⟩ : ∃ s, sumTo s1 false zs = s := ⟨_, rfl⟩
  have r2 := sumTo_range (s := s1) (o := false) (zs := zs) r10 h.bytes
  rw [hs2] at CA r2
  obtain ⟨r20, r21⟩ := r2
  have CE := Lib.hid (fun (o : Bool) W => end_any s2 o W r20 r21)
  have F : Hid (ck v6 ss ds pr zs = 65535 - s2) := by show _ = _; rw [ck, h.length, hs1, hs2]
  obtain ⟨o, ho⟩ : ∃ o, par false len = o := ⟨_, rfl⟩
  rw [ho] at CA
  have hcap := h.cap_le
  have hle := h.le
  clear HX hs1 hs2 h hs hd bs bd ho
  go_enter Try.func136, Try.ntmps136
  go_wp2_with (first | (refine arms_load rfl _ rfl rfl X.out HS.out ?_) | (refine arms_load rfl _ rfl rfl Y.out HD.out ?_))
  refine (CP.out _).mono ?_
  rintro e w1 ⟨rfl, hb⟩
  have B1 := Lib.hid (B0.out.trans (hb.mono B0.out.size))
  clear hb X Y B0
  go_wp2_with fail
  refine (CA.out _ B1.out).mono ?_
  rintro e w2 ⟨rfl, hb⟩
  have B2 := Lib.hid (B1.out.trans (hb.mono B1.out.size))
  clear hb
  go_wp2_with fail
  refine (CE.out o _).mono ?_
  rintro e w3 ⟨rfl, hb⟩
  have B3 := Lib.hid (B2.out.trans (hb.mono B2.out.size))
  clear hb
  go_wp2_with fail
  go_ret
  exact ⟨ret_int F.out.symm, B3.out⟩
end Go.Proofs.Ytmdafjegddnecaa
