/- The walk of the law Ip6Chain. -/
import Derived.Test.YtamjhaomdfeemaaCp
import Derived.Test.YtamjhaomdfeemaaK4
import Derived.Test.YtamjhaomdfeemaaPr
namespace Go.Proofs.Ytamjhaomdfeemaa
open Go.RowKit Go.Wb
set_option linter.unusedVariables false
set_option linter.unusedSimpArgs false

theorem own_full {base : Nat} {w : World} {b n : Nat} {zs : List Int} (h : w.heap[b]? = some (.cells (ar zs) 5 (0, 0))) (hs : zs.length = n) (hb0 : base ≤ b) (hn : n ≤ 1099511627776) (hb : ∀ x ∈ zs, 0 ≤ x ∧ x ≤ 255) : Own8 base w (some ⟨b, 0, none⟩) n n zs :=
  ⟨⟨by rw [List.length_map]; omega, .inr ⟨b, n, ar zs, rfl, hb0, h, Nat.le_refl _, by unfold maxLen; omega, by simp [ar, hs], by subst hs; simp only [ar, Nat.mul_one]; rw [List.take_of_length_le (by simp)]⟩⟩, hb, by have := lt_of_heap h; omega⟩

theorem hdr_b {n : Int} {k : Nat} (n0 : 0 ≤ n) (n1 : n ≤ 255) (hk : k ≤ 3) : ∀ x ∈ hdr n k, 0 ≤ x ∧ x ≤ 255 := by
  intro y hy
  simp only [hdr, List.mem_cons, List.mem_replicate] at hy
  rcases hy with rfl | rfl | ⟨_, rfl⟩ <;> omega

theorem rem_lt (cut : Int) (bl : Nat) (h0 : 0 < bl) (hl : bl ≤ 9223372036854775806) : ∃ k : Nat, wrap64 ((IntKind.u64.wrap cut).tmod (bl : Int)) = (k : Int) ∧ k < bl := by
  have h0' : 0 ≤ IntKind.u64.wrap cut := by rw [IntKind.wrap_u64]; omega
  rw [Int.tmod_eq_emod_of_nonneg h0']
  have h1 := Int.emod_nonneg (IntKind.u64.wrap cut) (show (bl : Int) ≠ 0 by omega)
  have h2 := Int.emod_lt_of_pos (IntKind.u64.wrap cut) (show 0 < (bl : Int) by omega)
  exact ⟨(IntKind.u64.wrap cut % (bl : Int)).toNat, by rw [IntWalk.wrap64_in _ (by omega)]; omega, by omega⟩

def okEnd (w : World) (e : Ending) (w' : World) : Prop := e = .returned (.bool true) ∧ Below w.heap.size w w'

theorem i3_0 (w : World) : (Instr.index 64 (.agg #[.int .u8 43, .int .u8 60, .int .u8 44]) (.int .u8 0)).run Try.prog w = .ok (.int .u8 43) w := by kernel_rfl
theorem i3_1 (w : World) : (Instr.index 64 (.agg #[.int .u8 43, .int .u8 60, .int .u8 44]) (.int .u8 1)).run Try.prog w = .ok (.int .u8 60) w := by kernel_rfl
theorem i3_2 (w : World) : (Instr.index 64 (.agg #[.int .u8 43, .int .u8 60, .int .u8 44]) (.int .u8 2)).run Try.prog w = .ok (.int .u8 44) w := by kernel_rfl
theorem mk8 (w : World) : (Instr.makeSlice 25 (.int .i64 8) (.int .i64 8)).run Try.prog w = .ok (.slice (some ⟨w.heap.size, 0, none⟩) 8 8) (w.alloc (.cells #[.int .u8 0, .int .u8 0, .int .u8 0, .int .u8 0, .int .u8 0, .int .u8 0, .int .u8 0, .int .u8 0] 5 (0, 0))) := by kernel_rfl
theorem mk16 (w : World) : (Instr.makeSlice 25 (.int .i64 16) (.int .i64 16)).run Try.prog w = .ok (.slice (some ⟨w.heap.size, 0, none⟩) 16 16) (w.alloc (.cells #[.int .u8 0, .int .u8 0, .int .u8 0, .int .u8 0, .int .u8 0, .int .u8 0, .int .u8 0, .int .u8 0, .int .u8 0, .int .u8 0, .int .u8 0, .int .u8 0, .int .u8 0, .int .u8 0, .int .u8 0, .int .u8 0] 5 (0, 0))) := by kernel_rfl
theorem mk24 (w : World) : (Instr.makeSlice 25 (.int .i64 24) (.int .i64 24)).run Try.prog w = .ok (.slice (some ⟨w.heap.size, 0, none⟩) 24 24) (w.alloc (.cells #[.int .u8 0, .int .u8 0, .int .u8 0, .int .u8 0, .int .u8 0, .int .u8 0, .int .u8 0, .int .u8 0, .int .u8 0, .int .u8 0, .int .u8 0, .int .u8 0, .int .u8 0, .int .u8 0, .int .u8 0, .int .u8 0, .int .u8 0, .int .u8 0, .int .u8 0, .int .u8 0, .int .u8 0, .int .u8 0, .int .u8 0, .int .u8 0] 5 (0, 0))) := by kernel_rfl
theorem mk32 (w : World) : (Instr.makeSlice 25 (.int .i64 32) (.int .i64 32)).run Try.prog w = .ok (.slice (some ⟨w.heap.size, 0, none⟩) 32 32) (w.alloc (.cells #[.int .u8 0, .int .u8 0, .int .u8 0, .int .u8 0, .int .u8 0, .int .u8 0, .int .u8 0, .int .u8 0, .int .u8 0, .int .u8 0, .int .u8 0, .int .u8 0, .int .u8 0, .int .u8 0, .int .u8 0, .int .u8 0, .int .u8 0, .int .u8 0, .int .u8 0, .int .u8 0, .int .u8 0, .int .u8 0, .int .u8 0, .int .u8 0, .int .u8 0, .int .u8 0, .int .u8 0, .int .u8 0, .int .u8 0, .int .u8 0, .int .u8 0, .int .u8 0] 5 (0, 0))) := by kernel_rfl

theorem bld_step {proto x n k : Int} {zs : List Int} {p bl w : Nat} (DR : zs.drop p = x :: zs.drop (p + 1)) (HN : n = (bld proto (zs.drop (p + 1))).2) (HBL : bl = (bld proto (zs.drop (p + 1))).1.length) (hk : kindOf x = k) (hw : wordsOf x = w) :
    (bld proto (zs.drop p)).1 = hdr n w ++ (bld proto (zs.drop (p + 1))).1 ∧ (bld proto (zs.drop p)).2 = k ∧ 8 + 8 * w + bl = (bld proto (zs.drop p)).1.length := by
  rw [DR, bld]
  simp only
  rw [hk, hw, HN, HBL]
  exact ⟨rfl, rfl, by rw [List.length_append, hdr_len]⟩

set_option maxRecDepth 100000 in
set_option maxHeartbeats 4000000 in
theorem ip6Chain_out (a : Option Addr) (len cap : Nat) (zs : List Int) (proto cut : Int) (w : World) (h : Row8 w a len cap zs) (ho : 12 < len ∨ isExt proto) :
    Calls Try.prog 10 #[.slice a len cap, .int .u8 proto, .int .i64 cut] w (okEnd w) := by
  have hcap := h.cap_le
  have hle := h.le
  clear h
  by_cases h12 : 12 < len
  · clear ho
    go_enter Try.func10, Try.ntmps10
    go_wp2_with fail
    refine (known4_any _).mono ?_
    rintro e w1 ⟨rfl, hb⟩
    go_wp2_with fail
    go_ret
    exact ⟨rfl, hb⟩
  · rcases ho.resolve_left h12 with rfl | rfl | rfl | rfl
    all_goals
      go_enter Try.func10, Try.ntmps10
      go_wp2_with fail
      refine (known4_any _).mono ?_
      rintro e w1 ⟨rfl, hb⟩
      go_wp2_with fail
      go_ret
      exact ⟨rfl, hb⟩

set_option maxRecDepth 100000 in
set_option maxHeartbeats 8000000 in
theorem ip6Chain_main (a : Option Addr) (len cap : Nat) (zs : List Int) (proto cut : Int) (w : World) (p0 : 0 ≤ proto) (p1 : proto ≤ 255) (c0 : -9223372036854775808 ≤ cut) (c1 : cut ≤ 9223372036854775807) (h : Row8 w a len cap zs) (h12 : len ≤ 12) (hp : ¬ isExt proto) :
    Calls Try.prog 10 #[.slice a len cap, .int .u8 proto, .int .i64 cut] w (okEnd w) := by
  have H := Lib.hid h
  have hcap := h.cap_le
  have hle := h.le
  have HP := Lib.hid hp
  have e0 : (proto == 0) = false := by unfold isExt at hp; simp; omega
  have e1 : (proto == 43) = false := by unfold isExt at hp; simp; omega
  have e2 : (proto == 44) = false := by unfold isExt at hp; simp; omega
  have e3 : (proto == 60) = false := by unfold isExt at hp; simp; omega
  clear h hp
  go_enter Try.func10, Try.ntmps10
  go_wp2_with fail
  clear e0 e1 e2 e3
  go_loopw [7, 8, 9] (fun bv nx iv wr => ∃ (i : Nat) (q : Int) (ab : Option Addr) (bl cb : Nat) (n : Int), i ≤ len ∧ q = (i : Int) - 1 ∧ bl = (bld proto (zs.drop i)).1.length ∧ n = (bld proto (zs.drop i)).2 ∧ bv = .slice ab bl cb ∧ nx = .int .u8 n ∧ iv = .int .i64 q ∧ Hid (Own8 w.heap.size wr ab bl cb (bld proto (zs.drop i)).1) ∧ Hid (Below w.heap.size w wr)) (fun _ _ iv _ => (intOf iv + 1).toNat)
  case atStart => exact ⟨len, (len : Int) - 1, none, 0, 0, proto, Nat.le_refl _, rfl, by rw [List.drop_of_length_le (by rw [H.out.length]; omega)]; rfl, by rw [List.drop_of_length_le (by rw [H.out.length]; omega)]; rfl, rfl, rfl, rfl, by rw [List.drop_of_length_le (by rw [H.out.length]; omega)]; exact Own8.nil (Nat.le_refl _), Below.refl _ _⟩
  case round =>
    obtain ⟨i, q, ab, bl, cb, n, hi, hq, hbl, hn, rfl, rfl, rfl, hO, hB⟩ := hrel
    by_cases hi0 : i = 0
    · subst hi0
      obtain rfl : q = -1 := by omega
      rw [List.drop_zero] at hbl hn hO
      have BR := bld_range proto p0 p1 zs
      have BL := bld_len proto zs
      rw [← hbl, H.out.length] at BL
      have HBL := Lib.hid hbl
      have BR1 := Lib.hid BR.1
      have n0 := BR.2.1
      have n1 := BR.2.2
      rw [← hn] at n0 n1
      have HN := Lib.hid hn
      clear BR hi hq hbl hn
      by_cases h8 : 8 < len
      · have CH : Hid (chainF 9 n (bld proto zs).1 0 0 = (0, 0, 3)) := by
          show _ = _
          rw [HN.out]; exact chain_long proto zs 9 0 0 (by omega) (by omega) (by rw [H.out.length]; omega)
        have CC := Lib.hid (chain_any n ab bl cb _ wr 0 0 3 n0 n1 hO.out.row (by omega) CH.out)
        go_wp2_with fail
        refine CC.out.mono ?_
        rintro e w2 ⟨rfl, hb⟩
        have B2 := Lib.hid (hB.out.trans (hb.mono hB.out.size))
        clear hb hB hO
        go_wp2_with fail
        refine (known4_any _).mono ?_
        rintro e w3 ⟨rfl, hb⟩
        have B3 := Lib.hid (B2.out.trans (hb.mono B2.out.size))
        clear hb
        go_wp2_with fail
        go_ret
        exact ⟨rfl, B3.out⟩
      · have CH : Hid (chainF 9 n (bld proto zs).1 0 0 = (proto, ((bl : Nat) : Int), 0)) := by
          show _ = _
          rw [HN.out, chain_good proto HP.out zs 9 0 0 (by rw [H.out.length]; omega) (by rw [H.out.length]; omega), HBL.out]; simp
        have CC := Lib.hid (chain_any n ab bl cb _ wr proto bl 0 n0 n1 hO.out.row (by omega) CH.out)
        by_cases hl0 : len = 0
        · subst hl0
          obtain rfl : bl = 0 := by omega
          go_wp2_with fail
          refine CC.out.mono ?_
          rintro e w2 ⟨rfl, hb⟩
          have B2 := Lib.hid (hB.out.trans (hb.mono hB.out.size))
          clear hb hB hO
          go_wp2_with fail
          refine (known4_any _).mono ?_
          rintro e w3 ⟨rfl, hb⟩
          have B3 := Lib.hid (B2.out.trans (hb.mono B2.out.size))
          clear hb
          go_wp2_with fail
          go_ret
          exact ⟨rfl, B3.out⟩
        · have hbp : 8 ≤ bl := by rw [HBL.out]; exact bld_pos proto (by intro h; have := H.out.length; rw [h] at this; simp at this; omega)
          obtain ⟨k, hk, hkl⟩ := rem_lt cut bl (by omega) (by omega)
          have hcb := hO.out.row.le
          have hcb2 := hO.out.row.cap_le
          have b0 : ((bl : Int) == 0) = false := by simp; omega
          go_wp2_with fail
          refine CC.out.mono ?_
          rintro e w2 ⟨rfl, hb⟩
          have O2 := Lib.hid (hO.out.keep hb)
          have B2 := Lib.hid (hB.out.trans (hb.mono hB.out.size))
          clear hb hB hO CC
          go_wp2_with fail
          obtain ⟨q2, r2, CT⟩ : ∃ q r, chainF 9 n ((bld proto zs).1.take k) 0 0 = (q, r, 4) := by
            rw [HN.out]; exact chain_cut proto zs 9 0 k 0 (by rw [H.out.length]; omega) (by rw [H.out.length]; omega) (by rw [← HBL.out]; exact hkl)
          refine (chain_any n ab k cb _ w2 q2 r2 4 n0 n1 (O2.out.row.take (by omega)) (by omega) CT).mono ?_
          rintro e w3 ⟨rfl, hb⟩
          have B3 := Lib.hid (B2.out.trans (hb.mono B2.out.size))
          clear hb CT hk
          go_wp2_with fail
          refine (known4_any _).mono ?_
          rintro e w4 ⟨rfl, hb⟩
          have B4 := Lib.hid (B3.out.trans (hb.mono B3.out.size))
          clear hb
          go_wp2_with fail
          go_ret
          exact ⟨rfl, B4.out⟩
    · obtain ⟨p, rfl⟩ : ∃ p, i = p + 1 := ⟨i - 1, by omega⟩
      obtain rfl : q = (p : Int) := by omega
      have hcell := (H.out.below hB.out).cells p (by omega)
      obtain ⟨b, off, rfl, hbl', hcell⟩ := hcell
      have hx := H.out.getD p
      have hdrop : zs.drop p = zs.getD p 0 :: zs.drop (p + 1) := by
        rw [List.drop_eq_getElem_cons (by rw [H.out.length]; omega), List.getD_eq_getElem?_getD, List.getElem?_eq_getElem (by rw [H.out.length]; omega)]; rfl
      have DR := Lib.hid hdrop
      obtain ⟨x, hxx⟩ : ∃ x, zs.getD p 0 = x := ⟨_, rfl⟩
      rw [hxx] at hcell hx DR
      obtain ⟨x0, x1⟩ := hx
      have BR := bld_range proto p0 p1 (zs.drop (p + 1))
      have BL := bld_len proto (zs.drop (p + 1))
      rw [← hbl, List.length_drop, H.out.length] at BL
      have HBL := Lib.hid hbl
      have HN := Lib.hid hn
      rw [← hn] at BR
      obtain ⟨BR1, n0, n1⟩ := BR
      have pl : (p : Int) < (len : Int) := by omega
      clear hdrop hxx hi hi0 hq hbl hn BR1 hbl'
      have i0 := i3_0
      have i1 := i3_1
      have i2 := i3_2
      have m8 := mk8
      have m16 := mk16
      have m24 := mk24
      have m32 := mk32
      have KS : Hid (∀ k, Own8 w.heap.size (wr.drewN k) ab bl cb (bld proto (zs.drop (p + 1))).1) := fun k => hO.out.keep ⟨rfl, rfl, rfl, Nat.le_refl _, fun _ _ => rfl⟩
      have KB : Hid (∀ k, Below w.heap.size w (wr.drewN k)) := fun k => ⟨hB.out.os, hB.out.tape, hB.out.output, hB.out.size, hB.out.block⟩
      rcases (by omega : x % 3 = 2 ∨ (x % 3 = 0 ∧ x / 3 % 4 = 0) ∨ (x % 3 = 0 ∧ x / 3 % 4 = 1) ∨ (x % 3 = 0 ∧ x / 3 % 4 = 2) ∨ (x % 3 = 0 ∧ x / 3 % 4 = 3) ∨ (x % 3 = 1 ∧ x / 3 % 4 = 0) ∨ (x % 3 = 1 ∧ x / 3 % 4 = 1) ∨ (x % 3 = 1 ∧ x / 3 % 4 = 2) ∨ (x % 3 = 1 ∧ x / 3 % 4 = 3)) with hm | ⟨hm, hw⟩ | ⟨hm, hw⟩ | ⟨hm, hw⟩ | ⟨hm, hw⟩ | ⟨hm, hw⟩ | ⟨hm, hw⟩ | ⟨hm, hw⟩ | ⟨hm, hw⟩
      · have S : Hid ((bld proto (zs.drop p)).1 = hdr n 0 ++ (bld proto (zs.drop (p + 1))).1 ∧ (bld proto (zs.drop p)).2 = 44 ∧ 8 + bl = (bld proto (zs.drop p)).1.length) := bld_step DR.out HN.out HBL.out (by unfold kindOf; simp [hm]) (by unfold wordsOf; simp [hm])
        clear DR HN HBL
        go_wp2_with fail
        go_quiet (fail)
        have OD := Lib.hid (KS.out nq)
        have BD := Lib.hid (KB.out nq)
        clear hO hB KS KB hcell i0 i1 i2 hm
        generalize wr.drewN nq = wd at *
        have hwd := BD.out.size
        go_wp2_with (at_builtin; refine wpList_app8 rfl _ _ rfl w.heap.size (some ⟨wd.heap.size, 0, none⟩) 8 8 (hdr n 0) rfl (own_full (heap_alloc_new wd (Obj.cells (ar (hdr n 0)) 5)) rfl hwd (by omega) (hdr_b n0 n1 (by omega))) ab bl cb (bld proto (zs.drop (p + 1))).1 rfl (OD.out.row.below ((Below.refl _ _).alloc (Nat.le_refl _) _)) (by omega) ?_; intro a' c' w' ho hg; have O2 := Lib.hid ho; have B2 : Hid (Below w.heap.size w w') := (Below.grown (BD.out.alloc hwd _) hg (by simp; omega) (by intro q hq; cases hq; exact hwd)); clear ho hg)
        go_roundw
        case rel => exact ⟨p, (p : Int) - 1, a', 8 + bl, c', 44, by omega, rfl, S.out.2.2, S.out.2.1.symm, rfl, rfl, rfl, by rw [S.out.1]; exact O2, B2⟩
        case measure => simp [intOf] <;> omega
      · have S : Hid ((bld proto (zs.drop p)).1 = hdr n 0 ++ (bld proto (zs.drop (p + 1))).1 ∧ (bld proto (zs.drop p)).2 = 43 ∧ 8 + bl = (bld proto (zs.drop p)).1.length) := bld_step DR.out HN.out HBL.out (by unfold kindOf; simp [hm, hw]) (by unfold wordsOf; simp [hm, hw])
        clear DR HN HBL
        go_wp2_with fail
        go_quiet (fail)
        have OD := Lib.hid (KS.out nq)
        have BD := Lib.hid (KB.out nq)
        clear hO hB KS KB hcell i0 i1 i2 hm hw
        generalize wr.drewN nq = wd at *
        have hwd := BD.out.size
        go_wp2_with (at_builtin; refine wpList_app8 rfl _ _ rfl w.heap.size (some ⟨wd.heap.size, 0, none⟩) 8 8 (hdr n 0) rfl (own_full (heap_alloc_new wd (Obj.cells (ar (hdr n 0)) 5)) rfl hwd (by omega) (hdr_b n0 n1 (by omega))) ab bl cb (bld proto (zs.drop (p + 1))).1 rfl (OD.out.row.below ((Below.refl _ _).alloc (Nat.le_refl _) _)) (by omega) ?_; intro a' c' w' ho hg; have O2 := Lib.hid ho; have B2 : Hid (Below w.heap.size w w') := (Below.grown (BD.out.alloc hwd _) hg (by simp; omega) (by intro q hq; cases hq; exact hwd)); clear ho hg)
        go_roundw
        case rel => exact ⟨p, (p : Int) - 1, a', 8 + bl, c', 43, by omega, rfl, S.out.2.2, S.out.2.1.symm, rfl, rfl, rfl, by rw [S.out.1]; exact O2, B2⟩
        case measure => simp [intOf] <;> omega
      · have S : Hid ((bld proto (zs.drop p)).1 = hdr n 1 ++ (bld proto (zs.drop (p + 1))).1 ∧ (bld proto (zs.drop p)).2 = 43 ∧ 16 + bl = (bld proto (zs.drop p)).1.length) := bld_step DR.out HN.out HBL.out (by unfold kindOf; simp [hm, hw]) (by unfold wordsOf; simp [hm, hw])
        clear DR HN HBL
        go_wp2_with fail
        go_quiet (fail)
        have OD := Lib.hid (KS.out nq)
        have BD := Lib.hid (KB.out nq)
        clear hO hB KS KB hcell i0 i1 i2 hm hw
        generalize wr.drewN nq = wd at *
        have hwd := BD.out.size
        go_wp2_with (at_builtin; refine wpList_app8 rfl _ _ rfl w.heap.size (some ⟨wd.heap.size, 0, none⟩) 16 16 (hdr n 1) rfl (own_full (heap_alloc_new wd (Obj.cells (ar (hdr n 1)) 5)) rfl hwd (by omega) (hdr_b n0 n1 (by omega))) ab bl cb (bld proto (zs.drop (p + 1))).1 rfl (OD.out.row.below ((Below.refl _ _).alloc (Nat.le_refl _) _)) (by omega) ?_; intro a' c' w' ho hg; have O2 := Lib.hid ho; have B2 : Hid (Below w.heap.size w w') := (Below.grown (BD.out.alloc hwd _) hg (by simp; omega) (by intro q hq; cases hq; exact hwd)); clear ho hg)
        go_roundw
        case rel => exact ⟨p, (p : Int) - 1, a', 16 + bl, c', 43, by omega, rfl, S.out.2.2, S.out.2.1.symm, rfl, rfl, rfl, by rw [S.out.1]; exact O2, B2⟩
        case measure => simp [intOf] <;> omega
      · have S : Hid ((bld proto (zs.drop p)).1 = hdr n 2 ++ (bld proto (zs.drop (p + 1))).1 ∧ (bld proto (zs.drop p)).2 = 43 ∧ 24 + bl = (bld proto (zs.drop p)).1.length) := bld_step DR.out HN.out HBL.out (by unfold kindOf; simp [hm, hw]) (by unfold wordsOf; simp [hm, hw])
        clear DR HN HBL
        go_wp2_with fail
        go_quiet (fail)
        have OD := Lib.hid (KS.out nq)
        have BD := Lib.hid (KB.out nq)
        clear hO hB KS KB hcell i0 i1 i2 hm hw
        generalize wr.drewN nq = wd at *
        have hwd := BD.out.size
        go_wp2_with (at_builtin; refine wpList_app8 rfl _ _ rfl w.heap.size (some ⟨wd.heap.size, 0, none⟩) 24 24 (hdr n 2) rfl (own_full (heap_alloc_new wd (Obj.cells (ar (hdr n 2)) 5)) rfl hwd (by omega) (hdr_b n0 n1 (by omega))) ab bl cb (bld proto (zs.drop (p + 1))).1 rfl (OD.out.row.below ((Below.refl _ _).alloc (Nat.le_refl _) _)) (by omega) ?_; intro a' c' w' ho hg; have O2 := Lib.hid ho; have B2 : Hid (Below w.heap.size w w') := (Below.grown (BD.out.alloc hwd _) hg (by simp; omega) (by intro q hq; cases hq; exact hwd)); clear ho hg)
        go_roundw
        case rel => exact ⟨p, (p : Int) - 1, a', 24 + bl, c', 43, by omega, rfl, S.out.2.2, S.out.2.1.symm, rfl, rfl, rfl, by rw [S.out.1]; exact O2, B2⟩
        case measure => simp [intOf] <;> omega
      · have S : Hid ((bld proto (zs.drop p)).1 = hdr n 3 ++ (bld proto (zs.drop (p + 1))).1 ∧ (bld proto (zs.drop p)).2 = 43 ∧ 32 + bl = (bld proto (zs.drop p)).1.length) := bld_step DR.out HN.out HBL.out (by unfold kindOf; simp [hm, hw]) (by unfold wordsOf; simp [hm, hw])
        clear DR HN HBL
        go_wp2_with fail
        go_quiet (fail)
        have OD := Lib.hid (KS.out nq)
        have BD := Lib.hid (KB.out nq)
        clear hO hB KS KB hcell i0 i1 i2 hm hw
        generalize wr.drewN nq = wd at *
        have hwd := BD.out.size
        go_wp2_with (at_builtin; refine wpList_app8 rfl _ _ rfl w.heap.size (some ⟨wd.heap.size, 0, none⟩) 32 32 (hdr n 3) rfl (own_full (heap_alloc_new wd (Obj.cells (ar (hdr n 3)) 5)) rfl hwd (by omega) (hdr_b n0 n1 (by omega))) ab bl cb (bld proto (zs.drop (p + 1))).1 rfl (OD.out.row.below ((Below.refl _ _).alloc (Nat.le_refl _) _)) (by omega) ?_; intro a' c' w' ho hg; have O2 := Lib.hid ho; have B2 : Hid (Below w.heap.size w w') := (Below.grown (BD.out.alloc hwd _) hg (by simp; omega) (by intro q hq; cases hq; exact hwd)); clear ho hg)
        go_roundw
        case rel => exact ⟨p, (p : Int) - 1, a', 32 + bl, c', 43, by omega, rfl, S.out.2.2, S.out.2.1.symm, rfl, rfl, rfl, by rw [S.out.1]; exact O2, B2⟩
        case measure => simp [intOf] <;> omega
      · have S : Hid ((bld proto (zs.drop p)).1 = hdr n 0 ++ (bld proto (zs.drop (p + 1))).1 ∧ (bld proto (zs.drop p)).2 = 60 ∧ 8 + bl = (bld proto (zs.drop p)).1.length) := bld_step DR.out HN.out HBL.out (by unfold kindOf; simp [hm, hw]) (by unfold wordsOf; simp [hm, hw])
        clear DR HN HBL
        go_wp2_with fail
        go_quiet (fail)
        have OD := Lib.hid (KS.out nq)
        have BD := Lib.hid (KB.out nq)
        clear hO hB KS KB hcell i0 i1 i2 hm hw
        generalize wr.drewN nq = wd at *
        have hwd := BD.out.size
        go_wp2_with (at_builtin; refine wpList_app8 rfl _ _ rfl w.heap.size (some ⟨wd.heap.size, 0, none⟩) 8 8 (hdr n 0) rfl (own_full (heap_alloc_new wd (Obj.cells (ar (hdr n 0)) 5)) rfl hwd (by omega) (hdr_b n0 n1 (by omega))) ab bl cb (bld proto (zs.drop (p + 1))).1 rfl (OD.out.row.below ((Below.refl _ _).alloc (Nat.le_refl _) _)) (by omega) ?_; intro a' c' w' ho hg; have O2 := Lib.hid ho; have B2 : Hid (Below w.heap.size w w') := (Below.grown (BD.out.alloc hwd _) hg (by simp; omega) (by intro q hq; cases hq; exact hwd)); clear ho hg)
        go_roundw
        case rel => exact ⟨p, (p : Int) - 1, a', 8 + bl, c', 60, by omega, rfl, S.out.2.2, S.out.2.1.symm, rfl, rfl, rfl, by rw [S.out.1]; exact O2, B2⟩
        case measure => simp [intOf] <;> omega
      · have S : Hid ((bld proto (zs.drop p)).1 = hdr n 1 ++ (bld proto (zs.drop (p + 1))).1 ∧ (bld proto (zs.drop p)).2 = 60 ∧ 16 + bl = (bld proto (zs.drop p)).1.length) := bld_step DR.out HN.out HBL.out (by unfold kindOf; simp [hm, hw]) (by unfold wordsOf; simp [hm, hw])
        clear DR HN HBL
        go_wp2_with fail
        go_quiet (fail)
        have OD := Lib.hid (KS.out nq)
        have BD := Lib.hid (KB.out nq)
        clear hO hB KS KB hcell i0 i1 i2 hm hw
        generalize wr.drewN nq = wd at *
        have hwd := BD.out.size
        go_wp2_with (at_builtin; refine wpList_app8 rfl _ _ rfl w.heap.size (some ⟨wd.heap.size, 0, none⟩) 16 16 (hdr n 1) rfl (own_full (heap_alloc_new wd (Obj.cells (ar (hdr n 1)) 5)) rfl hwd (by omega) (hdr_b n0 n1 (by omega))) ab bl cb (bld proto (zs.drop (p + 1))).1 rfl (OD.out.row.below ((Below.refl _ _).alloc (Nat.le_refl _) _)) (by omega) ?_; intro a' c' w' ho hg; have O2 := Lib.hid ho; have B2 : Hid (Below w.heap.size w w') := (Below.grown (BD.out.alloc hwd _) hg (by simp; omega) (by intro q hq; cases hq; exact hwd)); clear ho hg)
        go_roundw
        case rel => exact ⟨p, (p : Int) - 1, a', 16 + bl, c', 60, by omega, rfl, S.out.2.2, S.out.2.1.symm, rfl, rfl, rfl, by rw [S.out.1]; exact O2, B2⟩
        case measure => simp [intOf] <;> omega
      · have S : Hid ((bld proto (zs.drop p)).1 = hdr n 2 ++ (bld proto (zs.drop (p + 1))).1 ∧ (bld proto (zs.drop p)).2 = 60 ∧ 24 + bl = (bld proto (zs.drop p)).1.length) := bld_step DR.out HN.out HBL.out (by unfold kindOf; simp [hm, hw]) (by unfold wordsOf; simp [hm, hw])
        clear DR HN HBL
        go_wp2_with fail
        go_quiet (fail)
        have OD := Lib.hid (KS.out nq)
        have BD := Lib.hid (KB.out nq)
        clear hO hB KS KB hcell i0 i1 i2 hm hw
        generalize wr.drewN nq = wd at *
        have hwd := BD.out.size
        go_wp2_with (at_builtin; refine wpList_app8 rfl _ _ rfl w.heap.size (some ⟨wd.heap.size, 0, none⟩) 24 24 (hdr n 2) rfl (own_full (heap_alloc_new wd (Obj.cells (ar (hdr n 2)) 5)) rfl hwd (by omega) (hdr_b n0 n1 (by omega))) ab bl cb (bld proto (zs.drop (p + 1))).1 rfl (OD.out.row.below ((Below.refl _ _).alloc (Nat.le_refl _) _)) (by omega) ?_; intro a' c' w' ho hg; have O2 := Lib.hid ho; have B2 : Hid (Below w.heap.size w w') := (Below.grown (BD.out.alloc hwd _) hg (by simp; omega) (by intro q hq; cases hq; exact hwd)); clear ho hg)
        go_roundw
        case rel => exact ⟨p, (p : Int) - 1, a', 24 + bl, c', 60, by omega, rfl, S.out.2.2, S.out.2.1.symm, rfl, rfl, rfl, by rw [S.out.1]; exact O2, B2⟩
        case measure => simp [intOf] <;> omega
      · have S : Hid ((bld proto (zs.drop p)).1 = hdr n 3 ++ (bld proto (zs.drop (p + 1))).1 ∧ (bld proto (zs.drop p)).2 = 60 ∧ 32 + bl = (bld proto (zs.drop p)).1.length) := bld_step DR.out HN.out HBL.out (by unfold kindOf; simp [hm, hw]) (by unfold wordsOf; simp [hm, hw])
        clear DR HN HBL
        go_wp2_with fail
        go_quiet (fail)
        have OD := Lib.hid (KS.out nq)
        have BD := Lib.hid (KB.out nq)
        clear hO hB KS KB hcell i0 i1 i2 hm hw
        generalize wr.drewN nq = wd at *
        have hwd := BD.out.size
        go_wp2_with (at_builtin; refine wpList_app8 rfl _ _ rfl w.heap.size (some ⟨wd.heap.size, 0, none⟩) 32 32 (hdr n 3) rfl (own_full (heap_alloc_new wd (Obj.cells (ar (hdr n 3)) 5)) rfl hwd (by omega) (hdr_b n0 n1 (by omega))) ab bl cb (bld proto (zs.drop (p + 1))).1 rfl (OD.out.row.below ((Below.refl _ _).alloc (Nat.le_refl _) _)) (by omega) ?_; intro a' c' w' ho hg; have O2 := Lib.hid ho; have B2 : Hid (Below w.heap.size w w') := (Below.grown (BD.out.alloc hwd _) hg (by simp; omega) (by intro q hq; cases hq; exact hwd)); clear ho hg)
        go_roundw
        case rel => exact ⟨p, (p : Int) - 1, a', 32 + bl, c', 60, by omega, rfl, S.out.2.2, S.out.2.1.symm, rfl, rfl, rfl, by rw [S.out.1]; exact O2, B2⟩
        case measure => simp [intOf] <;> omega

theorem ip6Chain_walk (w : World) (l : Value) (hl : In8 w l) (proto : Int) (wp : (Lit.int .u8 proto).wf = true) (cut : Int) (wc : (Lit.int .i64 cut).wf = true) :
    Calls Try.prog 10 #[l, .int .u8 proto, .int .i64 cut] w fun e w' => e = .returned (.bool true) ∧ Below w.heap.size w w' := by
  obtain ⟨a, len, cap, zs, rfl, h⟩ := hl
  have b1 := bounds_u8 wp
  have b2 := bounds_i64 wc
  by_cases ho : 12 < len ∨ isExt proto
  · exact ip6Chain_out a len cap zs proto cut w h ho
  · exact ip6Chain_main a len cap zs proto cut w b1.1 b1.2 b2.1 b2.2 h (by omega) (fun h => ho (.inr h))
end Go.Proofs.Ytamjhaomdfeemaa
