/- The walk of the law SumCuts. -/
import Derived.Test.YtamjhaomdfeemaaLx
import Derived.OpenShut
namespace Go.Proofs.Ytamjhaomdfeemaa
open Go.RowKit Go.Wb
set_option linter.unusedVariables false

theorem cn_full {x : Int} (h : 0 ≤ x) : cn (x + (65535 - cn x)) = 65535 := by unfold cn; split <;> split <;> omega

/-- Bytes with their checksum behind them have the checksum 0. -/
theorem sum_behind {zs : List Int} (h : zs.length % 2 = 0) (hb : ∀ x ∈ zs, 0 ≤ x ∧ x ≤ 255) (c : Int) (hc : c = 65535 - sumTo 0 false zs) : 65535 - sumTo 0 false (zs ++ [c / 256, c % 256]) = 0 := by
  unfold sumTo at *
  have hn := ws_nonneg false zs hb
  have hp : par false zs.length = false := by unfold par; rw [h]; rfl
  rw [ws_append, hp]
  have : ws false [c / 256, c % 256] = c := by simp [ws]; omega
  rw [this, hc]
  have := cn_full (x := 0 + ws false zs) (by omega)
  rw [show 0 + (ws false zs + (65535 - cn (0 + ws false zs))) = 0 + ws false zs + (65535 - cn (0 + ws false zs)) from by omega, this]
  rfl
theorem sum_pad {zs : List Int} : sumTo 0 false (zs ++ [0]) = sumTo 0 false zs := by
  unfold sumTo
  rw [ws_append]
  cases par false zs.length <;> simp [ws]
theorem sum_cut {zs : List Int} {k : Nat} (hk : k ≤ zs.length) (hb : ∀ x ∈ zs, 0 ≤ x ∧ x ≤ 255) : sumTo (sumTo 0 false (zs.take k)) (par false k) (zs.drop k) = sumTo 0 false zs := by
  have := sumTo_append (s := 0) (o := false) (l := zs.take k) (m := zs.drop k) (Int.le_refl 0) (fun x hx => hb x (List.mem_of_mem_take hx)) (fun x hx => hb x (List.mem_of_mem_drop hx))
  rw [List.length_take, Nat.min_eq_left hk, List.take_append_drop] at this
  exact this

/-- A number's remainder by a length, as the walk spells it. -/
theorem rem_nat (cut : Int) (len : Nat) (hl : len ≤ 9223372036854775806) : ∃ k : Nat, wrap64 ((IntKind.u64.wrap cut).tmod ((len : Int) + 1)) = (k : Int) ∧ k ≤ len := by
  have h0 : 0 ≤ IntKind.u64.wrap cut := by rw [IntKind.wrap_u64]; omega
  rw [Int.tmod_eq_emod_of_nonneg h0]
  have h1 := Int.emod_nonneg (IntKind.u64.wrap cut) (show (len : Int) + 1 ≠ 0 by omega)
  have h2 := Int.emod_lt_of_pos (IntKind.u64.wrap cut) (show 0 < (len : Int) + 1 by omega)
  refine ⟨(IntKind.u64.wrap cut % ((len : Int) + 1)).toNat, ?_, by omega⟩
  rw [IntWalk.wrap64_in _ (by omega)]
  omega

set_option maxRecDepth 100000 in
set_option maxHeartbeats 1000000 in
theorem sumCuts_zero (cut : Int) (a : Option Addr) (cap : Nat) (w : World) (c0 : -9223372036854775808 ≤ cut) (c1 : cut ≤ 9223372036854775807) (h : Row8 w a 0 cap []) :
    Calls Try.prog 4 #[.slice a 0 cap, .int .i64 cut] w fun e w' => e = .returned (.bool true) ∧ Below w.heap.size w w' := by
  have H := Lib.hid h
  clear h
  have hcap := H.out.cap_le
  go_enter Try.func4, Try.ntmps4
  go_wp2_with fail
  have start : Hid (Below w.heap.size w w) := Below.refl _ _
  have KEEP : Hid (∀ W, Hid (Below w.heap.size w W) → Hid (Below w.heap.size w W) ∧ True) := fun W h => ⟨h, trivial⟩
  have ALL : Hid (∀ W c, (c = cap ∨ c = 0) → Row8 W a 0 c []) := fun W c hc => Row8.zero (by omega) (fun h => by rcases hc with rfl | rfl; exact H.out.bare h; rfl)
  have ADD0 : Hid (∀ W c, (c = cap ∨ c = 0) → Calls Try.prog 18 #[.agg #[.int .u16 0, .bool false], .slice a 0 c] W fun e w' => e = .returned (.agg #[.int .u16 0, .bool false]) ∧ Below W.heap.size W w') := by
    intro W c hc
    exact add_row (Row8.zero (w := W) (cap := c) (by omega) (fun h => by rcases hc with rfl | rfl; exact H.out.bare h; rfl)) (by omega) 0 false (by omega) (by omega)
  by_cases hcap0 : cap = 0
  all_goals
    go_region_held3 (fun W => Hid (Below w.heap.size w W) ∧ True)
      (first | exact KEEP.out _ (by assumption) | exact KEEP.out _ (below_drew (by assumption)))
      (first
        | (go_at_call 18; have hh := (‹Hid (Below w.heap.size w _) ∧ _›).1; refine (ADD0.out _ _ (by simp)).mono ?_; rintro e W' ⟨rfl, hb'⟩; have hb2 := below_next hh hb'; clear hb' hh))
    have hh : Hid (Below w.heap.size w _) := (‹Hid (Below w.heap.size w _) ∧ True›).1
    clear KEEP start ADD0
    have OWN0 := Lib.hid (Own8.empty (base := w.heap.size) (heap_alloc_new W' (Obj.cells #[] 5)) hh.out.size)
    have BB := Lib.hid (hh.out.alloc hh.out.size (Obj.cells #[] 5))
    go_wp2_with (first
      | (at_builtin; have o1 := O1; refine wpList_app8 rfl _ _ rfl w.heap.size a1 0 cap1 [] rfl (o1.out.keep ((Below.refl _ _).alloc (Nat.le_refl _) (Obj.cells #[.int .u8 0] 5))) (some ⟨w1.heap.size, 0, none⟩) 1 1 [0] rfl (Row8.block (heap_alloc_new w1 (Obj.cells #[.int .u8 0] 5)) (fun i hi => by match i, hi with | 0, _ => rfl) rfl (by omega) (by omega) (by simp)) (by omega) ?_; intro a2 cap2 w2 hr2 hg2; have O2 := Lib.hid hr2; have B2 := Lib.hid ((B1.out.alloc B1.out.size (Obj.cells #[.int .u8 0] 5)).grown hg2 (by have := B1.out.size; simp; omega) (fun q hq => o1.out.blk hq)); clear hr2 hg2 O1 B1 o1)
      | (at_builtin; refine wpList_app8 rfl _ _ rfl w.heap.size (some ⟨W'.heap.size, 0, none⟩) 0 0 [] rfl OWN0.out a 0 _ [] rfl (ALL.out _ _ (by simp)) (by omega) ?_; intro a1 cap1 w1 hr1 hg1; (simp only [Nat.zero_add, List.nil_append] at hr1 ⊢); have O1 := Lib.hid hr1; have B1 := Lib.hid (BB.out.grown hg1 BB.out.size (by intro q hq; cases hq; exact hh.out.size)); clear hr1 hg1 OWN0 BB))
    refine (of_row (ALL.out _ _ (by simp)) (by omega)).mono ?_
    rintro e w3 ⟨rfl, hb⟩
    have B3 := Lib.hid (B1.out.trans (hb.mono B1.out.size))
    have O3 := Lib.hid (O1.out.keep hb)
    clear hb O1 B1
    have hcr := sumTo_range (s := 0) (o := false) (zs := []) (Int.le_refl 0) H.out.bytes
    obtain ⟨c, hc⟩ : ∃ c, 65535 - sumTo 0 false [] = c := ⟨_, rfl⟩
    have c00 : 0 ≤ c := by omega
    have c01 : c ≤ 65535 := by omega
    rw [hc]
    have HCC := Lib.hid hc
    clear hc hcr
    go_wp2_with fail
    refine (of_row O3.out.row (by omega)).mono ?_
    rintro e w4 ⟨rfl, hb⟩
    rw [HCC.out]
    have B4 := Lib.hid (B3.out.trans (hb.mono B3.out.size))
    have O4 := Lib.hid (O3.out.keep hb)
    clear hb O3 B3
    go_wp2_with (at_builtin; refine wpList_app8 rfl _ _ rfl w.heap.size a1 0 cap1 [] rfl (O4.out.keep ((Below.refl _ _).alloc (Nat.le_refl _) (Obj.cells #[.int .u8 (c / 256), .int .u8 (c % 256)] 5))) (some ⟨w4.heap.size, 0, none⟩) 2 2 [c / 256, c % 256] rfl (Row8.block (heap_alloc_new w4 (Obj.cells #[.int .u8 (c / 256), .int .u8 (c % 256)] 5)) (fun i hi => by match i, hi with | 0, _ => rfl | 1, _ => rfl) rfl (by omega) (by omega) (by intro x hx; simp at hx; omega)) (by omega) ?_; intro a5 cap5 w5 hr5 hg5; have O5 := Lib.hid hr5; have B5 := Lib.hid ((B4.out.alloc B4.out.size (Obj.cells #[.int .u8 (c / 256), .int .u8 (c % 256)] 5)).grown hg5 (by have := B4.out.size; simp; omega) (fun q hq => O4.out.blk hq)); clear hr5 hg5 O4 B4)
    refine (of_row O5.out.row (by omega)).mono ?_
    rintro e w6 ⟨rfl, hb⟩
    have B6 := Lib.hid (B5.out.trans (hb.mono B5.out.size))
    clear hb O5 B5
    rw [sum_behind (by rfl) H.out.bytes c HCC.out.symm]
    go_wp2_with fail
    refine (known1_any _).mono ?_
    rintro e w7 ⟨rfl, hb⟩
    have B7 := Lib.hid (B6.out.trans (hb.mono B6.out.size))
    clear hb B6
    go_wp2_with fail
    go_ret
    exact ⟨rfl, B7.out⟩

set_option maxRecDepth 100000 in
set_option maxHeartbeats 1000000 in
theorem sumCuts_main (cut : Int) (a : Option Addr) (len cap : Nat) (zs : List Int) (w : World) (c0 : -9223372036854775808 ≤ cut) (c1 : cut ≤ 9223372036854775807) (h : Row8 w a len cap zs) :
    Calls Try.prog 4 #[.slice a len cap, .int .i64 cut] w fun e w' => e = .returned (.bool true) ∧ Below w.heap.size w w' := by
  have H := Lib.hid h
  clear h
  have hcap := H.out.cap_le
  have hle := H.out.le
  by_cases hl0 : len = 0
  · subst hl0
    obtain rfl : zs = [] := List.length_eq_zero_iff.1 H.out.length
    exact sumCuts_zero cut a cap w c0 c1 H.out
  by_cases hl : len ≤ 2000
  · go_enter Try.func4, Try.ntmps4
    go_wp2_with fail
    obtain ⟨k, hk, hkl⟩ := rem_nat cut len (by omega)
    rw [hk]
    clear hk
    have start : Hid (Below w.heap.size w w) := Below.refl _ _
    have KEEP : Hid (∀ W, Hid (Below w.heap.size w W) → Hid (Below w.heap.size w W) ∧ True) := fun W h => ⟨h, trivial⟩
    have ALL : Hid (∀ W, Hid (Below w.heap.size w W) → Row8 W a len cap zs) := fun W h => H.out.below h.out
    have ADD3 := Lib.hid (fun W h => add_row (ALL.out W h) (by omega) 0 false (by omega) (by omega))
    have k0 : (0 : Int) ≤ k := by omega
    have k1 : (k : Int) ≤ len := by omega
    have k2 : (k : Int) ≤ cap := by omega
    have k3 : k ≤ cap := by omega
    obtain ⟨b, off, rfl⟩ := H.out.none_of (by omega)
    have PRE : Hid (∀ W, Hid (Below w.heap.size w W) → Row8 W (some ⟨b, off, none⟩) k cap (zs.take k)) := fun W h => (H.out.take hkl).below h.out
    have s01 := sumTo_range (s := 0) (o := false) (zs := zs.take k) (Int.le_refl 0) (fun x hx => H.out.bytes x (List.mem_of_mem_take hx))
    have CUT : Hid (sumTo (sumTo 0 false (zs.take k)) (par false k) (zs.drop k) = sumTo 0 false zs) := sum_cut (by have := H.out.length; omega) H.out.bytes
    have PAR : Hid (par (par false k) (len - k) = par false len) := by show _ = _; rw [par_add]; congr 1; omega
    have ADD1 := Lib.hid (fun W h => add_row (PRE.out W h) (by omega) 0 false (by omega) (by omega))
    by_cases hkc : k = cap
    · have hkl2 : k = len := by omega
      subst hkl2
      subst hkc
      have hz : zs.drop k = [] := List.drop_of_length_le (by have := H.out.length; omega)
      have hz2 : zs.take k = zs := List.take_of_length_le (by have := H.out.length; omega)
      rw [hz2] at s01
      have ADD2 : Hid (∀ W, Hid (Below w.heap.size w W) → Calls Try.prog 18 #[.agg #[.int .u16 (sumTo 0 false zs), .bool (par false k)], .slice (some ⟨b, off, none⟩) 0 0] W fun e w' => e = .returned (.agg #[.int .u16 (sumTo 0 false zs), .bool (par false k)]) ∧ Below W.heap.size W w') := by
        intro W _
        have := add_row (Row8.zero (w := W) (a := some ⟨b, off, none⟩) (cap := 0) (by omega) (fun h => by cases h)) (by omega) (sumTo 0 false zs) (par false k) s01.1 s01.2
        rwa [par_zero, show sumTo (sumTo 0 false zs) (par false k) [] = sumTo 0 false zs from by have := cn_small s01.1 s01.2; unfold sumTo at *; cases par false k <;> simp [ws] at * <;> exact this] at this
      clear s01 hz hz2 CUT PAR ADD1
      have ADD1 := trivial
      go_region_held3 (fun W => Hid (Below w.heap.size w W) ∧ True)
        (first | exact KEEP.out _ (by assumption) | exact KEEP.out _ (below_drew (by assumption)))
        (first
          | (go_at_call_of 18 (Value.slice (some ⟨b, off, none⟩) k k); have hh := (‹Hid (Below w.heap.size w _) ∧ _›).1; refine (ADD3.out _ hh).mono ?_; rintro e W' ⟨rfl, hb'⟩; have hb2 := below_next hh hb'; clear hb' hh)
          | (go_at_call 18; have hh := (‹Hid (Below w.heap.size w _) ∧ _›).1; refine (ADD2.out _ hh).mono ?_; rintro e W' ⟨rfl, hb'⟩; have hb2 := below_next hh hb'; clear hb' hh))
      have hh : Hid (Below w.heap.size w _) := (‹Hid (Below w.heap.size w _) ∧ True›).1
      clear KEEP start ADD1 ADD2 ADD3
      have OWN0 := Lib.hid (Own8.empty (base := w.heap.size) (heap_alloc_new W' (Obj.cells #[] 5)) hh.out.size)
      have BB := Lib.hid (hh.out.alloc hh.out.size (Obj.cells #[] 5))
      by_cases hodd : k % 2 = 1
      · have tb : ((k : Int) % 2 == 1) = true := by rw [show (k : Int) % 2 = 1 by omega]; rfl
        go_wp2_with (first
          | (at_builtin; have o1 := O1; refine wpList_app8 rfl _ _ rfl w.heap.size a1 k cap1 zs rfl (o1.out.keep ((Below.refl _ _).alloc (Nat.le_refl _) (Obj.cells #[.int .u8 0] 5))) (some ⟨w1.heap.size, 0, none⟩) 1 1 [0] rfl (Row8.block (heap_alloc_new w1 (Obj.cells #[.int .u8 0] 5)) (fun i hi => by match i, hi with | 0, _ => rfl) rfl (by omega) (by omega) (by simp)) (by omega) ?_; intro a2 cap2 w2 hr2 hg2; have O2 := Lib.hid hr2; have B2 := Lib.hid ((B1.out.alloc B1.out.size (Obj.cells #[.int .u8 0] 5)).grown hg2 (by have := B1.out.size; simp; omega) (fun q hq => o1.out.blk hq)); clear hr2 hg2 O1 B1 o1)
          | (at_builtin; refine wpList_app8 rfl _ _ rfl w.heap.size (some ⟨W'.heap.size, 0, none⟩) 0 0 [] rfl OWN0.out (some ⟨b, off, none⟩) k k zs rfl (ALL.out _ BB) (by omega) ?_; intro a1 cap1 w1 hr1 hg1; (simp only [Nat.zero_add, List.nil_append] at hr1 ⊢); have O1 := Lib.hid hr1; have B1 := Lib.hid (BB.out.grown hg1 BB.out.size (by intro q hq; cases hq; exact hh.out.size)); clear hr1 hg1 OWN0 BB))
        refine (of_row (ALL.out _ B2) (by omega)).mono ?_
        rintro e w3 ⟨rfl, hb⟩
        have B3 := Lib.hid (B2.out.trans (hb.mono B2.out.size))
        have O3 := Lib.hid (O2.out.keep hb)
        clear hb O2 B2
        have hcr := sumTo_range (s := 0) (o := false) (zs := zs) (Int.le_refl 0) H.out.bytes
        obtain ⟨c, hc⟩ : ∃ c, 65535 - sumTo 0 false zs = c := ⟨_, rfl⟩
        have c00 : 0 ≤ c := by omega
        have c01 : c ≤ 65535 := by omega
        rw [hc]
        have HCC := Lib.hid hc
        clear hc hcr
        go_wp2_with fail
        refine (of_row O3.out.row (by omega)).mono ?_
        rintro e w4 ⟨rfl, hb⟩
        rw [sum_pad, HCC.out]
        have B4 := Lib.hid (B3.out.trans (hb.mono B3.out.size))
        have O4 := Lib.hid (O3.out.keep hb)
        clear hb O3 B3
        go_wp2_with (at_builtin; refine wpList_app8 rfl _ _ rfl w.heap.size a2 (k + 1) cap2 (zs ++ [0]) rfl (O4.out.keep ((Below.refl _ _).alloc (Nat.le_refl _) (Obj.cells #[.int .u8 (c / 256), .int .u8 (c % 256)] 5))) (some ⟨w4.heap.size, 0, none⟩) 2 2 [c / 256, c % 256] rfl (Row8.block (heap_alloc_new w4 (Obj.cells #[.int .u8 (c / 256), .int .u8 (c % 256)] 5)) (fun i hi => by match i, hi with | 0, _ => rfl | 1, _ => rfl) rfl (by omega) (by omega) (by intro x hx; simp at hx; omega)) (by omega) ?_; intro a5 cap5 w5 hr5 hg5; have O5 := Lib.hid hr5; have B5 := Lib.hid ((B4.out.alloc B4.out.size (Obj.cells #[.int .u8 (c / 256), .int .u8 (c % 256)] 5)).grown hg5 (by have := B4.out.size; simp; omega) (fun q hq => O4.out.blk hq)); clear hr5 hg5 O4 B4)
        refine (of_row O5.out.row (by omega)).mono ?_
        rintro e w6 ⟨rfl, hb⟩
        have B6 := Lib.hid (B5.out.trans (hb.mono B5.out.size))
        clear hb O5 B5
        rw [sum_behind (by have := H.out.length; simp; omega) (by intro x hx; rcases List.mem_append.1 hx with hx | hx; exact H.out.bytes x hx; simp at hx; omega) c (by rw [sum_pad]; exact HCC.out.symm)]
        go_wp2_with fail
        refine (known1_any _).mono ?_
        rintro e w7 ⟨rfl, hb⟩
        have B7 := Lib.hid (B6.out.trans (hb.mono B6.out.size))
        clear hb B6
        go_wp2_with fail
        go_ret
        exact ⟨rfl, B7.out⟩
      · have tb : ((k : Int) % 2 == 1) = false := by simp; omega
        go_wp2_with (first
          | (at_builtin; have o1 := O1; refine wpList_app8 rfl _ _ rfl w.heap.size a1 k cap1 zs rfl (o1.out.keep ((Below.refl _ _).alloc (Nat.le_refl _) (Obj.cells #[.int .u8 0] 5))) (some ⟨w1.heap.size, 0, none⟩) 1 1 [0] rfl (Row8.block (heap_alloc_new w1 (Obj.cells #[.int .u8 0] 5)) (fun i hi => by match i, hi with | 0, _ => rfl) rfl (by omega) (by omega) (by simp)) (by omega) ?_; intro a2 cap2 w2 hr2 hg2; have O2 := Lib.hid hr2; have B2 := Lib.hid ((B1.out.alloc B1.out.size (Obj.cells #[.int .u8 0] 5)).grown hg2 (by have := B1.out.size; simp; omega) (fun q hq => o1.out.blk hq)); clear hr2 hg2 O1 B1 o1)
          | (at_builtin; refine wpList_app8 rfl _ _ rfl w.heap.size (some ⟨W'.heap.size, 0, none⟩) 0 0 [] rfl OWN0.out (some ⟨b, off, none⟩) k k zs rfl (ALL.out _ BB) (by omega) ?_; intro a1 cap1 w1 hr1 hg1; (simp only [Nat.zero_add, List.nil_append] at hr1 ⊢); have O1 := Lib.hid hr1; have B1 := Lib.hid (BB.out.grown hg1 BB.out.size (by intro q hq; cases hq; exact hh.out.size)); clear hr1 hg1 OWN0 BB))
        refine (of_row (ALL.out _ B1) (by omega)).mono ?_
        rintro e w3 ⟨rfl, hb⟩
        have B3 := Lib.hid (B1.out.trans (hb.mono B1.out.size))
        have O3 := Lib.hid (O1.out.keep hb)
        clear hb O1 B1
        have hcr := sumTo_range (s := 0) (o := false) (zs := zs) (Int.le_refl 0) H.out.bytes
        obtain ⟨c, hc⟩ : ∃ c, 65535 - sumTo 0 false zs = c := ⟨_, rfl⟩
        have c00 : 0 ≤ c := by omega
        have c01 : c ≤ 65535 := by omega
        rw [hc]
        have HCC := Lib.hid hc
        clear hc hcr
        go_wp2_with fail
        refine (of_row O3.out.row (by omega)).mono ?_
        rintro e w4 ⟨rfl, hb⟩
        rw [HCC.out]
        have B4 := Lib.hid (B3.out.trans (hb.mono B3.out.size))
        have O4 := Lib.hid (O3.out.keep hb)
        clear hb O3 B3
        go_wp2_with (at_builtin; refine wpList_app8 rfl _ _ rfl w.heap.size a1 k cap1 zs rfl (O4.out.keep ((Below.refl _ _).alloc (Nat.le_refl _) (Obj.cells #[.int .u8 (c / 256), .int .u8 (c % 256)] 5))) (some ⟨w4.heap.size, 0, none⟩) 2 2 [c / 256, c % 256] rfl (Row8.block (heap_alloc_new w4 (Obj.cells #[.int .u8 (c / 256), .int .u8 (c % 256)] 5)) (fun i hi => by match i, hi with | 0, _ => rfl | 1, _ => rfl) rfl (by omega) (by omega) (by intro x hx; simp at hx; omega)) (by omega) ?_; intro a5 cap5 w5 hr5 hg5; have O5 := Lib.hid hr5; have B5 := Lib.hid ((B4.out.alloc B4.out.size (Obj.cells #[.int .u8 (c / 256), .int .u8 (c % 256)] 5)).grown hg5 (by have := B4.out.size; simp; omega) (fun q hq => O4.out.blk hq)); clear hr5 hg5 O4 B4)
        refine (of_row O5.out.row (by omega)).mono ?_
        rintro e w6 ⟨rfl, hb⟩
        have B6 := Lib.hid (B5.out.trans (hb.mono B5.out.size))
        clear hb O5 B5
        rw [sum_behind (by have := H.out.length; omega) H.out.bytes c HCC.out.symm]
        go_wp2_with fail
        refine (known1_any _).mono ?_
        rintro e w7 ⟨rfl, hb⟩
        have B7 := Lib.hid (B6.out.trans (hb.mono B6.out.size))
        clear hb B6
        go_wp2_with fail
        go_ret
        exact ⟨rfl, B7.out⟩
    · have SUF : Hid (∀ W, Hid (Below w.heap.size w W) → Row8 W (some ⟨b, off + k, none⟩) (len - k) (cap - k) (zs.drop k)) := fun W h => (H.out.drop hkl).below h.out
      have ADD2 := Lib.hid (fun W h => add_row (SUF.out W h) (by omega) (sumTo 0 false (zs.take k)) (par false k) s01.1 s01.2)
      rw [CUT.out, PAR.out] at ADD2
      clear s01
      go_region_held3 (fun W => Hid (Below w.heap.size w W) ∧ True)
        (first | exact KEEP.out _ (by assumption) | exact KEEP.out _ (below_drew (by assumption)))
        (first
          | (go_at_call_of 18 (Value.slice (some ⟨b, off, none⟩) k cap); have hh := (‹Hid (Below w.heap.size w _) ∧ _›).1; refine (ADD1.out _ hh).mono ?_; rintro e W' ⟨rfl, hb'⟩; have hb2 := below_next hh hb'; clear hb' hh)
          | (go_at_call_of 18 (Value.slice (some ⟨b, off, none⟩) len cap); have hh := (‹Hid (Below w.heap.size w _) ∧ _›).1; refine (ADD3.out _ hh).mono ?_; rintro e W' ⟨rfl, hb'⟩; have hb2 := below_next hh hb'; clear hb' hh)
          | (go_at_call 18; have hh := (‹Hid (Below w.heap.size w _) ∧ _›).1; refine (ADD2.out _ hh).mono ?_; rintro e W' ⟨rfl, hb'⟩; have hb2 := below_next hh hb'; clear hb' hh))
      have hh : Hid (Below w.heap.size w _) := (‹Hid (Below w.heap.size w _) ∧ True›).1
      clear KEEP start ADD1 ADD2 ADD3
      have OWN0 := Lib.hid (Own8.empty (base := w.heap.size) (heap_alloc_new W' (Obj.cells #[] 5)) hh.out.size)
      have BB := Lib.hid (hh.out.alloc hh.out.size (Obj.cells #[] 5))
      by_cases hodd : len % 2 = 1
      · have tb : ((len : Int) % 2 == 1) = true := by rw [show (len : Int) % 2 = 1 by omega]; rfl
        go_wp2_with (first
          | (at_builtin; have o1 := O1; refine wpList_app8 rfl _ _ rfl w.heap.size a1 len cap1 zs rfl (o1.out.keep ((Below.refl _ _).alloc (Nat.le_refl _) (Obj.cells #[.int .u8 0] 5))) (some ⟨w1.heap.size, 0, none⟩) 1 1 [0] rfl (Row8.block (heap_alloc_new w1 (Obj.cells #[.int .u8 0] 5)) (fun i hi => by match i, hi with | 0, _ => rfl) rfl (by omega) (by omega) (by simp)) (by omega) ?_; intro a2 cap2 w2 hr2 hg2; have O2 := Lib.hid hr2; have B2 := Lib.hid ((B1.out.alloc B1.out.size (Obj.cells #[.int .u8 0] 5)).grown hg2 (by have := B1.out.size; simp; omega) (fun q hq => o1.out.blk hq)); clear hr2 hg2 O1 B1 o1)
          | (at_builtin; refine wpList_app8 rfl _ _ rfl w.heap.size (some ⟨W'.heap.size, 0, none⟩) 0 0 [] rfl OWN0.out (some ⟨b, off, none⟩) len cap zs rfl (ALL.out _ BB) (by omega) ?_; intro a1 cap1 w1 hr1 hg1; (simp only [Nat.zero_add, List.nil_append] at hr1 ⊢); have O1 := Lib.hid hr1; have B1 := Lib.hid (BB.out.grown hg1 BB.out.size (by intro q hq; cases hq; exact hh.out.size)); clear hr1 hg1 OWN0 BB))
        refine (of_row (ALL.out _ B2) (by omega)).mono ?_
        rintro e w3 ⟨rfl, hb⟩
        have B3 := Lib.hid (B2.out.trans (hb.mono B2.out.size))
        have O3 := Lib.hid (O2.out.keep hb)
        clear hb O2 B2
        have hcr := sumTo_range (s := 0) (o := false) (zs := zs) (Int.le_refl 0) H.out.bytes
        obtain ⟨c, hc⟩ : ∃ c, 65535 - sumTo 0 false zs = c := ⟨_, rfl⟩
        have c00 : 0 ≤ c := by omega
        have c01 : c ≤ 65535 := by omega
        rw [hc]
        have HCC := Lib.hid hc
        clear hc hcr
        go_wp2_with fail
        refine (of_row O3.out.row (by omega)).mono ?_
        rintro e w4 ⟨rfl, hb⟩
        rw [sum_pad, HCC.out]
        have B4 := Lib.hid (B3.out.trans (hb.mono B3.out.size))
        have O4 := Lib.hid (O3.out.keep hb)
        clear hb O3 B3
        go_wp2_with (at_builtin; refine wpList_app8 rfl _ _ rfl w.heap.size a2 (len + 1) cap2 (zs ++ [0]) rfl (O4.out.keep ((Below.refl _ _).alloc (Nat.le_refl _) (Obj.cells #[.int .u8 (c / 256), .int .u8 (c % 256)] 5))) (some ⟨w4.heap.size, 0, none⟩) 2 2 [c / 256, c % 256] rfl (Row8.block (heap_alloc_new w4 (Obj.cells #[.int .u8 (c / 256), .int .u8 (c % 256)] 5)) (fun i hi => by match i, hi with | 0, _ => rfl | 1, _ => rfl) rfl (by omega) (by omega) (by intro x hx; simp at hx; omega)) (by omega) ?_; intro a5 cap5 w5 hr5 hg5; have O5 := Lib.hid hr5; have B5 := Lib.hid ((B4.out.alloc B4.out.size (Obj.cells #[.int .u8 (c / 256), .int .u8 (c % 256)] 5)).grown hg5 (by have := B4.out.size; simp; omega) (fun q hq => O4.out.blk hq)); clear hr5 hg5 O4 B4)
        refine (of_row O5.out.row (by omega)).mono ?_
        rintro e w6 ⟨rfl, hb⟩
        have B6 := Lib.hid (B5.out.trans (hb.mono B5.out.size))
        clear hb O5 B5
        rw [sum_behind (by have := H.out.length; simp; omega) (by intro x hx; rcases List.mem_append.1 hx with hx | hx; exact H.out.bytes x hx; simp at hx; omega) c (by rw [sum_pad]; exact HCC.out.symm)]
        go_wp2_with fail
        refine (known1_any _).mono ?_
        rintro e w7 ⟨rfl, hb⟩
        have B7 := Lib.hid (B6.out.trans (hb.mono B6.out.size))
        clear hb B6
        go_wp2_with fail
        go_ret
        exact ⟨rfl, B7.out⟩
      · have tb : ((len : Int) % 2 == 1) = false := by simp; omega
        go_wp2_with (first
          | (at_builtin; have o1 := O1; refine wpList_app8 rfl _ _ rfl w.heap.size a1 len cap1 zs rfl (o1.out.keep ((Below.refl _ _).alloc (Nat.le_refl _) (Obj.cells #[.int .u8 0] 5))) (some ⟨w1.heap.size, 0, none⟩) 1 1 [0] rfl (Row8.block (heap_alloc_new w1 (Obj.cells #[.int .u8 0] 5)) (fun i hi => by match i, hi with | 0, _ => rfl) rfl (by omega) (by omega) (by simp)) (by omega) ?_; intro a2 cap2 w2 hr2 hg2; have O2 := Lib.hid hr2; have B2 := Lib.hid ((B1.out.alloc B1.out.size (Obj.cells #[.int .u8 0] 5)).grown hg2 (by have := B1.out.size; simp; omega) (fun q hq => o1.out.blk hq)); clear hr2 hg2 O1 B1 o1)
          | (at_builtin; refine wpList_app8 rfl _ _ rfl w.heap.size (some ⟨W'.heap.size, 0, none⟩) 0 0 [] rfl OWN0.out (some ⟨b, off, none⟩) len cap zs rfl (ALL.out _ BB) (by omega) ?_; intro a1 cap1 w1 hr1 hg1; (simp only [Nat.zero_add, List.nil_append] at hr1 ⊢); have O1 := Lib.hid hr1; have B1 := Lib.hid (BB.out.grown hg1 BB.out.size (by intro q hq; cases hq; exact hh.out.size)); clear hr1 hg1 OWN0 BB))
        refine (of_row (ALL.out _ B1) (by omega)).mono ?_
        rintro e w3 ⟨rfl, hb⟩
        have B3 := Lib.hid (B1.out.trans (hb.mono B1.out.size))
        have O3 := Lib.hid (O1.out.keep hb)
        clear hb O1 B1
        have hcr := sumTo_range (s := 0) (o := false) (zs := zs) (Int.le_refl 0) H.out.bytes
        obtain ⟨c, hc⟩ : ∃ c, 65535 - sumTo 0 false zs = c := ⟨_, rfl⟩
        have c00 : 0 ≤ c := by omega
        have c01 : c ≤ 65535 := by omega
        rw [hc]
        have HCC := Lib.hid hc
        clear hc hcr
        go_wp2_with fail
        refine (of_row O3.out.row (by omega)).mono ?_
        rintro e w4 ⟨rfl, hb⟩
        rw [HCC.out]
        have B4 := Lib.hid (B3.out.trans (hb.mono B3.out.size))
        have O4 := Lib.hid (O3.out.keep hb)
        clear hb O3 B3
        go_wp2_with (at_builtin; refine wpList_app8 rfl _ _ rfl w.heap.size a1 len cap1 zs rfl (O4.out.keep ((Below.refl _ _).alloc (Nat.le_refl _) (Obj.cells #[.int .u8 (c / 256), .int .u8 (c % 256)] 5))) (some ⟨w4.heap.size, 0, none⟩) 2 2 [c / 256, c % 256] rfl (Row8.block (heap_alloc_new w4 (Obj.cells #[.int .u8 (c / 256), .int .u8 (c % 256)] 5)) (fun i hi => by match i, hi with | 0, _ => rfl | 1, _ => rfl) rfl (by omega) (by omega) (by intro x hx; simp at hx; omega)) (by omega) ?_; intro a5 cap5 w5 hr5 hg5; have O5 := Lib.hid hr5; have B5 := Lib.hid ((B4.out.alloc B4.out.size (Obj.cells #[.int .u8 (c / 256), .int .u8 (c % 256)] 5)).grown hg5 (by have := B4.out.size; simp; omega) (fun q hq => O4.out.blk hq)); clear hr5 hg5 O4 B4)
        refine (of_row O5.out.row (by omega)).mono ?_
        rintro e w6 ⟨rfl, hb⟩
        have B6 := Lib.hid (B5.out.trans (hb.mono B5.out.size))
        clear hb O5 B5
        rw [sum_behind (by have := H.out.length; omega) H.out.bytes c HCC.out.symm]
        go_wp2_with fail
        refine (known1_any _).mono ?_
        rintro e w7 ⟨rfl, hb⟩
        have B7 := Lib.hid (B6.out.trans (hb.mono B6.out.size))
        clear hb B6
        go_wp2_with fail
        go_ret
        exact ⟨rfl, B7.out⟩
  · go_enter Try.func4, Try.ntmps4
    go_wp2_with fail
    refine (known1_any _).mono ?_
    rintro e w1 ⟨rfl, hb⟩
    go_wp2_with fail
    go_ret
    exact ⟨rfl, hb⟩

theorem sumCuts_walk (w : World) (b : Value) (hb : In8 w b) (cut : Int) (wc : (Lit.int .i64 cut).wf = true) :
    Calls Try.prog 4 #[b, .int .i64 cut] w fun e w' => e = .returned (.bool true) ∧ Below w.heap.size w w' := by
  obtain ⟨a, len, cap, zs, rfl, h⟩ := hb
  have := bounds_i64 wc
  exact sumCuts_main cut a len cap zs w this.1 this.2 h
end Go.Proofs.Ytamjhaomdfeemaa
