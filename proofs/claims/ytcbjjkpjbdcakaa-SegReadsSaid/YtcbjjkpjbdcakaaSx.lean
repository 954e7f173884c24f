/- The walk of the law SegReads. -/
import Derived.Test.YtcbjjkpjbdcakaaBu
namespace Go.Proofs.Ytcbjjkpjbdcakaa
open Go.RowKit Go.Wb
set_option linter.unusedVariables false
set_option linter.unusedSimpArgs false

set_option maxRecDepth 1000000 in
set_option maxHeartbeats 4000000 in
theorem segReads_big {w : World} {a : Option Addr} {len cap : Nat} (v6 : Bool) (ss ds : List Int) (hlen : 1700 < len) :
    Calls Try.prog 3 #[.bool v6, .agg (ar ss), .agg (ar ds), .slice a len cap] w fun e w' => e = .returned (.bool true) ∧ Below w.heap.size w w' := by
  have B0 := Lib.hid (((Below.refl w.heap.size w).alloc (Nat.le_refl _) (Obj.cells (ar ss) 22)).alloc (by simp) (Obj.cells (ar ds) 22))
  have q : (1700 : Int) < (len : Int) := by omega
  go_enter Try.func3, Try.ntmps3
  go_wp2_with fail
  refine (known5_any _).mono ?_
  rintro e w1 ⟨rfl, hb⟩
  have B1 := Lib.hid (B0.out.trans (hb.mono B0.out.size))
  clear hb
  go_wp2_with fail
  go_ret
  exact ⟨rfl, B1.out⟩

set_option maxRecDepth 1000000 in
set_option maxHeartbeats 8000000 in
theorem segReads_small {w : World} {a : Option Addr} {len cap : Nat} {zs : List Int} (v6 : Bool) (ss ds : List Int) (h : Row8 w a len cap zs) (hlen : len ≤ 1700) (hs : ss.length = 16) (hd : ds.length = 16) (bs : ∀ x ∈ ss, 0 ≤ x ∧ x ≤ 255) (bd : ∀ x ∈ ds, 0 ≤ x ∧ x ≤ 255) :
    Calls Try.prog 3 #[.bool v6, .agg (ar ss), .agg (ar ds), .slice a len cap] w fun e w' => e = .returned (.bool true) ∧ Below w.heap.size w w' := by
  have X0 : Hid (((w.alloc (Obj.cells (ar ss) 22)).alloc (Obj.cells (ar ds) 22)).heap[w.heap.size]? = some (.cells (ar ss) 22 (0, 0))) := Lib.hid (hold_alloc (heap_alloc_new _ _))
  have Y0 : Hid (((w.alloc (Obj.cells (ar ss) 22)).alloc (Obj.cells (ar ds) 22)).heap[w.heap.size + 1]? = some (.cells (ar ds) 22 (0, 0))) := Lib.hid (by have := heap_alloc_new (w.alloc (Obj.cells (ar ss) 22)) (Obj.cells (ar ds) 22); rwa [World.size_alloc] at this)
  have UE : Hid ((((w.alloc (Obj.cells (ar ss) 22)).alloc (Obj.cells (ar ds) 22)).alloc (Obj.cells #[] 5)).heap[w.heap.size + 1 + 1]? = some (.cells #[] 5 (0, 0))) := Lib.hid (by have := heap_alloc_new ((w.alloc (Obj.cells (ar ss) 22)).alloc (Obj.cells (ar ds) 22)) (Obj.cells #[] 5); rwa [World.size_alloc, World.size_alloc] at this)
  have B0 := Lib.hid (((Below.refl w.heap.size w).alloc (Nat.le_refl _) (Obj.cells (ar ss) 22)).alloc (by simp) (Obj.cells (ar ds) 22))
  have RS : Hid (Row8 (((w.alloc (Obj.cells (ar ss) 22)).alloc (Obj.cells (ar ds) 22)).alloc (Obj.cells #[] 5)) a len cap zs) := Lib.hid (h.below (B0.out.alloc (by simp; omega) _))
  have H := Lib.hid h
  have H0 := Lib.hid h
  have HS := Lib.hid hs
  have HD := Lib.hid hd
  have q : (len : Int) ≤ (1700 : Int) := by omega
  have hcap := h.cap_le
  have hle := h.le
  have TA := Lib.hid (fun (W : World) (a : Option Addr) (cap : Nat) (h : Row8 W a len cap zs) => tcp_all v6 ss ds h (by omega) hs hd bs bd)
  have TB := Lib.hid (fun (W : World) (a : Option Addr) (cap : Nat) (h : Row8 W a len cap zs) => rtcp_all v6 ss ds h (by omega) hs hd bs bd)
  have UA := Lib.hid (fun (W : World) (a : Option Addr) (cap : Nat) (h : Row8 W a len cap zs) => udp_all v6 ss ds h (by omega) hs hd bs bd)
  have UB := Lib.hid (fun (W : World) (a : Option Addr) (cap : Nat) (h : Row8 W a len cap zs) => rudp_all v6 ss ds h (by omega) hs hd bs bd)
  clear h hs hd bs bd
  go_enter Try.func3, Try.ntmps3
  go_wp2_with (first | (at_builtin; refine wpList_app8 rfl _ _ rfl (w.heap.size + 1 + 1) (some ⟨w.heap.size + 1 + 1, 0, none⟩) 0 0 [] rfl (Own8.empty UE.out (Nat.le_refl _)) a len cap zs rfl RS.out (by omega) ?_; intro ai ci w1 ho hg; simp only [Nat.zero_add, List.nil_append] at ho ⊢; have OI := Lib.hid ho; have BG : Hid (Below (w.heap.size + 1 + 1) ((w.alloc (Obj.cells (ar ss) 22)).alloc (Obj.cells (ar ds) 22)) w1) := Lib.hid (Below.grown ((Below.refl _ _).alloc (by simp) _) hg (by simp only [World.size_alloc]; omega) (fun k hk => by cases hk; exact Nat.le_refl _)); clear ho hg UE RS; have X := Lib.hid (Below.at BG.out X0.out (by omega)); have Y := Lib.hid (Below.at BG.out Y0.out (by omega)); have B1 := Lib.hid (B0.out.trans (BG.out.mono (by omega))); clear X0 Y0 B0 BG) | (refine arms_load rfl _ rfl rfl X.out HS.out ?_) | (refine arms_load rfl _ rfl rfl Y.out HD.out ?_))
  refine (TA.out _ _ _ OI.out.row).mono ?_
  obtain ⟨tv, htv⟩ : ∃ tv, tcpOf v6 ss ds zs = tv := ⟨_, rfl⟩
  rw [htv] at TB ⊢
  rintro e w2 ⟨a1, c1, a2, c2, P1, rfl, hb, o1, hP, hP1, o2⟩
  have B2 := Lib.hid ((B1.out.trans (hb.mono B1.out.size)).alloc (by have := B1.out.size; have := hb.size; omega) (Obj.cells #[.int .u16 tv.p0, .int .u16 tv.p2, .int .u32 tv.p4, .int .u32 tv.p8, .int .u8 tv.r, .int .u8 tv.f, .int .u16 tv.p14, .int .u16 tv.p18, .slice a1 tv.o.length c1] 28))
  have T := Lib.hid (heap_alloc_new w2 (Obj.cells #[.int .u16 tv.p0, .int .u16 tv.p2, .int .u32 tv.p4, .int .u32 tv.p8, .int .u8 tv.r, .int .u8 tv.f, .int .u16 tv.p14, .int .u16 tv.p18, .slice a1 tv.o.length c1] 28))
  have X2 := Lib.hid (hold_alloc (o' := (Obj.cells #[.int .u16 tv.p0, .int .u16 tv.p2, .int .u32 tv.p4, .int .u32 tv.p8, .int .u8 tv.r, .int .u8 tv.f, .int .u16 tv.p14, .int .u16 tv.p18, .slice a1 tv.o.length c1] 28)) (kept hb X.out))
  have Y2 := Lib.hid (hold_alloc (o' := (Obj.cells #[.int .u16 tv.p0, .int .u16 tv.p2, .int .u32 tv.p4, .int .u32 tv.p8, .int .u8 tv.r, .int .u8 tv.f, .int .u16 tv.p14, .int .u16 tv.p18, .slice a1 tv.o.length c1] 28)) (kept hb Y.out))
  have OI2 := Lib.hid ((OI.out.keep hb).keep ((Below.refl _ _).alloc (Nat.le_refl _) (Obj.cells #[.int .u16 tv.p0, .int .u16 tv.p2, .int .u32 tv.p4, .int .u32 tv.p8, .int .u8 tv.r, .int .u8 tv.f, .int .u16 tv.p14, .int .u16 tv.p18, .slice a1 tv.o.length c1] 28)))
  have O1 := Lib.hid (o1.keep ((Below.refl _ _).alloc (Nat.le_refl _) (Obj.cells #[.int .u16 tv.p0, .int .u16 tv.p2, .int .u32 tv.p4, .int .u32 tv.p8, .int .u8 tv.r, .int .u8 tv.f, .int .u16 tv.p14, .int .u16 tv.p18, .slice a1 tv.o.length c1] 28)))
  have O2 := Lib.hid (o2.keep ((Below.refl _ _).alloc (Nat.le_refl _) (Obj.cells #[.int .u16 tv.p0, .int .u16 tv.p2, .int .u32 tv.p4, .int .u32 tv.p8, .int .u8 tv.r, .int .u8 tv.f, .int .u16 tv.p14, .int .u16 tv.p18, .slice a1 tv.o.length c1] 28)))
  have IB := OI.out.block
  have PB := o2.block
  have OB := o1.block
  have h12 := hb.size
  have h01 := B1.out.size
  have H1 := Lib.hid (H.out.below B2.out)
  clear X Y OI o1 o2 hb B1
  obtain ⟨X, Y, OI⟩ := And.intro X2 (And.intro Y2 OI2)
  clear X2 Y2 OI2
  go_wp2_with (first | (refine arms_load rfl _ rfl rfl X.out HS.out ?_) | (refine arms_load rfl _ rfl rfl Y.out HD.out ?_))
  refine (TB.out _ _ _ H1.out).mono ?_
  rintro e w3 ⟨a3, c3, a4, c4, P2, rfl, hb, o3, hP2, hP3, o4⟩
  have B3 := Lib.hid ((B2.out.trans (hb.mono B2.out.size)).alloc (by have := B2.out.size; have := hb.size; omega) (Obj.cells #[.int .u16 tv.p0, .int .u16 tv.p2, .int .u32 tv.p4, .int .u32 tv.p8, .int .u8 tv.r, .int .u8 tv.f, .int .u16 tv.p14, .int .u16 tv.p18, .slice a3 tv.o.length c3] 28))
  have T2 := Lib.hid (hold_alloc (o' := (Obj.cells #[.int .u16 tv.p0, .int .u16 tv.p2, .int .u32 tv.p4, .int .u32 tv.p8, .int .u8 tv.r, .int .u8 tv.f, .int .u16 tv.p14, .int .u16 tv.p18, .slice a3 tv.o.length c3] 28)) (kept hb T.out))
  have X2 := Lib.hid (hold_alloc (o' := (Obj.cells #[.int .u16 tv.p0, .int .u16 tv.p2, .int .u32 tv.p4, .int .u32 tv.p8, .int .u8 tv.r, .int .u8 tv.f, .int .u16 tv.p14, .int .u16 tv.p18, .slice a3 tv.o.length c3] 28)) (kept hb X.out))
  have Y2 := Lib.hid (hold_alloc (o' := (Obj.cells #[.int .u16 tv.p0, .int .u16 tv.p2, .int .u32 tv.p4, .int .u32 tv.p8, .int .u8 tv.r, .int .u8 tv.f, .int .u16 tv.p14, .int .u16 tv.p18, .slice a3 tv.o.length c3] 28)) (kept hb Y.out))
  have OI2 := Lib.hid ((OI.out.keep hb).keep ((Below.refl _ _).alloc (Nat.le_refl _) (Obj.cells #[.int .u16 tv.p0, .int .u16 tv.p2, .int .u32 tv.p4, .int .u32 tv.p8, .int .u8 tv.r, .int .u8 tv.f, .int .u16 tv.p14, .int .u16 tv.p18, .slice a3 tv.o.length c3] 28)))
  have O12 := Lib.hid ((O1.out.keep hb).keep ((Below.refl _ _).alloc (Nat.le_refl _) (Obj.cells #[.int .u16 tv.p0, .int .u16 tv.p2, .int .u32 tv.p4, .int .u32 tv.p8, .int .u8 tv.r, .int .u8 tv.f, .int .u16 tv.p14, .int .u16 tv.p18, .slice a3 tv.o.length c3] 28)))
  have O22 := Lib.hid ((O2.out.keep hb).keep ((Below.refl _ _).alloc (Nat.le_refl _) (Obj.cells #[.int .u16 tv.p0, .int .u16 tv.p2, .int .u32 tv.p4, .int .u32 tv.p8, .int .u8 tv.r, .int .u8 tv.f, .int .u16 tv.p14, .int .u16 tv.p18, .slice a3 tv.o.length c3] 28)))
  have O3 := Lib.hid (o3.keep ((Below.refl _ _).alloc (Nat.le_refl _) (Obj.cells #[.int .u16 tv.p0, .int .u16 tv.p2, .int .u32 tv.p4, .int .u32 tv.p8, .int .u8 tv.r, .int .u8 tv.f, .int .u16 tv.p14, .int .u16 tv.p18, .slice a3 tv.o.length c3] 28)))
  have O4 := Lib.hid (o4.keep ((Below.refl _ _).alloc (Nat.le_refl _) (Obj.cells #[.int .u16 tv.p0, .int .u16 tv.p2, .int .u32 tv.p4, .int .u32 tv.p8, .int .u8 tv.r, .int .u8 tv.f, .int .u16 tv.p14, .int .u16 tv.p18, .slice a3 tv.o.length c3] 28)))
  have h23 := hb.size
  clear X Y OI O1 O2 T o3 o4 hb B2 H1
  obtain ⟨X, Y, OI, O1, O2, T⟩ := And.intro X2 (And.intro Y2 (And.intro OI2 (And.intro O12 (And.intro O22 T2))))
  clear X2 Y2 OI2 O12 O22 T2
  have t0 := cell_of (v := .int .u16 tv.p0) 0 T.out rfl
  have t1 := cell_of (v := .int .u16 tv.p2) 1 T.out rfl
  have t2 := cell_of (v := .int .u32 tv.p4) 2 T.out rfl
  have t3 := cell_of (v := .int .u32 tv.p8) 3 T.out rfl
  have t4 := cell_of (v := .int .u8 tv.r) 4 T.out rfl
  have t5 := cell_of (v := .int .u8 tv.f) 5 T.out rfl
  have t6 := cell_of (v := .int .u16 tv.p14) 6 T.out rfl
  have t7 := cell_of (v := .int .u16 tv.p18) 7 T.out rfl
  have t8 := cell_of (v := .slice a1 tv.o.length c1) 8 T.out rfl
  go_wp2_with fail
  refine (same_any _ _ _ _ _ _ _ _ O1.out.row O3.out.row).mono ?_
  rintro e w4 ⟨rfl, hb⟩
  have B4 := Lib.hid (B3.out.trans (hb.mono B3.out.size))
  have T2 := Lib.hid (kept hb T.out)
  have X2 := Lib.hid (kept hb X.out)
  have Y2 := Lib.hid (kept hb Y.out)
  have OI2 := Lib.hid (OI.out.keep hb)
  have O12 := Lib.hid (O1.out.keep hb)
  have O22 := Lib.hid (O2.out.keep hb)
  have s1 := run_str (O2.out.keep hb).row
  have s2 := run_str (O4.out.keep hb).row
  have h34 := hb.size
  clear X Y OI O1 O2 O3 O4 T hb B3 t0 t1 t2 t3 t4 t5 t6 t7 t8
  obtain ⟨X, Y, OI, O1, O2, T⟩ := And.intro X2 (And.intro Y2 (And.intro OI2 (And.intro O12 (And.intro O22 T2))))
  clear X2 Y2 OI2 O12 O22 T2
  obtain ⟨uv, huv⟩ : ∃ uv, udpOf v6 ss ds zs = uv := ⟨_, rfl⟩
  rw [huv] at UA UB
  go_wp2_with (first | (refine arms_load rfl _ rfl rfl X.out HS.out ?_) | (refine arms_load rfl _ rfl rfl Y.out HD.out ?_))
  refine (UA.out _ _ _ OI.out.row).mono ?_
  rintro e w5 ⟨a5, c5, rfl, hb, o5⟩
  have B5 := Lib.hid ((B4.out.trans (hb.mono B4.out.size)).alloc (by have := B4.out.size; have := hb.size; omega) (Obj.cells #[.int .u16 uv.sp, .int .u16 uv.dp, .bool uv.ns] 34))
  have T2 := Lib.hid (hold_alloc (o' := (Obj.cells #[.int .u16 uv.sp, .int .u16 uv.dp, .bool uv.ns] 34)) (kept hb T.out))
  have X2 := Lib.hid (hold_alloc (o' := (Obj.cells #[.int .u16 uv.sp, .int .u16 uv.dp, .bool uv.ns] 34)) (kept hb X.out))
  have Y2 := Lib.hid (hold_alloc (o' := (Obj.cells #[.int .u16 uv.sp, .int .u16 uv.dp, .bool uv.ns] 34)) (kept hb Y.out))
  have OI2 := Lib.hid ((OI.out.keep hb).keep ((Below.refl _ _).alloc (Nat.le_refl _) (Obj.cells #[.int .u16 uv.sp, .int .u16 uv.dp, .bool uv.ns] 34)))
  have O12 := Lib.hid ((O1.out.keep hb).keep ((Below.refl _ _).alloc (Nat.le_refl _) (Obj.cells #[.int .u16 uv.sp, .int .u16 uv.dp, .bool uv.ns] 34)))
  have O22 := Lib.hid ((O2.out.keep hb).keep ((Below.refl _ _).alloc (Nat.le_refl _) (Obj.cells #[.int .u16 uv.sp, .int .u16 uv.dp, .bool uv.ns] 34)))
  have O5 := Lib.hid (o5.keep ((Below.refl _ _).alloc (Nat.le_refl _) (Obj.cells #[.int .u16 uv.sp, .int .u16 uv.dp, .bool uv.ns] 34)))
  have RBB := O5.out.block
  have U := Lib.hid (heap_alloc_new w5 (Obj.cells #[.int .u16 uv.sp, .int .u16 uv.dp, .bool uv.ns] 34))
  have h45 := hb.size
  have H5 := Lib.hid (H.out.below B5.out)
  clear X Y OI O1 O2 T hb B4 o5 s1 s2
  obtain ⟨X, Y, OI, O1, O2, T⟩ := And.intro X2 (And.intro Y2 (And.intro OI2 (And.intro O12 (And.intro O22 T2))))
  clear X2 Y2 OI2 O12 O22 T2
  go_wp2_with (first | (refine arms_load rfl _ rfl rfl X.out HS.out ?_) | (refine arms_load rfl _ rfl rfl Y.out HD.out ?_))
  refine (UB.out _ _ _ H5.out).mono ?_
  rintro e w6 ⟨a6, c6, rfl, hb, o6⟩
  have B6 := Lib.hid ((B5.out.trans (hb.mono B5.out.size)).alloc (by have := B5.out.size; have := hb.size; omega) (Obj.cells #[.int .u16 uv.sp, .int .u16 uv.dp, .bool uv.ns] 34))
  have T2 := Lib.hid (hold_alloc (o' := (Obj.cells #[.int .u16 uv.sp, .int .u16 uv.dp, .bool uv.ns] 34)) (kept hb T.out))
  have X2 := Lib.hid (hold_alloc (o' := (Obj.cells #[.int .u16 uv.sp, .int .u16 uv.dp, .bool uv.ns] 34)) (kept hb X.out))
  have Y2 := Lib.hid (hold_alloc (o' := (Obj.cells #[.int .u16 uv.sp, .int .u16 uv.dp, .bool uv.ns] 34)) (kept hb Y.out))
  have OI2 := Lib.hid ((OI.out.keep hb).keep ((Below.refl _ _).alloc (Nat.le_refl _) (Obj.cells #[.int .u16 uv.sp, .int .u16 uv.dp, .bool uv.ns] 34)))
  have O12 := Lib.hid ((O1.out.keep hb).keep ((Below.refl _ _).alloc (Nat.le_refl _) (Obj.cells #[.int .u16 uv.sp, .int .u16 uv.dp, .bool uv.ns] 34)))
  have O22 := Lib.hid ((O2.out.keep hb).keep ((Below.refl _ _).alloc (Nat.le_refl _) (Obj.cells #[.int .u16 uv.sp, .int .u16 uv.dp, .bool uv.ns] 34)))
  have O52 := Lib.hid ((O5.out.keep hb).keep ((Below.refl _ _).alloc (Nat.le_refl _) (Obj.cells #[.int .u16 uv.sp, .int .u16 uv.dp, .bool uv.ns] 34)))
  have U2 := Lib.hid (hold_alloc (o' := (Obj.cells #[.int .u16 uv.sp, .int .u16 uv.dp, .bool uv.ns] 34)) (kept hb U.out))
  have s1 := run_str O52.out.row
  have s2 := run_str (o6.keep ((Below.refl _ _).alloc (Nat.le_refl _) (Obj.cells #[.int .u16 uv.sp, .int .u16 uv.dp, .bool uv.ns] 34))).row
  have h56 := hb.size
  clear X Y OI O1 O2 T hb B5 o6 H5 O5 U
  obtain ⟨OI, O1, O2, T, O5, U⟩ := And.intro OI2 (And.intro O12 (And.intro O22 (And.intro T2 (And.intro O52 U2))))
  clear X2 Y2 OI2 O12 O22 T2 O52 U2
  have u0 := cell_of (v := .int .u16 uv.sp) 0 U.out rfl
  have u1 := cell_of (v := .int .u16 uv.dp) 1 U.out rfl
  have u2 := cell_of (v := .bool uv.ns) 2 U.out rfl
  go_wp2_with fail
  clear u0 u1 u2 s1 s2 TA TB UA UB
  generalize w6.alloc (Obj.cells #[.int .u16 uv.sp, .int .u16 uv.dp, .bool uv.ns] 34) = W0 at *
  obtain ⟨ql, hql⟩ : ∃ n, tv.q.length = n := ⟨_, rfl⟩
  rw [hql] at O2 PB ⊢
  have BP := Lib.hid (Bumped.refl O2.out)
  have qlb : ql ≤ 9223372036854775807 := by have := O2.out.row.le; have := O2.out.row.cap_le; omega
  go_loopw [104] (fun i wr => ∃ k : Nat, k ≤ ql ∧ i = .int .i64 k ∧ Hid (Bumped W0 P1 a2 ql c2 wr)) (fun i _ => ql - (intOf i).toNat)
  case atStart => exact ⟨0, by omega, rfl, BP⟩
  case round =>
    obtain ⟨k, hk, rfl, hB⟩ := hrel
    clear BP
    by_cases hlt : k < ql
    · obtain ⟨g, v, ha, hg, hgl, hc, hf, v0, v1, hset⟩ := hB.out.step hlt
      subst ha
      have HSET := Lib.hid hset
      clear hset
      go_wp2_with fail
      refine ⟨⟨k + 1, by omega, by simp, Lib.hid (HSET.out _ (by omega) (by omega))⟩, ?_⟩
      simp only [intOf]
      omega
    · obtain rfl : k = ql := by omega
      go_wp2_with fail
      have NI : ∀ g, (Value.slice ai len ci).ownBlock = some g → (Value.slice a2 k c2).ownBlock ≠ some g := fun g h1 h2 => by
        have b2 := O2.out.blk h2
        rcases IB with h0 | ⟨g', e1, _, e3⟩
        · rw [h0] at h1; cases h1
        · rw [e1] at h1; cases h1; omega
      have OI2 := Lib.hid (hB.out.keep OI.out NI)
      have NR : ∀ g, (Value.slice a5 uv.q.length c5).ownBlock = some g → (Value.slice a2 k c2).ownBlock ≠ some g := fun g h1 h2 => by
        have b5 := O5.out.blk h1
        simp only [World.size_alloc] at PB h23 h34
        rcases PB with h0 | ⟨g', e1, _, e3⟩
        · rw [h0] at h2; cases h2
        · rw [e1] at h2; cases h2; omega
      have O52 := Lib.hid (hB.out.keep O5.out NR)
      have NT : (Value.slice a2 k c2).ownBlock ≠ some w2.heap.size := fun h2 => by
        have b2 := O2.out.blk h2
        rcases PB with h0 | ⟨g', e1, _, e3⟩
        · rw [h0] at h2; cases h2
        · rw [e1] at h2; cases h2; omega
      have T2 := Lib.hid (hB.out.at NT T.out)
      have O12 := Lib.hid (hB.out.keep O1.out (fun g h1 h2 => by have := hP1 g h1; have := O2.out.blk h2; omega))
      have BW := Lib.hid (hB.out.below B6.out (fun g e => by have := O2.out.blk e; omega))
      clear OI O1 O2 O5 T U hB B6 NI NR NT
      obtain ⟨rl, hrl⟩ : ∃ n, uv.q.length = n := ⟨_, rfl⟩
      rw [hrl] at O52 RBB ⊢
      have BP := Lib.hid (Bumped.refl O52.out)
      have rlb : rl ≤ 9223372036854775807 := by have := O52.out.row.le; have := O52.out.row.cap_le; omega
      go_loopw [116] (fun i w8 => ∃ j : Nat, j ≤ rl ∧ i = .int .i64 j ∧ Hid (Bumped wr w4.heap.size a5 rl c5 w8)) (fun i _ => rl - (intOf i).toNat)
      case atStart => exact ⟨0, by omega, rfl, BP⟩
      case round =>
        obtain ⟨j, hj, rfl, hB⟩ := hrel
        clear BP
        by_cases hlt : j < rl
        · obtain ⟨g, v, ha, hg, hgl, hc, hf, v0, v1, hset⟩ := hB.out.step hlt
          subst ha
          have HSET := Lib.hid hset
          clear hset
          go_wp2_with fail
          refine ⟨⟨j + 1, by omega, by simp, Lib.hid (HSET.out _ (by omega) (by omega))⟩, ?_⟩
          simp only [intOf]
          omega
        · obtain rfl : j = rl := by omega
          simp only [World.size_alloc] at h23 h34
          have NT2 : (Value.slice a5 j c5).ownBlock ≠ some w2.heap.size := fun h2 => by have := O52.out.blk h2; omega
          have T3 := Lib.hid (hB.out.at NT2 T2.out)
          have OI3 := Lib.hid (hB.out.keep OI2.out (fun g h1 h2 => by
            have b5 := O52.out.blk h2
            rcases IB with h0 | ⟨g', e1, _, e3⟩
            · rw [h0] at h1; cases h1
            · rw [e1] at h1; cases h1; omega))
          have O13 := Lib.hid (hB.out.keep O12.out (fun g h1 h2 => by
            have b5 := O52.out.blk h2
            rcases OB with h0 | ⟨g', e1, _, e3⟩
            · rw [h0] at h1; cases h1
            · rw [e1] at h1; cases h1; omega))
          have BW2 := Lib.hid (hB.out.below BW.out (fun g e => by have := O52.out.blk e; omega))
          clear OI2 O12 O52 T2 hB BW NT2
          obtain ⟨ol, hol⟩ : ∃ n, tv.o.length = n := ⟨_, rfl⟩
          rw [hol] at O13 OB T3 ⊢
          have BP := Lib.hid (Bumped.refl O13.out)
          have olb : ol ≤ 9223372036854775807 := by have := O13.out.row.le; have := O13.out.row.cap_le; omega
          have NT3 : (Value.slice a1 ol c1).ownBlock ≠ some w2.heap.size := fun h2 => by
            rcases OB with h0 | ⟨g', e1, _, e3⟩
            · rw [h0] at h2; cases h2
            · rw [e1] at h2; cases h2; omega
          have t8 := cell_of (v := .slice a1 ol c1) 8 T3.out rfl
          go_wp2_with fail
          go_loopw [129] (fun i w9 => ∃ m : Nat, m ≤ ol ∧ i = .int .i64 m ∧ Hid (Bumped wr w1.heap.size a1 ol c1 w9)) (fun i _ => ol - (intOf i).toNat)
          case atStart => exact ⟨0, by omega, rfl, BP⟩
          case round =>
            obtain ⟨m, hm, rfl, hB⟩ := hrel
            clear BP t8
            have t8 := cell_of (v := .slice a1 ol c1) 8 (hB.out.at NT3 T3.out) rfl
            by_cases hlt : m < ol
            · obtain ⟨g, v, ha, hg, hgl, hc, hf, v0, v1, hset⟩ := hB.out.step hlt
              subst ha
              have HSET := Lib.hid hset
              clear hset
              go_wp2_with fail
              refine ⟨⟨m + 1, by omega, by simp, Lib.hid (HSET.out _ (by omega) (by omega))⟩, ?_⟩
              simp only [intOf]
              omega
            · obtain rfl : m = ol := by omega
              have OI4 := Lib.hid (hB.out.keep OI3.out (fun g h1 h2 => by
                have b1 := O13.out.blk h2
                rcases IB with h0 | ⟨g', e1, _, e3⟩
                · rw [h0] at h1; cases h1
                · rw [e1] at h1; cases h1; omega))
              have BW3 := Lib.hid (hB.out.below BW2.out (fun g e => by have := O13.out.blk e; omega))
              have HB := Lib.hid (H.out.below BW3.out)
              clear OI3 O13 T3 hB BW2 t8 NT3 H
              by_cases h4 : len < 4
              · have PO := Lib.hid (ports_short OI4.out.row h4)
                have q4 : (len : Int) < 4 := by omega
                go_wp2_with fail
                refine PO.out.mono ?_
                rintro e w10 ⟨rfl, hb⟩
                have s1 := run_str (OI4.out.keep hb).row
                have s2 := run_str (HB.out.below hb)
                have B10 := Lib.hid (BW3.out.trans (hb.mono BW3.out.size))
                clear hb PO BW3 OI4 HB
                go_wp2_with fail
                refine (known5_any _).mono ?_
                rintro e w11 ⟨rfl, hb⟩
                have B11 := Lib.hid (B10.out.trans (hb.mono B10.out.size))
                clear hb B10 s1 s2
                go_wp2_with fail
                go_ret
                exact ⟨rfl, B11.out⟩
              · have h4' : 4 ≤ len := by omega
                obtain ⟨bi, fi, rfl⟩ := OI4.out.row.none_of (by omega)
                obtain ⟨bb, fb, rfl⟩ := HB.out.none_of (by omega)
                have PO := Lib.hid (ports_any OI4.out.row h4')
                have q4 : (4 : Int) ≤ (len : Int) := by omega
                have m0 := w16_range H0.out.bytes 0
                have m2 := w16_range H0.out.bytes 2
                go_wp2_with fail
                refine PO.out.mono ?_
                rintro e w10 ⟨rfl, hb⟩
                have s1 := run_str (OI4.out.keep hb).row
                have s2 := run_str (HB.out.below hb)
                have N0 := Lib.hid (num2 (HB.out.below hb) 0 (by omega))
                have N2 := Lib.hid (num2 (HB.out.below hb) 2 (by omega))
                have B10 := Lib.hid (BW3.out.trans (hb.mono BW3.out.size))
                clear hb PO BW3 OI4 HB
                go_wp2_with fail
                refine N0.out.mono ?_
                rintro e w11 ⟨rfl, rfl⟩
                go_wp2_with fail
                refine N2.out.mono ?_
                rintro e w12 ⟨rfl, rfl⟩
                go_wp2_with fail
                refine (known5_any _).mono ?_
                rintro e w13 ⟨rfl, hb⟩
                have B11 := Lib.hid (B10.out.trans (hb.mono B10.out.size))
                clear hb B10 s1 s2
                go_wp2_with fail
                go_ret
                exact ⟨rfl, B11.out⟩

theorem segReads_walk (w : World) (v6 : Bool) (s : Value) (hs : InAr 16 s) (d : Value) (hd : InAr 16 d) (l : Value) (hl : In8 w l) :
    Calls Try.prog 3 #[.bool v6, s, d, l] w fun e w' => e = .returned (.bool true) ∧ Below w.heap.size w w' := by
  obtain ⟨a, len, cap, zs, rfl, h⟩ := hl
  obtain ⟨ss, rfl, hs, bs⟩ := hs
  obtain ⟨ds, rfl, hd, bd⟩ := hd
  by_cases hlen : len ≤ 1700
  · exact segReads_small v6 ss ds h hlen hs hd bs bd
  · exact segReads_big v6 ss ds (by omega)
end Go.Proofs.Ytcbjjkpjbdcakaa
