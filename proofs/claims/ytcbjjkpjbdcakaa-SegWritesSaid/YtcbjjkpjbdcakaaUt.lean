/- The walk of the reference's ReadTCP: where it tells a segment. -/
import Derived.Test.YtcbjjkpjbdcakaaUs
namespace Go.Proofs.Ytcbjjkpjbdcakaa
open Go.RowKit Go.Wb
set_option linter.unusedVariables false
set_option linter.unusedSimpArgs false

theorem w32_range {zs : List Int} (h : ∀ x ∈ zs, 0 ≤ x ∧ x ≤ 255) (i : Nat) : 0 ≤ w32 zs i ∧ w32 zs i ≤ 4294967295 := by
  have r0 := w16_range h i
  have r1 := w16_range h (i + 2)
  unfold w32; omega

set_option maxRecDepth 1000000 in
set_option maxHeartbeats 8000000 in
theorem rtcp_ok {w : World} {b off len cap : Nat} {zs : List Int} (v6 : Bool) (ss ds : List Int) (h : Row8 w (some ⟨b, off, none⟩) len cap zs) (h20 : 20 ≤ len) (hl : len ≤ 1099511627776) (hs : ss.length = 16) (hd : ds.length = 16) (bs : ∀ x ∈ ss, 0 ≤ x ∧ x ≤ 255) (bd : ∀ x ∈ ds, 0 ≤ x ∧ x ≤ 255) (c1 : 20 ≤ tlen zs) (c2 : tlen zs ≤ len) (cs : ck v6 ss ds 6 zs = 0) :
    Calls Try.prog 16 #[.bool v6, .agg (ar ss), .agg (ar ds), .slice (some ⟨b, off, none⟩) len cap] w (okTCP len zs w) := by
  have HT := heap_four w (Obj.cells (ar ss) 22) (Obj.cells (ar ds) 22) (Obj.cells #[.int .u16 0, .int .u16 0, .int .u32 0, .int .u32 0, .int .u8 0, .int .u8 0, .int .u16 0, .int .u16 0, .slice none 0 0] 28) (Obj.cells #[.int .u16 0, .int .u16 0, .int .u32 0, .int .u32 0, .int .u8 0, .int .u8 0, .int .u16 0, .int .u16 0, .slice none 0 0] 28)
  have X := Lib.hid HT.1
  have Y := Lib.hid HT.2.1
  have Z := Lib.hid HT.2.2.1
  have N := Lib.hid HT.2.2.2
  have B0 := Lib.hid (below_four w (Obj.cells (ar ss) 22) (Obj.cells (ar ds) 22) (Obj.cells #[.int .u16 0, .int .u16 0, .int .u32 0, .int .u32 0, .int .u8 0, .int .u8 0, .int .u16 0, .int .u16 0, .slice none 0 0] 28) (Obj.cells #[.int .u16 0, .int .u16 0, .int .u32 0, .int .u32 0, .int .u8 0, .int .u8 0, .int .u16 0, .int .u16 0, .slice none 0 0] 28))
  have H := Lib.hid h
  have HS := Lib.hid hs
  have HD := Lib.hid hd
  have hcap := h.cap_le
  have hle := h.le
  have cell12 : ((((w.alloc (Obj.cells (ar ss) 22)).alloc (Obj.cells (ar ds) 22)).alloc (Obj.cells #[.int .u16 0, .int .u16 0, .int .u32 0, .int .u32 0, .int .u8 0, .int .u8 0, .int .u16 0, .int .u16 0, .slice none 0 0] 28)).alloc (Obj.cells #[.int .u16 0, .int .u16 0, .int .u32 0, .int .u32 0, .int .u8 0, .int .u8 0, .int .u16 0, .int .u16 0, .slice none 0 0] 28)).cell? ⟨b, off + 12, none⟩ = some (.int .u8 (zs.getD 12 0)) := (h.below B0.out).at (by omega)
  have r12 := h.getD 12
  have SEAL := Lib.hid (fun W (hb : Below w.heap.size w W) => right_any v6 ss ds 6 (h.below hb) hl hs hd bs bd (by omega) (by omega))
  have TL := Lib.hid (tlen_eq r12.1)
  obtain ⟨n, hn⟩ : ∃ n, tlen zs = n := ⟨_, rfl⟩
  rw [hn] at TL c1 c2
  have HN := Lib.hid hn
  obtain ⟨x12, hx12⟩ : ∃ x, zs.getD 12 0 = x := ⟨_, rfl⟩
  rw [hx12] at cell12 r12 TL
  have HX12 := Lib.hid hx12
  obtain ⟨r120, r121⟩ := r12
  have i12 : (12 : Int) < (len : Int) := by omega
  have tl := TL.out
  obtain ⟨m, rw16⟩ : ∃ m : Nat, x12 / 16 = (m : Int) := ⟨(x12 / 16).toNat, by omega⟩
  have rwt : 4 * (m : Int) = (n : Int) := by omega
  have m15 : (m : Int) ≤ 15 := by omega
  have A0 := Lib.hid (fun W (hb : Below w.heap.size w W) => num2 (h.below hb) 0 (by omega))
  have r0 := w16_range h.bytes 0
  obtain ⟨p0, hp0⟩ : ∃ x, w16 zs 0 = x := ⟨_, rfl⟩
  rw [hp0] at A0 r0
  have P0 := Lib.hid hp0
  obtain ⟨r00, r01⟩ := r0
  have A2 := Lib.hid (fun W (hb : Below w.heap.size w W) => num2 (h.below hb) 2 (by omega))
  have r2 := w16_range h.bytes 2
  obtain ⟨p2, hp2⟩ : ∃ x, w16 zs 2 = x := ⟨_, rfl⟩
  rw [hp2] at A2 r2
  have P2 := Lib.hid hp2
  obtain ⟨r20, r21⟩ := r2
  have A4 := Lib.hid (fun W (hb : Below w.heap.size w W) => num4 (h.below hb) 4 (by omega))
  have r4 := w32_range h.bytes 4
  obtain ⟨p4, hp4⟩ : ∃ x, w32 zs 4 = x := ⟨_, rfl⟩
  rw [hp4] at A4 r4
  have P4 := Lib.hid hp4
  obtain ⟨r40, r41⟩ := r4
  have A8 := Lib.hid (fun W (hb : Below w.heap.size w W) => num4 (h.below hb) 8 (by omega))
  have r8 := w32_range h.bytes 8
  obtain ⟨p8, hp8⟩ : ∃ x, w32 zs 8 = x := ⟨_, rfl⟩
  rw [hp8] at A8 r8
  have P8 := Lib.hid hp8
  obtain ⟨r80, r81⟩ := r8
  have A14 := Lib.hid (fun W (hb : Below w.heap.size w W) => num2 (h.below hb) 14 (by omega))
  have r14 := w16_range h.bytes 14
  obtain ⟨p14, hp14⟩ : ∃ x, w16 zs 14 = x := ⟨_, rfl⟩
  rw [hp14] at A14 r14
  have P14 := Lib.hid hp14
  obtain ⟨r140, r141⟩ := r14
  have A18 := Lib.hid (fun W (hb : Below w.heap.size w W) => num2 (h.below hb) 18 (by omega))
  have r18 := w16_range h.bytes 18
  obtain ⟨p18, hp18⟩ : ∃ x, w16 zs 18 = x := ⟨_, rfl⟩
  rw [hp18] at A18 r18
  have P18 := Lib.hid hp18
  obtain ⟨r180, r181⟩ := r18
  obtain ⟨ck0, hck⟩ : ∃ x, ck v6 ss ds 6 zs = x := ⟨_, rfl⟩
  rw [hck] at SEAL cs
  have csb : (ck0 != 0) = false := by simp; omega
  have q1 : (5 : Int) ≤ (m : Int) := by omega
  have q2 : (n : Int) ≤ (len : Int) := by omega
  clear c1 c2 cs hck hp0 hp2 hp4 hp8 hp14 hp18
  clear tl
  clear HT h hs hd bs bd hn hx12 TL
  go_enter Try.func16, Try.ntmps16
  go_wp2_with (first | (refine arms_load rfl _ rfl rfl X.out HS.out ?_) | (refine arms_load rfl _ rfl rfl Y.out HD.out ?_))
  refine (SEAL.out _ B0.out).mono ?_
  rintro e w1 ⟨rfl, hb⟩
  have B1 := Lib.hid (B0.out.trans (hb.mono B0.out.size))
  have Z' := Lib.hid (kept hb Z.out)
  have N' := Lib.hid (kept hb N.out)
  clear Z N
  have Z := Z'
  clear Z'
  have N := N'
  clear N'
  clear hb B0 X Y cell12
  have RB := Lib.hid ((H.out.below B1.out))
  obtain ⟨x13, hx13⟩ : ∃ x, zs.getD 13 0 = x := ⟨_, rfl⟩
  have HX13 := Lib.hid hx13
  have r13 := RB.out.getD 13
  have cell12 : w1.cell? ⟨b, off + 12, none⟩ = some (.int .u8 x12) := HX12.out ▸ RB.out.at (by omega)
  have cell13 : w1.cell? ⟨b, off + 13, none⟩ = some (.int .u8 x13) := HX13.out ▸ RB.out.at (by omega)
  rw [hx13] at r13
  obtain ⟨r130, r131⟩ := r13
  clear hx13
  obtain ⟨b', off', e', hbw, _⟩ := RB.out.cells 12 (by omega)
  cases e'
  have i13 : (13 : Int) < (len : Int) := by omega
  have hnc : n ≤ cap := by omega
  go_wp2_with fail
  refine (A0.out _ B1.out).mono ?_
  rintro e W ⟨rfl, rfl⟩
  go_wp2_with fail
  refine (A2.out _ B1.out).mono ?_
  rintro e W ⟨rfl, rfl⟩
  go_wp2_with fail
  refine (A4.out _ B1.out).mono ?_
  rintro e W ⟨rfl, rfl⟩
  go_wp2_with fail
  refine (A8.out _ B1.out).mono ?_
  rintro e W ⟨rfl, rfl⟩
  go_wp2_with fail
  refine (A14.out _ (by (repeat' (first | with_reducible exact B1.out | with_reducible refine Below.setCell ?_ ?_ _ | with_reducible refine Below.alloc ?_ ?_ _)); all_goals (first | exact B1.out.size | (simp; done) | (simp; omega) | omega))).mono ?_
  rintro e W ⟨rfl, rfl⟩
  go_wp2_with fail
  refine (A18.out _ (by (repeat' (first | with_reducible exact B1.out | with_reducible refine Below.setCell ?_ ?_ _ | with_reducible refine Below.alloc ?_ ?_ _)); all_goals (first | exact B1.out.size | (simp; done) | (simp; omega) | omega))).mono ?_
  rintro e W ⟨rfl, rfl⟩
  have UE : Hid (((w1.alloc (Obj.cells #[.int .u16 p0, .int .u16 p2, .int .u32 p4, .int .u32 p8, .int .u8 (x12 % 16), .int .u8 x13, .int .u16 p14, .int .u16 p18, .slice none 0 0] 28)).alloc (Obj.cells #[] 5)).heap[w1.heap.size + 1]? = some (.cells #[] 5 (0, 0))) := Lib.hid (by have := heap_alloc_new (w1.alloc (Obj.cells #[.int .u16 p0, .int .u16 p2, .int .u32 p4, .int .u32 p8, .int .u8 (x12 % 16), .int .u8 x13, .int .u16 p14, .int .u16 p18, .slice none 0 0] 28)) (Obj.cells #[] 5); rwa [World.size_alloc] at this)
  obtain ⟨ad20, had⟩ : ∃ ad, (if cap = 20 then some ⟨b, off, none⟩ else some ⟨b, off + 20, none⟩ : Option Addr) = ad := ⟨_, rfl⟩
  have RS : Hid (Row8 ((w1.alloc (Obj.cells #[.int .u16 p0, .int .u16 p2, .int .u32 p4, .int .u32 p8, .int .u8 (x12 % 16), .int .u8 x13, .int .u16 p14, .int .u16 p18, .slice none 0 0] 28)).alloc (Obj.cells #[] 5)) ad20 (n - 20) (cap - 20) ((zs.take n).drop 20)) := Lib.hid (by
    rw [← had]; exact ((RB.out.below (((Below.refl _ _).alloc (Nat.le_refl _) _).alloc (by simp) _)).take (by omega)).tail (by omega))
  clear A0 A2 A4 A8 A14 A18
  go_wp2_with (at_builtin; refine wpList_app8 rfl _ _ rfl (w1.heap.size + 1) (some ⟨w1.heap.size + 1, 0, none⟩) 0 0 [] rfl (Own8.empty UE.out (Nat.le_refl _)) ad20 (n - 20) (cap - 20) ((zs.take n).drop 20) rfl RS.out (by omega) ?_; intro a1 c1 w2 ho hg; simp only [Nat.zero_add, List.nil_append] at ho ⊢; have OW := Lib.hid ho; have BG : Hid (Below (w1.heap.size + 1) (w1.alloc (Obj.cells #[.int .u16 p0, .int .u16 p2, .int .u32 p4, .int .u32 p8, .int .u8 (x12 % 16), .int .u8 x13, .int .u16 p14, .int .u16 p18, .slice none 0 0] 28)) w2) := Lib.hid (Below.grown ((Below.refl _ _).alloc (by simp) _) hg (by simp only [World.size_alloc]; omega) (fun k hk => by cases hk; exact Nat.le_refl _)); clear ho hg UE RS; have U2 := Lib.hid (Below.at BG.out (heap_alloc_new w1 (Obj.cells #[.int .u16 p0, .int .u16 p2, .int .u32 p4, .int .u32 p8, .int .u8 (x12 % 16), .int .u8 x13, .int .u16 p14, .int .u16 p18, .slice none 0 0] 28)) (by omega)); have u8 := cell_of (v := .slice none 0 0) 8 U2.out rfl; have uf8 := free_of 8 U2.out)
  have NT : Hid ((w2.setCell ⟨w1.heap.size, 8, none⟩ (.slice a1 (n - 20) c1)).heap[w1.heap.size]? = some (.cells #[.int .u16 p0, .int .u16 p2, .int .u32 p4, .int .u32 p8, .int .u8 (x12 % 16), .int .u8 x13, .int .u16 p14, .int .u16 p18, .slice a1 (n - 20) c1] 28 (0, 0))) := Lib.hid (by have := heap_setCell (i := 8) (u := .slice a1 (n - 20) c1) U2.out; simpa using this)
  have OT : Hid (Own8 (w1.heap.size + 1) (w2.setCell ⟨w1.heap.size, 8, none⟩ (.slice a1 (n - 20) c1)) a1 (n - 20) c1 ((zs.take n).drop 20)) := Lib.hid (OW.out.other (by omega))
  have BT1 : Hid (Below w1.heap.size w1 (w2.setCell ⟨w1.heap.size, 8, none⟩ (.slice a1 (n - 20) c1))) := Lib.hid ((((Below.refl _ _).alloc (Nat.le_refl _) _).trans (BG.out.mono (by omega))).setCell (by exact Nat.le_refl _) _)
  clear u8 uf8 U2 OW BG
  obtain ⟨T, hT⟩ : ∃ T, (w2.setCell ⟨w1.heap.size, 8, none⟩ (.slice a1 (n - 20) c1)) = T := ⟨_, rfl⟩
  rw [hT] at NT OT BT1 ⊢
  have ZT := Lib.hid (kept BT1.out Z.out)
  have ZB1 := lt_of_heap Z.out
  have BT := Lib.hid (B1.out.trans (BT1.out.mono B1.out.size))
  have hTs := BT1.out.size
  clear hT cell12 cell13 had
  obtain ⟨adn, hadn⟩ : ∃ ad, (if cap = n then some ⟨b, off, none⟩ else some ⟨b, off + n, none⟩ : Option Addr) = some ad := by split <;> exact ⟨_, rfl⟩
  have HADN := Lib.hid hadn
  clear hadn
  have SLN : Hid (∀ W2, Below T.heap.size T W2 → Row8 W2 (some adn) (len - n) (cap - n) (zs.drop n)) := fun W2 hW2 => by rw [← HADN.out]; exact ((RB.out.below BT1.out).below hW2).tail (by omega)
  clear RB
  refine region_tails_lit 7 [[(13, none)], [], [(3, none)], [(12, none)], [(78, some 3)], [(77, some 2), (79, some 4)], [(76, some 1), (80, some 5)]]
    [Is (.agg #[.int .u16 p0, .int .u16 p2, .int .u32 p4, .int .u32 p8, .int .u8 (x12 % 16), .int .u8 x13, .int .u16 p14, .int .u16 p18, .slice a1 (n - 20) c1]), Empty8 T.heap.size, Is (.slice (some ⟨b, off, none⟩) len cap), Is (.int .i64 m), Is (.int .i64 n), Is (.slice (some adn) (len - n) (cap - n)), Fresh8 T.heap.size (len - n) (zs.drop n)]
    (by kernel_rfl) (List.cons_ne_nil _ _) (by kernel_rfl) (by kernel_rfl) rfl ⟨stab_is _, stab_empty _, stab_is _, stab_is _, stab_is _, stab_is _, stab_fresh _ _ _, trivial⟩ ?_ ?_
  · refine ⟨step_plain rfl ?_, step_plain rfl ?_, step_plain rfl ?_, step_plain rfl ?_, step_plain rfl ?_, step_plain rfl ?_, step_plain rfl ?_, trivial⟩
    · rintro a W2 hW2 ⟨h13, _⟩
      replace h13 : a.tmps[13]? = some (.pointer (some ⟨w1.heap.size, 0, none⟩)) := h13
      have u0 := cell_of (v := .int .u16 p0) 0 (kept hW2 NT.out) rfl
      have u1 := cell_of (v := .int .u16 p2) 1 (kept hW2 NT.out) rfl
      have u2 := cell_of (v := .int .u32 p4) 2 (kept hW2 NT.out) rfl
      have u3 := cell_of (v := .int .u32 p8) 3 (kept hW2 NT.out) rfl
      have u4 := cell_of (v := .int .u8 (x12 % 16)) 4 (kept hW2 NT.out) rfl
      have u5 := cell_of (v := .int .u8 x13) 5 (kept hW2 NT.out) rfl
      have u6 := cell_of (v := .int .u16 p14) 6 (kept hW2 NT.out) rfl
      have u7 := cell_of (v := .int .u16 p18) 7 (kept hW2 NT.out) rfl
      have u8 := cell_of (v := .slice a1 (n - 20) c1) 8 (kept hW2 NT.out) rfl
      simp only [execOp]
      go_simp
      exact step_val
    · rintro a W2 hW2 _
      simp only [execOp]
      go_simp
      exact step_empty hW2.size
    · rintro a W2 hW2 ⟨h3, _⟩
      replace h3 : a.tmps[3]? = some (.slice (some ⟨b, off, none⟩) len cap) := h3
      simp only [execOp]
      go_simp
      exact step_val
    · rintro a W2 hW2 ⟨h12, _⟩
      replace h12 : a.tmps[12]? = some (.int .i64 m) := h12
      simp only [execOp]
      go_simp
      exact step_val
    · rintro a W2 hW2 ⟨⟨v78, h78, rfl⟩, _⟩
      have j0 : IntKind.i64.wrap (n : Int) = (n : Int) := IntWalk.i64_in _ (by omega)
      simp only [execOp]
      go_simp
      exact step_val
    · rintro a W2 hW2 ⟨⟨v77, h77, rfl⟩, ⟨v79, h79, rfl⟩, _⟩
      simp only [execOp]
      go_simp
      rw [HADN.out]
      exact step_val
    · rintro a W2 hW2 ⟨⟨v76, h76, k76⟩, ⟨v80, h80, rfl⟩, _⟩
      obtain ⟨g76, rfl, hg76, hh76⟩ := k76
      exact step_copy8 _ _ rfl (getD_of_get h76) (getD_of_get h80) hg76 hh76 (SLN.out W2 hW2) (by omega)
  · intro W2 hW2
    simp only [List.take_succ_cons, List.take_zero, List.drop_succ_cons, List.drop_zero]
    with_reducible refine grow_is ?_
    with_reducible refine grow_any ?_
    intro v76 k76
    with_reducible refine grow_is ?_
    with_reducible refine grow_is ?_
    with_reducible refine grow_is ?_
    with_reducible refine grow_is ?_
    with_reducible refine grow_any ?_
    intro v81 k81
    with_reducible refine grow_end ?_
    go_simp
    obtain ⟨a2, c2, e81, ho2⟩ := k81
    subst e81
    obtain ⟨g76, e76, _, _⟩ := k76
    subst e76
    have BW := Lib.hid (BT.out.trans (hW2.mono BT.out.size))
    have OW := Lib.hid (OT.out.keep hW2)
    have ZW := Lib.hid (kept hW2 ZT.out)
    have ZB := lt_of_heap ZT.out
    have O2 := Lib.hid ho2
    have blk := OT.out.block
    have z0 := cell_of (v := .int .u16 0) 0 ZW.out rfl
    have zf0 := free_of 0 ZW.out
    have z1 := cell_of (v := .int .u16 0) 1 ZW.out rfl
    have zf1 := free_of 1 ZW.out
    have z2 := cell_of (v := .int .u32 0) 2 ZW.out rfl
    have zf2 := free_of 2 ZW.out
    have z3 := cell_of (v := .int .u32 0) 3 ZW.out rfl
    have zf3 := free_of 3 ZW.out
    have z4 := cell_of (v := .int .u8 0) 4 ZW.out rfl
    have zf4 := free_of 4 ZW.out
    have z5 := cell_of (v := .int .u8 0) 5 ZW.out rfl
    have zf5 := free_of 5 ZW.out
    have z6 := cell_of (v := .int .u16 0) 6 ZW.out rfl
    have zf6 := free_of 6 ZW.out
    have z7 := cell_of (v := .int .u16 0) 7 ZW.out rfl
    have zf7 := free_of 7 ZW.out
    have z8 := cell_of (v := .slice none 0 0) 8 ZW.out rfl
    have zf8 := free_of 8 ZW.out
    clear hW2 ho2 Z ZT NT SLN OT
    go_wp2_with fail
    refine bodyPost_ret (v := .tuple #[.agg #[.int .u16 p0, .int .u16 p2, .int .u32 p4, .int .u32 p8, .int .u8 (x12 % 16), .int .u8 x13, .int .u16 p14, .int .u16 p18, .slice a1 (n - 20) c1], .slice a2 (len - n) c2, .int .i64 0]) (by simp [results, Try.results16, go_sem, z0, z1, z2, z3, z4, z5, z6, z7, z8]) rfl ?_
    simp only [okTCP, tcells, HN.out, P0.out, P2.out, P4.out, P8.out, P14.out, P18.out, HX12.out, HX13.out]
    refine ⟨a1, c1, a2, c2, T.heap.size, rfl, ?_, ?_, BT.out.size, ?_, ?_⟩
    · repeat' (first | with_reducible exact BW.out | with_reducible refine Below.setCell ?_ ?_ _ | with_reducible refine Below.alloc ?_ ?_ _)
      all_goals (first | (simp; done) | (simp; omega) | omega)
    · exact (((((((((OW.out.other (by omega)).other (by omega)).other (by omega)).other (by omega)).other (by omega)).other (by omega)).other (by omega)).other (by omega)).other (by omega)).mono (by have := B1.out.size; omega)
    · intro g hg
      rcases blk with h0 | ⟨g', h1, _, h3⟩
      · rw [h0] at hg; cases hg
      · rw [h1] at hg; cases hg; exact h3
    · exact (((((((((O2.out.other ZB).other ZB).other ZB).other ZB).other ZB).other ZB).other ZB).other ZB).other ZB)

end Go.Proofs.Ytcbjjkpjbdcakaa
