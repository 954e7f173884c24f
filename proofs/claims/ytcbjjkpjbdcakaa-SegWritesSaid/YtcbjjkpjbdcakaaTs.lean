/- The walk of seg.ReadTCP, where it tells a segment. -/
import Derived.Test.YtcbjjkpjbdcakaaTr
namespace Go.Proofs.Ytcbjjkpjbdcakaa
open Go.RowKit Go.Wb
set_option linter.unusedVariables false
set_option linter.unusedSimpArgs false


theorem Own8.past {base : Nat} {w : World} {a : Option Addr} {len cap : Nat} {zs : List Int} (h : Own8 base w a len cap zs) {b i : Nat} {v : Value} {cs : Array Value} {t : TypeId} (hp : w.heap[b]? = some (.cells cs t (0, 0))) (ht : t ≠ 5) : Own8 base (w.setCell ⟨b, i, none⟩ v) a len cap zs := by
  obtain ⟨⟨hlen, hv⟩, hz, hs⟩ := h
  refine ⟨⟨hlen, ?_⟩, hz, by simpa [World.setCell] using hs⟩
  rcases hv with hv | ⟨g, cap', cur, hv, hg, hh, hr⟩
  · exact .inl hv
  · exact .inr ⟨g, cap', cur, hv, hg, (But.set1 _ _ _ _).at hh (by rintro rfl; rw [hp] at hh; cases hh; exact ht rfl), hr⟩

set_option maxRecDepth 1000000 in
set_option maxHeartbeats 8000000 in
theorem tcp_ok {w : World} {b off len cap : Nat} {zs : List Int} (v6 : Bool) (ss ds : List Int) (h : Row8 w (some ⟨b, off, none⟩) len cap zs) (h20 : 20 ≤ len) (hl : len ≤ 1099511627776) (hs : ss.length = 16) (hd : ds.length = 16) (bs : ∀ x ∈ ss, 0 ≤ x ∧ x ≤ 255) (bd : ∀ x ∈ ds, 0 ≤ x ∧ x ≤ 255) (c1 : 20 ≤ tlen zs) (c2 : tlen zs ≤ len) (cs : ck v6 ss ds 6 zs = 0) :
    Calls Try.prog 15 #[.bool v6, .agg (ar ss), .agg (ar ds), .slice (some ⟨b, off, none⟩) len cap] w (okTCP len zs w) := by
  have HT := heap_five w (Obj.cells (ar ss) 22) (Obj.cells (ar ds) 22) (Obj.cells #[.slice (some ⟨b, off, none⟩) len cap] 23) (Obj.cells #[.int .u16 0, .int .u16 0, .int .u32 0, .int .u32 0, .int .u8 0, .int .u8 0, .int .u16 0, .int .u16 0, .slice none 0 0] 28) (Obj.cells #[.int .u16 0, .int .u16 0, .int .u32 0, .int .u32 0, .int .u8 0, .int .u8 0, .int .u16 0, .int .u16 0, .slice none 0 0] 28)
  have X := Lib.hid HT.1
  have Y := Lib.hid HT.2.1
  have V := Lib.hid HT.2.2.1
  have Z := Lib.hid HT.2.2.2.1
  have N := Lib.hid HT.2.2.2.2
  have B0 := Lib.hid (below_five w (Obj.cells (ar ss) 22) (Obj.cells (ar ds) 22) (Obj.cells #[.slice (some ⟨b, off, none⟩) len cap] 23) (Obj.cells #[.int .u16 0, .int .u16 0, .int .u32 0, .int .u32 0, .int .u8 0, .int .u8 0, .int .u16 0, .int .u16 0, .slice none 0 0] 28) (Obj.cells #[.int .u16 0, .int .u16 0, .int .u32 0, .int .u32 0, .int .u8 0, .int .u8 0, .int .u16 0, .int .u16 0, .slice none 0 0] 28))
  have H := Lib.hid h
  have HS := Lib.hid hs
  have HD := Lib.hid hd
  have hcap := h.cap_le
  have hle := h.le
  have cell12 : (((((w.alloc (Obj.cells (ar ss) 22)).alloc (Obj.cells (ar ds) 22)).alloc (Obj.cells #[.slice (some ⟨b, off, none⟩) len cap] 23)).alloc (Obj.cells #[.int .u16 0, .int .u16 0, .int .u32 0, .int .u32 0, .int .u8 0, .int .u8 0, .int .u16 0, .int .u16 0, .slice none 0 0] 28)).alloc (Obj.cells #[.int .u16 0, .int .u16 0, .int .u32 0, .int .u32 0, .int .u8 0, .int .u8 0, .int .u16 0, .int .u16 0, .slice none 0 0] 28)).cell? ⟨b, off + 12, none⟩ = some (.int .u8 (zs.getD 12 0)) := (h.below B0.out).at (by omega)
  have r12 := h.getD 12
  have SEAL := Lib.hid (fun W (hb : Below w.heap.size w W) => sealed_any v6 ss ds 6 (h.below hb) hl hs hd bs bd (by omega) (by omega))
  have TL := Lib.hid (tlen_eq r12.1)
  obtain ⟨n, hn⟩ : ∃ n, tlen zs = n := ⟨_, rfl⟩
  rw [hn] at TL c1 c2
  have HN := Lib.hid hn
  obtain ⟨x12, hx12⟩ : ∃ x, zs.getD 12 0 = x := ⟨_, rfl⟩
  rw [hx12] at cell12 r12 TL
  have HX12 := Lib.hid hx12
  obtain ⟨r120, r121⟩ := r12
  have i12 : (12 : Int) < (len : Int) := by omega
  obtain ⟨ck0, hck⟩ : ∃ x, ck v6 ss ds 6 zs = x := ⟨_, rfl⟩
  rw [hck] at SEAL cs
  have csb : (ck0 != 0) = false := by simp; omega
  have q1 : (20 : Int) ≤ (n : Int) := by omega
  have q2 : (n : Int) ≤ (len : Int) := by omega
  clear c1 c2 cs hck
  have rwt : x12 / 16 * 4 = (n : Int) := TL.out.symm
  clear HT h hs hd bs bd hn hx12 TL
  go_enter Try.func15, Try.ntmps15
  go_wp2_with (first | (refine arms_load rfl _ rfl rfl X.out HS.out ?_) | (refine arms_load rfl _ rfl rfl Y.out HD.out ?_))
  refine (SEAL.out _ B0.out).mono ?_
  rintro e w1 ⟨rfl, hb⟩
  have B1 := Lib.hid (B0.out.trans (hb.mono B0.out.size))
  have V' := Lib.hid (kept hb V.out)
  have Z' := Lib.hid (kept hb Z.out)
  have N' := Lib.hid (kept hb N.out)
  clear V Z N
  have V := V'
  clear V'
  have Z := Z'
  clear Z'
  have N := N'
  clear N'
  clear hb B0 X Y cell12
  go_wp2_with fail
  obtain ⟨ad20, had⟩ : ∃ ad, (if cap = 20 then some ⟨b, off, none⟩ else some ⟨b, off + 20, none⟩ : Option Addr) = ad := ⟨_, rfl⟩
  have HAD := Lib.hid had
  clear had
  obtain ⟨x13, hx13⟩ : ∃ x, zs.getD 13 0 = x := ⟨_, rfl⟩
  have HX13 := Lib.hid hx13
  obtain ⟨p0, hp0⟩ : ∃ x, w16 zs 0 = x := ⟨_, rfl⟩
  have P0 := Lib.hid hp0
  clear hp0
  obtain ⟨p2, hp2⟩ : ∃ x, w16 zs 2 = x := ⟨_, rfl⟩
  have P2 := Lib.hid hp2
  clear hp2
  obtain ⟨p4, hp4⟩ : ∃ x, w32 zs 4 = x := ⟨_, rfl⟩
  have P4 := Lib.hid hp4
  clear hp4
  obtain ⟨p8, hp8⟩ : ∃ x, w32 zs 8 = x := ⟨_, rfl⟩
  have P8 := Lib.hid hp8
  clear hp8
  obtain ⟨p14, hp14⟩ : ∃ x, w16 zs 14 = x := ⟨_, rfl⟩
  have P14 := Lib.hid hp14
  clear hp14
  obtain ⟨p18, hp18⟩ : ∃ x, w16 zs 18 = x := ⟨_, rfl⟩
  have P18 := Lib.hid hp18
  clear hp18
  have RB : Hid (∀ W, Below w1.heap.size w1 W → Row8 W (some ⟨b, off, none⟩) len cap zs) := fun W hW => (H.out.below B1.out).below hW
  have WO : Hid (∀ W, Below w1.heap.size w1 W → ∀ (i : Nat), i + 1 < len → ∀ v, w16 zs i = v → Calls Try.prog 53 #[.int .i64 i, .pointer (some ⟨w.heap.size + 1 + 1, 0, none⟩)] W fun e w' => e = .returned (.int .u16 v) ∧ Below W.heap.size W w') := fun W hW i hi v hv => hv ▸ word_any (RB.out W hW) (kept hW V.out) i hi
  have FO : Hid (∀ W, Below w1.heap.size w1 W → ∀ (i : Nat), i + 3 < len → ∀ v, w32 zs i = v → Calls Try.prog 55 #[.slice (some ⟨b, off, none⟩) len cap, .int .i64 i] W fun e w' => e = .returned (.int .u32 v) ∧ Below W.heap.size W w') := fun W hW i hi v hv => hv ▸ four_any (RB.out W hW) i hi hl
  have C12 : Hid (∀ W, Below w1.heap.size w1 W → W.cell? ⟨b, off + 12, none⟩ = some (.int .u8 x12)) := fun W hW => HX12.out ▸ (RB.out W hW).at (by omega)
  have C13 : Hid (∀ W, Below w1.heap.size w1 W → W.cell? ⟨b, off + 13, none⟩ = some (.int .u8 x13)) := fun W hW => HX13.out ▸ (RB.out W hW).at (by omega)
  have SL : Hid (∀ W, Below w1.heap.size w1 W → Row8 W ad20 (n - 20) (cap - 20) ((zs.take n).drop 20)) := fun W hW => by rw [← HAD.out]; exact ((RB.out W hW).take (by omega)).tail (by omega)
  have i13 : (13 : Int) < (len : Int) := by omega
  have hnc : n ≤ cap := by omega
  clear hx13
  refine region_grow_lit [[(13, none)], [(44, some 0)], [(13, none)], [(46, some 2)], [(7, none)], [(48, some 4)], [(7, none)], [(50, some 6)], [(7, none)], [(52, some 8)], [(53, some 9)], [(54, some 10)], [(7, none)], [(56, some 12)], [(57, some 13)], [(13, none)], [(59, some 15)], [(13, none)], [(61, some 17)], [(7, none)], [(12, none)], [(63, some 19), (64, some 20)], [(65, some 21)], [(45, some 1), (47, some 3), (49, some 5), (51, some 7), (55, some 11), (58, some 14), (60, some 16), (62, some 18), (66, some 22)], []]
    [Is (.func (.func 53) #[] #[.pointer (some ⟨w.heap.size + 1 + 1, 0, none⟩)]), Is (.int .u16 p0), Is (.func (.func 53) #[] #[.pointer (some ⟨w.heap.size + 1 + 1, 0, none⟩)]), Is (.int .u16 p2), Is (.slice (some ⟨b, off, none⟩) len cap), Is (.int .u32 p4), Is (.slice (some ⟨b, off, none⟩) len cap), Is (.int .u32 p8), Is (.slice (some ⟨b, off, none⟩) len cap), Is (.pointer (some ⟨b, off + 12, none⟩)), Is (.int .u8 x12), Is (.int .u8 (x12 % 16)), Is (.slice (some ⟨b, off, none⟩) len cap), Is (.pointer (some ⟨b, off + 13, none⟩)), Is (.int .u8 x13), Is (.func (.func 53) #[] #[.pointer (some ⟨w.heap.size + 1 + 1, 0, none⟩)]), Is (.int .u16 p14), Is (.func (.func 53) #[] #[.pointer (some ⟨w.heap.size + 1 + 1, 0, none⟩)]), Is (.int .u16 p18), Is (.slice (some ⟨b, off, none⟩) len cap), Is (.int .i64 n), Is (.slice ad20 (n - 20) (cap - 20)), Fresh8 w1.heap.size (n - 20) ((zs.take n).drop 20), TcpK w1.heap.size (n - 20) ((zs.take n).drop 20) p0 p2 p4 p8 (x12 % 16) x13 p14 p18, TcpNew w1.heap.size]
    (by kernel_rfl) (by simp) (by kernel_rfl) rfl ⟨stab_is _, stab_is _, stab_is _, stab_is _, stab_is _, stab_is _, stab_is _, stab_is _, stab_is _, stab_is _, stab_is _, stab_is _, stab_is _, stab_is _, stab_is _, stab_is _, stab_is _, stab_is _, stab_is _, stab_is _, stab_is _, stab_is _, stab_fresh _ _ _, stab_tcp _ _ _ _ _ _ _ _ _ _ _, stab_tnew _, trivial⟩ ?_ rfl ?_
  · refine ⟨step_plain rfl ?_, step_plain rfl ?_, step_plain rfl ?_, step_plain rfl ?_, step_plain rfl ?_, step_plain rfl ?_, step_plain rfl ?_, step_plain rfl ?_, step_plain rfl ?_, step_plain rfl ?_, step_plain rfl ?_, step_plain rfl ?_, step_plain rfl ?_, step_plain rfl ?_, step_plain rfl ?_, step_plain rfl ?_, step_plain rfl ?_, step_plain rfl ?_, step_plain rfl ?_, step_plain rfl ?_, step_plain rfl ?_, step_plain rfl ?_, step_plain rfl ?_, step_plain rfl ?_, step_plain rfl ?_, trivial⟩
    · rintro a W hW ⟨h13, _⟩
      replace h13 : a.tmps[13]? = some (.func (.func 53) #[] #[.pointer (some ⟨w.heap.size + 1 + 1, 0, none⟩)]) := h13
      simp only [execOp]
      go_simp
      exact step_val
    · rintro a W hW ⟨⟨v44, h44, rfl⟩, _⟩
      go_simp
      exact step_call (WO.out W hW 0 (by omega) p0 P0.out)
    · rintro a W hW ⟨h13, _⟩
      replace h13 : a.tmps[13]? = some (.func (.func 53) #[] #[.pointer (some ⟨w.heap.size + 1 + 1, 0, none⟩)]) := h13
      simp only [execOp]
      go_simp
      exact step_val
    · rintro a W hW ⟨⟨v46, h46, rfl⟩, _⟩
      go_simp
      exact step_call (WO.out W hW 2 (by omega) p2 P2.out)
    · rintro a W hW ⟨h7, _⟩
      replace h7 : a.tmps[7]? = some (.pointer (some ⟨w.heap.size + 1 + 1, 0, none⟩)) := h7
      have v0 := cell_of (v := .slice (some ⟨b, off, none⟩) len cap) 0 (kept hW V.out) rfl
      simp only [execOp]
      go_simp
      exact step_val
    · rintro a W hW ⟨⟨v48, h48, rfl⟩, _⟩
      go_simp
      exact step_call (FO.out W hW 4 (by omega) p4 P4.out)
    · rintro a W hW ⟨h7, _⟩
      replace h7 : a.tmps[7]? = some (.pointer (some ⟨w.heap.size + 1 + 1, 0, none⟩)) := h7
      have v0 := cell_of (v := .slice (some ⟨b, off, none⟩) len cap) 0 (kept hW V.out) rfl
      simp only [execOp]
      go_simp
      exact step_val
    · rintro a W hW ⟨⟨v50, h50, rfl⟩, _⟩
      go_simp
      exact step_call (FO.out W hW 8 (by omega) p8 P8.out)
    · rintro a W hW ⟨h7, _⟩
      replace h7 : a.tmps[7]? = some (.pointer (some ⟨w.heap.size + 1 + 1, 0, none⟩)) := h7
      have v0 := cell_of (v := .slice (some ⟨b, off, none⟩) len cap) 0 (kept hW V.out) rfl
      simp only [execOp]
      go_simp
      exact step_val
    · rintro a W hW ⟨⟨v52, h52, rfl⟩, _⟩
      simp only [execOp]
      go_simp
      exact step_val
    · rintro a W hW ⟨⟨v53, h53, rfl⟩, _⟩
      have l := C12.out W hW
      simp only [execOp]
      go_simp
      exact step_val
    · rintro a W hW ⟨⟨v54, h54, rfl⟩, _⟩
      simp only [execOp]
      go_simp
      rw [and15 x12 r120 r121]
      exact step_val
    · rintro a W hW ⟨h7, _⟩
      replace h7 : a.tmps[7]? = some (.pointer (some ⟨w.heap.size + 1 + 1, 0, none⟩)) := h7
      have v0 := cell_of (v := .slice (some ⟨b, off, none⟩) len cap) 0 (kept hW V.out) rfl
      simp only [execOp]
      go_simp
      exact step_val
    · rintro a W hW ⟨⟨v56, h56, rfl⟩, _⟩
      simp only [execOp]
      go_simp
      exact step_val
    · rintro a W hW ⟨⟨v57, h57, rfl⟩, _⟩
      have l := C13.out W hW
      simp only [execOp]
      go_simp
      exact step_val
    · rintro a W hW ⟨h13, _⟩
      replace h13 : a.tmps[13]? = some (.func (.func 53) #[] #[.pointer (some ⟨w.heap.size + 1 + 1, 0, none⟩)]) := h13
      simp only [execOp]
      go_simp
      exact step_val
    · rintro a W hW ⟨⟨v59, h59, rfl⟩, _⟩
      go_simp
      exact step_call (WO.out W hW 14 (by omega) p14 P14.out)
    · rintro a W hW ⟨h13, _⟩
      replace h13 : a.tmps[13]? = some (.func (.func 53) #[] #[.pointer (some ⟨w.heap.size + 1 + 1, 0, none⟩)]) := h13
      simp only [execOp]
      go_simp
      exact step_val
    · rintro a W hW ⟨⟨v61, h61, rfl⟩, _⟩
      go_simp
      exact step_call (WO.out W hW 18 (by omega) p18 P18.out)
    · rintro a W hW ⟨h7, _⟩
      replace h7 : a.tmps[7]? = some (.pointer (some ⟨w.heap.size + 1 + 1, 0, none⟩)) := h7
      have v0 := cell_of (v := .slice (some ⟨b, off, none⟩) len cap) 0 (kept hW V.out) rfl
      simp only [execOp]
      go_simp
      exact step_val
    · rintro a W hW ⟨h12, _⟩
      replace h12 : a.tmps[12]? = some (.int .i64 n) := h12
      simp only [execOp]
      go_simp
      exact step_val
    · rintro a W hW ⟨⟨v63, h63, rfl⟩, ⟨v64, h64, rfl⟩, _⟩
      simp only [execOp]
      go_simp
      rw [HAD.out]
      exact step_val
    · rintro a W hW ⟨⟨v65, h65, rfl⟩, _⟩
      go_simp
      exact step_fresh (clone_any (SL.out W hW) (by omega)) hW.size
    · rintro a W hW ⟨⟨v45, h45, rfl⟩, ⟨v47, h47, rfl⟩, ⟨v49, h49, rfl⟩, ⟨v51, h51, rfl⟩, ⟨v55, h55, rfl⟩, ⟨v58, h58, rfl⟩, ⟨v60, h60, rfl⟩, ⟨v62, h62, rfl⟩, ⟨v66, h66, k66⟩, _⟩
      obtain ⟨a1, c1, rfl, ho⟩ := k66
      simp only [execOp]
      go_simp
      exact ⟨⟨a1, c1, rfl, ho⟩, Below.refl _ _⟩
    · rintro a W hW _
      simp only [execOp]
      go_simp
      exact step_new hW.size
  · intro W hW
    simp only [initOf, lastOf]
    with_reducible refine grow_is ?_
    with_reducible refine grow_is ?_
    with_reducible refine grow_is ?_
    with_reducible refine grow_is ?_
    with_reducible refine grow_is ?_
    with_reducible refine grow_is ?_
    with_reducible refine grow_is ?_
    with_reducible refine grow_is ?_
    with_reducible refine grow_is ?_
    with_reducible refine grow_is ?_
    with_reducible refine grow_is ?_
    with_reducible refine grow_is ?_
    with_reducible refine grow_is ?_
    with_reducible refine grow_is ?_
    with_reducible refine grow_is ?_
    with_reducible refine grow_is ?_
    with_reducible refine grow_is ?_
    with_reducible refine grow_is ?_
    with_reducible refine grow_is ?_
    with_reducible refine grow_is ?_
    with_reducible refine grow_is ?_
    with_reducible refine grow_is ?_
    with_reducible refine grow_any ?_
    intro v66 k66
    with_reducible refine grow_any ?_
    intro v67 k67
    with_reducible refine grow_any ?_
    intro v14 k14
    with_reducible refine grow_end ?_
    clear WO FO C12 C13 SL
    go_simp
    obtain ⟨b14, e14, hb14, hc14⟩ := k14
    subst e14
    obtain ⟨a1, c1, e67, ho⟩ := k67
    subst e67
    have M := Lib.hid hc14
    clear k66 hc14
    have m0 := cell_of (v := .int .u16 0) 0 M.out rfl
    have mf0 := free_of 0 M.out
    have m1 := cell_of (v := .int .u16 0) 1 M.out rfl
    have mf1 := free_of 1 M.out
    have m2 := cell_of (v := .int .u32 0) 2 M.out rfl
    have mf2 := free_of 2 M.out
    have m3 := cell_of (v := .int .u32 0) 3 M.out rfl
    have mf3 := free_of 3 M.out
    have m4 := cell_of (v := .int .u8 0) 4 M.out rfl
    have mf4 := free_of 4 M.out
    have m5 := cell_of (v := .int .u8 0) 5 M.out rfl
    have mf5 := free_of 5 M.out
    have m6 := cell_of (v := .int .u16 0) 6 M.out rfl
    have mf6 := free_of 6 M.out
    have m7 := cell_of (v := .int .u16 0) 7 M.out rfl
    have mf7 := free_of 7 M.out
    have m8 := cell_of (v := .slice none 0 0) 8 M.out rfl
    have mf8 := free_of 8 M.out
    go_wp2_with fail
    have NB : Hid ((((((((((W.setCell ⟨b14, 0, none⟩ (.int .u16 p0)).setCell ⟨b14, 1, none⟩ (.int .u16 p2)).setCell ⟨b14, 2, none⟩ (.int .u32 p4)).setCell ⟨b14, 3, none⟩ (.int .u32 p8)).setCell ⟨b14, 4, none⟩ (.int .u8 (x12 % 16))).setCell ⟨b14, 5, none⟩ (.int .u8 x13)).setCell ⟨b14, 6, none⟩ (.int .u16 p14)).setCell ⟨b14, 7, none⟩ (.int .u16 p18)).setCell ⟨b14, 8, none⟩ (.slice a1 (n - 20) c1)).heap[b14]? = some (.cells #[.int .u16 p0, .int .u16 p2, .int .u32 p4, .int .u32 p8, .int .u8 (x12 % 16), .int .u8 x13, .int .u16 p14, .int .u16 p18, .slice a1 (n - 20) c1] 28 (0, 0))) := Lib.hid (by have := (heap_setCell (i := 8) (u := .slice a1 (n - 20) c1) (heap_setCell (i := 7) (u := .int .u16 p18) (heap_setCell (i := 6) (u := .int .u16 p14) (heap_setCell (i := 5) (u := .int .u8 x13) (heap_setCell (i := 4) (u := .int .u8 (x12 % 16)) (heap_setCell (i := 3) (u := .int .u32 p8) (heap_setCell (i := 2) (u := .int .u32 p4) (heap_setCell (i := 1) (u := .int .u16 p2) (heap_setCell (i := 0) (u := .int .u16 p0) M.out))))))))); simpa using this)
    have OT : Hid (Own8 w1.heap.size (((((((((W.setCell ⟨b14, 0, none⟩ (.int .u16 p0)).setCell ⟨b14, 1, none⟩ (.int .u16 p2)).setCell ⟨b14, 2, none⟩ (.int .u32 p4)).setCell ⟨b14, 3, none⟩ (.int .u32 p8)).setCell ⟨b14, 4, none⟩ (.int .u8 (x12 % 16))).setCell ⟨b14, 5, none⟩ (.int .u8 x13)).setCell ⟨b14, 6, none⟩ (.int .u16 p14)).setCell ⟨b14, 7, none⟩ (.int .u16 p18)).setCell ⟨b14, 8, none⟩ (.slice a1 (n - 20) c1)) a1 (n - 20) c1 ((zs.take n).drop 20)) := Lib.hid ((((((((((ho.past M.out (by decide)).past (heap_setCell (i := 0) (u := .int .u16 p0) M.out) (by decide)).past (heap_setCell (i := 1) (u := .int .u16 p2) (heap_setCell (i := 0) (u := .int .u16 p0) M.out)) (by decide)).past (heap_setCell (i := 2) (u := .int .u32 p4) (heap_setCell (i := 1) (u := .int .u16 p2) (heap_setCell (i := 0) (u := .int .u16 p0) M.out))) (by decide)).past (heap_setCell (i := 3) (u := .int .u32 p8) (heap_setCell (i := 2) (u := .int .u32 p4) (heap_setCell (i := 1) (u := .int .u16 p2) (heap_setCell (i := 0) (u := .int .u16 p0) M.out)))) (by decide)).past (heap_setCell (i := 4) (u := .int .u8 (x12 % 16)) (heap_setCell (i := 3) (u := .int .u32 p8) (heap_setCell (i := 2) (u := .int .u32 p4) (heap_setCell (i := 1) (u := .int .u16 p2) (heap_setCell (i := 0) (u := .int .u16 p0) M.out))))) (by decide)).past (heap_setCell (i := 5) (u := .int .u8 x13) (heap_setCell (i := 4) (u := .int .u8 (x12 % 16)) (heap_setCell (i := 3) (u := .int .u32 p8) (heap_setCell (i := 2) (u := .int .u32 p4) (heap_setCell (i := 1) (u := .int .u16 p2) (heap_setCell (i := 0) (u := .int .u16 p0) M.out)))))) (by decide)).past (heap_setCell (i := 6) (u := .int .u16 p14) (heap_setCell (i := 5) (u := .int .u8 x13) (heap_setCell (i := 4) (u := .int .u8 (x12 % 16)) (heap_setCell (i := 3) (u := .int .u32 p8) (heap_setCell (i := 2) (u := .int .u32 p4) (heap_setCell (i := 1) (u := .int .u16 p2) (heap_setCell (i := 0) (u := .int .u16 p0) M.out))))))) (by decide)).past (heap_setCell (i := 7) (u := .int .u16 p18) (heap_setCell (i := 6) (u := .int .u16 p14) (heap_setCell (i := 5) (u := .int .u8 x13) (heap_setCell (i := 4) (u := .int .u8 (x12 % 16)) (heap_setCell (i := 3) (u := .int .u32 p8) (heap_setCell (i := 2) (u := .int .u32 p4) (heap_setCell (i := 1) (u := .int .u16 p2) (heap_setCell (i := 0) (u := .int .u16 p0) M.out)))))))) (by decide)))
    have BT1 : Hid (Below w1.heap.size w1 (((((((((W.setCell ⟨b14, 0, none⟩ (.int .u16 p0)).setCell ⟨b14, 1, none⟩ (.int .u16 p2)).setCell ⟨b14, 2, none⟩ (.int .u32 p4)).setCell ⟨b14, 3, none⟩ (.int .u32 p8)).setCell ⟨b14, 4, none⟩ (.int .u8 (x12 % 16))).setCell ⟨b14, 5, none⟩ (.int .u8 x13)).setCell ⟨b14, 6, none⟩ (.int .u16 p14)).setCell ⟨b14, 7, none⟩ (.int .u16 p18)).setCell ⟨b14, 8, none⟩ (.slice a1 (n - 20) c1))) := Lib.hid (by
      repeat' (first | with_reducible exact hW | with_reducible refine Below.setCell ?_ ?_ _)
      all_goals (first | exact hb14 | (simp; done) | (simp; omega) | omega))
    clear m0 mf0 m1 mf1 m2 mf2 m3 mf3 m4 mf4 m5 mf5 m6 mf6 m7 mf7 m8 mf8
    obtain ⟨T, hT⟩ : ∃ T, (((((((((W.setCell ⟨b14, 0, none⟩ (.int .u16 p0)).setCell ⟨b14, 1, none⟩ (.int .u16 p2)).setCell ⟨b14, 2, none⟩ (.int .u32 p4)).setCell ⟨b14, 3, none⟩ (.int .u32 p8)).setCell ⟨b14, 4, none⟩ (.int .u8 (x12 % 16))).setCell ⟨b14, 5, none⟩ (.int .u8 x13)).setCell ⟨b14, 6, none⟩ (.int .u16 p14)).setCell ⟨b14, 7, none⟩ (.int .u16 p18)).setCell ⟨b14, 8, none⟩ (.slice a1 (n - 20) c1)) = T := ⟨_, rfl⟩
    rw [hT] at NB OT BT1 ⊢
    have NT := NB
    have VT := Lib.hid (kept BT1.out V.out)
    have ZT := Lib.hid (kept BT1.out Z.out)
    have ZB1 := lt_of_heap Z.out
    have BT := Lib.hid (B1.out.trans (BT1.out.mono B1.out.size))
    have hTs := BT1.out.size
    clear hT NB ho
    obtain ⟨adn, hadn⟩ : ∃ ad, (if cap = n then some ⟨b, off, none⟩ else some ⟨b, off + n, none⟩ : Option Addr) = ad := ⟨_, rfl⟩
    have HADN := Lib.hid hadn
    clear hadn
    have SLN : Hid (∀ W2, Below T.heap.size T W2 → Row8 W2 adn (len - n) (cap - n) (zs.drop n)) := fun W2 hW2 => by rw [← HADN.out]; exact ((RB.out T BT1.out).below hW2).tail (by omega)
    clear RB
    refine region_tails_lit 5 [[(14, none)], [(7, none)], [(12, none)], [(69, some 1), (70, some 2)], [(71, some 3)]]
      [Is (.agg #[.int .u16 p0, .int .u16 p2, .int .u32 p4, .int .u32 p8, .int .u8 (x12 % 16), .int .u8 x13, .int .u16 p14, .int .u16 p18, .slice a1 (n - 20) c1]), Is (.slice (some ⟨b, off, none⟩) len cap), Is (.int .i64 n), Is (.slice adn (len - n) (cap - n)), Fresh8 T.heap.size (len - n) (zs.drop n)]
      (by kernel_rfl) (List.cons_ne_nil _ _) (by kernel_rfl) (by kernel_rfl) rfl ⟨stab_is _, stab_is _, stab_is _, stab_is _, stab_fresh _ _ _, trivial⟩ ?_ ?_
    · refine ⟨step_plain rfl ?_, step_plain rfl ?_, step_plain rfl ?_, step_plain rfl ?_, step_plain rfl ?_, trivial⟩
      · rintro a W2 hW2 ⟨h14, _⟩
        replace h14 : a.tmps[14]? = some (.pointer (some ⟨b14, 0, none⟩)) := h14
        have u0 := cell_of (v := .int .u16 p0) 0 (kept hW2 NT.out) rfl
        have u1 := cell_of (v := .int .u16 p2) 1 (kept hW2 NT.out) rfl
        have u2 := cell_of (v := .int .u32 p4) 2 (kept hW2 NT.out) rfl
        have u3 := cell_of (v := .int .u32 p8) 3 (kept hW2 NT.out) rfl
        have u4 := cell_of (v := .int .u8 (x12 % 16)) 4 (kept hW2 NT.out) rfl
        have u5 := cell_of (v := .int .u8 x13) 5 (kept hW2 NT.out) rfl
        have u6 := cell_of (v := .int .u16 p14) 6 (kept hW2 NT.out) rfl
        have u7 := cell_of (v := .int .u16 p18) 7 (kept hW2 NT.out) rfl
        have u8 := cell_of (v := .slice a1 (n - 20) c1) 8 (kept hW2 NT.out) rfl
        simp only [execOp]
        go_simp
        exact step_val
      · rintro a W2 hW2 ⟨h7, _⟩
        replace h7 : a.tmps[7]? = some (.pointer (some ⟨w.heap.size + 1 + 1, 0, none⟩)) := h7
        have v0 := cell_of (v := .slice (some ⟨b, off, none⟩) len cap) 0 (kept hW2 VT.out) rfl
        simp only [execOp]
        go_simp
        exact step_val
      · rintro a W2 hW2 ⟨h12, _⟩
        replace h12 : a.tmps[12]? = some (.int .i64 n) := h12
        simp only [execOp]
        go_simp
        exact step_val
      · rintro a W2 hW2 ⟨⟨v69, h69, rfl⟩, ⟨v70, h70, rfl⟩, _⟩
        simp only [execOp]
        go_simp
        rw [HADN.out]
        exact step_val
      · rintro a W2 hW2 ⟨⟨v71, h71, rfl⟩, _⟩
        go_simp
        exact step_fresh (clone_any (SLN.out W2 hW2) (by omega)) hW2.size
    · intro W2 hW2
      simp only [List.take_succ_cons, List.take_zero, List.drop_succ_cons, List.drop_zero]
      with_reducible refine grow_is ?_
      with_reducible refine grow_is ?_
      with_reducible refine grow_is ?_
      with_reducible refine grow_is ?_
      with_reducible refine grow_any ?_
      intro v72 k72
      with_reducible refine grow_end ?_
      obtain ⟨a2, c2, rfl, ho2⟩ := k72
      have BW := Lib.hid (BT.out.trans (hW2.mono BT.out.size))
      have OW := Lib.hid (OT.out.keep hW2)
      have ZW := Lib.hid (kept hW2 ZT.out)
      have ZB := lt_of_heap ZT.out
      have O2 := Lib.hid ho2
      have blk := OT.out.block
      have z0 := cell_of (v := .int .u16 0) 0 ZW.out rfl
      have zf0 := free_of 0 ZW.out
      have z1 := cell_of (v := .int .u16 0) 1 ZW.out rfl
      have zf1 := free_of 1 ZW.out
      have z2 := cell_of (v := .int .u32 0) 2 ZW.out rfl
      have zf2 := free_of 2 ZW.out
      have z3 := cell_of (v := .int .u32 0) 3 ZW.out rfl
      have zf3 := free_of 3 ZW.out
      have z4 := cell_of (v := .int .u8 0) 4 ZW.out rfl
      have zf4 := free_of 4 ZW.out
      have z5 := cell_of (v := .int .u8 0) 5 ZW.out rfl
      have zf5 := free_of 5 ZW.out
      have z6 := cell_of (v := .int .u16 0) 6 ZW.out rfl
      have zf6 := free_of 6 ZW.out
      have z7 := cell_of (v := .int .u16 0) 7 ZW.out rfl
      have zf7 := free_of 7 ZW.out
      have z8 := cell_of (v := .slice none 0 0) 8 ZW.out rfl
      have zf8 := free_of 8 ZW.out
      clear hW2 ho2 Z ZT VT NT V SLN OT
      go_wp2_with fail
      refine bodyPost_ret (v := .tuple #[.agg #[.int .u16 p0, .int .u16 p2, .int .u32 p4, .int .u32 p8, .int .u8 (x12 % 16), .int .u8 x13, .int .u16 p14, .int .u16 p18, .slice a1 (n - 20) c1], .slice a2 (len - n) c2, .int .i64 0]) (by simp [results, Try.results15, go_sem, z0, z1, z2, z3, z4, z5, z6, z7, z8]) rfl ?_
      simp only [okTCP, tcells, HN.out, P0.out, P2.out, P4.out, P8.out, P14.out, P18.out, HX12.out, HX13.out]
      refine ⟨a1, c1, a2, c2, T.heap.size, rfl, ?_, ?_, BT.out.size, ?_, ?_⟩
      · repeat' (first | with_reducible exact BW.out | with_reducible refine Below.setCell ?_ ?_ _ | with_reducible refine Below.alloc ?_ ?_ _)
        all_goals (first | (simp; done) | (simp; omega) | omega)
      · exact (((((((((OW.out.other ZB1).other ZB1).other ZB1).other ZB1).other ZB1).other ZB1).other ZB1).other ZB1).other ZB1).mono B1.out.size
      · intro g hg
        rcases blk with h0 | ⟨g', h1, _, h3⟩
        · rw [h0] at hg; cases hg
        · rw [h1] at hg; cases hg; exact h3
      · exact (((((((((O2.out.other ZB).other ZB).other ZB).other ZB).other ZB).other ZB).other ZB).other ZB).other ZB)

end Go.Proofs.Ytcbjjkpjbdcakaa
