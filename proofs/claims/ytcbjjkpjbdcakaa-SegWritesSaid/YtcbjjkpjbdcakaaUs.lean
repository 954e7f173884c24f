/- The walk of the reference's ReadTCP: its refusals. -/
import Derived.Test.YtcbjjkpjbdcakaaTs
namespace Go.Proofs.Ytcbjjkpjbdcakaa
open Go.RowKit Go.Wb
set_option linter.unusedVariables false
set_option linter.unusedSimpArgs false

set_option maxRecDepth 100000 in
set_option maxHeartbeats 1000000 in
theorem rtcp_short {w : World} {a : Option Addr} {len cap : Nat} {zs : List Int} (v6 : Bool) (ss ds : List Int) (h : Row8 w a len cap zs) (h20 : len < 20) : Calls Try.prog 16 #[.bool v6, .agg (ar ss), .agg (ar ds), .slice a len cap] w (noTCP 4 w) := by
  have B0 := Lib.hid (below_four w (Obj.cells (ar ss) 22) (Obj.cells (ar ds) 22) (Obj.cells #[.int .u16 0, .int .u16 0, .int .u32 0, .int .u32 0, .int .u8 0, .int .u8 0, .int .u16 0, .int .u16 0, .slice none 0 0] 28) (Obj.cells #[.int .u16 0, .int .u16 0, .int .u32 0, .int .u32 0, .int .u8 0, .int .u8 0, .int .u16 0, .int .u16 0, .slice none 0 0] 28))
  clear h
  go_enter Try.func16, Try.ntmps16
  go_wp2_with fail
  refine bodyPost_ret (v := .tuple #[.agg #[.int .u16 0, .int .u16 0, .int .u32 0, .int .u32 0, .int .u8 0, .int .u8 0, .int .u16 0, .int .u16 0, .slice none 0 0], .slice none 0 0, .int .i64 4]) (by simp [results, Try.results16, go_sem]) rfl ⟨rfl, ?_⟩
  exact B0.out

set_option maxRecDepth 1000000 in
set_option maxHeartbeats 8000000 in
theorem rtcp_form {w : World} {b off len cap : Nat} {zs : List Int} (v6 : Bool) (ss ds : List Int) (h : Row8 w (some ⟨b, off, none⟩) len cap zs) (h20 : 20 ≤ len) (hl : len ≤ 1099511627776) (hs : ss.length = 16) (hd : ds.length = 16) (bs : ∀ x ∈ ss, 0 ≤ x ∧ x ≤ 255) (bd : ∀ x ∈ ds, 0 ≤ x ∧ x ≤ 255) (c1 : tlen zs < 20) :
    Calls Try.prog 16 #[.bool v6, .agg (ar ss), .agg (ar ds), .slice (some ⟨b, off, none⟩) len cap] w (noTCP 5 w) := by
  have HT := heap_four w (Obj.cells (ar ss) 22) (Obj.cells (ar ds) 22) (Obj.cells #[.int .u16 0, .int .u16 0, .int .u32 0, .int .u32 0, .int .u8 0, .int .u8 0, .int .u16 0, .int .u16 0, .slice none 0 0] 28) (Obj.cells #[.int .u16 0, .int .u16 0, .int .u32 0, .int .u32 0, .int .u8 0, .int .u8 0, .int .u16 0, .int .u16 0, .slice none 0 0] 28)
  have X := Lib.hid HT.1
  have Y := Lib.hid HT.2.1
  have Z := Lib.hid HT.2.2.1
  have N := Lib.hid HT.2.2.2
  have B0 := Lib.hid (below_four w (Obj.cells (ar ss) 22) (Obj.cells (ar ds) 22) (Obj.cells #[.int .u16 0, .int .u16 0, .int .u32 0, .int .u32 0, .int .u8 0, .int .u8 0, .int .u16 0, .int .u16 0, .slice none 0 0] 28) (Obj.cells #[.int .u16 0, .int .u16 0, .int .u32 0, .int .u32 0, .int .u8 0, .int .u8 0, .int .u16 0, .int .u16 0, .slice none 0 0] 28))
  have H := Lib.hid h
  have HS := Lib.hid hs
  have HD := Lib.hid hd
  have hcap := h.cap_le
  have hle := h.le
  have cell12 : ((((w.alloc (Obj.cells (ar ss) 22)).alloc (Obj.cells (ar ds) 22)).alloc (Obj.cells #[.int .u16 0, .int .u16 0, .int .u32 0, .int .u32 0, .int .u8 0, .int .u8 0, .int .u16 0, .int .u16 0, .slice none 0 0] 28)).alloc (Obj.cells #[.int .u16 0, .int .u16 0, .int .u32 0, .int .u32 0, .int .u8 0, .int .u8 0, .int .u16 0, .int .u16 0, .slice none 0 0] 28)).cell? ⟨b, off + 12, none⟩ = some (.int .u8 (zs.getD 12 0)) := (h.below B0.out).at (by omega)
  have r12 := h.getD 12
  have SEAL := Lib.hid (fun W (hb : Below w.heap.size w W) => right_any v6 ss ds 6 (h.below hb) hl hs hd bs bd (by omega) (by omega))
  have TL := Lib.hid (tlen_eq r12.1)
  obtain ⟨n, hn⟩ : ∃ n, tlen zs = n := ⟨_, rfl⟩
  rw [hn] at TL c1
  have HN := Lib.hid hn
  obtain ⟨x12, hx12⟩ : ∃ x, zs.getD 12 0 = x := ⟨_, rfl⟩
  rw [hx12] at cell12 r12 TL
  have HX12 := Lib.hid hx12
  obtain ⟨r120, r121⟩ := r12
  have i12 : (12 : Int) < (len : Int) := by omega
  have tl := TL.out
  obtain ⟨m, rw16⟩ : ∃ m : Nat, x12 / 16 = (m : Int) := ⟨(x12 / 16).toNat, by omega⟩
  have rwt : 4 * (m : Int) = (n : Int) := by omega
  have m15 : (m : Int) ≤ 15 := by omega
  have q1 : (m : Int) < 5 := by omega
  clear c1
  clear tl
  clear HT h hs hd bs bd hn hx12 TL
  go_enter Try.func16, Try.ntmps16
  go_wp2_with fail
  refine bodyPost_ret (v := .tuple #[.agg #[.int .u16 0, .int .u16 0, .int .u32 0, .int .u32 0, .int .u8 0, .int .u8 0, .int .u16 0, .int .u16 0, .slice none 0 0], .slice none 0 0, .int .i64 5]) (by simp [results, Try.results16, go_sem]) rfl ⟨rfl, ?_⟩
  first | with_reducible exact B0.out | ((repeat' (first | with_reducible exact B0.out | with_reducible refine Below.setCell ?_ ?_ _ | with_reducible refine Below.alloc ?_ ?_ _)); all_goals (first | (simp; done) | (simp; omega) | omega))

set_option maxRecDepth 1000000 in
set_option maxHeartbeats 8000000 in
theorem rtcp_short2 {w : World} {b off len cap : Nat} {zs : List Int} (v6 : Bool) (ss ds : List Int) (h : Row8 w (some ⟨b, off, none⟩) len cap zs) (h20 : 20 ≤ len) (hl : len ≤ 1099511627776) (hs : ss.length = 16) (hd : ds.length = 16) (bs : ∀ x ∈ ss, 0 ≤ x ∧ x ≤ 255) (bd : ∀ x ∈ ds, 0 ≤ x ∧ x ≤ 255) (c1 : 20 ≤ tlen zs) (c2 : len < tlen zs) :
    Calls Try.prog 16 #[.bool v6, .agg (ar ss), .agg (ar ds), .slice (some ⟨b, off, none⟩) len cap] w (noTCP 4 w) := by
  have HT := heap_four w (Obj.cells (ar ss) 22) (Obj.cells (ar ds) 22) (Obj.cells #[.int .u16 0, .int .u16 0, .int .u32 0, .int .u32 0, .int .u8 0, .int .u8 0, .int .u16 0, .int .u16 0, .slice none 0 0] 28) (Obj.cells #[.int .u16 0, .int .u16 0, .int .u32 0, .int .u32 0, .int .u8 0, .int .u8 0, .int .u16 0, .int .u16 0, .slice none 0 0] 28)
  have X := Lib.hid HT.1
  have Y := Lib.hid HT.2.1
  have Z := Lib.hid HT.2.2.1
  have N := Lib.hid HT.2.2.2
  have B0 := Lib.hid (below_four w (Obj.cells (ar ss) 22) (Obj.cells (ar ds) 22) (Obj.cells #[.int .u16 0, .int .u16 0, .int .u32 0, .int .u32 0, .int .u8 0, .int .u8 0, .int .u16 0, .int .u16 0, .slice none 0 0] 28) (Obj.cells #[.int .u16 0, .int .u16 0, .int .u32 0, .int .u32 0, .int .u8 0, .int .u8 0, .int .u16 0, .int .u16 0, .slice none 0 0] 28))
  have H := Lib.hid h
  have HS := Lib.hid hs
  have HD := Lib.hid hd
  have hcap := h.cap_le
  have hle := h.le
  have cell12 : ((((w.alloc (Obj.cells (ar ss) 22)).alloc (Obj.cells (ar ds) 22)).alloc (Obj.cells #[.int .u16 0, .int .u16 0, .int .u32 0, .int .u32 0, .int .u8 0, .int .u8 0, .int .u16 0, .int .u16 0, .slice none 0 0] 28)).alloc (Obj.cells #[.int .u16 0, .int .u16 0, .int .u32 0, .int .u32 0, .int .u8 0, .int .u8 0, .int .u16 0, .int .u16 0, .slice none 0 0] 28)).cell? ⟨b, off + 12, none⟩ = some (.int .u8 (zs.getD 12 0)) := (h.below B0.out).at (by omega)
  have r12 := h.getD 12
  have SEAL := Lib.hid (fun W (hb : Below w.heap.size w W) => right_any v6 ss ds 6 (h.below hb) hl hs hd bs bd (by omega) (by omega))
  have TL := Lib.hid (tlen_eq r12.1)
  obtain ⟨n, hn⟩ : ∃ n, tlen zs = n := ⟨_, rfl⟩
  rw [hn] at TL c1 c2
  have HN := Lib.hid hn
  obtain ⟨x12, hx12⟩ : ∃ x, zs.getD 12 0 = x := ⟨_, rfl⟩
  rw [hx12] at cell12 r12 TL
  have HX12 := Lib.hid hx12
  obtain ⟨r120, r121⟩ := r12
  have i12 : (12 : Int) < (len : Int) := by omega
  have tl := TL.out
  obtain ⟨m, rw16⟩ : ∃ m : Nat, x12 / 16 = (m : Int) := ⟨(x12 / 16).toNat, by omega⟩
  have rwt : 4 * (m : Int) = (n : Int) := by omega
  have m15 : (m : Int) ≤ 15 := by omega
  have q1 : (5 : Int) ≤ (m : Int) := by omega
  have q2 : (len : Int) < (n : Int) := by omega
  clear c1 c2
  clear tl
  clear HT h hs hd bs bd hn hx12 TL
  go_enter Try.func16, Try.ntmps16
  go_wp2_with fail
  refine bodyPost_ret (v := .tuple #[.agg #[.int .u16 0, .int .u16 0, .int .u32 0, .int .u32 0, .int .u8 0, .int .u8 0, .int .u16 0, .int .u16 0, .slice none 0 0], .slice none 0 0, .int .i64 4]) (by simp [results, Try.results16, go_sem]) rfl ⟨rfl, ?_⟩
  first | with_reducible exact B0.out | ((repeat' (first | with_reducible exact B0.out | with_reducible refine Below.setCell ?_ ?_ _ | with_reducible refine Below.alloc ?_ ?_ _)); all_goals (first | (simp; done) | (simp; omega) | omega))

set_option maxRecDepth 1000000 in
set_option maxHeartbeats 8000000 in
theorem rtcp_sum {w : World} {b off len cap : Nat} {zs : List Int} (v6 : Bool) (ss ds : List Int) (h : Row8 w (some ⟨b, off, none⟩) len cap zs) (h20 : 20 ≤ len) (hl : len ≤ 1099511627776) (hs : ss.length = 16) (hd : ds.length = 16) (bs : ∀ x ∈ ss, 0 ≤ x ∧ x ≤ 255) (bd : ∀ x ∈ ds, 0 ≤ x ∧ x ≤ 255) (c1 : 20 ≤ tlen zs) (c2 : tlen zs ≤ len) (cs : ck v6 ss ds 6 zs ≠ 0) :
    Calls Try.prog 16 #[.bool v6, .agg (ar ss), .agg (ar ds), .slice (some ⟨b, off, none⟩) len cap] w (noTCP 6 w) := by
  have HT := heap_four w (Obj.cells (ar ss) 22) (Obj.cells (ar ds) 22) (Obj.cells #[.int .u16 0, .int .u16 0, .int .u32 0, .int .u32 0, .int .u8 0, .int .u8 0, .int .u16 0, .int .u16 0, .slice none 0 0] 28) (Obj.cells #[.int .u16 0, .int .u16 0, .int .u32 0, .int .u32 0, .int .u8 0, .int .u8 0, .int .u16 0, .int .u16 0, .slice none 0 0] 28)
  have X := Lib.hid HT.1
  have Y := Lib.hid HT.2.1
  have Z := Lib.hid HT.2.2.1
  have N := Lib.hid HT.2.2.2
  have B0 := Lib.hid (below_four w (Obj.cells (ar ss) 22) (Obj.cells (ar ds) 22) (Obj.cells #[.int .u16 0, .int .u16 0, .int .u32 0, .int .u32 0, .int .u8 0, .int .u8 0, .int .u16 0, .int .u16 0, .slice none 0 0] 28) (Obj.cells #[.int .u16 0, .int .u16 0, .int .u32 0, .int .u32 0, .int .u8 0, .int .u8 0, .int .u16 0, .int .u16 0, .slice none 0 0] 28))
  have H := Lib.hid h
  have HS := Lib.hid hs
  have HD := Lib.hid hd
  have hcap := h.cap_le
  have hle := h.le
  have cell12 : ((((w.alloc (Obj.cells (ar ss) 22)).alloc (Obj.cells (ar ds) 22)).alloc (Obj.cells #[.int .u16 0, .int .u16 0, .int .u32 0, .int .u32 0, .int .u8 0, .int .u8 0, .int .u16 0, .int .u16 0, .slice none 0 0] 28)).alloc (Obj.cells #[.int .u16 0, .int .u16 0, .int .u32 0, .int .u32 0, .int .u8 0, .int .u8 0, .int .u16 0, .int .u16 0, .slice none 0 0] 28)).cell? ⟨b, off + 12, none⟩ = some (.int .u8 (zs.getD 12 0)) := (h.below B0.out).at (by omega)
  have r12 := h.getD 12
  have SEAL := Lib.hid (fun W (hb : Below w.heap.size w W) => right_any v6 ss ds 6 (h.below hb) hl hs hd bs bd (by omega) (by omega))
  have TL := Lib.hid (tlen_eq r12.1)
  obtain ⟨n, hn⟩ : ∃ n, tlen zs = n := ⟨_, rfl⟩
  rw [hn] at TL c1 c2
  have HN := Lib.hid hn
  obtain ⟨x12, hx12⟩ : ∃ x, zs.getD 12 0 = x := ⟨_, rfl⟩
  rw [hx12] at cell12 r12 TL
  have HX12 := Lib.hid hx12
  obtain ⟨r120, r121⟩ := r12
  have i12 : (12 : Int) < (len : Int) := by omega
  have tl := TL.out
  obtain ⟨m, rw16⟩ : ∃ m : Nat, x12 / 16 = (m : Int) := ⟨(x12 / 16).toNat, by omega⟩
  have rwt : 4 * (m : Int) = (n : Int) := by omega
  have m15 : (m : Int) ≤ 15 := by omega
  obtain ⟨ck0, hck⟩ : ∃ x, ck v6 ss ds 6 zs = x := ⟨_, rfl⟩
  rw [hck] at SEAL cs
  have csb : (ck0 != 0) = true := by simp; omega
  have q1 : (5 : Int) ≤ (m : Int) := by omega
  have q2 : (n : Int) ≤ (len : Int) := by omega
  clear c1 c2 cs hck
  clear tl
  clear HT h hs hd bs bd hn hx12 TL
  go_enter Try.func16, Try.ntmps16
  go_wp2_with (first | (refine arms_load rfl _ rfl rfl X.out HS.out ?_) | (refine arms_load rfl _ rfl rfl Y.out HD.out ?_))
  refine (SEAL.out _ B0.out).mono ?_
  rintro e w1 ⟨rfl, hb⟩
  have B1 := Lib.hid (B0.out.trans (hb.mono B0.out.size))
  have Z' := Lib.hid (kept hb Z.out)
  have N' := Lib.hid (kept hb N.out)
  clear Z N
  have Z := Z'
  clear Z'
  have N := N'
  clear N'
  clear hb B0 X Y cell12
  have n0 := cell_of (v := .int .u16 0) 0 N.out rfl
  have nf0 := free_of 0 N.out
  have n1 := cell_of (v := .int .u16 0) 1 N.out rfl
  have nf1 := free_of 1 N.out
  have n2 := cell_of (v := .int .u32 0) 2 N.out rfl
  have nf2 := free_of 2 N.out
  have n3 := cell_of (v := .int .u32 0) 3 N.out rfl
  have nf3 := free_of 3 N.out
  have n4 := cell_of (v := .int .u8 0) 4 N.out rfl
  have nf4 := free_of 4 N.out
  have n5 := cell_of (v := .int .u8 0) 5 N.out rfl
  have nf5 := free_of 5 N.out
  have n6 := cell_of (v := .int .u16 0) 6 N.out rfl
  have nf6 := free_of 6 N.out
  have n7 := cell_of (v := .int .u16 0) 7 N.out rfl
  have nf7 := free_of 7 N.out
  have n8 := cell_of (v := .slice none 0 0) 8 N.out rfl
  have nf8 := free_of 8 N.out
  have z0 := cell_of (v := .int .u16 0) 0 Z.out rfl
  have zf0 := free_of 0 Z.out
  have z1 := cell_of (v := .int .u16 0) 1 Z.out rfl
  have zf1 := free_of 1 Z.out
  have z2 := cell_of (v := .int .u32 0) 2 Z.out rfl
  have zf2 := free_of 2 Z.out
  have z3 := cell_of (v := .int .u32 0) 3 Z.out rfl
  have zf3 := free_of 3 Z.out
  have z4 := cell_of (v := .int .u8 0) 4 Z.out rfl
  have zf4 := free_of 4 Z.out
  have z5 := cell_of (v := .int .u8 0) 5 Z.out rfl
  have zf5 := free_of 5 Z.out
  have z6 := cell_of (v := .int .u16 0) 6 Z.out rfl
  have zf6 := free_of 6 Z.out
  have z7 := cell_of (v := .int .u16 0) 7 Z.out rfl
  have zf7 := free_of 7 Z.out
  have z8 := cell_of (v := .slice none 0 0) 8 Z.out rfl
  have zf8 := free_of 8 Z.out
  go_wp2_with fail
  refine bodyPost_ret (v := .tuple #[.agg #[.int .u16 0, .int .u16 0, .int .u32 0, .int .u32 0, .int .u8 0, .int .u8 0, .int .u16 0, .int .u16 0, .slice none 0 0], .slice none 0 0, .int .i64 6]) (by simp [results, Try.results16, go_sem, z0, z1, z2, z3, z4, z5, z6, z7, z8]) rfl ⟨rfl, ?_⟩
  first | with_reducible exact B1.out | ((repeat' (first | with_reducible exact B1.out | with_reducible refine Below.setCell ?_ ?_ _ | with_reducible refine Below.alloc ?_ ?_ _)); all_goals (first | (simp; done) | (simp; omega) | omega))

end Go.Proofs.Ytcbjjkpjbdcakaa
