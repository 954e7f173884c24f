/- The walk of seg.ReadTCP. -/
import Derived.Test.YtcbjjkpjbdcakaaUq
namespace Go.Proofs.Ytcbjjkpjbdcakaa
open Go.RowKit Go.Wb
set_option linter.unusedVariables false
set_option linter.unusedSimpArgs false

theorem heap_five (w : World) (o1 o2 o3 o4 o5 : Obj) : (((((w.alloc o1).alloc o2).alloc o3).alloc o4).alloc o5).heap[w.heap.size]? = some o1 ∧ (((((w.alloc o1).alloc o2).alloc o3).alloc o4).alloc o5).heap[w.heap.size + 1]? = some o2 ∧ (((((w.alloc o1).alloc o2).alloc o3).alloc o4).alloc o5).heap[w.heap.size + 1 + 1]? = some o3 ∧ (((((w.alloc o1).alloc o2).alloc o3).alloc o4).alloc o5).heap[w.heap.size + 1 + 1 + 1]? = some o4 ∧ (((((w.alloc o1).alloc o2).alloc o3).alloc o4).alloc o5).heap[w.heap.size + 1 + 1 + 1 + 1]? = some o5 :=
  ⟨hold_alloc (heap_four w o1 o2 o3 o4).1, hold_alloc (heap_four w o1 o2 o3 o4).2.1, hold_alloc (heap_four w o1 o2 o3 o4).2.2.1, hold_alloc (heap_four w o1 o2 o3 o4).2.2.2, by have := heap_alloc_new ((((w.alloc o1).alloc o2).alloc o3).alloc o4) o5; rwa [World.size_alloc, World.size_alloc, World.size_alloc, World.size_alloc] at this⟩
theorem below_five (w : World) (o1 o2 o3 o4 o5 : Obj) : Below w.heap.size w (((((w.alloc o1).alloc o2).alloc o3).alloc o4).alloc o5) := (below_four w o1 o2 o3 o4).alloc (by simp; omega) o5

/-- How long the header of a segment is. -/
def tlen (zs : List Int) : Nat := (zs.getD 12 0 / 16 * 4).toNat
def tcells (zs : List Int) (opt : Value) : Array Value := #[.int .u16 (w16 zs 0), .int .u16 (w16 zs 2), .int .u32 (w32 zs 4), .int .u32 (w32 zs 8), .int .u8 (zs.getD 12 0 % 16), .int .u8 (zs.getD 13 0), .int .u16 (w16 zs 14), .int .u16 (w16 zs 18), opt]
def noTCP (err : Int) (w : World) (e : Ending) (w' : World) : Prop := e = .returned (.tuple #[.agg #[.int .u16 0, .int .u16 0, .int .u32 0, .int .u32 0, .int .u8 0, .int .u8 0, .int .u16 0, .int .u16 0, .slice none 0 0], .slice none 0 0, .int .i64 err]) ∧ Below w.heap.size w w'
def okTCP (len : Nat) (zs : List Int) (w : World) (e : Ending) (w' : World) : Prop := ∃ a1 c1 a2 c2 B1, e = .returned (.tuple #[.agg (tcells zs (.slice a1 (tlen zs - 20) c1)), .slice a2 (len - tlen zs) c2, .int .i64 0]) ∧ Below w.heap.size w w' ∧
  Own8 w.heap.size w' a1 (tlen zs - 20) c1 ((zs.take (tlen zs)).drop 20) ∧ w.heap.size ≤ B1 ∧ (∀ g, (Value.slice a1 (tlen zs - 20) c1).ownBlock = some g → g < B1) ∧ Own8 B1 w' a2 (len - tlen zs) c2 (zs.drop (tlen zs))

/-- The header's value, its options new bytes. -/
def TcpK (base n : Nat) (zs : List Int) (p0 p2 p4 p8 r f p14 p18 : Int) : Kind := fun v w => ∃ a1 c1, v = .agg #[.int .u16 p0, .int .u16 p2, .int .u32 p4, .int .u32 p8, .int .u8 r, .int .u8 f, .int .u16 p14, .int .u16 p18, .slice a1 n c1] ∧ Own8 base w a1 n c1 zs
theorem stab_tcp (base n : Nat) (zs : List Int) (p0 p2 p4 p8 r f p14 p18 : Int) : Stab (TcpK base n zs p0 p2 p4 p8 r f p14 p18) := fun _ _ _ ⟨a, c, h1, h2⟩ hb => ⟨a, c, h1, h2.keep hb⟩

def TcpNew (base : Nat) : Kind := NewBlk base #[.int .u16 0, .int .u16 0, .int .u32 0, .int .u32 0, .int .u8 0, .int .u8 0, .int .u16 0, .int .u16 0, .slice none 0 0] 28
theorem stab_tnew (base : Nat) : Stab (TcpNew base) := stab_new _ _ _
theorem and15 (z : Int) (h0 : 0 ≤ z) (h1 : z ≤ 255) : bits .and .u8 z 15 = z % 16 := by
  have h : z < 256 := by omega
  go_bits2

theorem tlen_eq {zs : List Int} (h : 0 ≤ zs.getD 12 0) : (tlen zs : Int) = zs.getD 12 0 / 16 * 4 := by unfold tlen; omega

set_option maxRecDepth 100000 in
set_option maxHeartbeats 1000000 in
theorem tcp_short {w : World} {a : Option Addr} {len cap : Nat} {zs : List Int} (v6 : Bool) (ss ds : List Int) (h : Row8 w a len cap zs) (h20 : len < 20) : Calls Try.prog 15 #[.bool v6, .agg (ar ss), .agg (ar ds), .slice a len cap] w (noTCP 4 w) := by
  have B0 := Lib.hid (below_five w (Obj.cells (ar ss) 22) (Obj.cells (ar ds) 22) (Obj.cells #[.slice a len cap] 23) (Obj.cells #[.int .u16 0, .int .u16 0, .int .u32 0, .int .u32 0, .int .u8 0, .int .u8 0, .int .u16 0, .int .u16 0, .slice none 0 0] 28) (Obj.cells #[.int .u16 0, .int .u16 0, .int .u32 0, .int .u32 0, .int .u8 0, .int .u8 0, .int .u16 0, .int .u16 0, .slice none 0 0] 28))
  clear h
  go_enter Try.func15, Try.ntmps15
  go_wp2_with fail
  refine bodyPost_ret (v := .tuple #[.agg #[.int .u16 0, .int .u16 0, .int .u32 0, .int .u32 0, .int .u8 0, .int .u8 0, .int .u16 0, .int .u16 0, .slice none 0 0], .slice none 0 0, .int .i64 4]) (by simp [results, Try.results15, go_sem]) rfl ⟨rfl, ?_⟩
  exact B0.out

set_option maxRecDepth 1000000 in
set_option maxHeartbeats 8000000 in
theorem tcp_form {w : World} {b off len cap : Nat} {zs : List Int} (v6 : Bool) (ss ds : List Int) (h : Row8 w (some ⟨b, off, none⟩) len cap zs) (h20 : 20 ≤ len) (hl : len ≤ 1099511627776) (hs : ss.length = 16) (hd : ds.length = 16) (bs : ∀ x ∈ ss, 0 ≤ x ∧ x ≤ 255) (bd : ∀ x ∈ ds, 0 ≤ x ∧ x ≤ 255) (c1 : tlen zs < 20) :
    Calls Try.prog 15 #[.bool v6, .agg (ar ss), .agg (ar ds), .slice (some ⟨b, off, none⟩) len cap] w (noTCP 5 w) := by
  have HT := heap_five w (Obj.cells (ar ss) 22) (Obj.cells (ar ds) 22) (Obj.cells #[.slice (some ⟨b, off, none⟩) len cap] 23) (Obj.cells #[.int .u16 0, .int .u16 0, .int .u32 0, .int .u32 0, .int .u8 0, .int .u8 0, .int .u16 0, .int .u16 0, .slice none 0 0] 28) (Obj.cells #[.int .u16 0, .int .u16 0, .int .u32 0, .int .u32 0, .int .u8 0, .int .u8 0, .int .u16 0, .int .u16 0, .slice none 0 0] 28)
  have X := Lib.hid HT.1
  have Y := Lib.hid HT.2.1
  have V := Lib.hid HT.2.2.1
  have Z := Lib.hid HT.2.2.2.1
  have N := Lib.hid HT.2.2.2.2
  have B0 := Lib.hid (below_five w (Obj.cells (ar ss) 22) (Obj.cells (ar ds) 22) (Obj.cells #[.slice (some ⟨b, off, none⟩) len cap] 23) (Obj.cells #[.int .u16 0, .int .u16 0, .int .u32 0, .int .u32 0, .int .u8 0, .int .u8 0, .int .u16 0, .int .u16 0, .slice none 0 0] 28) (Obj.cells #[.int .u16 0, .int .u16 0, .int .u32 0, .int .u32 0, .int .u8 0, .int .u8 0, .int .u16 0, .int .u16 0, .slice none 0 0] 28))
  have H := Lib.hid h
  have HS := Lib.hid hs
  have HD := Lib.hid hd
  have hcap := h.cap_le
  have hle := h.le
  have cell12 : (((((w.alloc (Obj.cells (ar ss) 22)).alloc (Obj.cells (ar ds) 22)).alloc (Obj.cells #[.slice (some ⟨b, off, none⟩) len cap] 23)).alloc (Obj.cells #[.int .u16 0, .int .u16 0, .int .u32 0, .int .u32 0, .int .u8 0, .int .u8 0, .int .u16 0, .int .u16 0, .slice none 0 0] 28)).alloc (Obj.cells #[.int .u16 0, .int .u16 0, .int .u32 0, .int .u32 0, .int .u8 0, .int .u8 0, .int .u16 0, .int .u16 0, .slice none 0 0] 28)).cell? ⟨b, off + 12, none⟩ = some (.int .u8 (zs.getD 12 0)) := (h.below B0.out).at (by omega)
  have r12 := h.getD 12
  have SEAL := Lib.hid (fun W (hb : Below w.heap.size w W) => sealed_any v6 ss ds 6 (h.below hb) hl hs hd bs bd (by omega) (by omega))
  have TL := Lib.hid (tlen_eq r12.1)
  obtain ⟨n, hn⟩ : ∃ n, tlen zs = n := ⟨_, rfl⟩
  rw [hn] at TL c1
  have HN := Lib.hid hn
  obtain ⟨x12, hx12⟩ : ∃ x, zs.getD 12 0 = x := ⟨_, rfl⟩
  rw [hx12] at cell12 r12 TL
  have HX12 := Lib.hid hx12
  obtain ⟨r120, r121⟩ := r12
  have i12 : (12 : Int) < (len : Int) := by omega
  have q1 : (n : Int) < 20 := by omega
  clear c1
  have rwt : x12 / 16 * 4 = (n : Int) := TL.out.symm
  clear HT h hs hd bs bd hn hx12 TL
  go_enter Try.func15, Try.ntmps15
  go_wp2_with fail
  refine bodyPost_ret (v := .tuple #[.agg #[.int .u16 0, .int .u16 0, .int .u32 0, .int .u32 0, .int .u8 0, .int .u8 0, .int .u16 0, .int .u16 0, .slice none 0 0], .slice none 0 0, .int .i64 5]) (by simp [results, Try.results15, go_sem]) rfl ⟨rfl, ?_⟩
  first | with_reducible exact B0.out | ((repeat' (first | with_reducible exact B0.out | with_reducible refine Below.setCell ?_ ?_ _ | with_reducible refine Below.alloc ?_ ?_ _)); all_goals (first | (simp; done) | (simp; omega) | omega))

set_option maxRecDepth 1000000 in
set_option maxHeartbeats 8000000 in
theorem tcp_short2 {w : World} {b off len cap : Nat} {zs : List Int} (v6 : Bool) (ss ds : List Int) (h : Row8 w (some ⟨b, off, none⟩) len cap zs) (h20 : 20 ≤ len) (hl : len ≤ 1099511627776) (hs : ss.length = 16) (hd : ds.length = 16) (bs : ∀ x ∈ ss, 0 ≤ x ∧ x ≤ 255) (bd : ∀ x ∈ ds, 0 ≤ x ∧ x ≤ 255) (c1 : 20 ≤ tlen zs) (c2 : len < tlen zs) :
    Calls Try.prog 15 #[.bool v6, .agg (ar ss), .agg (ar ds), .slice (some ⟨b, off, none⟩) len cap] w (noTCP 4 w) := by
  have HT := heap_five w (Obj.cells (ar ss) 22) (Obj.cells (ar ds) 22) (Obj.cells #[.slice (some ⟨b, off, none⟩) len cap] 23) (Obj.cells #[.int .u16 0, .int .u16 0, .int .u32 0, .int .u32 0, .int .u8 0, .int .u8 0, .int .u16 0, .int .u16 0, .slice none 0 0] 28) (Obj.cells #[.int .u16 0, .int .u16 0, .int .u32 0, .int .u32 0, .int .u8 0, .int .u8 0, .int .u16 0, .int .u16 0, .slice none 0 0] 28)
  have X := Lib.hid HT.1
  have Y := Lib.hid HT.2.1
  have V := Lib.hid HT.2.2.1
  have Z := Lib.hid HT.2.2.2.1
  have N := Lib.hid HT.2.2.2.2
  have B0 := Lib.hid (below_five w (Obj.cells (ar ss) 22) (Obj.cells (ar ds) 22) (Obj.cells #[.slice (some ⟨b, off, none⟩) len cap] 23) (Obj.cells #[.int .u16 0, .int .u16 0, .int .u32 0, .int .u32 0, .int .u8 0, .int .u8 0, .int .u16 0, .int .u16 0, .slice none 0 0] 28) (Obj.cells #[.int .u16 0, .int .u16 0, .int .u32 0, .int .u32 0, .int .u8 0, .int .u8 0, .int .u16 0, .int .u16 0, .slice none 0 0] 28))
  have H := Lib.hid h
  have HS := Lib.hid hs
  have HD := Lib.hid hd
  have hcap := h.cap_le
  have hle := h.le
  have cell12 : (((((w.alloc (Obj.cells (ar ss) 22)).alloc (Obj.cells (ar ds) 22)).alloc (Obj.cells #[.slice (some ⟨b, off, none⟩) len cap] 23)).alloc (Obj.cells #[.int .u16 0, .int .u16 0, .int .u32 0, .int .u32 0, .int .u8 0, .int .u8 0, .int .u16 0, .int .u16 0, .slice none 0 0] 28)).alloc (Obj.cells #[.int .u16 0, .int .u16 0, .int .u32 0, .int .u32 0, .int .u8 0, .int .u8 0, .int .u16 0, .int .u16 0, .slice none 0 0] 28)).cell? ⟨b, off + 12, none⟩ = some (.int .u8 (zs.getD 12 0)) := (h.below B0.out).at (by omega)
  have r12 := h.getD 12
  have SEAL := Lib.hid (fun W (hb : Below w.heap.size w W) => sealed_any v6 ss ds 6 (h.below hb) hl hs hd bs bd (by omega) (by omega))
  have TL := Lib.hid (tlen_eq r12.1)
  obtain ⟨n, hn⟩ : ∃ n, tlen zs = n := ⟨_, rfl⟩
  rw [hn] at TL c1 c2
  have HN := Lib.hid hn
  obtain ⟨x12, hx12⟩ : ∃ x, zs.getD 12 0 = x := ⟨_, rfl⟩
  rw [hx12] at cell12 r12 TL
  have HX12 := Lib.hid hx12
  obtain ⟨r120, r121⟩ := r12
  have i12 : (12 : Int) < (len : Int) := by omega
  have q1 : (20 : Int) ≤ (n : Int) := by omega
  have q2 : (len : Int) < (n : Int) := by omega
  clear c1 c2
  have rwt : x12 / 16 * 4 = (n : Int) := TL.out.symm
  clear HT h hs hd bs bd hn hx12 TL
  go_enter Try.func15, Try.ntmps15
  go_wp2_with fail
  refine bodyPost_ret (v := .tuple #[.agg #[.int .u16 0, .int .u16 0, .int .u32 0, .int .u32 0, .int .u8 0, .int .u8 0, .int .u16 0, .int .u16 0, .slice none 0 0], .slice none 0 0, .int .i64 4]) (by simp [results, Try.results15, go_sem]) rfl ⟨rfl, ?_⟩
  first | with_reducible exact B0.out | ((repeat' (first | with_reducible exact B0.out | with_reducible refine Below.setCell ?_ ?_ _ | with_reducible refine Below.alloc ?_ ?_ _)); all_goals (first | (simp; done) | (simp; omega) | omega))

set_option maxRecDepth 1000000 in
set_option maxHeartbeats 8000000 in
theorem tcp_sum {w : World} {b off len cap : Nat} {zs : List Int} (v6 : Bool) (ss ds : List Int) (h : Row8 w (some ⟨b, off, none⟩) len cap zs) (h20 : 20 ≤ len) (hl : len ≤ 1099511627776) (hs : ss.length = 16) (hd : ds.length = 16) (bs : ∀ x ∈ ss, 0 ≤ x ∧ x ≤ 255) (bd : ∀ x ∈ ds, 0 ≤ x ∧ x ≤ 255) (c1 : 20 ≤ tlen zs) (c2 : tlen zs ≤ len) (cs : ck v6 ss ds 6 zs ≠ 0) :
    Calls Try.prog 15 #[.bool v6, .agg (ar ss), .agg (ar ds), .slice (some ⟨b, off, none⟩) len cap] w (noTCP 6 w) := by
  have HT := heap_five w (Obj.cells (ar ss) 22) (Obj.cells (ar ds) 22) (Obj.cells #[.slice (some ⟨b, off, none⟩) len cap] 23) (Obj.cells #[.int .u16 0, .int .u16 0, .int .u32 0, .int .u32 0, .int .u8 0, .int .u8 0, .int .u16 0, .int .u16 0, .slice none 0 0] 28) (Obj.cells #[.int .u16 0, .int .u16 0, .int .u32 0, .int .u32 0, .int .u8 0, .int .u8 0, .int .u16 0, .int .u16 0, .slice none 0 0] 28)
  have X := Lib.hid HT.1
  have Y := Lib.hid HT.2.1
  have V := Lib.hid HT.2.2.1
  have Z := Lib.hid HT.2.2.2.1
  have N := Lib.hid HT.2.2.2.2
  have B0 := Lib.hid (below_five w (Obj.cells (ar ss) 22) (Obj.cells (ar ds) 22) (Obj.cells #[.slice (some ⟨b, off, none⟩) len cap] 23) (Obj.cells #[.int .u16 0, .int .u16 0, .int .u32 0, .int .u32 0, .int .u8 0, .int .u8 0, .int .u16 0, .int .u16 0, .slice none 0 0] 28) (Obj.cells #[.int .u16 0, .int .u16 0, .int .u32 0, .int .u32 0, .int .u8 0, .int .u8 0, .int .u16 0, .int .u16 0, .slice none 0 0] 28))
  have H := Lib.hid h
  have HS := Lib.hid hs
  have HD := Lib.hid hd
  have hcap := h.cap_le
  have hle := h.le
  have cell12 : (((((w.alloc (Obj.cells (ar ss) 22)).alloc (Obj.cells (ar ds) 22)).alloc (Obj.cells #[.slice (some ⟨b, off, none⟩) len cap] 23)).alloc (Obj.cells #[.int .u16 0, .int .u16 0, .int .u32 0, .int .u32 0, .int .u8 0, .int .u8 0, .int .u16 0, .int .u16 0, .slice none 0 0] 28)).alloc (Obj.cells #[.int .u16 0, .int .u16 0, .int .u32 0, .int .u32 0, .int .u8 0, .int .u8 0, .int .u16 0, .int .u16 0, .slice none 0 0] 28)).cell? ⟨b, off + 12, none⟩ = some (.int .u8 (zs.getD 12 0)) := (h.below B0.out).at (by omega)
  have r12 := h.getD 12
  have SEAL := Lib.hid (fun W (hb : Below w.heap.size w W) => sealed_any v6 ss ds 6 (h.below hb) hl hs hd bs bd (by omega) (by omega))
  have TL := Lib.hid (tlen_eq r12.1)
  obtain ⟨n, hn⟩ : ∃ n, tlen zs = n := ⟨_, rfl⟩
  rw [hn] at TL c1 c2
  have HN := Lib.hid hn
  obtain ⟨x12, hx12⟩ : ∃ x, zs.getD 12 0 = x := ⟨_, rfl⟩
  rw [hx12] at cell12 r12 TL
  have HX12 := Lib.hid hx12
  obtain ⟨r120, r121⟩ := r12
  have i12 : (12 : Int) < (len : Int) := by omega
  obtain ⟨ck0, hck⟩ : ∃ x, ck v6 ss ds 6 zs = x := ⟨_, rfl⟩
  rw [hck] at SEAL cs
  have csb : (ck0 != 0) = true := by simp; omega
  have q1 : (20 : Int) ≤ (n : Int) := by omega
  have q2 : (n : Int) ≤ (len : Int) := by omega
  clear c1 c2 cs hck
  have rwt : x12 / 16 * 4 = (n : Int) := TL.out.symm
  clear HT h hs hd bs bd hn hx12 TL
  go_enter Try.func15, Try.ntmps15
  go_wp2_with (first | (refine arms_load rfl _ rfl rfl X.out HS.out ?_) | (refine arms_load rfl _ rfl rfl Y.out HD.out ?_))
  refine (SEAL.out _ B0.out).mono ?_
  rintro e w1 ⟨rfl, hb⟩
  have B1 := Lib.hid (B0.out.trans (hb.mono B0.out.size))
  have V' := Lib.hid (kept hb V.out)
  have Z' := Lib.hid (kept hb Z.out)
  have N' := Lib.hid (kept hb N.out)
  clear V Z N
  have V := V'
  clear V'
  have Z := Z'
  clear Z'
  have N := N'
  clear N'
  clear hb B0 X Y cell12
  have n0 := cell_of (v := .int .u16 0) 0 N.out rfl
  have nf0 := free_of 0 N.out
  have n1 := cell_of (v := .int .u16 0) 1 N.out rfl
  have nf1 := free_of 1 N.out
  have n2 := cell_of (v := .int .u32 0) 2 N.out rfl
  have nf2 := free_of 2 N.out
  have n3 := cell_of (v := .int .u32 0) 3 N.out rfl
  have nf3 := free_of 3 N.out
  have n4 := cell_of (v := .int .u8 0) 4 N.out rfl
  have nf4 := free_of 4 N.out
  have n5 := cell_of (v := .int .u8 0) 5 N.out rfl
  have nf5 := free_of 5 N.out
  have n6 := cell_of (v := .int .u16 0) 6 N.out rfl
  have nf6 := free_of 6 N.out
  have n7 := cell_of (v := .int .u16 0) 7 N.out rfl
  have nf7 := free_of 7 N.out
  have n8 := cell_of (v := .slice none 0 0) 8 N.out rfl
  have nf8 := free_of 8 N.out
  have z0 := cell_of (v := .int .u16 0) 0 Z.out rfl
  have zf0 := free_of 0 Z.out
  have z1 := cell_of (v := .int .u16 0) 1 Z.out rfl
  have zf1 := free_of 1 Z.out
  have z2 := cell_of (v := .int .u32 0) 2 Z.out rfl
  have zf2 := free_of 2 Z.out
  have z3 := cell_of (v := .int .u32 0) 3 Z.out rfl
  have zf3 := free_of 3 Z.out
  have z4 := cell_of (v := .int .u8 0) 4 Z.out rfl
  have zf4 := free_of 4 Z.out
  have z5 := cell_of (v := .int .u8 0) 5 Z.out rfl
  have zf5 := free_of 5 Z.out
  have z6 := cell_of (v := .int .u16 0) 6 Z.out rfl
  have zf6 := free_of 6 Z.out
  have z7 := cell_of (v := .int .u16 0) 7 Z.out rfl
  have zf7 := free_of 7 Z.out
  have z8 := cell_of (v := .slice none 0 0) 8 Z.out rfl
  have zf8 := free_of 8 Z.out
  go_wp2_with fail
  refine bodyPost_ret (v := .tuple #[.agg #[.int .u16 0, .int .u16 0, .int .u32 0, .int .u32 0, .int .u8 0, .int .u8 0, .int .u16 0, .int .u16 0, .slice none 0 0], .slice none 0 0, .int .i64 6]) (by simp [results, Try.results15, go_sem, z0, z1, z2, z3, z4, z5, z6, z7, z8]) rfl ⟨rfl, ?_⟩
  first | with_reducible exact B1.out | ((repeat' (first | with_reducible exact B1.out | with_reducible refine Below.setCell ?_ ?_ _ | with_reducible refine Below.alloc ?_ ?_ _)); all_goals (first | (simp; done) | (simp; omega) | omega))

end Go.Proofs.Ytcbjjkpjbdcakaa
