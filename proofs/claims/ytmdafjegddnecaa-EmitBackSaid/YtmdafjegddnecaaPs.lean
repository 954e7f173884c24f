/- The walk of sum.Pseudo. -/
import Derived.Test.YtmdafjegddnecaaIn
import Derived.Test.YtmdafjegddnecaaWbKinds
import Derived.WalkLawsBesides
namespace Go.Proofs.Ytmdafjegddnecaa
open Go.RowKit Go.Wb
set_option linter.unusedVariables false

def tail6 (n pr : Int) : List Int := [n / 16777216 % 256, n / 65536 % 256, n / 256 % 256, n % 256, 0, 0, 0, pr]
def tail4 (n pr : Int) : List Int := [0, pr, n / 256 % 256, n % 256]
/-- The bytes of a pseudo header. -/
def phead (v6 : Bool) (ss ds : List Int) (pr n : Int) : List Int := if v6 = true then ss ++ ds ++ tail6 n pr else ss.take 4 ++ ds.take 4 ++ tail4 n pr

theorem tail6_b {n pr : Int} (p0 : 0 ≤ pr) (p1 : pr ≤ 255) : ∀ x ∈ tail6 n pr, 0 ≤ x ∧ x ≤ 255 := by
  intro x hx
  simp only [tail6, List.mem_cons, List.not_mem_nil, or_false] at hx
  rcases hx with h | h | h | h | h | h | h | h <;> omega
theorem tail4_b {n pr : Int} (p0 : 0 ≤ pr) (p1 : pr ≤ 255) : ∀ x ∈ tail4 n pr, 0 ≤ x ∧ x ≤ 255 := by
  intro x hx
  simp only [tail4, List.mem_cons, List.not_mem_nil, or_false] at hx
  rcases hx with h | h | h | h <;> omega
theorem sum3 {a b c : List Int} (ha : ∀ x ∈ a, 0 ≤ x ∧ x ≤ 255) (hb : ∀ x ∈ b, 0 ≤ x ∧ x ≤ 255) (hc : ∀ x ∈ c, 0 ≤ x ∧ x ≤ 255) (ea : par false a.length = false) (eb : par false b.length = false) :
    sumTo (sumTo (sumTo 0 false a) false b) false c = sumTo 0 false (a ++ b ++ c) := by
  have h1 := sumTo_append (s := 0) (o := false) (l := a) (m := b) (Int.le_refl 0) ha hb
  rw [ea] at h1
  have h2 := sumTo_append (s := 0) (o := false) (l := a ++ b) (m := c) (Int.le_refl 0) (fun x hx => by rcases List.mem_append.1 hx with h | h; exact ha x h; exact hb x h) hc
  rw [List.length_append, ← par_add, ea, eb] at h2
  rw [h1, h2]

theorem row_full {w : World} {b n : Nat} {zs : List Int} {t : TypeId} (h : w.heap[b]? = some (.cells (ar zs) t (0, 0))) (hs : zs.length = n) (hn : n ≤ 1099511627776) (hb : ∀ x ∈ zs, 0 ≤ x ∧ x ≤ 255) : Row8 w (some ⟨b, 0, none⟩) n n zs := by
  refine ⟨hs, Nat.le_refl _, by omega, fun i hi => ⟨b, 0, rfl, lt_of_heap h, ?_⟩, hb, fun h => by cases h⟩
  rw [Nat.zero_add]
  refine cell_of i h ?_
  simp only [ar, List.getElem?_toArray, List.getElem?_map]
  rw [List.getElem?_eq_getElem (by omega), List.getD_eq_getElem?_getD, List.getElem?_eq_getElem (by omega)]
  rfl

set_option maxRecDepth 100000 in
set_option maxHeartbeats 4000000 in
theorem pseudo_any (v6 : Bool) (ss ds : List Int) (pr n : Int) (w : World) (hs : ss.length = 16) (hd : ds.length = 16) (bs : ∀ x ∈ ss, 0 ≤ x ∧ x ≤ 255) (bd : ∀ x ∈ ds, 0 ≤ x ∧ x ≤ 255) (p0 : 0 ≤ pr) (p1 : pr ≤ 255) (n0 : 0 ≤ n) (n1 : n ≤ 9223372036854775807) :
    Calls Try.prog 119 #[.bool v6, .agg (ar ss), .agg (ar ds), .int .u8 pr, .int .i64 n] w fun e w' => e = .returned (.agg #[.int .u16 (sumTo 0 false (phead v6 ss ds pr n)), .bool false]) ∧ Below w.heap.size w w' := by
  have HS := Lib.hid hs
  have HD := Lib.hid hd
  have BS := Lib.hid bs
  have BD := Lib.hid bd
  clear hs hd bs bd
  have HX := heap_three w (Obj.cells (ar ss) 23) (Obj.cells (ar ds) 23) (Obj.cells #[.int .u16 0, .bool false] 194)
  have X := Lib.hid HX.1
  have Y := Lib.hid HX.2.1
  have Z := Lib.hid HX.2.2
  have B0 := Lib.hid (below_three w (Obj.cells (ar ss) 23) (Obj.cells (ar ds) 23) (Obj.cells #[.int .u16 0, .bool false] 194))
  clear HX
  -- how many bytes of an address
  obtain ⟨k, hk, kk⟩ : ∃ k, k = (if v6 = true then 16 else 4) ∧ (k = 16 ∨ k = 4) := ⟨_, rfl, by cases v6 <;> simp⟩
  have sl : (ss.take k).length = k := by rw [List.length_take, HS.out]; omega
  have dl : (ds.take k).length = k := by rw [List.length_take, HD.out]; omega
  have sb : ∀ x ∈ ss.take k, 0 ≤ x ∧ x ≤ 255 := fun x hx => BS.out x (List.mem_of_mem_take hx)
  have db : ∀ x ∈ ds.take k, 0 ≤ x ∧ x ≤ 255 := fun x hx => BD.out x (List.mem_of_mem_take hx)
  have kp : par false k = false := by rcases kk with rfl | rfl <;> rfl
  obtain ⟨s1, hs1⟩ : ∃ s, sumTo 0 false (ss.take k) = s := ⟨_, rfl⟩
  obtain ⟨s2, hs2⟩ : ∃ s, sumTo s1 false (ds.take k) = s := ⟨_, rfl⟩
  have r1 := sumTo_range (s := 0) (o := false) (zs := ss.take k) (Int.le_refl 0) sb
  rw [hs1] at r1
  have r2 := sumTo_range (s := s1) (o := false) (zs := ds.take k) r1.1 db
  rw [hs2] at r2
  obtain ⟨r10, r11⟩ := r1
  obtain ⟨r20, r21⟩ := r2
  have A1 : Hid (∀ W, W.heap[w.heap.size]? = some (.cells (ar ss) 23 (0, 0)) → Calls Try.prog 118 #[.agg #[.int .u16 0, .bool false], .slice (some ⟨w.heap.size, 0, none⟩) k 16] W fun e w' => e = .returned (.agg #[.int .u16 s1, .bool false]) ∧ Below W.heap.size W w') := fun W h => by
    have := add_row (row_of_block h HS.out (show k ≤ 16 by omega) (by omega) BS.out) (by omega) 0 false (by omega) (by omega)
    rw [hs1, kp] at this
    exact this
  have A2 : Hid (∀ W, W.heap[w.heap.size + 1]? = some (.cells (ar ds) 23 (0, 0)) → Calls Try.prog 118 #[.agg #[.int .u16 s1, .bool false], .slice (some ⟨w.heap.size + 1, 0, none⟩) k 16] W fun e w' => e = .returned (.agg #[.int .u16 s2, .bool false]) ∧ Below W.heap.size W w') := fun W h => by
    have := add_row (row_of_block h HD.out (show k ≤ 16 by omega) (by omega) BD.out) (by omega) s1 false r10 r11
    rw [hs2, kp] at this
    exact this
  have FIN : Hid (∀ t : List Int, (∀ x ∈ t, 0 ≤ x ∧ x ≤ 255) → sumTo s2 false t = sumTo 0 false (ss.take k ++ ds.take k ++ t)) := fun t ht => by
    rw [← sum3 sb db ht (by rw [sl, kp]) (by rw [dl, kp]), hs1, hs2]
  clear hs1 hs2 sl dl sb db kp kk
  cases v6
  · obtain rfl : k = 4 := by simpa using hk
    clear hk
    go_enter Try.func119, Try.ntmps119
    go_wp2_with fail
    generalize ((w.alloc (Obj.cells (ar ss) 23)).alloc (Obj.cells (ar ds) 23)).alloc (Obj.cells #[.int .u16 0, .bool false] 194) = w0 at *
    refine region_grow_lit [[], [(6, none)], [(37, some 0), (38, some 1)], [(7, none)], [(39, some 2), (40, some 3)], []]
      [Is (.agg #[.int .u16 0, .bool false]), Is (.slice (some ⟨w.heap.size, 0, none⟩) 4 16), Is (.agg #[.int .u16 s1, .bool false]), Is (.slice (some ⟨w.heap.size + 1, 0, none⟩) 4 16), Is (.agg #[.int .u16 s2, .bool false]), NewBlk w0.heap.size #[.int .u16 0, .bool false] 194]
      (by kernel_rfl) (by simp) (by kernel_rfl) rfl ⟨stab_is _, stab_is _, stab_is _, stab_is _, stab_is _, stab_new _ _ _, trivial⟩ ?_ rfl ?_
    · refine ⟨step_plain rfl ?_, step_plain rfl ?_, step_plain rfl ?_, step_plain rfl ?_, step_plain rfl ?_, step_plain rfl ?_, trivial⟩
      · rintro a W hW _
        simp only [execOp]
        go_simp
        exact step_val
      · rintro a W hW ⟨h6, _⟩
        replace h6 := getD_of_get (h6.trans rfl)
        simp only [execOp, h6]
        go_simp
        exact step_val
      · rintro a W hW ⟨⟨v17, h17, rfl⟩, ⟨v18, h18, rfl⟩, _⟩
        go_simp
        exact step_call (A1.out W (kept hW X.out))
      · rintro a W hW ⟨h7, _⟩
        replace h7 := getD_of_get (h7.trans rfl)
        simp only [execOp, h7]
        go_simp
        exact step_val
      · rintro a W hW ⟨⟨v19, h19, rfl⟩, ⟨v20, h20, rfl⟩, _⟩
        go_simp
        exact step_call (A2.out W (kept hW Y.out))
      · rintro a W hW _
        simp only [execOp]
        go_simp
        exact step_new hW.size
    · intro W hW
      simp only [initOf, lastOf]
      with_reducible refine grow_is ?_
      with_reducible refine grow_is ?_
      with_reducible refine grow_is ?_
      with_reducible refine grow_is ?_
      with_reducible refine grow_is ?_
      with_reducible refine grow_new ?_
      intro b hb hcell
      with_reducible refine grow_end ?_
      have c0 := cell_of (v := .int .u16 0) 0 hcell rfl
      have c1 := cell_of (v := .bool false) 1 hcell rfl
      have f0 := free_of 0 hcell
      have f1 := free_of 1 hcell
      have ZW := Lib.hid (kept hW Z.out)
      have BW := Lib.hid (B0.out.trans (hW.mono B0.out.size))
      have hbw : w.heap.size ≤ b := Nat.le_trans B0.out.size hb
      have hzb : w.heap.size + 1 + 1 < b := Nat.lt_of_lt_of_le (lt_of_heap Z.out) hb
      have hbl := lt_of_heap hcell
      clear hW X Y Z B0 A1 A2 hb
      go_simp
      go_wp2_with fail
      have ZX : Hid (((W.setCell ⟨b, 0, none⟩ (.int .u16 s2)).setCell ⟨b, 1, none⟩ (.bool false)).heap[w.heap.size + 1 + 1]? = some (.cells #[.int .u16 0, .bool false] 194 (0, 0))) := (But.set1 _ _ _ _).at ((But.set1 _ _ _ _).at ZW.out (by omega)) (by omega)
      have BX : Hid (Below w.heap.size w ((W.setCell ⟨b, 0, none⟩ (.int .u16 s2)).setCell ⟨b, 1, none⟩ (.bool false))) := (BW.out.setCell (p := ⟨b, 0, none⟩) hbw _).setCell (p := ⟨b, 1, none⟩) hbw _
      have SZ : Hid (((W.setCell ⟨b, 0, none⟩ (.int .u16 s2)).setCell ⟨b, 1, none⟩ (.bool false)).heap.size = W.heap.size) := by show _ = _; simp [World.setCell]
      clear c0 c1 f0 f1 hcell ZW BW
      generalize (W.setCell ⟨b, 0, none⟩ (.int .u16 s2)).setCell ⟨b, 1, none⟩ (.bool false) = W2 at *
      have RX := row_full (t := 5) (n := 4) (zs := tail4 n pr) (SZ.out ▸ heap_alloc_new W2 (Obj.cells (ar (tail4 n pr)) 5)) rfl (by omega) (tail4_b p0 p1)
      refine (add_row RX (by omega) s2 false r20 r21).mono ?_
      rintro e W3 ⟨rfl, hb3⟩
      have ZY := Lib.hid (kept hb3 (hold_alloc ZX.out))
      have BY := Lib.hid ((BX.out.alloc BX.out.size (Obj.cells (ar (tail4 n pr)) 5)).trans (hb3.mono (by have := BX.out.size; simp; omega)))
      have z0 := cell_of (v := .int .u16 0) 0 ZY.out rfl
      have z1 := cell_of (v := .bool false) 1 ZY.out rfl
      have zf0 := free_of 0 ZY.out
      have zf1 := free_of 1 ZY.out
      have F3 : Hid (sumTo s2 false (tail4 n pr) = sumTo 0 false (phead false ss ds pr n)) := by
        have := FIN.out (tail4 n pr) (tail4_b p0 p1)
        exact this
      have kq : par false 4 = false := rfl
      rw [F3.out, kq]
      clear hb3 ZX BX RX F3 FIN
      go_wp2_with fail
      refine bodyPost_ret (v := .agg #[.int .u16 (sumTo 0 false (phead false ss ds pr n)), .bool false]) (by simp [results, Try.results119, go_sem, z0, z1]) rfl ⟨rfl, ?_⟩
      repeat' (first | with_reducible exact BY.out | with_reducible refine Below.setCell ?_ ?_ _ | with_reducible refine Below.alloc ?_ ?_ _)
      all_goals (first | (simp; done) | (simp; omega) | omega)
  · obtain rfl : k = 16 := by simpa using hk
    clear hk
    go_enter Try.func119, Try.ntmps119
    go_wp2_with fail
    generalize ((w.alloc (Obj.cells (ar ss) 23)).alloc (Obj.cells (ar ds) 23)).alloc (Obj.cells #[.int .u16 0, .bool false] 194) = w0 at *
    refine region_grow_lit [[], [(6, none)], [(17, some 0), (18, some 1)], [(7, none)], [(19, some 2), (20, some 3)], []]
      [Is (.agg #[.int .u16 0, .bool false]), Is (.slice (some ⟨w.heap.size, 0, none⟩) 16 16), Is (.agg #[.int .u16 s1, .bool false]), Is (.slice (some ⟨w.heap.size + 1, 0, none⟩) 16 16), Is (.agg #[.int .u16 s2, .bool false]), NewBlk w0.heap.size #[.int .u16 0, .bool false] 194]
      (by kernel_rfl) (by simp) (by kernel_rfl) rfl ⟨stab_is _, stab_is _, stab_is _, stab_is _, stab_is _, stab_new _ _ _, trivial⟩ ?_ rfl ?_
    · refine ⟨step_plain rfl ?_, step_plain rfl ?_, step_plain rfl ?_, step_plain rfl ?_, step_plain rfl ?_, step_plain rfl ?_, trivial⟩
      · rintro a W hW _
        simp only [execOp]
        go_simp
        exact step_val
      · rintro a W hW ⟨h6, _⟩
        replace h6 := getD_of_get (h6.trans rfl)
        simp only [execOp, h6]
        go_simp
        exact step_val
      · rintro a W hW ⟨⟨v17, h17, rfl⟩, ⟨v18, h18, rfl⟩, _⟩
        go_simp
        exact step_call (A1.out W (kept hW X.out))
      · rintro a W hW ⟨h7, _⟩
        replace h7 := getD_of_get (h7.trans rfl)
        simp only [execOp, h7]
        go_simp
        exact step_val
      · rintro a W hW ⟨⟨v19, h19, rfl⟩, ⟨v20, h20, rfl⟩, _⟩
        go_simp
        exact step_call (A2.out W (kept hW Y.out))
      · rintro a W hW _
        simp only [execOp]
        go_simp
        exact step_new hW.size
    · intro W hW
      simp only [initOf, lastOf]
      with_reducible refine grow_is ?_
      with_reducible refine grow_is ?_
      with_reducible refine grow_is ?_
      with_reducible refine grow_is ?_
      with_reducible refine grow_is ?_
      with_reducible refine grow_new ?_
      intro b hb hcell
      with_reducible refine grow_end ?_
      have c0 := cell_of (v := .int .u16 0) 0 hcell rfl
      have c1 := cell_of (v := .bool false) 1 hcell rfl
      have f0 := free_of 0 hcell
      have f1 := free_of 1 hcell
      have ZW := Lib.hid (kept hW Z.out)
      have BW := Lib.hid (B0.out.trans (hW.mono B0.out.size))
      have hbw : w.heap.size ≤ b := Nat.le_trans B0.out.size hb
      have hzb : w.heap.size + 1 + 1 < b := Nat.lt_of_lt_of_le (lt_of_heap Z.out) hb
      have hbl := lt_of_heap hcell
      clear hW X Y Z B0 A1 A2 hb
      go_simp
      go_wp2_with fail
      have ZX : Hid (((W.setCell ⟨b, 0, none⟩ (.int .u16 s2)).setCell ⟨b, 1, none⟩ (.bool false)).heap[w.heap.size + 1 + 1]? = some (.cells #[.int .u16 0, .bool false] 194 (0, 0))) := (But.set1 _ _ _ _).at ((But.set1 _ _ _ _).at ZW.out (by omega)) (by omega)
      have BX : Hid (Below w.heap.size w ((W.setCell ⟨b, 0, none⟩ (.int .u16 s2)).setCell ⟨b, 1, none⟩ (.bool false))) := (BW.out.setCell (p := ⟨b, 0, none⟩) hbw _).setCell (p := ⟨b, 1, none⟩) hbw _
      have SZ : Hid (((W.setCell ⟨b, 0, none⟩ (.int .u16 s2)).setCell ⟨b, 1, none⟩ (.bool false)).heap.size = W.heap.size) := by show _ = _; simp [World.setCell]
      clear c0 c1 f0 f1 hcell ZW BW
      generalize (W.setCell ⟨b, 0, none⟩ (.int .u16 s2)).setCell ⟨b, 1, none⟩ (.bool false) = W2 at *
      have RX := row_full (t := 5) (n := 8) (zs := tail6 n pr) (SZ.out ▸ heap_alloc_new W2 (Obj.cells (ar (tail6 n pr)) 5)) rfl (by omega) (tail6_b p0 p1)
      refine (add_row RX (by omega) s2 false r20 r21).mono ?_
      rintro e W3 ⟨rfl, hb3⟩
      have ZY := Lib.hid (kept hb3 (hold_alloc ZX.out))
      have BY := Lib.hid ((BX.out.alloc BX.out.size (Obj.cells (ar (tail6 n pr)) 5)).trans (hb3.mono (by have := BX.out.size; simp; omega)))
      have z0 := cell_of (v := .int .u16 0) 0 ZY.out rfl
      have z1 := cell_of (v := .bool false) 1 ZY.out rfl
      have zf0 := free_of 0 ZY.out
      have zf1 := free_of 1 ZY.out
      have F3 : Hid (sumTo s2 false (tail6 n pr) = sumTo 0 false (phead true ss ds pr n)) := by
        have := FIN.out (tail6 n pr) (tail6_b p0 p1)
        rw [List.take_of_length_le (by have := HS.out; omega), List.take_of_length_le (by have := HD.out; omega)] at this; exact this
      have kq : par false 8 = false := rfl
      rw [F3.out, kq]
      clear hb3 ZX BX RX F3 FIN
      go_wp2_with fail
      refine bodyPost_ret (v := .agg #[.int .u16 (sumTo 0 false (phead true ss ds pr n)), .bool false]) (by simp [results, Try.results119, go_sem, z0, z1]) rfl ⟨rfl, ?_⟩
      repeat' (first | with_reducible exact BY.out | with_reducible refine Below.setCell ?_ ?_ _ | with_reducible refine Below.alloc ?_ ?_ _)
      all_goals (first | (simp; done) | (simp; omega) | omega)

set_option maxRecDepth 100000 in
set_option maxHeartbeats 4000000 in
theorem pseudo_neg (v6 : Bool) (ss ds : List Int) (pr n : Int) (w : World) (hs : ss.length = 16) (hd : ds.length = 16) (bs : ∀ x ∈ ss, 0 ≤ x ∧ x ≤ 255) (bd : ∀ x ∈ ds, 0 ≤ x ∧ x ≤ 255) (p0 : 0 ≤ pr) (p1 : pr ≤ 255) (n0 : n < 0) (n1 : n ≤ 9223372036854775807) :
    Calls Try.prog 119 #[.bool v6, .agg (ar ss), .agg (ar ds), .int .u8 pr, .int .i64 n] w fun e w' => e = .returned (.agg #[.int .u16 (sumTo 0 false (phead v6 ss ds pr 0)), .bool false]) ∧ Below w.heap.size w w' := by
  have HS := Lib.hid hs
  have HD := Lib.hid hd
  have BS := Lib.hid bs
  have BD := Lib.hid bd
  clear hs hd bs bd
  have HX := heap_three w (Obj.cells (ar ss) 23) (Obj.cells (ar ds) 23) (Obj.cells #[.int .u16 0, .bool false] 194)
  have X := Lib.hid HX.1
  have Y := Lib.hid HX.2.1
  have Z := Lib.hid HX.2.2
  have B0 := Lib.hid (below_three w (Obj.cells (ar ss) 23) (Obj.cells (ar ds) 23) (Obj.cells #[.int .u16 0, .bool false] 194))
  clear HX
  -- how many bytes of an address
  obtain ⟨k, hk, kk⟩ : ∃ k, k = (if v6 = true then 16 else 4) ∧ (k = 16 ∨ k = 4) := ⟨_, rfl, by cases v6 <;> simp⟩
  have sl : (ss.take k).length = k := by rw [List.length_take, HS.out]; omega
  have dl : (ds.take k).length = k := by rw [List.length_take, HD.out]; omega
  have sb : ∀ x ∈ ss.take k, 0 ≤ x ∧ x ≤ 255 := fun x hx => BS.out x (List.mem_of_mem_take hx)
  have db : ∀ x ∈ ds.take k, 0 ≤ x ∧ x ≤ 255 := fun x hx => BD.out x (List.mem_of_mem_take hx)
  have kp : par false k = false := by rcases kk with rfl | rfl <;> rfl
  obtain ⟨s1, hs1⟩ : ∃ s, sumTo 0 false (ss.take k) = s := ⟨_, rfl⟩
  obtain ⟨s2, hs2⟩ : ∃ s, sumTo s1 false (ds.take k) = s := ⟨_, rfl⟩
  have r1 := sumTo_range (s := 0) (o := false) (zs := ss.take k) (Int.le_refl 0) sb
  rw [hs1] at r1
  have r2 := sumTo_range (s := s1) (o := false) (zs := ds.take k) r1.1 db
  rw [hs2] at r2
  obtain ⟨r10, r11⟩ := r1
  obtain ⟨r20, r21⟩ := r2
  have A1 : Hid (∀ W, W.heap[w.heap.size]? = some (.cells (ar ss) 23 (0, 0)) → Calls Try.prog 118 #[.agg #[.int .u16 0, .bool false], .slice (some ⟨w.heap.size, 0, none⟩) k 16] W fun e w' => e = .returned (.agg #[.int .u16 s1, .bool false]) ∧ Below W.heap.size W w') := fun W h => by
    have := add_row (row_of_block h HS.out (show k ≤ 16 by omega) (by omega) BS.out) (by omega) 0 false (by omega) (by omega)
    rw [hs1, kp] at this
    exact this
  have A2 : Hid (∀ W, W.heap[w.heap.size + 1]? = some (.cells (ar ds) 23 (0, 0)) → Calls Try.prog 118 #[.agg #[.int .u16 s1, .bool false], .slice (some ⟨w.heap.size + 1, 0, none⟩) k 16] W fun e w' => e = .returned (.agg #[.int .u16 s2, .bool false]) ∧ Below W.heap.size W w') := fun W h => by
    have := add_row (row_of_block h HD.out (show k ≤ 16 by omega) (by omega) BD.out) (by omega) s1 false r10 r11
    rw [hs2, kp] at this
    exact this
  have FIN : Hid (∀ t : List Int, (∀ x ∈ t, 0 ≤ x ∧ x ≤ 255) → sumTo s2 false t = sumTo 0 false (ss.take k ++ ds.take k ++ t)) := fun t ht => by
    rw [← sum3 sb db ht (by rw [sl, kp]) (by rw [dl, kp]), hs1, hs2]
  clear hs1 hs2 sl dl sb db kp kk
  cases v6
  · obtain rfl : k = 4 := by simpa using hk
    clear hk
    go_enter Try.func119, Try.ntmps119
    go_wp2_with fail
    generalize ((w.alloc (Obj.cells (ar ss) 23)).alloc (Obj.cells (ar ds) 23)).alloc (Obj.cells #[.int .u16 0, .bool false] 194) = w0 at *
    refine region_grow_lit [[], [(6, none)], [(37, some 0), (38, some 1)], [(7, none)], [(39, some 2), (40, some 3)], []]
      [Is (.agg #[.int .u16 0, .bool false]), Is (.slice (some ⟨w.heap.size, 0, none⟩) 4 16), Is (.agg #[.int .u16 s1, .bool false]), Is (.slice (some ⟨w.heap.size + 1, 0, none⟩) 4 16), Is (.agg #[.int .u16 s2, .bool false]), NewBlk w0.heap.size #[.int .u16 0, .bool false] 194]
      (by kernel_rfl) (by simp) (by kernel_rfl) rfl ⟨stab_is _, stab_is _, stab_is _, stab_is _, stab_is _, stab_new _ _ _, trivial⟩ ?_ rfl ?_
    · refine ⟨step_plain rfl ?_, step_plain rfl ?_, step_plain rfl ?_, step_plain rfl ?_, step_plain rfl ?_, step_plain rfl ?_, trivial⟩
      · rintro a W hW _
        simp only [execOp]
        go_simp
        exact step_val
      · rintro a W hW ⟨h6, _⟩
        replace h6 := getD_of_get (h6.trans rfl)
        simp only [execOp, h6]
        go_simp
        exact step_val
      · rintro a W hW ⟨⟨v17, h17, rfl⟩, ⟨v18, h18, rfl⟩, _⟩
        go_simp
        exact step_call (A1.out W (kept hW X.out))
      · rintro a W hW ⟨h7, _⟩
        replace h7 := getD_of_get (h7.trans rfl)
        simp only [execOp, h7]
        go_simp
        exact step_val
      · rintro a W hW ⟨⟨v19, h19, rfl⟩, ⟨v20, h20, rfl⟩, _⟩
        go_simp
        exact step_call (A2.out W (kept hW Y.out))
      · rintro a W hW _
        simp only [execOp]
        go_simp
        exact step_new hW.size
    · intro W hW
      simp only [initOf, lastOf]
      with_reducible refine grow_is ?_
      with_reducible refine grow_is ?_
      with_reducible refine grow_is ?_
      with_reducible refine grow_is ?_
      with_reducible refine grow_is ?_
      with_reducible refine grow_new ?_
      intro b hb hcell
      with_reducible refine grow_end ?_
      have c0 := cell_of (v := .int .u16 0) 0 hcell rfl
      have c1 := cell_of (v := .bool false) 1 hcell rfl
      have f0 := free_of 0 hcell
      have f1 := free_of 1 hcell
      have ZW := Lib.hid (kept hW Z.out)
      have BW := Lib.hid (B0.out.trans (hW.mono B0.out.size))
      have hbw : w.heap.size ≤ b := Nat.le_trans B0.out.size hb
      have hzb : w.heap.size + 1 + 1 < b := Nat.lt_of_lt_of_le (lt_of_heap Z.out) hb
      have hbl := lt_of_heap hcell
      clear hW X Y Z B0 A1 A2 hb
      go_simp
      go_wp2_with fail
      have ZX : Hid (((W.setCell ⟨b, 0, none⟩ (.int .u16 s2)).setCell ⟨b, 1, none⟩ (.bool false)).heap[w.heap.size + 1 + 1]? = some (.cells #[.int .u16 0, .bool false] 194 (0, 0))) := (But.set1 _ _ _ _).at ((But.set1 _ _ _ _).at ZW.out (by omega)) (by omega)
      have BX : Hid (Below w.heap.size w ((W.setCell ⟨b, 0, none⟩ (.int .u16 s2)).setCell ⟨b, 1, none⟩ (.bool false))) := (BW.out.setCell (p := ⟨b, 0, none⟩) hbw _).setCell (p := ⟨b, 1, none⟩) hbw _
      have SZ : Hid (((W.setCell ⟨b, 0, none⟩ (.int .u16 s2)).setCell ⟨b, 1, none⟩ (.bool false)).heap.size = W.heap.size) := by show _ = _; simp [World.setCell]
      clear c0 c1 f0 f1 hcell ZW BW
      generalize (W.setCell ⟨b, 0, none⟩ (.int .u16 s2)).setCell ⟨b, 1, none⟩ (.bool false) = W2 at *
      have RX := row_full (t := 5) (n := 4) (zs := tail4 0 pr) (SZ.out ▸ heap_alloc_new W2 (Obj.cells (ar (tail4 0 pr)) 5)) rfl (by omega) (tail4_b p0 p1)
      refine (add_row RX (by omega) s2 false r20 r21).mono ?_
      rintro e W3 ⟨rfl, hb3⟩
      have ZY := Lib.hid (kept hb3 (hold_alloc ZX.out))
      have BY := Lib.hid ((BX.out.alloc BX.out.size (Obj.cells (ar (tail4 0 pr)) 5)).trans (hb3.mono (by have := BX.out.size; simp; omega)))
      have z0 := cell_of (v := .int .u16 0) 0 ZY.out rfl
      have z1 := cell_of (v := .bool false) 1 ZY.out rfl
      have zf0 := free_of 0 ZY.out
      have zf1 := free_of 1 ZY.out
      have F3 : Hid (sumTo s2 false (tail4 0 pr) = sumTo 0 false (phead false ss ds pr 0)) := by
        have := FIN.out (tail4 0 pr) (tail4_b p0 p1)
        exact this
      have kq : par false 4 = false := rfl
      rw [F3.out, kq]
      clear hb3 ZX BX RX F3 FIN
      go_wp2_with fail
      refine bodyPost_ret (v := .agg #[.int .u16 (sumTo 0 false (phead false ss ds pr 0)), .bool false]) (by simp [results, Try.results119, go_sem, z0, z1]) rfl ⟨rfl, ?_⟩
      repeat' (first | with_reducible exact BY.out | with_reducible refine Below.setCell ?_ ?_ _ | with_reducible refine Below.alloc ?_ ?_ _)
      all_goals (first | (simp; done) | (simp; omega) | omega)
  · obtain rfl : k = 16 := by simpa using hk
    clear hk
    go_enter Try.func119, Try.ntmps119
    go_wp2_with fail
    generalize ((w.alloc (Obj.cells (ar ss) 23)).alloc (Obj.cells (ar ds) 23)).alloc (Obj.cells #[.int .u16 0, .bool false] 194) = w0 at *
    refine region_grow_lit [[], [(6, none)], [(17, some 0), (18, some 1)], [(7, none)], [(19, some 2), (20, some 3)], []]
      [Is (.agg #[.int .u16 0, .bool false]), Is (.slice (some ⟨w.heap.size, 0, none⟩) 16 16), Is (.agg #[.int .u16 s1, .bool false]), Is (.slice (some ⟨w.heap.size + 1, 0, none⟩) 16 16), Is (.agg #[.int .u16 s2, .bool false]), NewBlk w0.heap.size #[.int .u16 0, .bool false] 194]
      (by kernel_rfl) (by simp) (by kernel_rfl) rfl ⟨stab_is _, stab_is _, stab_is _, stab_is _, stab_is _, stab_new _ _ _, trivial⟩ ?_ rfl ?_
    · refine ⟨step_plain rfl ?_, step_plain rfl ?_, step_plain rfl ?_, step_plain rfl ?_, step_plain rfl ?_, step_plain rfl ?_, trivial⟩
      · rintro a W hW _
        simp only [execOp]
        go_simp
        exact step_val
      · rintro a W hW ⟨h6, _⟩
        replace h6 := getD_of_get (h6.trans rfl)
        simp only [execOp, h6]
        go_simp
        exact step_val
      · rintro a W hW ⟨⟨v17, h17, rfl⟩, ⟨v18, h18, rfl⟩, _⟩
        go_simp
        exact step_call (A1.out W (kept hW X.out))
      · rintro a W hW ⟨h7, _⟩
        replace h7 := getD_of_get (h7.trans rfl)
        simp only [execOp, h7]
        go_simp
        exact step_val
      · rintro a W hW ⟨⟨v19, h19, rfl⟩, ⟨v20, h20, rfl⟩, _⟩
        go_simp
        exact step_call (A2.out W (kept hW Y.out))
      · rintro a W hW _
        simp only [execOp]
        go_simp
        exact step_new hW.size
    · intro W hW
      simp only [initOf, lastOf]
      with_reducible refine grow_is ?_
      with_reducible refine grow_is ?_
      with_reducible refine grow_is ?_
      with_reducible refine grow_is ?_
      with_reducible refine grow_is ?_
      with_reducible refine grow_new ?_
      intro b hb hcell
      with_reducible refine grow_end ?_
      have c0 := cell_of (v := .int .u16 0) 0 hcell rfl
      have c1 := cell_of (v := .bool false) 1 hcell rfl
      have f0 := free_of 0 hcell
      have f1 := free_of 1 hcell
      have ZW := Lib.hid (kept hW Z.out)
      have BW := Lib.hid (B0.out.trans (hW.mono B0.out.size))
      have hbw : w.heap.size ≤ b := Nat.le_trans B0.out.size hb
      have hzb : w.heap.size + 1 + 1 < b := Nat.lt_of_lt_of_le (lt_of_heap Z.out) hb
      have hbl := lt_of_heap hcell
      clear hW X Y Z B0 A1 A2 hb
      go_simp
      go_wp2_with fail
      have ZX : Hid (((W.setCell ⟨b, 0, none⟩ (.int .u16 s2)).setCell ⟨b, 1, none⟩ (.bool false)).heap[w.heap.size + 1 + 1]? = some (.cells #[.int .u16 0, .bool false] 194 (0, 0))) := (But.set1 _ _ _ _).at ((But.set1 _ _ _ _).at ZW.out (by omega)) (by omega)
      have BX : Hid (Below w.heap.size w ((W.setCell ⟨b, 0, none⟩ (.int .u16 s2)).setCell ⟨b, 1, none⟩ (.bool false))) := (BW.out.setCell (p := ⟨b, 0, none⟩) hbw _).setCell (p := ⟨b, 1, none⟩) hbw _
      have SZ : Hid (((W.setCell ⟨b, 0, none⟩ (.int .u16 s2)).setCell ⟨b, 1, none⟩ (.bool false)).heap.size = W.heap.size) := by show _ = _; simp [World.setCell]
      clear c0 c1 f0 f1 hcell ZW BW
      generalize (W.setCell ⟨b, 0, none⟩ (.int .u16 s2)).setCell ⟨b, 1, none⟩ (.bool false) = W2 at *
      have RX := row_full (t := 5) (n := 8) (zs := tail6 0 pr) (SZ.out ▸ heap_alloc_new W2 (Obj.cells (ar (tail6 0 pr)) 5)) rfl (by omega) (tail6_b p0 p1)
      refine (add_row RX (by omega) s2 false r20 r21).mono ?_
      rintro e W3 ⟨rfl, hb3⟩
      have ZY := Lib.hid (kept hb3 (hold_alloc ZX.out))
      have BY := Lib.hid ((BX.out.alloc BX.out.size (Obj.cells (ar (tail6 0 pr)) 5)).trans (hb3.mono (by have := BX.out.size; simp; omega)))
      have z0 := cell_of (v := .int .u16 0) 0 ZY.out rfl
      have z1 := cell_of (v := .bool false) 1 ZY.out rfl
      have zf0 := free_of 0 ZY.out
      have zf1 := free_of 1 ZY.out
      have F3 : Hid (sumTo s2 false (tail6 0 pr) = sumTo 0 false (phead true ss ds pr 0)) := by
        have := FIN.out (tail6 0 pr) (tail6_b p0 p1)
        rw [List.take_of_length_le (by have := HS.out; omega), List.take_of_length_le (by have := HD.out; omega)] at this; exact this
      have kq : par false 8 = false := rfl
      rw [F3.out, kq]
      clear hb3 ZX BX RX F3 FIN
      go_wp2_with fail
      refine bodyPost_ret (v := .agg #[.int .u16 (sumTo 0 false (phead true ss ds pr 0)), .bool false]) (by simp [results, Try.results119, go_sem, z0, z1]) rfl ⟨rfl, ?_⟩
      repeat' (first | with_reducible exact BY.out | with_reducible refine Below.setCell ?_ ?_ _ | with_reducible refine Below.alloc ?_ ?_ _)
      all_goals (first | (simp; done) | (simp; omega) | omega)

/-- The sum so far of any pseudo header. -/
theorem pseudo_clip (v6 : Bool) (ss ds : List Int) (pr n : Int) (w : World) (hs : ss.length = 16) (hd : ds.length = 16) (bs : ∀ x ∈ ss, 0 ≤ x ∧ x ≤ 255) (bd : ∀ x ∈ ds, 0 ≤ x ∧ x ≤ 255) (p0 : 0 ≤ pr) (p1 : pr ≤ 255) (n1 : n ≤ 9223372036854775807) :
    Calls Try.prog 119 #[.bool v6, .agg (ar ss), .agg (ar ds), .int .u8 pr, .int .i64 n] w fun e w' => e = .returned (.agg #[.int .u16 (sumTo 0 false (phead v6 ss ds pr (if n < 0 then 0 else n))), .bool false]) ∧ Below w.heap.size w w' := by
  by_cases h : n < 0
  · rw [if_pos h]; exact pseudo_neg v6 ss ds pr n w hs hd bs bd p0 p1 h n1
  · rw [if_neg h]; exact pseudo_any v6 ss ds pr n w hs hd bs bd p0 p1 (by omega) n1
end Go.Proofs.Ytmdafjegddnecaa
