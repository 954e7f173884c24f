/- The walk of sum.Add: the sum so far, with bytes behind it. -/
import Derived.Test.YtmdafjegddnecaaSw
import Derived.StillTailTactics
namespace Go.Proofs.Ytmdafjegddnecaa
open Go.RowKit Go.Wb
set_option linter.unusedVariables false

theorem getD_cons_succ (z : Int) (l : List Int) (i : Nat) : (z :: l).getD (i + 1) 0 = l.getD i 0 := rfl

/-- What stands behind the first byte, and what has been added so far. -/
def AddAt (w0 : World) (s : Int) (o : Bool) (zs : List Int) (s1 : Value) (wx : World) : Prop :=
  ∃ (a : Option Addr) (l c : Nat) (rs : List Int) (n : Int) (o' : Bool), s1 = .slice a l c ∧ rs.length = l ∧ l ≤ 1099511627776 ∧ (∀ i, i < l → ∃ b off, a = some ⟨b, off, none⟩ ∧ b < w0.heap.size ∧ w0.cell? ⟨b, off + i, none⟩ = some (.int .u8 (rs.getD i 0))) ∧ (∀ x ∈ rs, 0 ≤ x ∧ x ≤ 255) ∧
    Below w0.heap.size w0 wx ∧ wx.heap[w0.heap.size]? = some (.cells #[.int .u16 s, .bool o'] 194 (0, 0)) ∧ wx.heap[w0.heap.size + 1]? = some (.cells #[.int .u16 0, .bool false] 194 (0, 0)) ∧ wx.heap[w0.heap.size + 1 + 1]? = some (.cells #[.int .u64 n] 37 (0, 0)) ∧
    0 ≤ n ∧ n ≤ 131072 ∧ n + ws o' rs = s + ws o zs ∧ par o' l = par o zs.length ∧ (o' = true → l = 0)

set_option maxRecDepth 100000 in
set_option maxHeartbeats 2000000 in
theorem add_any (s : Int) (o : Bool) (ao : Option Addr) (len cap : Nat) (zs : List Int) (w : World) (s0 : 0 ≤ s) (s1 : s ≤ 65535) (hz : zs.length = len) (hlc : len ≤ cap) (hm : cap ≤ 9223372036854775807) (hl : len ≤ 1099511627776)
    (hc : ∀ i, i < len → ∃ b off, ao = some ⟨b, off, none⟩ ∧ b < w.heap.size ∧ w.cell? ⟨b, off + i, none⟩ = some (.int .u8 (zs.getD i 0))) (hb : ∀ x ∈ zs, 0 ≤ x ∧ x ≤ 255) :
    Calls Try.prog 118 #[.agg #[.int .u16 s, .bool o], .slice ao len cap] w fun e w' => e = .returned (.agg #[.int .u16 (sumTo s o zs), .bool (par o len)]) ∧ Below w.heap.size w w' := by
  have HC := Lib.hid hc
  have HZ := Lib.hid hz
  have HB := Lib.hid hb
  clear hc hz hb
  -- the three blocks of the call's own
  have X : Hid ((((w.alloc (Obj.cells #[Value.int IntKind.u16 s, Value.bool o] 194)).alloc (Obj.cells #[Value.int IntKind.u16 0, Value.bool false] 194)).alloc (Obj.cells #[Value.int IntKind.u64 s] 37)).heap[w.heap.size]? = some (.cells #[.int .u16 s, .bool o] 194 (0, 0))) := hold_alloc (hold_alloc (heap_alloc_new w _))
  have Y : Hid ((((w.alloc (Obj.cells #[Value.int IntKind.u16 s, Value.bool o] 194)).alloc (Obj.cells #[Value.int IntKind.u16 0, Value.bool false] 194)).alloc (Obj.cells #[Value.int IntKind.u64 s] 37)).heap[w.heap.size + 1]? = some (.cells #[.int .u16 0, .bool false] 194 (0, 0))) := by
    have := hold_alloc (o' := (Obj.cells #[Value.int IntKind.u64 s] 37)) (heap_alloc_new (w.alloc (Obj.cells #[Value.int IntKind.u16 s, Value.bool o] 194)) (Obj.cells #[Value.int IntKind.u16 0, Value.bool false] 194)); rwa [World.size_alloc] at this
  have Z : Hid ((((w.alloc (Obj.cells #[Value.int IntKind.u16 s, Value.bool o] 194)).alloc (Obj.cells #[Value.int IntKind.u16 0, Value.bool false] 194)).alloc (Obj.cells #[Value.int IntKind.u64 s] 37)).heap[w.heap.size + 1 + 1]? = some (.cells #[.int .u64 s] 37 (0, 0))) := by
    have := heap_alloc_new ((w.alloc (Obj.cells #[Value.int IntKind.u16 s, Value.bool o] 194)).alloc (Obj.cells #[Value.int IntKind.u16 0, Value.bool false] 194)) (Obj.cells #[Value.int IntKind.u64 s] 37); rwa [World.size_alloc, World.size_alloc] at this
  have B : Hid (Below w.heap.size w (((w.alloc (Obj.cells #[Value.int IntKind.u16 s, Value.bool o] 194)).alloc (Obj.cells #[Value.int IntKind.u16 0, Value.bool false] 194)).alloc (Obj.cells #[Value.int IntKind.u64 s] 37))) :=
    (((Below.refl w.heap.size w).alloc (Nat.le_refl _) _).alloc (by simp) _).alloc (by simp; omega) _
  have START : Hid ((o = true → len = 0) → AddAt w s o zs (.slice ao len cap) (((w.alloc (Obj.cells #[Value.int IntKind.u16 s, Value.bool o] 194)).alloc (Obj.cells #[Value.int IntKind.u16 0, Value.bool false] 194)).alloc (Obj.cells #[Value.int IntKind.u64 s] 37))) :=
    fun h => ⟨ao, len, cap, zs, s, o, rfl, HZ.out, hl, HC.out, HB.out, B.out, X.out, Y.out, Z.out, s0, by omega, rfl, by rw [HZ.out], h⟩
  cases o
  · go_enter Try.func118, Try.ntmps118
    go_upto_if 18 with (fail)
    generalize ((w.alloc (Obj.cells #[Value.int IntKind.u16 s, Value.bool false] 194)).alloc (Obj.cells #[Value.int IntKind.u16 0, Value.bool false] 194)).alloc (Obj.cells #[Value.int IntKind.u64 s] 37) = w1 at *
    go_cut [1] (fun v wx => AddAt w s false zs v wx)
    case first =>
      go_wp2_with fail
      go_meet
      exact START.out (by simp)
    case rest =>
      obtain ⟨a, l, c, rs, n, o', rfl, hrl, hll, hcc, hrb, hB, hX, hY, hZ, n0, n1, hws, hpar, ho'⟩ := hcut
      clear START X Y Z B
      have HCC := Lib.hid hcc
      have HRB := Lib.hid hrb
      have HRL := Lib.hid hrl
      have HWS := Lib.hid hws
      have HPAR := Lib.hid hpar
      have HO := Lib.hid ho'
      have HX := Lib.hid hX
      have HY := Lib.hid hY
      have HZ' := Lib.hid hZ
      have HB' := Lib.hid hB
      clear hcc hrb hrl hws hpar ho' hX hY hZ hB
      go_wp2_with fail
      go_loopw [30] (fun i wr => ∃ k : Nat, k ≤ l / 2 ∧ i = .int .i64 k ∧ Hid (Below w.heap.size w wr) ∧ Hid (wr.heap[w.heap.size]? = some (.cells #[.int .u16 s, .bool o'] 194 (0, 0))) ∧ Hid (wr.heap[w.heap.size + 1]? = some (.cells #[.int .u16 0, .bool false] 194 (0, 0))) ∧
          Hid (wr.heap[w.heap.size + 1 + 1]? = some (.cells #[.int .u64 (n + ws false (rs.take (2 * k)))] 37 (0, 0)))) (fun i _ => l / 2 - (intOf i).toNat)
      case atStart => exact ⟨0, by omega, rfl, HB', HX, HY, by simpa [ws] using HZ'⟩
      case round =>
        obtain ⟨k, hk, rfl, hB, hX, hY, hZ⟩ := hrel
        clear HX HY HZ' HB'
        by_cases hlt : k < l / 2
        · obtain ⟨b, off, rfl, hbl, hcell⟩ := HCC.out (2 * k) (by omega)
          obtain ⟨b', off', he, hbl', hcell'⟩ := HCC.out (2 * k + 1) (by omega)
          cases he
          have hc0 : wr.cell? ⟨b, off + 2 * k, none⟩ = some (.int .u8 (rs.getD (2 * k) 0)) := (hB.out.cell (p := ⟨b, off + 2 * k, none⟩) hbl).trans hcell
          have hc1 : wr.cell? ⟨b, off + (2 * k + 1), none⟩ = some (.int .u8 (rs.getD (2 * k + 1) 0)) := (hB.out.cell (p := ⟨b, off + (2 * k + 1), none⟩) hbl).trans hcell'
          clear hcell hcell'
          have hb0 := HRB.out (rs.getD (2 * k) 0) (by rw [List.getD_eq_getElem?_getD, List.getElem?_eq_getElem (by have := HRL.out; omega)]; exact List.getElem_mem _)
          have hb1 := HRB.out (rs.getD (2 * k + 1) 0) (by rw [List.getD_eq_getElem?_getD, List.getElem?_eq_getElem (by have := HRL.out; omega)]; exact List.getElem_mem _)
          have hsum : ws false (rs.take (2 * (k + 1))) = ws false (rs.take (2 * k)) + (rs.getD (2 * k) 0 * 256 + rs.getD (2 * k + 1) 0) := by
            rw [show 2 * (k + 1) = 2 * k + 1 + 1 from by omega, ws_take_succ (by have := HRL.out; omega), ws_take_succ (by have := HRL.out; omega)]
            have p1 : par false (2 * k) = false := by unfold par; rw [show 2 * k % 2 = 0 from by omega]; rfl
            have p2 : par false (2 * k + 1) = true := by rw [par_succ, p1]; rfl
            rw [p1, p2]; simp; omega
          have hwn := ws_nonneg false (rs.take (2 * k)) (fun x hx => HRB.out x (List.mem_of_mem_take hx))
          have hwl : (rs.take (2 * k)).length ≤ 1099511627776 := by rw [List.length_take]; omega
          have HS := Lib.hid hsum
          clear hsum
          obtain ⟨z0, hz0⟩ : ∃ z, rs.getD (2 * k) 0 = z := ⟨_, rfl⟩
          obtain ⟨z1, hz1⟩ : ∃ z, rs.getD (2 * k + 1) 0 = z := ⟨_, rfl⟩
          obtain ⟨t, ht⟩ : ∃ t, n + ws false (rs.take (2 * k)) = t := ⟨_, rfl⟩
          have t0 : 0 ≤ t := by omega
          have t1 : t ≤ 1152921504606846976 := by omega
          rw [hz0] at hc0 hb0 HS
          rw [hz1] at hc1 hb1 HS
          rw [ht] at hZ
          have HT := Lib.hid ht
          clear hz0 hz1 ht hwn hwl
          have ADD := Lib.hid (fun w' h => add1_any z0 z1 t (w.heap.size + 1 + 1) w' h hb0.1 hb0.2 hb1.1 hb1.2 t0 t1)
          have i0 : (0 : Int) ≤ 2 * (k : Int) := by omega
          have i1 : 2 * (k : Int) + 1 < (l : Int) := by omega
          have j0 : IntKind.i64.wrap (2 * (k : Int)) = 2 * (k : Int) := IntWalk.i64_in _ (by omega)
          have j1 : IntKind.i64.wrap (2 * (k : Int) + 1) = 2 * (k : Int) + 1 := IntWalk.i64_in _ (by omega)
          have j2 : (2 * (k : Int)).toNat = 2 * k := by omega
          have j3 : (2 * (k : Int) + 1).toNat = 2 * k + 1 := by omega
          have j4 : (0 : Int) ≤ 2 * (k : Int) + 1 := by omega
          have j5 : 2 * (k : Int) < (l : Int) := by omega
          go_wp2_with fail
          go_still_tail 12, (by kernel_rfl)
          change wpList _ _ _ _ _ wr.drew
          go_wp2_with fail
          refine (ADD.out wr.drew hZ).mono ?_
          rintro e w2 ⟨rfl, hk2, hh⟩
          have Z2 := Lib.hid hh
          have Y2 : Hid _ := hk2.at hY.out (by omega)
          have X2 : Hid _ := hk2.at hX.out (by omega)
          have B2 := Lib.hid (below_but (Below.drew hB.out) hk2 (by omega) hB.out.size)
          clear hk2 hh hX hY hZ hB hc0 hc1 j0 j1 j2 j3 j4 j5 i0 i1 ADD
          go_wp2_with fail
          go_roundw
          case rel =>
            refine ⟨k + 1, by omega, by go_num, B2, X2, Y2, ?_⟩
            rw [HS.out, ← Int.add_assoc, HT.out]
            exact Z2
          case measure => simp [intOf]; omega
        · have hkl : k = l / 2 := by omega
          have HKL := Lib.hid hkl
          have hwn := ws_nonneg false (rs.take (2 * k)) (fun x hx => HRB.out x (List.mem_of_mem_take hx))
          have hwl : (rs.take (2 * k)).length ≤ 1099511627776 := by rw [List.length_take]; omega
          obtain ⟨t, ht⟩ : ∃ t, n + ws false (rs.take (2 * k)) = t := ⟨_, rfl⟩
          have t0 : 0 ≤ t := by omega
          have t1 : t ≤ 1152921504606846976 := by omega
          rw [ht] at hZ
          have HT := Lib.hid ht
          clear ht hwn hwl hkl
          have x0 : wr.cell? ⟨w.heap.size, 0, none⟩ = some (.int .u16 s) := cell_of 0 hX.out rfl
          have x1 : wr.cell? ⟨w.heap.size, 1, none⟩ = some (.bool o') := cell_of 1 hX.out rfl
          have xf0 := free_of 0 hX.out
          have xf1 := free_of 1 hX.out
          have y0 : wr.cell? ⟨w.heap.size + 1, 0, none⟩ = some (.int .u16 0) := cell_of 0 hY.out rfl
          have y1 : wr.cell? ⟨w.heap.size + 1, 1, none⟩ = some (.bool false) := cell_of 1 hY.out rfl
          have yf0 := free_of 0 hY.out
          have yf1 := free_of 1 hY.out
          have z0 : wr.cell? ⟨w.heap.size + 1 + 1, 0, none⟩ = some (.int .u64 t) := cell_of 0 hZ.out rfl
          by_cases hodd : l % 2 = 1
          · obtain ⟨b, off, rfl, hbl, hcell⟩ := HCC.out (l - 1) (by omega)
            have hc0 : wr.cell? ⟨b, off + (l - 1), none⟩ = some (.int .u8 (rs.getD (l - 1) 0)) := (hB.out.cell (p := ⟨b, off + (l - 1), none⟩) hbl).trans hcell
            have hb0 := HRB.out (rs.getD (l - 1) 0) (by rw [List.getD_eq_getElem?_getD, List.getElem?_eq_getElem (by have := HRL.out; omega)]; exact List.getElem_mem _)
            have HFIN : Hid (t + (rs.getD (l - 1) 0 * 256 + 0) = s + ws false zs ∧ (true : Bool) = par false zs.length ∧ o' = false) := by
              have hl1 := HRL.out
              have h1 := HKL.out
              have ho : o' = false := by cases ho : o' with | false => rfl | true => have := HO.out ho; omega
              have h2 : ws false rs = ws false (rs.take (2 * k)) + rs.getD (l - 1) 0 * 256 := by
                have e := ws_take_succ (o := false) (l := rs) (k := 2 * k) (by omega)
                have p1 : par false (2 * k) = false := by unfold par; rw [show 2 * k % 2 = 0 from by omega]; rfl
                rw [p1, show 2 * k + 1 = rs.length from by omega, List.take_length, show 2 * k = l - 1 from by omega] at e
                rw [e, show 2 * k = l - 1 from by omega]; rfl
              have h3 := HWS.out
              have h4 := HT.out
              rw [ho] at h3
              refine ⟨by omega, ?_, ho⟩
              rw [← HPAR.out, ho]
              unfold par; rw [hodd]; rfl
            clear hcell
            obtain ⟨z, hz⟩ : ∃ z, rs.getD (l - 1) 0 = z := ⟨_, rfl⟩
            rw [hz] at hc0 hb0 HFIN
            clear hz
            have tm : (l : Int) % 2 = 1 := by omega
            have TM := Lib.hid tm
            clear tm hodd
            have tb : ((l : Int) % 2 == 1) = true := by rw [TM.out]; rfl
            have lb : (0 : Int) ≤ (l : Int) - 1 := by have := TM.out; omega
            go_wp2_with fail
            refine (add1_any z 0 t (w.heap.size + 1 + 1) wr hZ.out hb0.1 hb0.2 (by omega) (by omega) t0 t1).mono ?_
            rintro e w2 ⟨rfl, hk2, hh⟩
            have Y2 := Lib.hid (hk2.at hY.out (by omega))
            have X2 := Lib.hid (hk2.at hX.out (by omega))
            have B2 := Lib.hid (below_but hB.out hk2 (by omega) hB.out.size)
            have HH := Lib.hid hh
            clear hk2 hh x0 x1 xf0 xf1 y0 y1 yf0 yf1 z0 hc0
            have x0 : w2.cell? ⟨w.heap.size, 0, none⟩ = some (.int .u16 s) := cell_of 0 X2.out rfl
            have x1 : w2.cell? ⟨w.heap.size, 1, none⟩ = some (.bool o') := cell_of 1 X2.out rfl
            have xf0 := free_of 0 X2.out
            have xf1 := free_of 1 X2.out
            have y0 : w2.cell? ⟨w.heap.size + 1, 0, none⟩ = some (.int .u16 0) := cell_of 0 Y2.out rfl
            have y1 : w2.cell? ⟨w.heap.size + 1, 1, none⟩ = some (.bool false) := cell_of 1 Y2.out rfl
            have yf0 := free_of 0 Y2.out
            have yf1 := free_of 1 Y2.out
            have z0 : w2.cell? ⟨w.heap.size + 1 + 1, 0, none⟩ = some (.int .u64 (t + (z * 256 + 0))) := cell_of 0 HH.out rfl
            go_wp2_with fail
            refine (fold_any _ _ (by omega) (by omega)).mono ?_
            rintro e w3 ⟨rfl, rfl⟩
            go_wp2_with fail
            obtain ⟨e1, e2, _⟩ := HFIN.out
            refine bodyPost_ret (v := .agg #[.int .u16 (cn (t + (z * 256 + 0))), .bool true]) (by simp [results, Try.results118, go_sem, y0, y1]) rfl ⟨?_, ?_⟩
            · rw [e1, ← HZ.out, ← e2]; rfl
            · repeat (first | exact B2.out | (refine Below.setCell ?_ (by simp) _) | refine Below.drew ?_)
          · have HFIN : Hid (t = s + ws false zs ∧ o' = par false zs.length) := by
              have hl1 := HRL.out
              have h1 := HKL.out
              have h3 := HWS.out
              have h4 := HT.out
              rw [show 2 * k = rs.length from by omega, List.take_length] at h4
              refine ⟨?_, ?_⟩
              · rw [← h3, ← h4]
                cases ho : o' with
                | false => rfl
                | true =>
                  have := HO.out ho
                  obtain rfl : rs = [] := List.length_eq_zero_iff.1 (by omega)
                  rfl
              · rw [← HPAR.out]; unfold par; rw [show l % 2 = 0 from by omega]; cases o' <;> rfl
            have tb : ((l : Int) % 2 == 1) = false := by simp; omega
            clear hodd
            go_wp2_with fail
            refine (fold_any _ _ (by omega) (by omega)).mono ?_
            rintro e w3 ⟨rfl, rfl⟩
            go_wp2_with fail
            obtain ⟨e1, e2⟩ := HFIN.out
            refine bodyPost_ret (v := .agg #[.int .u16 (cn t), .bool o']) (by simp [results, Try.results118, go_sem, y0, y1]) rfl ⟨?_, ?_⟩
            · rw [e1, ← HZ.out, ← e2]; rfl
            · repeat (first | exact hB.out | (refine Below.setCell ?_ (by simp) _) | refine Below.drew ?_)
  · go_enter Try.func118, Try.ntmps118
    go_upto_if 18 with (fail)
    generalize ((w.alloc (Obj.cells #[Value.int IntKind.u16 s, Value.bool true] 194)).alloc (Obj.cells #[Value.int IntKind.u16 0, Value.bool false] 194)).alloc (Obj.cells #[Value.int IntKind.u64 s] 37) = w1 at *
    go_cut [1] (fun v wx => AddAt w s true zs v wx)
    case first =>
      by_cases hlen : 0 < len
      · obtain ⟨b, off, rfl, hbl, hcell⟩ := HC.out 0 hlen
        have hcw : w1.cell? ⟨b, off, none⟩ = some (.int .u8 (zs.getD 0 0)) := (B.out.cell (p := ⟨b, off, none⟩) hbl).trans hcell
        clear hcell
        go_wp2_with fail
        have hz0 := HB.out (zs.getD 0 0) (by rw [List.getD_eq_getElem?_getD, List.getElem?_eq_getElem (by have := HZ.out; omega)]; exact List.getElem_mem _)
        refine (add1_any 0 (zs.getD 0 0) s _ w1 Z.out (by omega) (by omega) hz0.1 hz0.2 s0 (by omega)).mono ?_
        rintro e w2 ⟨rfl, hk, hh⟩
        have Z2 := Lib.hid hh
        have Y2 := Lib.hid (hk.at Y.out (by omega))
        have X2 := Lib.hid (hk.at X.out (by omega))
        have B2 := Lib.hid (below_but B.out hk (by omega) B.out.size)
        clear hk hh X Y Z B hcw
        have x1 : w2.cell? ⟨w.heap.size, 1, none⟩ = some (.bool true) := cell_of 1 X2.out rfl
        have f1 := free_of 1 X2.out
        have FIN : Hid (∀ a c, (1 < len → a = ⟨b, off + 1, none⟩) → AddAt w s true zs (.slice (some a) (len - 1) c) (w2.setCell ⟨w.heap.size, 1, none⟩ (.bool false))) := by
          intro a c ha
          obtain ⟨z, rs, rfl⟩ : ∃ z rs, zs = z :: rs := by
            cases zs with
            | nil => have := HZ.out; simp at this; omega
            | cons z rs => exact ⟨z, rs, rfl⟩
          have hl1 := HZ.out
          simp only [List.length_cons] at hl1
          refine ⟨_, len - 1, c, rs, s + (0 * 256 + z), false, rfl, by omega, by omega, ?_, fun x hx => HB.out x (List.mem_cons_of_mem _ hx), ?_, ?_, ?_, ?_, ?_, ?_, ?_, ?_, by simp⟩
          · intro i hi
            obtain ⟨b', off', he, hb', hc'⟩ := HC.out (i + 1) (by omega)
            cases he
            exact ⟨b, off + 1, by rw [ha (by omega)], hb', by rw [Nat.add_assoc, Nat.add_comm 1 i]; exact hc'⟩
          · exact B2.out.setCell (p := ⟨w.heap.size, 1, none⟩) (Nat.le_refl _) _
          · rw [heap_setCell X2.out]; rfl
          · exact (But.set1 _ _ _ _).at Y2.out (by omega)
          · exact (But.set1 _ _ _ _).at Z2.out (by omega)
          · have := hz0.1; simp at this; omega
          · have := hz0.2; simp at this; omega
          · simp only [ws]; omega
          · rw [List.length_cons, Nat.add_comm, ← par_add, show len - 1 = rs.length by omega]; rfl
        go_wp2_with fail
        all_goals
          go_meet
          exact FIN.out _ _ (by first | (intro h; rfl) | (intro h; exfalso; omega))
      · have : len = 0 := by omega
        subst this
        go_wp2_with fail
        go_meet
        exact START.out (by simp)
    case rest =>
      obtain ⟨a, l, c, rs, n, o', rfl, hrl, hll, hcc, hrb, hB, hX, hY, hZ, n0, n1, hws, hpar, ho'⟩ := hcut
      clear START X Y Z B
      have HCC := Lib.hid hcc
      have HRB := Lib.hid hrb
      have HRL := Lib.hid hrl
      have HWS := Lib.hid hws
      have HPAR := Lib.hid hpar
      have HO := Lib.hid ho'
      have HX := Lib.hid hX
      have HY := Lib.hid hY
      have HZ' := Lib.hid hZ
      have HB' := Lib.hid hB
      clear hcc hrb hrl hws hpar ho' hX hY hZ hB
      go_wp2_with fail
      go_loopw [30] (fun i wr => ∃ k : Nat, k ≤ l / 2 ∧ i = .int .i64 k ∧ Hid (Below w.heap.size w wr) ∧ Hid (wr.heap[w.heap.size]? = some (.cells #[.int .u16 s, .bool o'] 194 (0, 0))) ∧ Hid (wr.heap[w.heap.size + 1]? = some (.cells #[.int .u16 0, .bool false] 194 (0, 0))) ∧
          Hid (wr.heap[w.heap.size + 1 + 1]? = some (.cells #[.int .u64 (n + ws false (rs.take (2 * k)))] 37 (0, 0)))) (fun i _ => l / 2 - (intOf i).toNat)
      case atStart => exact ⟨0, by omega, rfl, HB', HX, HY, by simpa [ws] using HZ'⟩
      case round =>
        obtain ⟨k, hk, rfl, hB, hX, hY, hZ⟩ := hrel
        clear HX HY HZ' HB'
        by_cases hlt : k < l / 2
        · obtain ⟨b, off, rfl, hbl, hcell⟩ := HCC.out (2 * k) (by omega)
          obtain ⟨b', off', he, hbl', hcell'⟩ := HCC.out (2 * k + 1) (by omega)
          cases he
          have hc0 : wr.cell? ⟨b, off + 2 * k, none⟩ = some (.int .u8 (rs.getD (2 * k) 0)) := (hB.out.cell (p := ⟨b, off + 2 * k, none⟩) hbl).trans hcell
          have hc1 : wr.cell? ⟨b, off + (2 * k + 1), none⟩ = some (.int .u8 (rs.getD (2 * k + 1) 0)) := (hB.out.cell (p := ⟨b, off + (2 * k + 1), none⟩) hbl).trans hcell'
          clear hcell hcell'
          have hb0 := HRB.out (rs.getD (2 * k) 0) (by rw [List.getD_eq_getElem?_getD, List.getElem?_eq_getElem (by have := HRL.out; omega)]; exact List.getElem_mem _)
          have hb1 := HRB.out (rs.getD (2 * k + 1) 0) (by rw [List.getD_eq_getElem?_getD, List.getElem?_eq_getElem (by have := HRL.out; omega)]; exact List.getElem_mem _)
          have hsum : ws false (rs.take (2 * (k + 1))) = ws false (rs.take (2 * k)) + (rs.getD (2 * k) 0 * 256 + rs.getD (2 * k + 1) 0) := by
            rw [show 2 * (k + 1) = 2 * k + 1 + 1 from by omega, ws_take_succ (by have := HRL.out; omega), ws_take_succ (by have := HRL.out; omega)]
            have p1 : par false (2 * k) = false := by unfold par; rw [show 2 * k % 2 = 0 from by omega]; rfl
            have p2 : par false (2 * k + 1) = true := by rw [par_succ, p1]; rfl
            rw [p1, p2]; simp; omega
          have hwn := ws_nonneg false (rs.take (2 * k)) (fun x hx => HRB.out x (List.mem_of_mem_take hx))
          have hwl : (rs.take (2 * k)).length ≤ 1099511627776 := by rw [List.length_take]; omega
          have HS := Lib.hid hsum
          clear hsum
          obtain ⟨z0, hz0⟩ : ∃ z, rs.getD (2 * k) 0 = z := ⟨_, rfl⟩
          obtain ⟨z1, hz1⟩ : ∃ z, rs.getD (2 * k + 1) 0 = z := ⟨_, rfl⟩
          obtain ⟨t, ht⟩ : ∃ t, n + ws false (rs.take (2 * k)) = t := ⟨_, rfl⟩
          have t0 : 0 ≤ t := by omega
          have t1 : t ≤ 1152921504606846976 := by omega
          rw [hz0] at hc0 hb0 HS
          rw [hz1] at hc1 hb1 HS
          rw [ht] at hZ
          have HT := Lib.hid ht
          clear hz0 hz1 ht hwn hwl
          have ADD := Lib.hid (fun w' h => add1_any z0 z1 t (w.heap.size + 1 + 1) w' h hb0.1 hb0.2 hb1.1 hb1.2 t0 t1)
          have i0 : (0 : Int) ≤ 2 * (k : Int) := by omega
          have i1 : 2 * (k : Int) + 1 < (l : Int) := by omega
          have j0 : IntKind.i64.wrap (2 * (k : Int)) = 2 * (k : Int) := IntWalk.i64_in _ (by omega)
          have j1 : IntKind.i64.wrap (2 * (k : Int) + 1) = 2 * (k : Int) + 1 := IntWalk.i64_in _ (by omega)
          have j2 : (2 * (k : Int)).toNat = 2 * k := by omega
          have j3 : (2 * (k : Int) + 1).toNat = 2 * k + 1 := by omega
          have j4 : (0 : Int) ≤ 2 * (k : Int) + 1 := by omega
          have j5 : 2 * (k : Int) < (l : Int) := by omega
          go_wp2_with fail
          go_still_tail 12, (by kernel_rfl)
          change wpList _ _ _ _ _ wr.drew
          go_wp2_with fail
          refine (ADD.out wr.drew hZ).mono ?_
          rintro e w2 ⟨rfl, hk2, hh⟩
          have Z2 := Lib.hid hh
          have Y2 : Hid _ := hk2.at hY.out (by omega)
          have X2 : Hid _ := hk2.at hX.out (by omega)
          have B2 := Lib.hid (below_but (Below.drew hB.out) hk2 (by omega) hB.out.size)
          clear hk2 hh hX hY hZ hB hc0 hc1 j0 j1 j2 j3 j4 j5 i0 i1 ADD
          go_wp2_with fail
          go_roundw
          case rel =>
            refine ⟨k + 1, by omega, by go_num, B2, X2, Y2, ?_⟩
            rw [HS.out, ← Int.add_assoc, HT.out]
            exact Z2
          case measure => simp [intOf]; omega
        · have hkl : k = l / 2 := by omega
          have HKL := Lib.hid hkl
          have hwn := ws_nonneg false (rs.take (2 * k)) (fun x hx => HRB.out x (List.mem_of_mem_take hx))
          have hwl : (rs.take (2 * k)).length ≤ 1099511627776 := by rw [List.length_take]; omega
          obtain ⟨t, ht⟩ : ∃ t, n + ws false (rs.take (2 * k)) = t := ⟨_, rfl⟩
          have t0 : 0 ≤ t := by omega
          have t1 : t ≤ 1152921504606846976 := by omega
          rw [ht] at hZ
          have HT := Lib.hid ht
          clear ht hwn hwl hkl
          have x0 : wr.cell? ⟨w.heap.size, 0, none⟩ = some (.int .u16 s) := cell_of 0 hX.out rfl
          have x1 : wr.cell? ⟨w.heap.size, 1, none⟩ = some (.bool o') := cell_of 1 hX.out rfl
          have xf0 := free_of 0 hX.out
          have xf1 := free_of 1 hX.out
          have y0 : wr.cell? ⟨w.heap.size + 1, 0, none⟩ = some (.int .u16 0) := cell_of 0 hY.out rfl
          have y1 : wr.cell? ⟨w.heap.size + 1, 1, none⟩ = some (.bool false) := cell_of 1 hY.out rfl
          have yf0 := free_of 0 hY.out
          have yf1 := free_of 1 hY.out
          have z0 : wr.cell? ⟨w.heap.size + 1 + 1, 0, none⟩ = some (.int .u64 t) := cell_of 0 hZ.out rfl
          by_cases hodd : l % 2 = 1
          · obtain ⟨b, off, rfl, hbl, hcell⟩ := HCC.out (l - 1) (by omega)
            have hc0 : wr.cell? ⟨b, off + (l - 1), none⟩ = some (.int .u8 (rs.getD (l - 1) 0)) := (hB.out.cell (p := ⟨b, off + (l - 1), none⟩) hbl).trans hcell
            have hb0 := HRB.out (rs.getD (l - 1) 0) (by rw [List.getD_eq_getElem?_getD, List.getElem?_eq_getElem (by have := HRL.out; omega)]; exact List.getElem_mem _)
            have HFIN : Hid (t + (rs.getD (l - 1) 0 * 256 + 0) = s + ws true zs ∧ (true : Bool) = par true zs.length ∧ o' = false) := by
              have hl1 := HRL.out
              have h1 := HKL.out
              have ho : o' = false := by cases ho : o' with | false => rfl | true => have := HO.out ho; omega
              have h2 : ws false rs = ws false (rs.take (2 * k)) + rs.getD (l - 1) 0 * 256 := by
                have e := ws_take_succ (o := false) (l := rs) (k := 2 * k) (by omega)
                have p1 : par false (2 * k) = false := by unfold par; rw [show 2 * k % 2 = 0 from by omega]; rfl
                rw [p1, show 2 * k + 1 = rs.length from by omega, List.take_length, show 2 * k = l - 1 from by omega] at e
                rw [e, show 2 * k = l - 1 from by omega]; rfl
              have h3 := HWS.out
              have h4 := HT.out
              rw [ho] at h3
              refine ⟨by omega, ?_, ho⟩
              rw [← HPAR.out, ho]
              unfold par; rw [hodd]; rfl
            clear hcell
            obtain ⟨z, hz⟩ : ∃ z, rs.getD (l - 1) 0 = z := ⟨_, rfl⟩
            rw [hz] at hc0 hb0 HFIN
            clear hz
            have tm : (l : Int) % 2 = 1 := by omega
            have TM := Lib.hid tm
            clear tm hodd
            have tb : ((l : Int) % 2 == 1) = true := by rw [TM.out]; rfl
            have lb : (0 : Int) ≤ (l : Int) - 1 := by have := TM.out; omega
            go_wp2_with fail
            refine (add1_any z 0 t (w.heap.size + 1 + 1) wr hZ.out hb0.1 hb0.2 (by omega) (by omega) t0 t1).mono ?_
            rintro e w2 ⟨rfl, hk2, hh⟩
            have Y2 := Lib.hid (hk2.at hY.out (by omega))
            have X2 := Lib.hid (hk2.at hX.out (by omega))
            have B2 := Lib.hid (below_but hB.out hk2 (by omega) hB.out.size)
            have HH := Lib.hid hh
            clear hk2 hh x0 x1 xf0 xf1 y0 y1 yf0 yf1 z0 hc0
            have x0 : w2.cell? ⟨w.heap.size, 0, none⟩ = some (.int .u16 s) := cell_of 0 X2.out rfl
            have x1 : w2.cell? ⟨w.heap.size, 1, none⟩ = some (.bool o') := cell_of 1 X2.out rfl
            have xf0 := free_of 0 X2.out
            have xf1 := free_of 1 X2.out
            have y0 : w2.cell? ⟨w.heap.size + 1, 0, none⟩ = some (.int .u16 0) := cell_of 0 Y2.out rfl
            have y1 : w2.cell? ⟨w.heap.size + 1, 1, none⟩ = some (.bool false) := cell_of 1 Y2.out rfl
            have yf0 := free_of 0 Y2.out
            have yf1 := free_of 1 Y2.out
            have z0 : w2.cell? ⟨w.heap.size + 1 + 1, 0, none⟩ = some (.int .u64 (t + (z * 256 + 0))) := cell_of 0 HH.out rfl
            go_wp2_with fail
            refine (fold_any _ _ (by omega) (by omega)).mono ?_
            rintro e w3 ⟨rfl, rfl⟩
            go_wp2_with fail
            obtain ⟨e1, e2, _⟩ := HFIN.out
            refine bodyPost_ret (v := .agg #[.int .u16 (cn (t + (z * 256 + 0))), .bool true]) (by simp [results, Try.results118, go_sem, y0, y1]) rfl ⟨?_, ?_⟩
            · rw [e1, ← HZ.out, ← e2]; rfl
            · repeat (first | exact B2.out | (refine Below.setCell ?_ (by simp) _) | refine Below.drew ?_)
          · have HFIN : Hid (t = s + ws true zs ∧ o' = par true zs.length) := by
              have hl1 := HRL.out
              have h1 := HKL.out
              have h3 := HWS.out
              have h4 := HT.out
              rw [show 2 * k = rs.length from by omega, List.take_length] at h4
              refine ⟨?_, ?_⟩
              · rw [← h3, ← h4]
                cases ho : o' with
                | false => rfl
                | true =>
                  have := HO.out ho
                  obtain rfl : rs = [] := List.length_eq_zero_iff.1 (by omega)
                  rfl
              · rw [← HPAR.out]; unfold par; rw [show l % 2 = 0 from by omega]; cases o' <;> rfl
            have tb : ((l : Int) % 2 == 1) = false := by simp; omega
            clear hodd
            go_wp2_with fail
            refine (fold_any _ _ (by omega) (by omega)).mono ?_
            rintro e w3 ⟨rfl, rfl⟩
            go_wp2_with fail
            obtain ⟨e1, e2⟩ := HFIN.out
            refine bodyPost_ret (v := .agg #[.int .u16 (cn t), .bool o']) (by simp [results, Try.results118, go_sem, y0, y1]) rfl ⟨?_, ?_⟩
            · rw [e1, ← HZ.out, ← e2]; rfl
            · repeat (first | exact hB.out | (refine Below.setCell ?_ (by simp) _) | refine Below.drew ?_)
end Go.Proofs.Ytmdafjegddnecaa
