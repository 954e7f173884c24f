/- The law BucketPlays: its other ways, and the opening of its calls. -/
import Derived.Test.YtamjhaomdfeemaaPl
import Derived.Test.YtamjhaomdfeemaaCe
namespace Go.Proofs.Ytamjhaomdfeemaa
open Go.RowKit Go.Wb Go.ChangeShapes Go.WideShapes Go.ChangeAt
set_option linter.unusedVariables false

set_option maxRecDepth 100000 in
theorem plays_long (r u : Int) (a : Option Addr) (len cap : Nat) (w : World) (hl : 100 < len) (hl' : len ≤ 9223372036854775807) :
    Calls Try.prog 13 #[.int .u32 r, .int .u32 u, .slice a len cap] w fun e w' => e = .returned (.bool true) ∧ Below w.heap.size w w' := by
  go_enter Try.func13, Try.ntmps13
  go_wp2_with fail
  refine (known_any _).mono ?_
  rintro e w2 ⟨rfl, hb2⟩
  go_wp2_with fail
  go_ret
  exact ⟨rfl, hb2⟩

set_option maxRecDepth 100000 in
theorem plays_no (r u : Int) (a : Option Addr) (len cap : Nat) (w : World) (hm : may r u = false) (r0 : 0 ≤ r) (hl : len ≤ 100) :
    Calls Try.prog 13 #[.int .u32 r, .int .u32 u, .slice a len cap] w fun e w' => e = .returned (.bool true) ∧ Below w.heap.size w w' := by
  have MAY := rmay_any r u w r0
  rw [hm] at MAY
  have HMAY := Lib.hid MAY
  have HM := Lib.hid hm
  clear hm MAY
  go_enter Try.func13, Try.ntmps13
  go_wp2_with fail
  refine (new_no r u _ HM.out).mono ?_
  rintro e w1 ⟨rfl, rfl⟩
  go_wp2_with fail
  refine (HMAY.out).mono ?_
  rintro e w1 ⟨rfl, rfl⟩
  go_wp2_with fail
  refine (known_any _).mono ?_
  rintro e w2 ⟨rfl, hb2⟩
  go_wp2_with fail
  go_ret
  exact ⟨rfl, hb2⟩

/-- A slice of calls that came in. -/
def InOps (w : World) (v : Value) : Prop := ∃ a len cap, v = .slice a len cap ∧ OpsIn w a len

theorem flat88 : flat Try.prog 3 88 = some [3, 31, 55, 55] := by kernel_rfl
set_option maxRecDepth 1000000 in
theorem openT83 {H : Type} {enc : TypeId × Value → H} {w : World} {base b0 : Nat} {spare : Nat → Bool} {held : Bool} {r : Reach} {v : Value} {d : DataW H} {p : List MemPlace} (hv : Value.okWide Try.prog w r b0 83 v) (h : DataW.Trod enc Try.prog w base spare held 83 v d p) : InOps w v := by
  obtain ⟨a, len, cap, rfl⟩ := okWide_slice Try.underlying83 hv
  obtain ⟨fuel, hf⟩ := h
  rcases DataW.trod_slice Try.underlying83 hf with ⟨hcs, _⟩ | ⟨x, l, c, elems, rest, n, _, hcs, _, hbase, hl, hm, hlen, hel, _, _⟩
  · simp [Value.cells] at hcs
    obtain ⟨rfl, rfl, rfl⟩ := hcs
    exact ⟨_, _, _, rfl, by omega, fun i hi => absurd hi (Nat.not_lt_zero _)⟩
  · simp [Value.cells] at hcs
    obtain ⟨rfl, rfl, rfl⟩ := hcs
    unfold maxLen at hm
    refine ⟨_, _, _, rfl, by omega, fun i hi => ?_⟩
    have he0 := hel 0 (by omega)
    rw [List.getElem?_eq_getElem (by omega), Try.cells88] at he0
    obtain ⟨cs0, hcs0, _⟩ := Option.bind_eq_some_iff.1 he0
    have he := hel i hi
    rw [List.getElem?_eq_getElem (by omega), Try.cells88] at he
    obtain ⟨cs, hcs, ht⟩ := Option.bind_eq_some_iff.1 he
    have L := trod_leaves 3 n 88 cs _ _ ht flat88
    obtain ⟨K, v1, rfl, wK, h1⟩ := leaves_int Try.underlying3 L
    obtain ⟨M, v2, rfl, wM, h2⟩ := leaves_int Try.underlying31 h1
    obtain ⟨n', v3, rfl, wn, h3⟩ := leaves_int Try.underlying55 h2
    obtain ⟨m', v4, rfl, wm, h4⟩ := leaves_int Try.underlying55 h3
    obtain rfl := leaves_nil h4
    obtain ⟨b, off, rfl, hb, _, hc⟩ := elem_cells hcs0 (by omega) hcs
    have bM := bounds_u64 wM
    have bn := bounds_u32 wn
    have bm := bounds_u32 wm
    exact ⟨b, off, K, M, n', m', rfl, hb, hc 0 (by omega), hc 1 (by omega), hc 2 (by omega), hc 3 (by omega), bM.1, bM.2, bn.1, bn.2, bm.1, bm.2⟩

theorem bucketPlays_walk (w : World) (r : Int) (wr : (Lit.int .u32 r).wf = true) (u : Int) (wu : (Lit.int .u32 u).wf = true) (v : Value) (hv : InOps w v) :
    Calls Try.prog 13 #[.int .u32 r, .int .u32 u, v] w fun e w' => e = .returned (.bool true) ∧ Below w.heap.size w w' := by
  obtain ⟨a, len, cap, rfl, h⟩ := hv
  have b1 := bounds_u32 wr
  have b2 := bounds_u32 wu
  have hle := h.le
  by_cases hl : 100 < len
  · exact plays_long r u a len cap w hl hle
  · cases hm : may r u
    · exact plays_no r u a len cap w hm b1.1 (by omega)
    · exact plays_loop r u a len cap w hm b1.1 b1.2 b2.1 b2.2 (by omega) h
end Go.Proofs.Ytamjhaomdfeemaa
