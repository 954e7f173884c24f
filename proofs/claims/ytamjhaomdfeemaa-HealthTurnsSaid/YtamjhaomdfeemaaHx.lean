/- The law HealthTurns: its other ways, and the opening of its replies. -/
import Derived.Test.YtamjhaomdfeemaaHw
namespace Go.Proofs.Ytamjhaomdfeemaa
open Go.RowKit Go.Wb Go.ChangeShapes Go.WideShapes Go.ChangeAt
set_option linter.unusedVariables false

set_option maxRecDepth 100000 in
set_option maxHeartbeats 1000000 in
theorem turns_out (up : Bool) (run r f : Int) (a : Option Addr) (len cap : Nat) (w : World) (hm : hmay up run r f = false ∨ 100 < len) (hl : len ≤ 9223372036854775807) :
    Calls Try.prog 7 #[.agg #[.bool up, .int .i64 run], .agg #[.int .i64 r, .int .i64 f], .slice a len cap] w fun e w' => e = .returned (.bool true) ∧ Below w.heap.size w w' := by
  have MAY := Lib.hid (fun W => hmay_any up run r f W)
  have B1 := Lib.hid (b2 w (Obj.cells #[.bool up, .int .i64 run] 37) (Obj.cells #[.int .i64 r, .int .i64 f] 39))
  have HS : hmay up run r f = false ∨ (hmay up run r f = true ∧ 100 < len) := by
    cases h : hmay up run r f
    · exact .inl rfl
    · rcases hm with h' | h'
      · rw [h] at h'; cases h'
      · exact .inr ⟨rfl, h'⟩
  rcases HS with hs | ⟨hs, hlen⟩
  all_goals
    rw [hs] at MAY
    clear hs hm
    go_enter Try.func7, Try.ntmps7
    go_wp2_with fail
    refine (MAY.out _).mono ?_
    rintro e w2 ⟨rfl, hb⟩
    have B2 := Lib.hid (B1.out.trans (hb.mono B1.out.size))
    clear hb
    go_wp2_with fail
    refine (known21_any _).mono ?_
    rintro e w8 ⟨rfl, hb⟩
    have B8 := Lib.hid (B2.out.trans (hb.mono B2.out.size))
    clear hb
    go_wp2_with fail
    go_ret
    exact ⟨rfl, B8.out⟩

/-- A slice of bools that came in. -/
def InB (w : World) (v : Value) : Prop := ∃ a len cap zs, v = .slice a len cap ∧ len ≤ 9223372036854775807 ∧ RowB w a len zs

theorem cells4 : Try.prog.cellsOf 4 = 1 := by kernel_rfl
set_option maxRecDepth 1000000 in
theorem openT50 {H : Type} {enc : TypeId × Value → H} {w : World} {base b0 : Nat} {spare : Nat → Bool} {held : Bool} {r : Reach} {v : Value} {d : DataW H} {p : List MemPlace} (hv : Value.okWide Try.prog w r b0 50 v) (h : DataW.Trod enc Try.prog w base spare held 50 v d p) : InB w v := by
  obtain ⟨a, len, cap, rfl⟩ := okWide_slice Try.underlying50 hv
  obtain ⟨fuel, hf⟩ := h
  rcases DataW.trod_slice Try.underlying50 hf with ⟨hcs, _⟩ | ⟨x, l, c, elems, rest, n, _, hcs, _, hbase, hl, hm, hlen, hel, _, _⟩
  · simp [Value.cells] at hcs
    obtain ⟨rfl, rfl, rfl⟩ := hcs
    exact ⟨_, _, _, [], rfl, by omega, rfl, fun i hi => absurd hi (Nat.not_lt_zero _)⟩
  · simp [Value.cells] at hcs
    obtain ⟨rfl, rfl, rfl⟩ := hcs
    unfold maxLen at hm
    have each : ∀ i, i < len → ∃ b off z, x = ⟨b, off, none⟩ ∧ b < w.heap.size ∧ w.cell? ⟨b, off + i, none⟩ = some (.bool z) := by
      intro i hi
      have he0 := hel 0 (by omega)
      rw [List.getElem?_eq_getElem (by omega), cells4] at he0
      obtain ⟨cs0, hcs0, _⟩ := Option.bind_eq_some_iff.1 he0
      have he := hel i hi
      rw [List.getElem?_eq_getElem (by omega), cells4] at he
      obtain ⟨cs, hcs, ht⟩ := Option.bind_eq_some_iff.1 he
      obtain ⟨z, hz, _⟩ := DataW.trod_bool Try.underlying4 ht
      subst hz
      obtain ⟨b, off, rfl, hb, _, hc⟩ := elem_cells hcs0 (by omega) hcs
      have := hc 0 (by omega)
      rw [Nat.mul_one, Nat.add_zero] at this
      exact ⟨b, off, z, rfl, hb, this⟩
    classical
    refine ⟨_, _, _, (List.range len).map (fun i => if h : i < len then (each i h).choose_spec.choose_spec.choose else false), rfl, by omega, by simp, fun i hi => ?_⟩
    have hs := (each i hi).choose_spec.choose_spec.choose_spec
    refine ⟨_, _, congrArg some hs.1, hs.2.1, ?_⟩
    rw [hs.2.2, List.getD_eq_getElem?_getD, List.getElem?_map, List.getElem?_range hi]
    simp [hi]

theorem healthTurns_walk (w : World) (h : Value) (hh : InHealth h) (s : Value) (hs : InSet s) (v : Value) (hv : InB w v) :
    Calls Try.prog 7 #[h, s, v] w fun e w' => e = .returned (.bool true) ∧ Below w.heap.size w w' := by
  obtain ⟨up, run, rfl, h1, h2⟩ := hh
  obtain ⟨r, f, rfl⟩ := hs
  obtain ⟨a, len, cap, zs, rfl, hle, hr⟩ := hv
  by_cases ho : hmay up run r f = false ∨ 100 < len
  · exact turns_out up run r f a len cap w ho hle
  · have : hmay up run r f = true := by cases h : hmay up run r f <;> simp_all
    exact turns_loop up run r f a len cap zs w this (by omega) hr
end Go.Proofs.Ytamjhaomdfeemaa
