/- A slice of bytes that lies in a struct that came in. -/
import Derived.Test.YtmdafjegddnecaaIn
namespace Go.Wb
open Go.ChangeShapes Go.WideShapes Go.ChangeAt Go.RowKit
theorem leaf_row2 {H : Type} {enc : TypeId × Value → H} {P : Program} {w : World} {base : Nat} {spare : Nat → Bool} {held : Bool} {t e : TypeId} {k : IntKind} {v : Value} {y : DataW H × List MemPlace} {fuel : Nat} (ht : P.underlying t = some (.slice e)) (he : P.underlying e = some (.int k)) (hc : P.cellsOf e = 1)
    (hf : DataW.trod enc P w base spare held fuel t [v] = some y) : ∃ zs, IsRow k w v zs := by
  have hs : ∃ a len cap, v = .slice a len cap := by
    rcases open_ints ht he hc hf with ⟨hcs, _⟩ | ⟨x, l, c, zs, hcs, _⟩
    · simp at hcs; exact ⟨_, _, _, hcs⟩
    · simp at hcs; exact ⟨_, _, _, hcs⟩
  obtain ⟨a, len, cap, rfl⟩ := hs
  rcases open_ints ht he hc hf with ⟨hcs, _⟩ | ⟨x, l, c, zs, hcs, _, hl, hm, hz, _, hcell, hwz⟩
  · simp at hcs
    obtain ⟨rfl, rfl, rfl⟩ := hcs
    exact ⟨[], _, _, _, rfl, rfl, Nat.le_refl _, by simp [maxLen], .inl rfl, by simp, fun _ => rfl⟩
  · simp at hcs
    obtain ⟨rfl, rfl, rfl⟩ := hcs
    have hzl : len ≤ zs.length := by rw [hz]; split <;> omega
    refine ⟨zs.take len, _, _, _, rfl, by simp; omega, hl, hm, ?_, fun n hn => hwz n (List.mem_of_mem_take hn), fun h => by cases h⟩
    by_cases h0 : len = 0
    · exact .inl h0
    · right
      obtain ⟨b, off, spot⟩ := x
      have hc0 := hcell 0 (by omega)
      have hspot : spot = none := by simpa [Addr.add] using World.cell?_spot hc0
      subst hspot
      refine ⟨b, off, rfl, ?_, ?_⟩
      · have : (w.cell? ⟨b, off, none⟩) = some (.int k (zs.getD 0 0)) := by simpa [Addr.add] using hc0
        unfold World.cell? at this
        rcases Nat.lt_or_ge b w.heap.size with h' | h'
        · exact h'
        · simp [Array.getElem?_eq_none h'] at this
      · intro i hi
        have := hcell i (by omega)
        rw [List.getD_eq_getElem?_getD, List.getElem?_take_of_lt hi, ← List.getD_eq_getElem?_getD, ← this]
        unfold Addr.add
        split
        · rename_i h; simp [h]
        · rfl
end Go.Wb
namespace Go.Proofs.Ytmdafjegddnecaa
open Go.ChangeShapes Go.WideShapes Go.ChangeAt Go.RowKit Go.Wb
theorem b32 {x : Int} (h : (Lit.int .u32 x).wf = true) : 0 ≤ x ∧ x < 4294967296 := by
  have := bounds_u32 h; omega
end Go.Proofs.Ytmdafjegddnecaa
