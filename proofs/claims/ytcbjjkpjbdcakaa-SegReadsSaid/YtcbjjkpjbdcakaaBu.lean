/- A loop that writes bytes of the call's own: what it leaves. -/
import Derived.Test.YtcbjjkpjbdcakaaAl
namespace Go.Proofs.Ytcbjjkpjbdcakaa
open Go.RowKit Go.Wb
set_option linter.unusedVariables false
set_option linter.unusedSimpArgs false

/-- From W0 on at most these bytes have turned. -/
structure Bumped (W0 : World) (base : Nat) (a : Option Addr) (len cap : Nat) (W : World) : Prop where
  os : W.os = W0.os
  tape : W.tape = W0.tape
  output : W.output = W0.output
  size : W.heap.size = W0.heap.size
  block : ∀ k, (Value.slice a len cap).ownBlock ≠ some k → W.heap[k]? = W0.heap[k]?
  own : ∃ zs, Own8 base W a len cap zs

theorem Bumped.refl {W0 : World} {base : Nat} {a : Option Addr} {len cap : Nat} {zs : List Int} (h : Own8 base W0 a len cap zs) : Bumped W0 base a len cap W0 :=
  ⟨rfl, rfl, rfl, rfl, fun _ _ => rfl, zs, h⟩
theorem Bumped.at {W0 W : World} {base : Nat} {a : Option Addr} {len cap k : Nat} {o : Obj} (h : Bumped W0 base a len cap W) (hk : (Value.slice a len cap).ownBlock ≠ some k) (ho : W0.heap[k]? = some o) : W.heap[k]? = some o :=
  (h.block k hk).trans ho
theorem Bumped.keep {W0 W : World} {base B : Nat} {a a' : Option Addr} {len cap len' cap' : Nat} {zs : List Int} (h : Bumped W0 base a len cap W) (o : Own8 B W0 a' len' cap' zs) (hne : ∀ g, (Value.slice a' len' cap').ownBlock = some g → (Value.slice a len cap).ownBlock ≠ some g) : Own8 B W a' len' cap' zs := by
  obtain ⟨⟨hlen, hv⟩, hz, hs⟩ := o
  refine ⟨⟨hlen, ?_⟩, hz, by rw [h.size]; exact hs⟩
  rcases hv with hv | ⟨g, c', cur, hv, hg, hh, hr⟩
  · exact .inl hv
  · exact .inr ⟨g, c', cur, hv, hg, h.at (hne g (by rw [hv]; rfl)) hh, hr⟩
theorem Bumped.below {w W0 W : World} {base B : Nat} {a : Option Addr} {len cap : Nat} (h : Bumped W0 base a len cap W) (hb : Below B w W0) (hne : ∀ g, (Value.slice a len cap).ownBlock = some g → B ≤ g) : Below B w W :=
  ⟨h.os.trans hb.os, h.tape.trans hb.tape, h.output.trans hb.output, by rw [h.size]; exact hb.size, fun k hk => (h.block k fun e => by have := hne k e; omega).trans (hb.block k hk)⟩
theorem Bumped.step {W0 W : World} {base : Nat} {a : Option Addr} {len cap : Nat} (h : Bumped W0 base a len cap W) {i : Nat} (hi : i < len) :
    ∃ g v, a = some ⟨g, 0, none⟩ ∧ base ≤ g ∧ g < W.heap.size ∧ W.cell? ⟨g, i, none⟩ = some (.int .u8 v) ∧ W.frozen? ⟨g, i, none⟩ = false ∧ 0 ≤ v ∧ v ≤ 255 ∧ ∀ u, 0 ≤ u → u ≤ 255 → Bumped W0 base a len cap (W.setCell ⟨g, i, none⟩ (.int .u8 u)) := by
  obtain ⟨zs, ho⟩ := h.own
  have hrow := ho.row
  obtain ⟨⟨hlen, hv⟩, hz, hs⟩ := ho
  rcases hv with ⟨_, h0⟩ | ⟨g, c', cur, hv, hg, hh, hn, hm, hsz, ht⟩
  · omega
  cases hv
  have hc := hrow.at (i := i) hi
  rw [Nat.zero_add] at hc
  have hr := hrow.getD i
  refine ⟨g, _, rfl, hg, lt_of_heap hh, hc, free_of i hh, hr.1, hr.2, fun u u0 u1 => ⟨h.os, h.tape, h.output, by simpa [World.setCell] using h.size, fun k hk => ?_, zs.set i u, ⟨by simpa using hlen, .inr ⟨g, cap, cur.setIfInBounds i (.int .u8 u), rfl, hg, heap_setCell hh, hn, hm, by simpa using hsz, ?_⟩⟩, ?_, by simpa [World.setCell] using hs⟩⟩
  · have hne : k ≠ g := fun e => hk (by rw [e]; rfl)
    rw [← h.block k hk]
    simp only [World.setCell, Array.getElem?_modify]
    rw [if_neg (Ne.symm hne)]
  · rw [Array.toList_setIfInBounds, List.take_set, ht, List.map_set]
  · intro x hx
    rcases List.mem_or_eq_of_mem_set hx with hx | rfl
    · exact hz x hx
    · exact ⟨u0, u1⟩
end Go.Proofs.Ytcbjjkpjbdcakaa
