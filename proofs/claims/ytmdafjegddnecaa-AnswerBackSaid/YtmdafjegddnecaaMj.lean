import Derived.Test.YtmdafjegddnecaaIn
import Derived.Test.YtmdafjegddnecaaMh
/- A slice of bytes that lies in a struct that came in. -/
namespace Go.Wb
open Go.ChangeShapes Go.WideShapes Go.ChangeAt Go.RowKit
theorem leaf_row2 {H : Type} {enc : TypeId × Value → H} {P : Program} {w : World} {base : Nat} {spare : Nat → Bool} {held : Bool} {t e : TypeId} {k : IntKind} {v : Value} {y : DataW H × List MemPlace} {fuel : Nat} (ht : P.underlying t = some (.slice e)) (he : P.underlying e = some (.int k)) (hc : P.cellsOf e = 1)
    (hf : DataW.trod enc P w base spare held fuel t [v] = some y) : ∃ zs, IsRow k w v zs := by
  have hs : ∃ a len cap, v = .slice a len cap := by
    rcases open_ints ht he hc hf with ⟨hcs, _⟩ | ⟨x, l, c, zs, hcs, _⟩
    · simp at hcs; exact ⟨_, _, _, hcs⟩
    · simp at hcs; exact ⟨_, _, _, hcs⟩
  obtain ⟨a, len, cap, rfl⟩ := hs
  rcases open_ints ht he hc hf with ⟨hcs, _⟩ | ⟨x, l, c, zs, hcs, _, hl, hm, hz, _, hcell, hwz⟩
  · simp at hcs
    obtain ⟨rfl, rfl, rfl⟩ := hcs
    exact ⟨[], _, _, _, rfl, rfl, Nat.le_refl _, by simp [maxLen], .inl rfl, by simp, fun _ => rfl⟩
  · simp at hcs
    obtain ⟨rfl, rfl, rfl⟩ := hcs
    have hzl : len ≤ zs.length := by rw [hz]; split <;> omega
    refine ⟨zs.take len, _, _, _, rfl, by simp; omega, hl, hm, ?_, fun n hn => hwz n (List.mem_of_mem_take hn), fun h => by cases h⟩
    by_cases h0 : len = 0
    · exact .inl h0
    · right
      obtain ⟨b, off, spot⟩ := x
      have hc0 := hcell 0 (by omega)
      have hspot : spot = none := by simpa [Addr.add] using World.cell?_spot hc0
      subst hspot
      refine ⟨b, off, rfl, ?_, ?_⟩
      · have : (w.cell? ⟨b, off, none⟩) = some (.int k (zs.getD 0 0)) := by simpa [Addr.add] using hc0
        unfold World.cell? at this
        rcases Nat.lt_or_ge b w.heap.size with h' | h'
        · exact h'
        · simp [Array.getElem?_eq_none h'] at this
      · intro i hi
        have := hcell i (by omega)
        rw [List.getD_eq_getElem?_getD, List.getElem?_take_of_lt hi, ← List.getD_eq_getElem?_getD, ← this]
        unfold Addr.add
        split
        · rename_i h; simp [h]
        · rfl
end Go.Wb
namespace Go.Proofs.Ytmdafjegddnecaa
open Go.ChangeShapes Go.WideShapes Go.ChangeAt Go.RowKit Go.Wb
theorem b32 {x : Int} (h : (Lit.int .u32 x).wf = true) : 0 ≤ x ∧ x < 4294967296 := by
  have := bounds_u32 h; omega
end Go.Proofs.Ytmdafjegddnecaa

/- An echo that comes in; the law AnswerReads' walk. -/
namespace Go.Proofs.Ytmdafjegddnecaa
open Go.ChangeShapes Go.WideShapes Go.ChangeAt Go.RowKit Go.Wb Go.Pm
set_option linter.unusedVariables false
set_option linter.unusedSimpArgs false
def vE (re : Bool) (id nu : Int) (x : Value) : List Value := [.bool re, .int .u16 id, .int .u16 nu, x]
def InEcho (w : World) (v : Value) : Prop := ∃ re id nu a len cap cs, v = .agg (vE re id nu (.slice a len cap)).toArray ∧ Row8 w a len cap cs ∧ 0 ≤ id ∧ id ≤ 65535 ∧ 0 ≤ nu ∧ nu ≤ 65535
theorem flat78 : flat Try.prog 4 78 = some [4, 47, 47, 24] := by kernel_rfl
set_option maxRecDepth 1000000 in
theorem openT78 {H : Type} {enc : TypeId × Value → H} {w : World} {base b0 : Nat} {spare : Nat → Bool} {held : Bool} {r : Reach} {v : Value} {d : DataW H} {p : List MemPlace} (hv : Value.okWide Try.prog w r b0 78 v) (h : DataW.Trod enc Try.prog w base spare held 78 v d p) : InEcho w v := by
  obtain ⟨cs, rfl, hl⟩ := open_flat flat78 (agg_struct Try.underlying78 hv) h
  obtain ⟨re, v0, rfl, hl3⟩ := Wb.leaves_bool Try.underlying4 hl
  obtain ⟨id, v1, rfl, e1, hl⟩ := leaves_int Try.underlying47 hl3
  obtain ⟨nu, v2, rfl, e2, hl⟩ := leaves_int Try.underlying47 hl
  obtain ⟨s, v9, rfl, ⟨k, y, hy⟩, hl⟩ := Wb.leaves_cons hl
  obtain rfl := Wb.leaves_nil hl
  obtain ⟨zs, hz⟩ := leaf_row2 Try.underlying24 Try.underlying5 Try.cells5 hy
  obtain ⟨a, len, cap, os, rfl, hrow⟩ := in8_of_row hz
  have b1 := bounds_u16 e1
  have b2 := bounds_u16 e2
  exact ⟨re, id, nu, a, len, cap, os, rfl, hrow, by omega, by omega, by omega, by omega⟩
theorem rel_echo {w : World} {re : Bool} {id nu : Int} {a : Option Addr} {len cap : Nat} {cs : List Int} (h : Row8 w a len cap cs) : Rel (noneAt w) (echA re id nu (.sl false (B8 cs) len none)) (.agg (vE re id nu (.slice a len cap)).toArray) := by
  refine .mkAgg ?_
  show RelL _ _ (vE re id nu (.slice a len cap))
  exact .cons .v (.cons .v (.cons .v (.cons (rel_row h) (.nil _))))
theorem areads_run (v6 : Bool) (ss ds zs : List Int) (nn : Bool) (cap : Option Nat) (re : Bool) (id nu : Int) (ps : List Int) (xn : Bool) (xc : Option Nat) (hl : zs.length ≤ 9223372036854775807) (hp : ps.length ≤ 9223372036854775807) (hs : ss.length = 16) (hd : ds.length = 16) (hz : bytesB zs = true) (bs : bytesB ss = true) (bd : bytesB ds = true) (bp : bytesB ps = true) (a0 : 0 ≤ id) (a1 : id ≤ 65535) (b0 : 0 ≤ nu) (b1 : nu ≤ 65535) : (pvCall Try.prog KAK Dm 100000 1 0 11 [.v (.bool v6), .agg (B8 ss), .agg (B8 ds), .sl nn (B8 zs) zs.length cap, echA re id nu (.sl xn (B8 ps) ps.length xc)] (fun _ => none)).map (·.1) = some (.v (.bool true)) := by
  by_cases hlong : 1800 < zs.length ∨ 1800 < ps.length
  · exact areads_long v6 ss ds zs nn cap re id nu ps xn xc hl hp hs hd hlong
  have h1 : zs.length ≤ 1800 := by omega
  have h2 : ps.length ≤ 1800 := by omega
  have hg : goodM ss ds zs zs.length := ⟨rfl, by omega, hs, hd, hz, bs, bd⟩
  have hge : goodE id nu ss ds ps ps.length := ⟨rfl, by omega, hs, hd, bp, bs, bd, a0, a1, b0, b1⟩
  have hWl : (ewM (kdK v6 re) (skV v6 ss ds (kdK v6 re :: 0 :: 0 :: 0 :: ewX id nu ps)) (ewX id nu ps)).length ≤ 3000 := by simp [ewM, ewX]; omega
  by_cases hr : ecE v6 ss ds zs = 0
  · have hQ : (zs.drop 8).length ≤ 2000 := by simp; omega
    have hR : ecV v6 ss ds zs = (.tup [echA (decide (gb zs 0 = repK v6)) (w16 zs 4) (w16 zs 6) (.own 0 0 0 (zs.drop 8).length 1 (.whole 5)), .v (.int .i64 0)], [B8 (zs.drop 8)]) := by
      unfold ecV; rw [if_pos hr, List.length_drop]
    by_cases hw : 1652 < ps.length
    · exact areads_oe v6 ss ds zs nn cap re id nu ps xn xc _ _ _ _ hQ hR (by unfold ewV; rw [if_pos hw]) h1 h2 hg hge
    · exact areads_oo v6 ss ds zs nn cap re id nu ps xn xc _ _ _ _ hQ hR _ hWl (by unfold ewV; rw [if_neg hw]) h1 h2 hg hge
  · have hR : ecV v6 ss ds zs = errE (ecE v6 ss ds zs) := by unfold ecV; rw [if_neg hr]
    by_cases hw : 1652 < ps.length
    · exact areads_ee v6 ss ds zs nn cap re id nu ps xn xc _ hR hr (by unfold ewV; rw [if_pos hw]) h1 h2 hg hge
    · exact areads_eo v6 ss ds zs nn cap re id nu ps xn xc _ hR hr _ hWl (by unfold ewV; rw [if_neg hw]) h1 h2 hg hge
theorem answerReads_walk (w : World) (v6 : Bool) (v1 : Value) (o1 : InAr 16 v1) (v2 : Value) (o2 : InAr 16 v2) (v3 : Value) (o3 : In8 w v3) (v4 : Value) (o4 : InEcho w v4) :
    Calls Try.prog 11 #[.bool v6, v1, v2, v3, v4] w fun e w' => e = .returned (.bool true) ∧ Below w.heap.size w w' := by
  obtain ⟨ss, rfl, s1, s2⟩ := o1
  obtain ⟨ds, rfl, d1, d2⟩ := o2
  obtain ⟨a, len, cap, zs, rfl, ro⟩ := o3
  obtain ⟨re, id, nu, b, blen, bcap, ps, rfl, rb, a0, a1, b0, b1⟩ := o4
  have hol : zs.length = len := ro.1
  have hbl : ps.length = blen := rb.1
  subst hol hbl
  have ra : RelL (noneAt w) [.v (.bool v6), .agg (B8 ss), .agg (B8 ds), .sl false (B8 zs) zs.length none, echA re id nu (.sl false (B8 ps) ps.length none)] (#[.bool v6, .agg (ar ss), .agg (ar ds), .slice a zs.length cap, .agg (vE re id nu (.slice b ps.length bcap)).toArray] : Array Value).toList :=
    .cons .v (.cons (rel_ar _ ss) (.cons (rel_ar _ ds) (.cons (rel_row ro) (.cons (rel_echo rb) (.nil _)))))
  have hb : zs.length ≤ 9223372036854775807 := by have := ro.le; have := ro.cap_le; omega
  have hb2 : ps.length ≤ 9223372036854775807 := by have := rb.le; have := rb.cap_le; omega
  have key := areads_run v6 ss ds zs false none re id nu ps false none hb hb2 s1 d1 (bytesB_iff.2 ro.5) (bytesB_iff.2 s2) (bytesB_iff.2 d2) (bytesB_iff.2 rb.5) a0 a1 b0 b1
  obtain ⟨⟨x, m'⟩, k1, k2⟩ := Option.map_eq_some_iff.1 key
  simp only at k2
  subst k2
  exact law_of_run kak_ok follows_mixed dm_ok k1 ra
end Go.Proofs.Ytmdafjegddnecaa
