/- The law IcmpWrites: what comes in, and the walk. -/
import Derived.Test.YtcbjjkpjbdcakaaVk
namespace Go.Proofs.Ytcbjjkpjbdcakaa
open Go.Pm Go.RowKit Go.Wb
set_option linter.unusedVariables false
theorem flat80 : flat Try.prog 4 80 = some (List.replicate 4 5) := by kernel_rfl
set_option maxRecDepth 1000000 in
theorem openT80 {H : Type} {enc : TypeId × Value → H} {w : World} {base b0 : Nat} {spare : Nat → Bool} {held : Bool} {r : Reach} {v : Value} {d : DataW H} {p : List MemPlace} (hv : Value.okWide Try.prog w r b0 80 v) (h : DataW.Trod enc Try.prog w base spare held 80 v d p) : InAr 4 v := by
  obtain ⟨cs, rfl, hl⟩ := open_flat flat80 (agg_array Try.underlying80 hv) h
  have hl' := hl
  rw [← List.append_nil (List.replicate 4 _)] at hl'
  obtain ⟨ss, us, hn, rfl, hw, h1⟩ := leaves_ints Try.underlying5 4 hl'
  obtain rfl := leaves_nil h1
  exact ⟨ss, by simp [ar], hn, fun x hx => bounds_u8 (hw x hx)⟩
theorem icmpWrites_walk (w : World) (v6 : Bool) (v1 : Value) (o1 : InAr 16 v1) (v2 : Value) (o2 : InAr 16 v2) (k : Int) (h3 : (Lit.int .u8 k).wf = true) (c : Int) (h4 : (Lit.int .u8 c).wf = true) (v5 : Value) (o5 : InAr 4 v5) (v6' : Value) (o6 : In8 w v6') :
    Calls Try.prog 13 #[.bool v6, v1, v2, .int .u8 k, .int .u8 c, v5, v6'] w fun e w' => e = .returned (.bool true) ∧ Below w.heap.size w w' := by
  obtain ⟨ss, rfl, s1, s2⟩ := o1
  obtain ⟨ds, rfl, d1, d2⟩ := o2
  obtain ⟨h, rfl, h1, h2⟩ := o5
  obtain ⟨a, len, cap, zs, rfl, ro⟩ := o6
  have hol : zs.length = len := ro.1
  subst hol
  have hk := bounds_u8 h3
  have hc := bounds_u8 h4
  have ra : RelL (noneAt w) [.v (.bool v6), .agg (B8 ss), .agg (B8 ds), .v (.int .u8 k), .v (.int .u8 c), .agg (B8 h), .sl false (B8 zs) zs.length none] (#[.bool v6, .agg (ar ss), .agg (ar ds), .int .u8 k, .int .u8 c, .agg (ar h), .slice a zs.length cap] : Array Value).toList :=
    .cons .v (.cons (rel_ar _ ss) (.cons (rel_ar _ ds) (.cons .v (.cons .v (.cons (rel_ar _ h) (.cons (rel_row ro) (.nil _)))))))
  have hb : zs.length ≤ 9223372036854775807 := by have := ro.le; have := ro.cap_le; omega
  have key : (pvCall Try.prog KX Dm 100000 1 0 13 [.v (.bool v6), .agg (B8 ss), .agg (B8 ds), .v (.int .u8 k), .v (.int .u8 c), .agg (B8 h), .sl false (B8 zs) zs.length none] (fun _ => none)).map (·.1) = some (.v (.bool true)) := by
    by_cases hl : 1700 < zs.length
    · exact icw_long v6 ss ds k c h zs false none hb s1 d1 h1 hl
    have hg : good6 k c ss ds h zs zs.length := ⟨rfl, by omega, s1, d1, h1, bytesB_iff.2 ro.5, bytesB_iff.2 s2, bytesB_iff.2 d2, bytesB_iff.2 h2, hk.1, hk.2, hc.1, hc.2⟩
    by_cases he : isE v6 k = false
    · exact icw_err v6 ss ds k c h zs false none hb hg (by omega) 10 (by omega) (by unfold w6V; rw [if_pos he])
    have he' : isE v6 k = true := by simpa using he
    by_cases hl3 : 1652 < zs.length
    · exact icw_err v6 ss ds k c h zs false none hb hg (by omega) 3 (by omega) (by unfold w6V; rw [if_neg he, if_pos hl3])
    have hW : w6V v6 ss ds k c h zs = w6C (w6M k c (skV v6 ss ds (k :: c :: 0 :: 0 :: (h ++ zs))) h zs) := by unfold w6V; rw [if_neg he, if_neg hl3]
    have hgW := goodM_back (v6 := v6) hg (by omega)
    have hE := rdE_back (v6 := v6) hg he'
    have hT := rdT_back (v6 := v6) hg he'
    by_cases hw : wiE v6 zs = 0
    · rw [if_pos hw] at hT
      obtain ⟨hS, hD⟩ := hdSD_len (wiE_hd hw)
      exact icw_ok v6 ss ds k c h zs false none hb hg (by omega) _ hW hgW hw hE _ _ _ _ _ hS hD (by unfold wiT; rw [if_pos hw]) hT
    · rw [if_neg hw] at hT
      exact icw_in v6 ss ds k c h zs false none hb hg (by omega) _ hW hgW hw hE hT
  obtain ⟨⟨x, m'⟩, k1, k2⟩ := Option.map_eq_some_iff.1 key
  simp only at k2
  subst k2
  exact law_of_run kx_ok follows_mixed dm_ok k1 ra
end Go.Proofs.Ytcbjjkpjbdcakaa
