/- The law IcmpReads: the walk. -/
import Derived.Test.YtcbjjkpjbdcakaaVh
namespace Go.Proofs.Ytcbjjkpjbdcakaa
open Go.Pm Go.RowKit Go.Wb
set_option linter.unusedVariables false
theorem icmpReads_walk (w : World) (v6 : Bool) (v1 : Value) (o1 : InAr 16 v1) (v2 : Value) (o2 : InAr 16 v2) (v3 : Value) (o3 : In8 w v3) :
    Calls Try.prog 12 #[.bool v6, v1, v2, v3] w fun e w' => e = .returned (.bool true) ∧ Below w.heap.size w w' := by
  obtain ⟨ss, rfl, s1, s2⟩ := o1
  obtain ⟨ds, rfl, d1, d2⟩ := o2
  obtain ⟨a, len, cap, zs, rfl, ro⟩ := o3
  have hol : zs.length = len := ro.1
  subst hol
  have ra : RelL (noneAt w) [.v (.bool v6), .agg (B8 ss), .agg (B8 ds), .sl false (B8 zs) zs.length none] (#[.bool v6, .agg (ar ss), .agg (ar ds), .slice a zs.length cap] : Array Value).toList :=
    .cons .v (.cons (rel_ar _ ss) (.cons (rel_ar _ ds) (.cons (rel_row ro) (.nil _))))
  have hb : zs.length ≤ 9223372036854775807 := by have := ro.le; have := ro.cap_le; omega
  have key := icmpReads_run v6 ss ds zs false none hb s1 d1 (bytesB_iff.2 ro.5) (bytesB_iff.2 s2) (bytesB_iff.2 d2)
  obtain ⟨⟨x, m'⟩, k1, k2⟩ := Option.map_eq_some_iff.1 key
  simp only at k2
  subst k2
  exact law_of_run ks_ok follows_mixed dm_ok k1 ra
end Go.Proofs.Ytcbjjkpjbdcakaa
