/- The law IcmpTurned: what comes in, and the walk. -/
import Derived.Test.YtcbjjkpjbdcakaaVm
namespace Go.Proofs.Ytcbjjkpjbdcakaa
open Go.ChangeShapes Go.WideShapes Go.ChangeAt Go.RowKit Go.Wb Go.Pm
set_option linter.unusedVariables false
set_option linter.unusedSimpArgs false
theorem flat70 : flat Try.prog 4 70 = some (List.replicate 20 5) := by kernel_rfl
set_option maxRecDepth 1000000 in
theorem openT70 {H : Type} {enc : TypeId × Value → H} {w : World} {base b0 : Nat} {spare : Nat → Bool} {held : Bool} {r : Reach} {v : Value} {d : DataW H} {p : List MemPlace} (hv : Value.okWide Try.prog w r b0 70 v) (h : DataW.Trod enc Try.prog w base spare held 70 v d p) : InAr 20 v := by
  obtain ⟨cs, rfl, hl⟩ := open_flat flat70 (agg_array Try.underlying70 hv) h
  have hl' := hl
  rw [← List.append_nil (List.replicate 20 _)] at hl'
  obtain ⟨ss, us, hn, rfl, hw, h1⟩ := leaves_ints Try.underlying5 20 hl'
  obtain rfl := Wb.leaves_nil h1
  exact ⟨ss, by simp [ar], hn, fun x hx => bounds_u8 (hw x hx)⟩
def vT (b : Bool) (pr : Int) (ss ds : List Int) (sp dp : Int) : List Value := .bool b :: .int .u8 pr :: (ss.map (Value.int .u8) ++ (ds.map (Value.int .u8) ++ [.int .u16 sp, .int .u16 dp]))
def InTup (v : Value) : Prop := ∃ b pr ss ds sp dp, v = .agg (vT b pr ss ds sp dp).toArray ∧ ss.length = 16 ∧ ds.length = 16 ∧ bytesB ss = true ∧ bytesB ds = true ∧ 0 ≤ sp ∧ sp ≤ 65535 ∧ 0 ≤ dp ∧ dp ≤ 65535
theorem flat69 : flat Try.prog 4 69 = some (4 :: 5 :: (List.replicate 16 5 ++ (List.replicate 16 5 ++ [25, 25]))) := by kernel_rfl
set_option maxRecDepth 1000000 in
theorem openT69 {H : Type} {enc : TypeId × Value → H} {w : World} {base b0 : Nat} {spare : Nat → Bool} {held : Bool} {r : Reach} {v : Value} {d : DataW H} {p : List MemPlace} (hv : Value.okWide Try.prog w r b0 69 v) (h : DataW.Trod enc Try.prog w base spare held 69 v d p) : InTup v := by
  obtain ⟨cs, rfl, hl⟩ := open_flat flat69 (agg_struct Try.underlying69 hv) h
  obtain ⟨b, v1, rfl, hl3⟩ := Wb.leaves_bool Try.underlying4 hl
  obtain ⟨pr, v2, rfl, e1, hl⟩ := leaves_int Try.underlying5 hl3
  obtain ⟨ss, us, hn, rfl, hw, hl⟩ := leaves_ints Try.underlying5 16 hl
  obtain ⟨ds, us, hn2, rfl, hw2, hl⟩ := leaves_ints Try.underlying5 16 hl
  obtain ⟨sp, v5, rfl, e2, hl⟩ := leaves_int Try.underlying25 hl
  obtain ⟨dp, v6, rfl, e3, hl⟩ := leaves_int Try.underlying25 hl
  obtain rfl := Wb.leaves_nil hl
  have b2 := bounds_u16 e2
  have b3 := bounds_u16 e3
  exact ⟨b, pr, ss, ds, sp, dp, rfl, hn, hn2, bytesB_iff.2 fun x hx => bounds_u8 (hw x hx), bytesB_iff.2 fun x hx => bounds_u8 (hw2 x hx), b2.1, b2.2, b3.1, b3.2⟩
theorem rel_tup {w : World} {b : Bool} {pr sp dp : Int} {ss ds : List Int} : Rel (noneAt w) (tupA b pr ss ds sp dp) (.agg (vT b pr ss ds sp dp).toArray) := by
  refine .mkAgg ?_
  show RelL _ _ (vT b pr ss ds sp dp)
  exact .cons .v (.cons .v ((relL_ints _ ss).append ((relL_ints _ ds).append (.cons .v (.cons .v (.nil _))))))
theorem icmpTurned_key (b t : Bool) (pr sp dp : Int) (ss ds hs : List Int) (hss : ss.length = 16) (hds : ds.length = 16) (hhs : hs.length = 20) (bs : bytesB ss = true) (bd : bytesB ds = true) (bh : bytesB hs = true) (c0 : 0 ≤ sp) (c1 : sp ≤ 65535) (e0 : 0 ≤ dp) (e1 : dp ≤ 65535) :
    (pvCall Try.prog KT Dm 100000 1 0 11 [tupA b pr ss ds sp dp, .v (.bool t), .agg (B8 hs)] (fun _ => none)).map (·.1) = some (.v (.bool true)) := by
  obtain ⟨s0, s1, s2, s3, s4, s5, s6, s7, s8, s9, s10, s11, s12, s13, s14, s15, rfl⟩ : ∃ s0 s1 s2 s3 s4 s5 s6 s7 s8 s9 s10 s11 s12 s13 s14 s15, ss = [s0, s1, s2, s3, s4, s5, s6, s7, s8, s9, s10, s11, s12, s13, s14, s15] := by
    match ss, hss with
    | [s0, s1, s2, s3, s4, s5, s6, s7, s8, s9, s10, s11, s12, s13, s14, s15], _ => exact ⟨s0, s1, s2, s3, s4, s5, s6, s7, s8, s9, s10, s11, s12, s13, s14, s15, rfl⟩
  obtain ⟨d0, d1, d2, d3, d4, d5, d6, d7, d8, d9, d10, d11, d12, d13, d14, d15, rfl⟩ : ∃ d0 d1 d2 d3 d4 d5 d6 d7 d8 d9 d10 d11 d12 d13 d14 d15, ds = [d0, d1, d2, d3, d4, d5, d6, d7, d8, d9, d10, d11, d12, d13, d14, d15] := by
    match ds, hds with
    | [d0, d1, d2, d3, d4, d5, d6, d7, d8, d9, d10, d11, d12, d13, d14, d15], _ => exact ⟨d0, d1, d2, d3, d4, d5, d6, d7, d8, d9, d10, d11, d12, d13, d14, d15, rfl⟩
  obtain ⟨h0, h1, h2, h3, h4, h5, h6, h7, h8, h9, h10, h11, h12, h13, h14, h15, h16, h17, h18, h19, rfl⟩ : ∃ h0 h1 h2 h3 h4 h5 h6 h7 h8 h9 h10 h11 h12 h13 h14 h15 h16 h17 h18 h19, hs = [h0, h1, h2, h3, h4, h5, h6, h7, h8, h9, h10, h11, h12, h13, h14, h15, h16, h17, h18, h19] := by
    match hs, hhs with
    | [h0, h1, h2, h3, h4, h5, h6, h7, h8, h9, h10, h11, h12, h13, h14, h15, h16, h17, h18, h19], _ => exact ⟨h0, h1, h2, h3, h4, h5, h6, h7, h8, h9, h10, h11, h12, h13, h14, h15, h16, h17, h18, h19, rfl⟩
  cases b with
  | true => cases t with
    | true => exact turned6t_run pr sp dp s0 s1 s2 s3 s4 s5 s6 s7 s8 s9 s10 s11 s12 s13 s14 s15 d0 d1 d2 d3 d4 d5 d6 d7 d8 d9 d10 d11 d12 d13 d14 d15 h0 h1 h2 h3 h4 h5 h6 h7 h8 h9 h10 h11 h12 h13 h14 h15 h16 h17 h18 h19 bs bd bh c0 c1 e0 e1
    | false => exact turned6u_run pr sp dp s0 s1 s2 s3 s4 s5 s6 s7 s8 s9 s10 s11 s12 s13 s14 s15 d0 d1 d2 d3 d4 d5 d6 d7 d8 d9 d10 d11 d12 d13 d14 d15 h0 h1 h2 h3 h4 h5 h6 h7 h8 h9 h10 h11 h12 h13 h14 h15 h16 h17 h18 h19 bs bd bh c0 c1 e0 e1
  | false => cases t with
    | true => exact turned4t_run pr sp dp s0 s1 s2 s3 s4 s5 s6 s7 s8 s9 s10 s11 s12 s13 s14 s15 d0 d1 d2 d3 d4 d5 d6 d7 d8 d9 d10 d11 d12 d13 d14 d15 h0 h1 h2 h3 h4 h5 h6 h7 h8 h9 h10 h11 h12 h13 h14 h15 h16 h17 h18 h19 bs bd bh c0 c1 e0 e1
    | false => exact turned4u_run pr sp dp s0 s1 s2 s3 s4 s5 s6 s7 s8 s9 s10 s11 s12 s13 s14 s15 d0 d1 d2 d3 d4 d5 d6 d7 d8 d9 d10 d11 d12 d13 d14 d15 h0 h1 h2 h3 h4 h5 h6 h7 h8 h9 h10 h11 h12 h13 h14 h15 h16 h17 h18 h19 bs bd bh c0 c1 e0 e1
theorem icmpTurned_walk (w : World) (v0 : Value) (o0 : InTup v0) (t : Bool) (v2 : Value) (o2 : InAr 20 v2) :
    Calls Try.prog 11 #[v0, .bool t, v2] w fun e w' => e = .returned (.bool true) ∧ Below w.heap.size w w' := by
  obtain ⟨b, pr, ss, ds, sp, dp, rfl, hss, hds, bs, bd, c0, c1, e0, e1⟩ := o0
  obtain ⟨hs, rfl, hhs, bh⟩ := o2
  have ra : RelL (noneAt w) [tupA b pr ss ds sp dp, .v (.bool t), .agg (B8 hs)] (#[.agg (vT b pr ss ds sp dp).toArray, .bool t, .agg (ar hs)] : Array Value).toList :=
    .cons rel_tup (.cons .v (.cons (rel_ar _ hs) (.nil _)))
  have key := icmpTurned_key b t pr sp dp ss ds hs hss hds hhs bs bd (bytesB_iff.2 bh) c0 c1 e0 e1
  obtain ⟨⟨x, m'⟩, k1, k2⟩ := Option.map_eq_some_iff.1 key
  simp only at k2
  subst k2
  exact law_of_run kt_ok follows_mixed dm_ok k1 ra
end Go.Proofs.Ytcbjjkpjbdcakaa
