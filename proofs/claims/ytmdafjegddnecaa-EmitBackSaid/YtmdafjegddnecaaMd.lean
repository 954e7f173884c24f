import Derived.Test.YtmdafjegddnecaaMc
/- IPv4's writer as a function of values. -/
namespace Go.Proofs.Ytmdafjegddnecaa
open Go.Pm Go.Wb
set_option linter.unusedVariables false
set_option linter.unusedSimpArgs false
set_option maxRecDepth 1000000
theorem rep20 (m : Nat) : List.replicate (20 + m) (AV.v (.int .u8 0)) = .v (.int .u8 0) :: .v (.int .u8 0) :: .v (.int .u8 0) :: .v (.int .u8 0) :: .v (.int .u8 0) :: .v (.int .u8 0) :: .v (.int .u8 0) :: .v (.int .u8 0) :: .v (.int .u8 0) :: .v (.int .u8 0) :: .v (.int .u8 0) :: .v (.int .u8 0) :: .v (.int .u8 0) :: .v (.int .u8 0) :: .v (.int .u8 0) :: .v (.int .u8 0) :: .v (.int .u8 0) :: .v (.int .u8 0) :: .v (.int .u8 0) :: .v (.int .u8 0) :: B8 (List.replicate m 0) := by
  rw [← List.replicate_append_replicate]
  simp [List.replicate_succ, B8]
theorem drop20 (m : Nat) (x0 x1 x2 x3 x4 x5 x6 x7 x8 x9 x10 x11 x12 x13 x14 x15 x16 x17 x18 x19 : AV) (T : List AV) : (x0 :: x1 :: x2 :: x3 :: x4 :: x5 :: x6 :: x7 :: x8 :: x9 :: x10 :: x11 :: x12 :: x13 :: x14 :: x15 :: x16 :: x17 :: x18 :: x19 :: T).drop (20 + m) = T.drop m := by
  rw [← List.drop_drop]; rfl
theorem B8_mid' (X Y : List Int) (y : Int) : B8 X ++ (AV.v (.int .u8 y) :: B8 Y) = B8 (X ++ y :: Y) := by simp [B8]
def zero12 : List Int := [0, 0, 0, 0, 0, 0, 0, 0, 0, 0, 0, 0]
def bad4 (ss ds : List Int) : Prop := ¬ ss.drop 4 = zero12 ∨ ¬ ds.drop 4 = zero12
instance (ss ds : List Int) : Decidable (bad4 ss ds) := by unfold bad4; infer_instance
def head4 (tos id : Int) (df : Bool) (ttl pr : Int) (ss ds os : List Int) (T : Int) : List Int :=
  (64 + (20 + (os.length : Int)) / 4) :: tos :: T / 256 % 256 :: T % 256 :: id / 256 % 256 :: id % 256 :: (if df = true then 64 else 0) :: 0 :: ttl :: pr :: 0 :: 0 :: gb ss 0 :: gb ss 1 :: gb ss 2 :: gb ss 3 :: gb ds 0 :: gb ds 1 :: gb ds 2 :: gb ds 3 :: os
def putS (Z : List Int) (c : Int) : List Int := Z.take 10 ++ (c / 256 % 256 :: c % 256 :: Z.drop 12)
def wC (W : List Int) : AV × List (List AV) := (.tup [.own 0 0 0 W.length 1 (.whole 5), .v (.int .i64 0)], [B8 W])
def errC (e : Int) : AV × List (List AV) := (.tup [.v (.slice none 0 0), .v (.int .i64 e)], [])
def w4V (tos id : Int) (df : Bool) (ttl pr : Int) (ss ds os ps : List Int) : AV × List (List AV) :=
  if ¬ optE os = 0 then errC (optE os) else if bad4 ss ds then errC 2 else if 1660 < 20 + os.length + ps.length then errC 3 else
  wC (putS (head4 tos id df ttl pr ss ds os (20 + (os.length : Int) + (ps.length : Int))) (ofV (head4 tos id df ttl pr ss ds os (20 + (os.length : Int) + (ps.length : Int)))) ++ ps)
def good4 (tos id ttl pr : Int) (ss ds os : List Int) : Prop := 0 ≤ tos ∧ tos ≤ 255 ∧ 0 ≤ id ∧ id ≤ 65535 ∧ 0 ≤ ttl ∧ ttl ≤ 255 ∧ 0 ≤ pr ∧ pr ≤ 255 ∧ ss.length = 16 ∧ ds.length = 16 ∧ bytesB ss = true ∧ bytesB ds = true ∧ bytesB os = true ∧ os.length ≤ 9223372036854775807
instance (tos id ttl pr : Int) (ss ds os : List Int) : Decidable (good4 tos id ttl pr ss ds os) := by unfold good4; infer_instance
theorem optE_len {os : List Int} (h : optE os = 0) : os.length ≤ 40 ∧ os.length % 4 = 0 := by
  unfold optE at h
  split at h
  · simp at h
  · omega
theorem B8d4 {ss : List Int} (h : ss.length = 16) (T : List AV) : (B8 ss ++ T).drop 4 = B8 (ss.drop 4) ++ T := by
  rw [List.drop_append_of_le_length (by simp [h]), B8_drop]
theorem B8d20 {ss : List Int} (h : ss.length = 16) (T : List AV) : (B8 ss ++ T).drop 20 = T.drop 4 := by
  rw [show (20 : Nat) = 16 + 4 from rfl, ← List.drop_drop, B8d16 h]
theorem B8t12 {ss : List Int} (h : ss.length = 16) (T : List AV) : (B8 (ss.drop 4) ++ T).take 12 = B8 (ss.drop 4) := List.take_left' (by simp [h])
theorem B8t4 {ss : List Int} (h : ss.length = 16) (T : List AV) : (B8 ss ++ T).take 4 = B8 (ss.take 4) := by
  rw [List.take_append_of_le_length (by simp [h]), B8_take]
theorem B8t12z (T : List AV) : (B8 zero12 ++ T).take 12 = B8 zero12 := List.take_left' rfl
theorem vz12 : [Value.int .u8 0, .int .u8 0, .int .u8 0, .int .u8 0, .int .u8 0, .int .u8 0, .int .u8 0, .int .u8 0, .int .u8 0, .int .u8 0, .int .u8 0, .int .u8 0] = zero12.map (Value.int .u8) := rfl
set_option maxHeartbeats 16000000 in
theorem pw4_opt (tos id : Int) (df : Bool) (ttl pr : Int) (ss ds os ps : List Int) (on pn : Bool) (oc pc : Option Nat) (hg : good4 tos id ttl pr ss ds os) (hp : ps.length ≤ 9223372036854775807) (h : ¬ optE os = 0) : runF Try.prog KG Dm 100000 2 43 [ip4A tos id df ttl pr ss ds (.sl on (B8 os) os.length oc), .sl pn (B8 ps) ps.length pc] = some (errC (optE os)) := by
  obtain ⟨c0, c1, d0, d1, t0, t1, p0, p1, hs, hd, bs, bd, bo, hol⟩ := hg
  have hs2 : (ss.drop 4).length = 12 := by simp; omega
  have hd2 : (ds.drop 4).length = 12 := by simp; omega
  have z12 : zero12.length = 12 := rfl
  have ps' : pairOk [.int, .int, .int, .int, .int, .int, .int, .int, .int, .int, .int, .int] (List.drop 4 (List.map (Value.int .u8) ss)) (List.map (Value.int .u8) zero12) = true := by rw [← List.map_drop]; exact pairOk12 hs2 z12
  have pd' : pairOk [.int, .int, .int, .int, .int, .int, .int, .int, .int, .int, .int, .int] (List.drop 4 (List.map (Value.int .u8) ds)) (List.map (Value.int .u8) zero12) = true := by rw [← List.map_drop]; exact pairOk12 hd2 z12
  have es' : eqV (List.drop 4 (List.map (Value.int .u8) ss)) (List.map (Value.int .u8) zero12) = decide (ss.drop 4 = zero12) := by rw [← List.map_drop]; exact eqV_ints (hs2.trans z12.symm)
  have ed' : eqV (List.drop 4 (List.map (Value.int .u8) ds)) (List.map (Value.int .u8) zero12) = decide (ds.drop 4 = zero12) := by rw [← List.map_drop]; exact eqV_ints (hd2.trans z12.symm)
  have hn : (optE os != 0) = true := by simp [h]
  unfold runF errC
  rw [pvCall_own (fn := Try.f43) rfl Try.func43 rfl (by decide) rfl rfl (by simp)]
  simp -implicitDefEqProofs [h, hn, B8t12z, pairOk12 z12 z12, eqV_same, ip4A, splice, bo, hol, fOpt, hs, hd, B8t16 hs, B8d16 hs, B8t16 hd, B8d16 hd, B8d32 hs, B8g32 hs, B8g16 hd, B8g16 hs, B8d4 hs, B8d4 hd, B8d20 hs, B8t12 hs, B8t12 hd, B8t4 hs, B8t4 hd, vz12, z12, ps', pd', es', ed']
set_option maxHeartbeats 16000000 in
theorem pw4_bad (tos id : Int) (df : Bool) (ttl pr : Int) (ss ds os ps : List Int) (on pn : Bool) (oc pc : Option Nat) (hg : good4 tos id ttl pr ss ds os) (hp : ps.length ≤ 9223372036854775807) (h : optE os = 0) (hb : bad4 ss ds) : runF Try.prog KG Dm 100000 2 43 [ip4A tos id df ttl pr ss ds (.sl on (B8 os) os.length oc), .sl pn (B8 ps) ps.length pc] = some (errC 2) := by
  obtain ⟨c0, c1, d0, d1, t0, t1, p0, p1, hs, hd, bs, bd, bo, hol⟩ := hg
  have hs2 : (ss.drop 4).length = 12 := by simp; omega
  have hd2 : (ds.drop 4).length = 12 := by simp; omega
  have z12 : zero12.length = 12 := rfl
  have ps' : pairOk [.int, .int, .int, .int, .int, .int, .int, .int, .int, .int, .int, .int] (List.drop 4 (List.map (Value.int .u8) ss)) (List.map (Value.int .u8) zero12) = true := by rw [← List.map_drop]; exact pairOk12 hs2 z12
  have pd' : pairOk [.int, .int, .int, .int, .int, .int, .int, .int, .int, .int, .int, .int] (List.drop 4 (List.map (Value.int .u8) ds)) (List.map (Value.int .u8) zero12) = true := by rw [← List.map_drop]; exact pairOk12 hd2 z12
  have es' : eqV (List.drop 4 (List.map (Value.int .u8) ss)) (List.map (Value.int .u8) zero12) = decide (ss.drop 4 = zero12) := by rw [← List.map_drop]; exact eqV_ints (hs2.trans z12.symm)
  have ed' : eqV (List.drop 4 (List.map (Value.int .u8) ds)) (List.map (Value.int .u8) zero12) = decide (ds.drop 4 = zero12) := by rw [← List.map_drop]; exact eqV_ints (hd2.trans z12.symm)
  have ol := optE_len h
  have e1 : IntKind.i64.wrap (20 + (os.length : Int)) = 20 + (os.length : Int) := wrap64_id (by omega) (by omega)
  unfold runF errC
  rw [pvCall_own (fn := Try.f43) rfl Try.func43 rfl (by decide) rfl rfl (by simp)]
  by_cases h1 : ss.drop 4 = zero12
  · have h2 : ¬ ds.drop 4 = zero12 := by
      rcases hb with q | q
      · exact absurd h1 q
      · exact q
    simp -implicitDefEqProofs [h, e1, h1, h2, B8t12z, pairOk12 z12 z12, eqV_same, ip4A, splice, bo, hol, fOpt, hs, hd, B8t16 hs, B8d16 hs, B8t16 hd, B8d16 hd, B8d32 hs, B8g32 hs, B8g16 hd, B8g16 hs, B8d4 hs, B8d4 hd, B8d20 hs, B8t12 hs, B8t12 hd, B8t4 hs, B8t4 hd, vz12, z12, ps', pd', es', ed']
  · simp -implicitDefEqProofs [h, e1, h1, B8t12z, pairOk12 z12 z12, eqV_same, ip4A, splice, bo, hol, fOpt, hs, hd, B8t16 hs, B8d16 hs, B8t16 hd, B8d16 hd, B8d32 hs, B8g32 hs, B8g16 hd, B8g16 hs, B8d4 hs, B8d4 hd, B8d20 hs, B8t12 hs, B8t12 hd, B8t4 hs, B8t4 hd, vz12, z12, ps', pd', es', ed']
set_option maxHeartbeats 16000000 in
theorem pw4_long (tos id : Int) (df : Bool) (ttl pr : Int) (ss ds os ps : List Int) (on pn : Bool) (oc pc : Option Nat) (hg : good4 tos id ttl pr ss ds os) (hp : ps.length ≤ 9223372036854775807) (h : optE os = 0) (hb : ¬ bad4 ss ds) (hl : 1660 < 20 + os.length + ps.length) : runF Try.prog KG Dm 100000 2 43 [ip4A tos id df ttl pr ss ds (.sl on (B8 os) os.length oc), .sl pn (B8 ps) ps.length pc] = some (errC 3) := by
  obtain ⟨c0, c1, d0, d1, t0, t1, p0, p1, hs, hd, bs, bd, bo, hol⟩ := hg
  have hs2 : (ss.drop 4).length = 12 := by simp; omega
  have hd2 : (ds.drop 4).length = 12 := by simp; omega
  have z12 : zero12.length = 12 := rfl
  have ps' : pairOk [.int, .int, .int, .int, .int, .int, .int, .int, .int, .int, .int, .int] (List.drop 4 (List.map (Value.int .u8) ss)) (List.map (Value.int .u8) zero12) = true := by rw [← List.map_drop]; exact pairOk12 hs2 z12
  have pd' : pairOk [.int, .int, .int, .int, .int, .int, .int, .int, .int, .int, .int, .int] (List.drop 4 (List.map (Value.int .u8) ds)) (List.map (Value.int .u8) zero12) = true := by rw [← List.map_drop]; exact pairOk12 hd2 z12
  have es' : eqV (List.drop 4 (List.map (Value.int .u8) ss)) (List.map (Value.int .u8) zero12) = decide (ss.drop 4 = zero12) := by rw [← List.map_drop]; exact eqV_ints (hs2.trans z12.symm)
  have ed' : eqV (List.drop 4 (List.map (Value.int .u8) ds)) (List.map (Value.int .u8) zero12) = decide (ds.drop 4 = zero12) := by rw [← List.map_drop]; exact eqV_ints (hd2.trans z12.symm)
  have ol := optE_len h
  have e1 : IntKind.i64.wrap (20 + (os.length : Int)) = 20 + (os.length : Int) := wrap64_id (by omega) (by omega)
  have e2 : IntKind.i64.wrap (1660 - (20 + (os.length : Int))) = 1660 - (20 + (os.length : Int)) := wrap64_id (by omega) (by omega)
  have q1 : 1660 - (20 + (os.length : Int)) < (ps.length : Int) := by omega
  unfold bad4 at hb
  simp only [not_or, Decidable.not_not] at hb
  obtain ⟨h1, h2⟩ := hb
  unfold runF errC
  rw [pvCall_own (fn := Try.f43) rfl Try.func43 rfl (by decide) rfl rfl (by simp)]
  simp -implicitDefEqProofs [h, e1, e2, q1, h1, h2, B8t12z, pairOk12 z12 z12, eqV_same, ip4A, splice, bo, hol, fOpt, hs, hd, B8t16 hs, B8d16 hs, B8t16 hd, B8d16 hd, B8d32 hs, B8g32 hs, B8g16 hd, B8g16 hs, B8d4 hs, B8d4 hd, B8d20 hs, B8t12 hs, B8t12 hd, B8t4 hs, B8t4 hd, vz12, z12, ps', pd', es', ed']
set_option maxHeartbeats 64000000 in
theorem pw4_ok (tos id : Int) (df : Bool) (ttl pr : Int) (ss ds os ps : List Int) (on pn : Bool) (oc pc : Option Nat) (hg : good4 tos id ttl pr ss ds os) (hp : ps.length ≤ 9223372036854775807) (h : optE os = 0) (hb : ¬ bad4 ss ds) (hl : 20 + os.length + ps.length ≤ 1660) : runF Try.prog KG Dm 100000 2 43 [ip4A tos id df ttl pr ss ds (.sl on (B8 os) os.length oc), .sl pn (B8 ps) ps.length pc] = some (wC (putS (head4 tos id df ttl pr ss ds os (20 + (os.length : Int) + (ps.length : Int))) (ofV (head4 tos id df ttl pr ss ds os (20 + (os.length : Int) + (ps.length : Int)))) ++ ps)) := by
  obtain ⟨c0, c1, d0, d1, t0, t1, p0, p1, hs, hd, bs, bd, bo, hol⟩ := hg
  have hs2 : (ss.drop 4).length = 12 := by simp; omega
  have hd2 : (ds.drop 4).length = 12 := by simp; omega
  have z12 : zero12.length = 12 := rfl
  have ps' : pairOk [.int, .int, .int, .int, .int, .int, .int, .int, .int, .int, .int, .int] (List.drop 4 (List.map (Value.int .u8) ss)) (List.map (Value.int .u8) zero12) = true := by rw [← List.map_drop]; exact pairOk12 hs2 z12
  have pd' : pairOk [.int, .int, .int, .int, .int, .int, .int, .int, .int, .int, .int, .int] (List.drop 4 (List.map (Value.int .u8) ds)) (List.map (Value.int .u8) zero12) = true := by rw [← List.map_drop]; exact pairOk12 hd2 z12
  have es' : eqV (List.drop 4 (List.map (Value.int .u8) ss)) (List.map (Value.int .u8) zero12) = decide (ss.drop 4 = zero12) := by rw [← List.map_drop]; exact eqV_ints (hs2.trans z12.symm)
  have ed' : eqV (List.drop 4 (List.map (Value.int .u8) ds)) (List.map (Value.int .u8) zero12) = decide (ds.drop 4 = zero12) := by rw [← List.map_drop]; exact eqV_ints (hd2.trans z12.symm)
  have ol := optE_len h
  have e1 : IntKind.i64.wrap (20 + (os.length : Int)) = 20 + (os.length : Int) := wrap64_id (by omega) (by omega)
  have e2 : IntKind.i64.wrap (1660 - (20 + (os.length : Int))) = 1660 - (20 + (os.length : Int)) := wrap64_id (by omega) (by omega)
  have q1 : ¬ 1660 - (20 + (os.length : Int)) < (ps.length : Int) := by omega
  have e3 : IntKind.i64.wrap (20 + (os.length : Int) + (ps.length : Int)) = 20 + (os.length : Int) + (ps.length : Int) := wrap64_id (by omega) (by omega)
  have e4 : (20 + (os.length : Int)).toNat = 20 + os.length := by omega
  have e5 : (0 : Int) ≤ 20 + (os.length : Int) := by omega
  have e6 : 20 + (os.length : Int) ≤ 20 + (os.length : Int) + (ps.length : Int) := by omega
  have e7 : 20 + (os.length : Int) + (ps.length : Int) ≤ 1099511627776 := by omega
  have e8 : (20 + (os.length : Int)).tdiv 4 = (20 + (os.length : Int)) / 4 := Int.tdiv_eq_ediv_of_nonneg (by omega)
  have e9 : IntKind.i64.wrap ((20 + (os.length : Int)) / 4) = (20 + (os.length : Int)) / 4 := wrap64_id (by omega) (by omega)
  unfold bad4 at hb
  simp only [not_or, Decidable.not_not] at hb
  obtain ⟨h1, h2⟩ := hb
  have f0 : (0 : Int) < 20 + (os.length : Int) := by omega
  have f1 : (1 : Int) < 20 + (os.length : Int) := by omega
  have f8 : (8 : Int) < 20 + (os.length : Int) := by omega
  have f9 : (9 : Int) < 20 + (os.length : Int) := by omega
  have e10 : 20 + os.length - 12 = os.length + 8 := by omega
  have e11 : 20 + os.length - 16 = os.length + 4 := by omega
  have e12 : 20 + os.length - 20 = os.length := by omega
  have e13 : min 4 (os.length + 8) = 4 := by omega
  have e14 : min 4 (os.length + 4) = 4 := by omega
  have e15 : 12 + (os.length + 8) ≤ os.length + 1 + 1 + 1 + 1 + 1 + 1 + 1 + 1 + 1 + 1 + 1 + 1 + 1 + 1 + 1 + 1 + 1 + 1 + 1 + 1 := by omega
  have e16 : 16 + (os.length + 4) ≤ os.length + 1 + 1 + 1 + 1 + 1 + 1 + 1 + 1 + 1 + 1 + 1 + 1 + 1 + 1 + 1 + 1 + 1 + 1 + 1 + 1 := by omega
  have e17 : 20 + os.length ≤ os.length + 1 + 1 + 1 + 1 + 1 + 1 + 1 + 1 + 1 + 1 + 1 + 1 + 1 + 1 + 1 + 1 + 1 + 1 + 1 + 1 := by omega
  have e18 : 12 ≤ 20 + os.length := by omega
  have e19 : 16 ≤ 20 + os.length := by omega
  have e20 : 20 ≤ 20 + os.length := by omega
  have ts4 : ss.take 4 = [gb ss 0, gb ss 1, gb ss 2, gb ss 3] := take4_eq (by omega)
  have td4 : ds.take 4 = [gb ds 0, gb ds 1, gb ds 2, gb ds 3] := take4_eq (by omega)
  have i2 : (2 : Int) < 20 + (os.length : Int) := by omega
  have i3 : (3 : Int) < 20 + (os.length : Int) := by omega
  have i4 : (4 : Int) < 20 + (os.length : Int) := by omega
  have i5 : (5 : Int) < 20 + (os.length : Int) := by omega
  have i6 : (6 : Int) < 20 + (os.length : Int) := by omega
  have i7 : (7 : Int) < 20 + (os.length : Int) := by omega
  have i10 : (10 : Int) < 20 + (os.length : Int) := by omega
  have i11 : (11 : Int) < 20 + (os.length : Int) := by omega
  unfold runF wC
  rw [pvCall_own (fn := Try.f43) rfl Try.func43 rfl (by decide) rfl rfl (by simp)]
  have lay := fun (px : Nat) (args : List AV) (m : Mem) (hl : args.length ≤ 17) => pvCall_own (P := Try.prog) (K := KG) (D := Dm) (L := 100000) (d := 0) (px := px) (args := args) (m := m) (f := 100) (fn := Try.f100) rfl Try.func100 rfl (by decide) rfl rfl hl
  have o1 : bits .or .i64 64 ((20 + (os.length : Int)) / 4) = 64 + (20 + (os.length : Int)) / 4 := by
    obtain ⟨b, hb⟩ := Int.eq_ofNat_of_zero_le (show 0 ≤ (20 + (os.length : Int)) / 4 by omega)
    have h := Nat.two_pow_add_eq_or_of_lt (i := 6) (b := b) (by omega) 1
    rw [hb, show (64 : Int) = ((2 ^ 6 * 1 : Nat) : Int) from rfl, i64_or_nat _ _ (by omega) (by omega), ← h]
    omega
  have o2 : (64 + (20 + (os.length : Int)) / 4) % 256 = 64 + (20 + (os.length : Int)) / 4 := by omega
  have o3 : IntKind.i64.wrap id = id := wrap64_id (by omega) (by omega)
  obtain ⟨Z, hZ⟩ : ∃ Z, head4 tos id df ttl pr ss ds os (20 + (os.length : Int) + (ps.length : Int)) = Z := ⟨_, rfl⟩
  have hZl : Z.length = 20 + os.length := by rw [← hZ]; simp [head4]; omega
  have hZb : bytesB Z = true := by
    rw [← hZ]
    have q0 := gb_range bs 0
    have q1 := gb_range bs 1
    have q2 := gb_range bs 2
    have q3 := gb_range bs 3
    have r0 := gb_range bd 0
    have r1 := gb_range bd 1
    have r2 := gb_range bd 2
    have r3 := gb_range bd 3
    unfold head4
    simp only [bytesB_cons, Bool.and_eq_true, decide_eq_true_eq]
    refine ⟨⟨by omega, by omega⟩, ⟨by omega, by omega⟩, ⟨by omega, by omega⟩, ⟨by omega, by omega⟩, ⟨by omega, by omega⟩, ⟨by omega, by omega⟩, ⟨by split <;> omega, by split <;> omega⟩, ⟨by omega, by omega⟩, ⟨by omega, by omega⟩, ⟨by omega, by omega⟩, ⟨by omega, by omega⟩, ⟨by omega, by omega⟩, q0, q1, q2, q3, r0, r1, r2, r3, bo⟩
  have hZr := ofV_range hZb
  obtain ⟨C, hC⟩ : ∃ C, ofV Z = C := ⟨_, rfl⟩
  rw [hC] at hZr
  have o4 : IntKind.i64.wrap C = C := wrap64_id (by omega) (by omega)
  have z1 : Z.take (20 + os.length) = Z := List.take_of_length_le (by omega)
  have z2 : 20 + os.length ≤ 1099511627776 := by omega
  have z3 : 10 ≤ 20 + os.length := by omega
  have z4 : 11 ≤ 20 + os.length := by omega
  have z5 : 12 ≤ 20 + os.length := by omega
  have z6 : 20 + os.length + ps.length ≤ 549755813888 := by omega
  have zm := fun (X Y : List Int) (y : Int) => B8_mid' X Y y
  obtain ⟨Y, hY⟩ : ∃ Y, Z.take 10 ++ (C / 256 % 256 :: Z.drop 11) = Y := ⟨_, rfl⟩
  have hYl : Y.length = 20 + os.length := by rw [← hY]; simp; omega
  obtain ⟨W0, hW0⟩ : ∃ W0, putS Z C = W0 := ⟨_, rfl⟩
  have hY2 : Y.take 11 ++ (C % 256 :: Y.drop 12) = W0 := by
    rw [← hW0, ← hY]
    unfold putS
    have t10 : (Z.take 10).length = 10 := by simp; omega
    have u1 : (Z.take 10).take 11 = Z.take 10 := List.take_of_length_le (by omega)
    have u2 : (Z.take 10).drop 12 = [] := List.drop_of_length_le (by omega)
    rw [List.take_append, List.drop_append, t10, u1, u2]
    simp
  have hWl : W0.length = 20 + os.length := by rw [← hW0]; unfold putS; simp; omega
  have hWt : W0.take (20 + os.length) = W0 := List.take_of_length_le (by omega)
  have e21 : 20 + os.length - 11 = os.length + 9 := by omega
  have z7 : 20 + os.length ≤ 549755813888 := by omega
  rw [hZ, hC, hW0]
  cases df with
  | true =>
    have hA : (AV.v (.int .u8 (64 + (20 + (os.length : Int)) / 4)) :: AV.v (.int .u8 (tos)) :: AV.v (.int .u8 ((20 + (os.length : Int) + (ps.length : Int)) / 256 % 256)) :: AV.v (.int .u8 ((20 + (os.length : Int) + (ps.length : Int)) % 256)) :: AV.v (.int .u8 (id / 256 % 256)) :: AV.v (.int .u8 (id % 256)) :: AV.v (.int .u8 (64)) :: AV.v (.int .u8 (0)) :: AV.v (.int .u8 (ttl)) :: AV.v (.int .u8 (pr)) :: AV.v (.int .u8 (0)) :: AV.v (.int .u8 (0)) :: AV.v (.int .u8 (gb ss 0)) :: AV.v (.int .u8 (gb ss 1)) :: AV.v (.int .u8 (gb ss 2)) :: AV.v (.int .u8 (gb ss 3)) :: AV.v (.int .u8 (gb ds 0)) :: AV.v (.int .u8 (gb ds 1)) :: AV.v (.int .u8 (gb ds 2)) :: AV.v (.int .u8 (gb ds 3)) :: B8 os) = B8 Z := by rw [← hZ]; simp [head4, B8c]
    by_cases ho2 : 0 < os.length
    · simp -implicitDefEqProofs [lay, wrapu8_mod, fdiv_nn, o1, o2, o3, o4, hZl, hZb, hC, z1, z2, z3, z4, z5, z6, zm, fOf, hY, hYl, hY2, hWl, hWt, e21, z7, e10, e11, e12, e13, e14, e15, e16, e17, e18, e19, e20, ts4, td4, B8c, B8n, i2, i3, i4, i5, i6, i7, i10, i11, h, e1, e2, q1, h1, h2, e3, e4, e5, e6, e7, e8, e9, f0, f1, f8, f9, rep20, drop20, IntKind.bits, Nat.testBit_eq_decide_div_mod_eq, B8t12z, pairOk12 z12 z12, eqV_same, ip4A, splice, bo, hol, fOpt, hs, hd, B8t16 hs, B8d16 hs, B8t16 hd, B8d16 hd, B8d32 hs, B8g32 hs, B8g16 hd, B8g16 hs, B8d4 hs, B8d4 hd, B8d20 hs, B8t12 hs, B8t12 hd, B8t4 hs, B8t4 hd, vz12, z12, ps', pd', es', ed', hA, ho2]
    · have hrep : List.replicate os.length (0 : Int) = os := by
        cases os with
        | nil => rfl
        | cons a b => simp at ho2
      simp -implicitDefEqProofs [lay, wrapu8_mod, fdiv_nn, o1, o2, o3, o4, hZl, hZb, hC, z1, z2, z3, z4, z5, z6, zm, fOf, hY, hYl, hY2, hWl, hWt, e21, z7, e10, e11, e12, e13, e14, e15, e16, e17, e18, e19, e20, ts4, td4, B8c, B8n, i2, i3, i4, i5, i6, i7, i10, i11, h, e1, e2, q1, h1, h2, e3, e4, e5, e6, e7, e8, e9, f0, f1, f8, f9, rep20, drop20, IntKind.bits, Nat.testBit_eq_decide_div_mod_eq, B8t12z, pairOk12 z12 z12, eqV_same, ip4A, splice, bo, hol, fOpt, hs, hd, B8t16 hs, B8d16 hs, B8t16 hd, B8d16 hd, B8d32 hs, B8g32 hs, B8g16 hd, B8g16 hs, B8d4 hs, B8d4 hd, B8d20 hs, B8t12 hs, B8t12 hd, B8t4 hs, B8t4 hd, vz12, z12, ps', pd', es', ed', hA, ho2, hrep]
  | false =>
    have hA : (AV.v (.int .u8 (64 + (20 + (os.length : Int)) / 4)) :: AV.v (.int .u8 (tos)) :: AV.v (.int .u8 ((20 + (os.length : Int) + (ps.length : Int)) / 256 % 256)) :: AV.v (.int .u8 ((20 + (os.length : Int) + (ps.length : Int)) % 256)) :: AV.v (.int .u8 (id / 256 % 256)) :: AV.v (.int .u8 (id % 256)) :: AV.v (.int .u8 (0)) :: AV.v (.int .u8 (0)) :: AV.v (.int .u8 (ttl)) :: AV.v (.int .u8 (pr)) :: AV.v (.int .u8 (0)) :: AV.v (.int .u8 (0)) :: AV.v (.int .u8 (gb ss 0)) :: AV.v (.int .u8 (gb ss 1)) :: AV.v (.int .u8 (gb ss 2)) :: AV.v (.int .u8 (gb ss 3)) :: AV.v (.int .u8 (gb ds 0)) :: AV.v (.int .u8 (gb ds 1)) :: AV.v (.int .u8 (gb ds 2)) :: AV.v (.int .u8 (gb ds 3)) :: B8 os) = B8 Z := by rw [← hZ]; simp [head4, B8c]
    by_cases ho2 : 0 < os.length
    · simp -implicitDefEqProofs [lay, wrapu8_mod, fdiv_nn, o1, o2, o3, o4, hZl, hZb, hC, z1, z2, z3, z4, z5, z6, zm, fOf, hY, hYl, hY2, hWl, hWt, e21, z7, e10, e11, e12, e13, e14, e15, e16, e17, e18, e19, e20, ts4, td4, B8c, B8n, i2, i3, i4, i5, i6, i7, i10, i11, h, e1, e2, q1, h1, h2, e3, e4, e5, e6, e7, e8, e9, f0, f1, f8, f9, rep20, drop20, IntKind.bits, Nat.testBit_eq_decide_div_mod_eq, B8t12z, pairOk12 z12 z12, eqV_same, ip4A, splice, bo, hol, fOpt, hs, hd, B8t16 hs, B8d16 hs, B8t16 hd, B8d16 hd, B8d32 hs, B8g32 hs, B8g16 hd, B8g16 hs, B8d4 hs, B8d4 hd, B8d20 hs, B8t12 hs, B8t12 hd, B8t4 hs, B8t4 hd, vz12, z12, ps', pd', es', ed', hA, ho2]
    · have hrep : List.replicate os.length (0 : Int) = os := by
        cases os with
        | nil => rfl
        | cons a b => simp at ho2
      simp -implicitDefEqProofs [lay, wrapu8_mod, fdiv_nn, o1, o2, o3, o4, hZl, hZb, hC, z1, z2, z3, z4, z5, z6, zm, fOf, hY, hYl, hY2, hWl, hWt, e21, z7, e10, e11, e12, e13, e14, e15, e16, e17, e18, e19, e20, ts4, td4, B8c, B8n, i2, i3, i4, i5, i6, i7, i10, i11, h, e1, e2, q1, h1, h2, e3, e4, e5, e6, e7, e8, e9, f0, f1, f8, f9, rep20, drop20, IntKind.bits, Nat.testBit_eq_decide_div_mod_eq, B8t12z, pairOk12 z12 z12, eqV_same, ip4A, splice, bo, hol, fOpt, hs, hd, B8t16 hs, B8d16 hs, B8t16 hd, B8d16 hd, B8d32 hs, B8g32 hs, B8g16 hd, B8g16 hs, B8d4 hs, B8d4 hd, B8d20 hs, B8t12 hs, B8t12 hd, B8t4 hs, B8t4 hd, vz12, z12, ps', pd', es', ed', hA, ho2, hrep]
end Go.Proofs.Ytmdafjegddnecaa

/- The reference's writer of IPv4 as a function of values. -/
namespace Go.Proofs.Ytmdafjegddnecaa
open Go.Pm Go.Wb
set_option linter.unusedVariables false
set_option linter.unusedSimpArgs false
set_option maxRecDepth 1000000
theorem ad4_iff {ss : List Int} (h : ss.length = 16) : (ss = ad4 (ss.take 4)) = (ss.drop 4 = zero12) := by
  match ss, h with
  | [a, b, c, d, e, f, g, i, j, k, l, m, n, o, p, q], _ => simp [ad4, zero12, gb]
set_option maxHeartbeats 16000000 in
theorem rw4_opt (tos id : Int) (df : Bool) (ttl pr : Int) (ss ds os ps : List Int) (on pn : Bool) (oc pc : Option Nat) (hg : good4 tos id ttl pr ss ds os) (hp : ps.length ≤ 500000) (h : ¬ optE os = 0) : runF Try.prog KG Dm 100000 1 143 [ip4A tos id df ttl pr ss ds (.sl on (B8 os) os.length oc), .sl pn (B8 ps) ps.length pc] = some (errC (optE os)) := by
  obtain ⟨c0, c1, d0, d1, t0, t1, p0, p1, hs, hd, bs, bd, bo, hol⟩ := hg
  have hs2 : (ss.drop 4).length = 12 := by simp; omega
  have hd2 : (ds.drop 4).length = 12 := by simp; omega
  have z12 : zero12.length = 12 := rfl
  have ps' : pairOk [.int, .int, .int, .int, .int, .int, .int, .int, .int, .int, .int, .int] (List.drop 4 (List.map (Value.int .u8) ss)) (List.map (Value.int .u8) zero12) = true := by rw [← List.map_drop]; exact pairOk12 hs2 z12
  have pd' : pairOk [.int, .int, .int, .int, .int, .int, .int, .int, .int, .int, .int, .int] (List.drop 4 (List.map (Value.int .u8) ds)) (List.map (Value.int .u8) zero12) = true := by rw [← List.map_drop]; exact pairOk12 hd2 z12
  have es' : eqV (List.drop 4 (List.map (Value.int .u8) ss)) (List.map (Value.int .u8) zero12) = decide (ss.drop 4 = zero12) := by rw [← List.map_drop]; exact eqV_ints (hs2.trans z12.symm)
  have ed' : eqV (List.drop 4 (List.map (Value.int .u8) ds)) (List.map (Value.int .u8) zero12) = decide (ds.drop 4 = zero12) := by rw [← List.map_drop]; exact eqV_ints (hd2.trans z12.symm)
  have ts4 : ss.take 4 = [gb ss 0, gb ss 1, gb ss 2, gb ss 3] := take4_eq (by omega)
  have td4 : ds.take 4 = [gb ds 0, gb ds 1, gb ds 2, gb ds 3] := take4_eq (by omega)
  have as16 : (ad4 (ss.take 4)).length = 16 := rfl
  have ad16 : (ad4 (ds.take 4)).length = 16 := rfl
  have es := eqV_ints (hs.trans as16.symm)
  have ed := eqV_ints (hd.trans ad16.symm)
  have pS := pairOk16 hs as16
  have pD := pairOk16 hd ad16
  have qS := ad4_iff hs
  have qD := ad4_iff hd
  obtain ⟨AS, hAS⟩ : ∃ A, ad4 (ss.take 4) = A := ⟨_, rfl⟩
  obtain ⟨AD, hAD⟩ : ∃ A, ad4 (ds.take 4) = A := ⟨_, rfl⟩
  have hAS2 : ad4 [gb ss 0, gb ss 1, gb ss 2, gb ss 3] = AS := by rw [← ts4]; exact hAS
  have hAD2 : ad4 [gb ds 0, gb ds 1, gb ds 2, gb ds 3] = AD := by rw [← td4]; exact hAD
  rw [hAS] at es pS qS as16
  rw [hAD] at ed pD qD ad16
  have lS : min 4 ss.length = 4 := by omega
  have lD : min 4 ds.length = 4 := by omega
  have hn : (optE os != 0) = true := by simp [h]
  unfold runF errC
  rw [pvCall_own (fn := Try.f143) rfl Try.func143 rfl (by decide) rfl rfl (by simp)]
  simp -implicitDefEqProofs [h, hn, hAS, hAD, es, ed, pS, pD, qS, qD, lS, lD, as16, ad16, fAddr, ip4A, splice, bo, hol, fOpt, hs, hd, B8t16 hs, B8d16 hs, B8t16 hd, B8d16 hd, B8d32 hs, B8g32 hs, B8g16 hd, B8g16 hs, B8d4 hs, B8d4 hd, B8d20 hs, B8t4 hs, B8t4 hd, Nat.testBit_eq_decide_div_mod_eq]
set_option maxHeartbeats 16000000 in
theorem rw4_bad (tos id : Int) (df : Bool) (ttl pr : Int) (ss ds os ps : List Int) (on pn : Bool) (oc pc : Option Nat) (hg : good4 tos id ttl pr ss ds os) (hp : ps.length ≤ 500000) (h : optE os = 0) (hb : bad4 ss ds) : runF Try.prog KG Dm 100000 1 143 [ip4A tos id df ttl pr ss ds (.sl on (B8 os) os.length oc), .sl pn (B8 ps) ps.length pc] = some (errC 2) := by
  obtain ⟨c0, c1, d0, d1, t0, t1, p0, p1, hs, hd, bs, bd, bo, hol⟩ := hg
  have hs2 : (ss.drop 4).length = 12 := by simp; omega
  have hd2 : (ds.drop 4).length = 12 := by simp; omega
  have z12 : zero12.length = 12 := rfl
  have ps' : pairOk [.int, .int, .int, .int, .int, .int, .int, .int, .int, .int, .int, .int] (List.drop 4 (List.map (Value.int .u8) ss)) (List.map (Value.int .u8) zero12) = true := by rw [← List.map_drop]; exact pairOk12 hs2 z12
  have pd' : pairOk [.int, .int, .int, .int, .int, .int, .int, .int, .int, .int, .int, .int] (List.drop 4 (List.map (Value.int .u8) ds)) (List.map (Value.int .u8) zero12) = true := by rw [← List.map_drop]; exact pairOk12 hd2 z12
  have es' : eqV (List.drop 4 (List.map (Value.int .u8) ss)) (List.map (Value.int .u8) zero12) = decide (ss.drop 4 = zero12) := by rw [← List.map_drop]; exact eqV_ints (hs2.trans z12.symm)
  have ed' : eqV (List.drop 4 (List.map (Value.int .u8) ds)) (List.map (Value.int .u8) zero12) = decide (ds.drop 4 = zero12) := by rw [← List.map_drop]; exact eqV_ints (hd2.trans z12.symm)
  have ts4 : ss.take 4 = [gb ss 0, gb ss 1, gb ss 2, gb ss 3] := take4_eq (by omega)
  have td4 : ds.take 4 = [gb ds 0, gb ds 1, gb ds 2, gb ds 3] := take4_eq (by omega)
  have as16 : (ad4 (ss.take 4)).length = 16 := rfl
  have ad16 : (ad4 (ds.take 4)).length = 16 := rfl
  have es := eqV_ints (hs.trans as16.symm)
  have ed := eqV_ints (hd.trans ad16.symm)
  have pS := pairOk16 hs as16
  have pD := pairOk16 hd ad16
  have qS := ad4_iff hs
  have qD := ad4_iff hd
  obtain ⟨AS, hAS⟩ : ∃ A, ad4 (ss.take 4) = A := ⟨_, rfl⟩
  obtain ⟨AD, hAD⟩ : ∃ A, ad4 (ds.take 4) = A := ⟨_, rfl⟩
  have hAS2 : ad4 [gb ss 0, gb ss 1, gb ss 2, gb ss 3] = AS := by rw [← ts4]; exact hAS
  have hAD2 : ad4 [gb ds 0, gb ds 1, gb ds 2, gb ds 3] = AD := by rw [← td4]; exact hAD
  rw [hAS] at es pS qS as16
  rw [hAD] at ed pD qD ad16
  have lS : min 4 ss.length = 4 := by omega
  have lD : min 4 ds.length = 4 := by omega
  have ol := optE_len h
  unfold runF errC
  rw [pvCall_own (fn := Try.f143) rfl Try.func143 rfl (by decide) rfl rfl (by simp)]
  by_cases h1 : ss.drop 4 = zero12
  · have h2 : ¬ ds.drop 4 = zero12 := by
      rcases hb with q | q
      · exact absurd h1 q
      · exact q
    simp -implicitDefEqProofs [h, h1, h2, hAS, hAD, es, ed, pS, pD, qS, qD, lS, lD, as16, ad16, fAddr, ip4A, splice, bo, hol, fOpt, hs, hd, B8t16 hs, B8d16 hs, B8t16 hd, B8d16 hd, B8d32 hs, B8g32 hs, B8g16 hd, B8g16 hs, B8d4 hs, B8d4 hd, B8d20 hs, B8t4 hs, B8t4 hd, Nat.testBit_eq_decide_div_mod_eq]
  · simp -implicitDefEqProofs [h, h1, hAS, hAD, es, ed, pS, pD, qS, qD, lS, lD, as16, ad16, fAddr, ip4A, splice, bo, hol, fOpt, hs, hd, B8t16 hs, B8d16 hs, B8t16 hd, B8d16 hd, B8d32 hs, B8g32 hs, B8g16 hd, B8g16 hs, B8d4 hs, B8d4 hd, B8d20 hs, B8t4 hs, B8t4 hd, Nat.testBit_eq_decide_div_mod_eq]
set_option maxHeartbeats 16000000 in
theorem rw4_long (tos id : Int) (df : Bool) (ttl pr : Int) (ss ds os ps : List Int) (on pn : Bool) (oc pc : Option Nat) (hg : good4 tos id ttl pr ss ds os) (hp : ps.length ≤ 500000) (h : optE os = 0) (hb : ¬ bad4 ss ds) (hl : 1660 < 20 + os.length + ps.length) : runF Try.prog KG Dm 100000 1 143 [ip4A tos id df ttl pr ss ds (.sl on (B8 os) os.length oc), .sl pn (B8 ps) ps.length pc] = some (errC 3) := by
  obtain ⟨c0, c1, d0, d1, t0, t1, p0, p1, hs, hd, bs, bd, bo, hol⟩ := hg
  have hs2 : (ss.drop 4).length = 12 := by simp; omega
  have hd2 : (ds.drop 4).length = 12 := by simp; omega
  have z12 : zero12.length = 12 := rfl
  have ps' : pairOk [.int, .int, .int, .int, .int, .int, .int, .int, .int, .int, .int, .int] (List.drop 4 (List.map (Value.int .u8) ss)) (List.map (Value.int .u8) zero12) = true := by rw [← List.map_drop]; exact pairOk12 hs2 z12
  have pd' : pairOk [.int, .int, .int, .int, .int, .int, .int, .int, .int, .int, .int, .int] (List.drop 4 (List.map (Value.int .u8) ds)) (List.map (Value.int .u8) zero12) = true := by rw [← List.map_drop]; exact pairOk12 hd2 z12
  have es' : eqV (List.drop 4 (List.map (Value.int .u8) ss)) (List.map (Value.int .u8) zero12) = decide (ss.drop 4 = zero12) := by rw [← List.map_drop]; exact eqV_ints (hs2.trans z12.symm)
  have ed' : eqV (List.drop 4 (List.map (Value.int .u8) ds)) (List.map (Value.int .u8) zero12) = decide (ds.drop 4 = zero12) := by rw [← List.map_drop]; exact eqV_ints (hd2.trans z12.symm)
  have ts4 : ss.take 4 = [gb ss 0, gb ss 1, gb ss 2, gb ss 3] := take4_eq (by omega)
  have td4 : ds.take 4 = [gb ds 0, gb ds 1, gb ds 2, gb ds 3] := take4_eq (by omega)
  have as16 : (ad4 (ss.take 4)).length = 16 := rfl
  have ad16 : (ad4 (ds.take 4)).length = 16 := rfl
  have es := eqV_ints (hs.trans as16.symm)
  have ed := eqV_ints (hd.trans ad16.symm)
  have pS := pairOk16 hs as16
  have pD := pairOk16 hd ad16
  have qS := ad4_iff hs
  have qD := ad4_iff hd
  obtain ⟨AS, hAS⟩ : ∃ A, ad4 (ss.take 4) = A := ⟨_, rfl⟩
  obtain ⟨AD, hAD⟩ : ∃ A, ad4 (ds.take 4) = A := ⟨_, rfl⟩
  have hAS2 : ad4 [gb ss 0, gb ss 1, gb ss 2, gb ss 3] = AS := by rw [← ts4]; exact hAS
  have hAD2 : ad4 [gb ds 0, gb ds 1, gb ds 2, gb ds 3] = AD := by rw [← td4]; exact hAD
  rw [hAS] at es pS qS as16
  rw [hAD] at ed pD qD ad16
  have lS : min 4 ss.length = 4 := by omega
  have lD : min 4 ds.length = 4 := by omega
  have ol := optE_len h
  have e1 : IntKind.i64.wrap (20 + (os.length : Int)) = 20 + (os.length : Int) := wrap64_id (by omega) (by omega)
  have e3 : IntKind.i64.wrap (20 + (os.length : Int) + (ps.length : Int)) = 20 + (os.length : Int) + (ps.length : Int) := wrap64_id (by omega) (by omega)
  have q1 : (1660 : Int) < 20 + (os.length : Int) + (ps.length : Int) := by omega
  unfold bad4 at hb
  simp only [not_or, Decidable.not_not] at hb
  obtain ⟨h1, h2⟩ := hb
  unfold runF errC
  rw [pvCall_own (fn := Try.f143) rfl Try.func143 rfl (by decide) rfl rfl (by simp)]
  simp -implicitDefEqProofs [h, e1, e3, q1, h1, h2, hAS, hAD, es, ed, pS, pD, qS, qD, lS, lD, as16, ad16, fAddr, ip4A, splice, bo, hol, fOpt, hs, hd, B8t16 hs, B8d16 hs, B8t16 hd, B8d16 hd, B8d32 hs, B8g32 hs, B8g16 hd, B8g16 hs, B8d4 hs, B8d4 hd, B8d20 hs, B8t4 hs, B8t4 hd, Nat.testBit_eq_decide_div_mod_eq]
set_option maxHeartbeats 64000000 in
theorem rw4_ok (tos id : Int) (df : Bool) (ttl pr : Int) (ss ds os ps : List Int) (on pn : Bool) (oc pc : Option Nat) (hg : good4 tos id ttl pr ss ds os) (hp : ps.length ≤ 500000) (h : optE os = 0) (hb : ¬ bad4 ss ds) (hl : 20 + os.length + ps.length ≤ 1660) : runF Try.prog KG Dm 100000 1 143 [ip4A tos id df ttl pr ss ds (.sl on (B8 os) os.length oc), .sl pn (B8 ps) ps.length pc] = some (wC (putS (head4 tos id df ttl pr ss ds os (20 + (os.length : Int) + (ps.length : Int))) (ofV (head4 tos id df ttl pr ss ds os (20 + (os.length : Int) + (ps.length : Int)))) ++ ps)) := by
  obtain ⟨c0, c1, d0, d1, t0, t1, p0, p1, hs, hd, bs, bd, bo, hol⟩ := hg
  have hs2 : (ss.drop 4).length = 12 := by simp; omega
  have hd2 : (ds.drop 4).length = 12 := by simp; omega
  have z12 : zero12.length = 12 := rfl
  have ps' : pairOk [.int, .int, .int, .int, .int, .int, .int, .int, .int, .int, .int, .int] (List.drop 4 (List.map (Value.int .u8) ss)) (List.map (Value.int .u8) zero12) = true := by rw [← List.map_drop]; exact pairOk12 hs2 z12
  have pd' : pairOk [.int, .int, .int, .int, .int, .int, .int, .int, .int, .int, .int, .int] (List.drop 4 (List.map (Value.int .u8) ds)) (List.map (Value.int .u8) zero12) = true := by rw [← List.map_drop]; exact pairOk12 hd2 z12
  have es' : eqV (List.drop 4 (List.map (Value.int .u8) ss)) (List.map (Value.int .u8) zero12) = decide (ss.drop 4 = zero12) := by rw [← List.map_drop]; exact eqV_ints (hs2.trans z12.symm)
  have ed' : eqV (List.drop 4 (List.map (Value.int .u8) ds)) (List.map (Value.int .u8) zero12) = decide (ds.drop 4 = zero12) := by rw [← List.map_drop]; exact eqV_ints (hd2.trans z12.symm)
  have ts4 : ss.take 4 = [gb ss 0, gb ss 1, gb ss 2, gb ss 3] := take4_eq (by omega)
  have td4 : ds.take 4 = [gb ds 0, gb ds 1, gb ds 2, gb ds 3] := take4_eq (by omega)
  have as16 : (ad4 (ss.take 4)).length = 16 := rfl
  have ad16 : (ad4 (ds.take 4)).length = 16 := rfl
  have es := eqV_ints (hs.trans as16.symm)
  have ed := eqV_ints (hd.trans ad16.symm)
  have pS := pairOk16 hs as16
  have pD := pairOk16 hd ad16
  have qS := ad4_iff hs
  have qD := ad4_iff hd
  obtain ⟨AS, hAS⟩ : ∃ A, ad4 (ss.take 4) = A := ⟨_, rfl⟩
  obtain ⟨AD, hAD⟩ : ∃ A, ad4 (ds.take 4) = A := ⟨_, rfl⟩
  have hAS2 : ad4 [gb ss 0, gb ss 1, gb ss 2, gb ss 3] = AS := by rw [← ts4]; exact hAS
  have hAD2 : ad4 [gb ds 0, gb ds 1, gb ds 2, gb ds 3] = AD := by rw [← td4]; exact hAD
  rw [hAS] at es pS qS as16
  rw [hAD] at ed pD qD ad16
  have lS : min 4 ss.length = 4 := by omega
  have lD : min 4 ds.length = 4 := by omega
  have ol := optE_len h
  have e1 : IntKind.i64.wrap (20 + (os.length : Int)) = 20 + (os.length : Int) := wrap64_id (by omega) (by omega)
  have e3 : IntKind.i64.wrap (20 + (os.length : Int) + (ps.length : Int)) = 20 + (os.length : Int) + (ps.length : Int) := wrap64_id (by omega) (by omega)
  have q1 : ¬ (1660 : Int) < 20 + (os.length : Int) + (ps.length : Int) := by omega
  have e8 : (20 + (os.length : Int)).tdiv 4 = (20 + (os.length : Int)) / 4 := Int.tdiv_eq_ediv_of_nonneg (by omega)
  have e9 : IntKind.i64.wrap ((20 + (os.length : Int)) / 4) = (20 + (os.length : Int)) / 4 := wrap64_id (by omega) (by omega)
  have e10 : IntKind.i64.wrap (64 + (20 + (os.length : Int)) / 4) = 64 + (20 + (os.length : Int)) / 4 := wrap64_id (by omega) (by omega)
  have o2 : (64 + (20 + (os.length : Int)) / 4) % 256 = 64 + (20 + (os.length : Int)) / 4 := by omega
  have T1 : (20 + (os.length : Int) + (ps.length : Int)).tdiv 256 = (20 + (os.length : Int) + (ps.length : Int)) / 256 := Int.tdiv_eq_ediv_of_nonneg (by omega)
  have T2 : (20 + (os.length : Int) + (ps.length : Int)).tmod 256 = (20 + (os.length : Int) + (ps.length : Int)) % 256 := Int.tmod_eq_emod_of_nonneg (by omega)
  have T3 : IntKind.i64.wrap ((20 + (os.length : Int) + (ps.length : Int)) / 256) = (20 + (os.length : Int) + (ps.length : Int)) / 256 := wrap64_id (by omega) (by omega)
  have T4 : IntKind.i64.wrap ((20 + (os.length : Int) + (ps.length : Int)) % 256) = (20 + (os.length : Int) + (ps.length : Int)) % 256 := wrap64_id (by omega) (by omega)
  have T5 : (20 + (os.length : Int) + (ps.length : Int)) % 256 % 256 = (20 + (os.length : Int) + (ps.length : Int)) % 256 := by omega
  have I1 : id.tdiv 256 = id / 256 := Int.tdiv_eq_ediv_of_nonneg (by omega)
  have I2 : id.tmod 256 = id % 256 := Int.tmod_eq_emod_of_nonneg (by omega)
  have I3 : IntKind.u16.wrap (id / 256) = id / 256 := wrapu16_id (by omega) (by omega)
  have I4 : IntKind.u16.wrap (id % 256) = id % 256 := wrapu16_id (by omega) (by omega)
  have I5 : id % 256 % 256 = id % 256 := by omega
  unfold bad4 at hb
  simp only [not_or, Decidable.not_not] at hb
  obtain ⟨h1, h2⟩ := hb
  have U1 : IntKind.u16.wrap 256 = 256 := by decide
  obtain ⟨Z, hZ⟩ : ∃ Z, head4 tos id df ttl pr ss ds os (20 + (os.length : Int) + (ps.length : Int)) = Z := ⟨_, rfl⟩
  have hZl : Z.length = 20 + os.length := by rw [← hZ]; simp [head4]; omega
  have hZb : bytesB Z = true := by
    rw [← hZ]
    have q0 := gb_range bs 0
    have q1 := gb_range bs 1
    have q2 := gb_range bs 2
    have q3 := gb_range bs 3
    have r0 := gb_range bd 0
    have r1 := gb_range bd 1
    have r2 := gb_range bd 2
    have r3 := gb_range bd 3
    unfold head4
    simp only [bytesB_cons, Bool.and_eq_true, decide_eq_true_eq]
    refine ⟨⟨by omega, by omega⟩, ⟨by omega, by omega⟩, ⟨by omega, by omega⟩, ⟨by omega, by omega⟩, ⟨by omega, by omega⟩, ⟨by omega, by omega⟩, ⟨by split <;> omega, by split <;> omega⟩, ⟨by omega, by omega⟩, ⟨by omega, by omega⟩, ⟨by omega, by omega⟩, ⟨by omega, by omega⟩, ⟨by omega, by omega⟩, q0, q1, q2, q3, r0, r1, r2, r3, bo⟩
  have hZr := ofV_range hZb
  obtain ⟨C, hC⟩ : ∃ C, ofV Z = C := ⟨_, rfl⟩
  rw [hC] at hZr
  have o4 : IntKind.i64.wrap C = C := wrap64_id (by omega) (by omega)
  have z1 : Z.take (20 + os.length) = Z := List.take_of_length_le (by omega)
  have z2 : 20 + os.length ≤ 1099511627776 := by omega
  have z3 : 10 ≤ 20 + os.length := by omega
  have z4 : 11 ≤ 20 + os.length := by omega
  have z5 : 12 ≤ 20 + os.length := by omega
  have z6 : 20 + os.length + ps.length ≤ 549755813888 := by omega
  have zm := fun (X Y : List Int) (y : Int) => B8_mid' X Y y
  obtain ⟨Y, hY⟩ : ∃ Y, Z.take 10 ++ (C / 256 % 256 :: Z.drop 11) = Y := ⟨_, rfl⟩
  have hYl : Y.length = 20 + os.length := by rw [← hY]; simp; omega
  obtain ⟨W0, hW0⟩ : ∃ W0, putS Z C = W0 := ⟨_, rfl⟩
  have hY2 : Y.take 11 ++ (C % 256 :: Y.drop 12) = W0 := by
    rw [← hW0, ← hY]
    unfold putS
    have t10 : (Z.take 10).length = 10 := by simp; omega
    have u1 : (Z.take 10).take 11 = Z.take 10 := List.take_of_length_le (by omega)
    have u2 : (Z.take 10).drop 12 = [] := List.drop_of_length_le (by omega)
    rw [List.take_append, List.drop_append, t10, u1, u2]
    simp
  have hWl : W0.length = 20 + os.length := by rw [← hW0]; unfold putS; simp; omega
  have hWt : W0.take (20 + os.length) = W0 := List.take_of_length_le (by omega)
  have e21 : 20 + os.length - 11 = os.length + 9 := by omega
  have z7 : 20 + os.length ≤ 549755813888 := by omega
  have C1 : C.tdiv 256 = C / 256 := Int.tdiv_eq_ediv_of_nonneg (by omega)
  have C2 : C.tmod 256 = C % 256 := Int.tmod_eq_emod_of_nonneg (by omega)
  have C3 : IntKind.u16.wrap (C / 256) = C / 256 := wrapu16_id (by omega) (by omega)
  have C4 : IntKind.u16.wrap (C % 256) = C % 256 := wrapu16_id (by omega) (by omega)
  have C5 : C % 256 % 256 = C % 256 := by omega
  have i10 : (10 : Int) < 20 + (os.length : Int) := by omega
  have i11 : (11 : Int) < 20 + (os.length : Int) := by omega
  rw [hZ, hC, hW0]
  unfold runF wC
  rw [pvCall_own (fn := Try.f143) rfl Try.func143 rfl (by decide) rfl rfl (by simp)]
  cases df with
  | true =>
    have hA : (AV.v (.int .u8 (64 + (20 + (os.length : Int)) / 4)) :: AV.v (.int .u8 (tos)) :: AV.v (.int .u8 ((20 + (os.length : Int) + (ps.length : Int)) / 256 % 256)) :: AV.v (.int .u8 ((20 + (os.length : Int) + (ps.length : Int)) % 256)) :: AV.v (.int .u8 (id / 256 % 256)) :: AV.v (.int .u8 (id % 256)) :: AV.v (.int .u8 (64)) :: AV.v (.int .u8 (0)) :: AV.v (.int .u8 (ttl)) :: AV.v (.int .u8 (pr)) :: AV.v (.int .u8 (0)) :: AV.v (.int .u8 (0)) :: AV.v (.int .u8 (gb ss 0)) :: AV.v (.int .u8 (gb ss 1)) :: AV.v (.int .u8 (gb ss 2)) :: AV.v (.int .u8 (gb ss 3)) :: AV.v (.int .u8 (gb ds 0)) :: AV.v (.int .u8 (gb ds 1)) :: AV.v (.int .u8 (gb ds 2)) :: AV.v (.int .u8 (gb ds 3)) :: B8 os) = B8 Z := by rw [← hZ]; simp [head4, B8c]
    simp -implicitDefEqProofs [hAS2, hAD2, asB8_nil'', asB8_cons'', wrapu8_mod, e1, e3, q1, e8, e9, e10, o2, T1, T2, T3, T4, T5, I1, I2, I3, I4, I5, h, h1, h2, U1, o4, hZl, hZb, hC, z1, z2, z3, z4, z5, z6, zm, fOf, hY, hYl, hY2, hWl, hWt, e21, z7, C1, C2, C3, C4, C5, i10, i11, ts4, td4, B8c, B8n, IntKind.bits, hAS, hAD, es, ed, pS, pD, qS, qD, lS, lD, as16, ad16, fAddr, ip4A, splice, bo, hol, fOpt, hs, hd, B8t16 hs, B8d16 hs, B8t16 hd, B8d16 hd, B8d32 hs, B8g32 hs, B8g16 hd, B8g16 hs, B8d4 hs, B8d4 hd, B8d20 hs, B8t4 hs, B8t4 hd, Nat.testBit_eq_decide_div_mod_eq, hA]
  | false =>
    have hA : (AV.v (.int .u8 (64 + (20 + (os.length : Int)) / 4)) :: AV.v (.int .u8 (tos)) :: AV.v (.int .u8 ((20 + (os.length : Int) + (ps.length : Int)) / 256 % 256)) :: AV.v (.int .u8 ((20 + (os.length : Int) + (ps.length : Int)) % 256)) :: AV.v (.int .u8 (id / 256 % 256)) :: AV.v (.int .u8 (id % 256)) :: AV.v (.int .u8 (0)) :: AV.v (.int .u8 (0)) :: AV.v (.int .u8 (ttl)) :: AV.v (.int .u8 (pr)) :: AV.v (.int .u8 (0)) :: AV.v (.int .u8 (0)) :: AV.v (.int .u8 (gb ss 0)) :: AV.v (.int .u8 (gb ss 1)) :: AV.v (.int .u8 (gb ss 2)) :: AV.v (.int .u8 (gb ss 3)) :: AV.v (.int .u8 (gb ds 0)) :: AV.v (.int .u8 (gb ds 1)) :: AV.v (.int .u8 (gb ds 2)) :: AV.v (.int .u8 (gb ds 3)) :: B8 os) = B8 Z := by rw [← hZ]; simp [head4, B8c]
    simp -implicitDefEqProofs [hAS2, hAD2, asB8_nil'', asB8_cons'', wrapu8_mod, e1, e3, q1, e8, e9, e10, o2, T1, T2, T3, T4, T5, I1, I2, I3, I4, I5, h, h1, h2, U1, o4, hZl, hZb, hC, z1, z2, z3, z4, z5, z6, zm, fOf, hY, hYl, hY2, hWl, hWt, e21, z7, C1, C2, C3, C4, C5, i10, i11, ts4, td4, B8c, B8n, IntKind.bits, hAS, hAD, es, ed, pS, pD, qS, qD, lS, lD, as16, ad16, fAddr, ip4A, splice, bo, hol, fOpt, hs, hd, B8t16 hs, B8d16 hs, B8t16 hd, B8d16 hd, B8d32 hs, B8g32 hs, B8g16 hd, B8g16 hs, B8d4 hs, B8d4 hd, B8d20 hs, B8t4 hs, B8t4 hd, Nat.testBit_eq_decide_div_mod_eq, hA]
end Go.Proofs.Ytmdafjegddnecaa

/- Contracts of IPv4's writers and of Same. -/
namespace Go.Proofs.Ytmdafjegddnecaa
open Go.Pm Go.Wb
set_option linter.unusedVariables false
set_option linter.unusedSimpArgs false
set_option maxRecDepth 1000000
abbrev I4 := Int × Int × Bool × Int × Int × List Int × List Int × List Int
def asI4c (tos id : Int) (df : Bool) (ttl pr : Int) (ss ds : List Int) : List AV → Option I4
  | [.sl nn b len cap] => (asB8 b).bind fun cs => if cs.length = len then some (tos, id, df, ttl, pr, ss, ds, cs) else none
  | _ => none
def asI4 : AV → Option I4
  | .agg (.v (.int .u8 tos) :: .v (.int .u16 id) :: .v (.bool df) :: .v (.int .u8 ttl) :: .v (.int .u8 pr) :: rest) =>
    (asB8 (rest.take 16)).bind fun ss => (asB8 ((rest.drop 16).take 16)).bind fun ds => asI4c tos id df ttl pr ss ds (rest.drop 32)
  | _ => none
theorem asI4_eq {x : AV} {r : I4} (h : asI4 x = some r) : ∃ cn cc, x = ip4A r.1 r.2.1 r.2.2.1 r.2.2.2.1 r.2.2.2.2.1 r.2.2.2.2.2.1 r.2.2.2.2.2.2.1 (.sl cn (B8 r.2.2.2.2.2.2.2) r.2.2.2.2.2.2.2.length cc) := by
  unfold asI4 at h
  split at h
  · rename_i tos id df ttl pr rest
    obtain ⟨ss, h1, h⟩ := Option.bind_eq_some_iff.1 h
    obtain ⟨ds, h2, h⟩ := Option.bind_eq_some_iff.1 h
    unfold asI4c at h
    split at h
    · rename_i nn b len cap hr
      obtain ⟨cs, h3, h⟩ := Option.bind_eq_some_iff.1 h
      split at h
      · rename_i hl
        cases h
        subst hl
        have e1 := asB8_eq h1
        have e2 := asB8_eq h2
        have e3 := asB8_eq h3
        subst e3
        refine ⟨nn, cap, ?_⟩
        have : rest = B8 ss ++ (B8 ds ++ [.sl nn (B8 cs) cs.length cap]) := by
          rw [← e1, ← e2, ← hr, ← List.take_append_drop 16 rest]
          simp only [List.take_append_drop]
          conv => lhs; rw [← List.take_append_drop 16 rest]
          congr 1
          conv => lhs; rw [← List.take_append_drop 16 (rest.drop 16)]
          rw [List.drop_drop]
        rw [this]
        rfl
      · cases h
    · cases h
  · cases h
theorem asI4_at {tos id : Int} {df : Bool} {ttl pr : Int} {ss ds cs : List Int} {len : Nat} (hs : ss.length = 16) (hd : ds.length = 16) (hc : cs.length = len) (nn : Bool) (cap : Option Nat) : asI4 (.agg (.v (.int .u8 tos) :: .v (.int .u16 id) :: .v (.bool df) :: .v (.int .u8 ttl) :: .v (.int .u8 pr) :: (B8 ss ++ (B8 ds ++ [.sl nn (B8 cs) len cap])))) = some (tos, id, df, ttl, pr, ss, ds, cs) := by
  show (asB8 ((B8 ss ++ _).take 16)).bind _ = _
  rw [B8t16 hs, B8d16 hs, B8t16 hd, B8d32 hs, B8d16 hd]
  simp [asI4c, hc]
def fW4 : Fun := fun args => match args.map AV.norm with
  | [t, .sl nn c len cap] => (asI4 t).bind fun t => (asB8 c).bind fun ps => if good4 t.1 t.2.1 t.2.2.2.1 t.2.2.2.2.1 t.2.2.2.2.2.1 t.2.2.2.2.2.2.1 t.2.2.2.2.2.2.2 ∧ ps.length = len ∧ len ≤ 9223372036854775807 then
      some (w4V t.1 t.2.1 t.2.2.1 t.2.2.2.1 t.2.2.2.2.1 t.2.2.2.2.2.1 t.2.2.2.2.2.2.1 t.2.2.2.2.2.2.2 ps) else none
  | _ => none
def fRW4 : Fun := fun args => match args.map AV.norm with
  | [t, .sl nn c len cap] => (asI4 t).bind fun t => (asB8 c).bind fun ps => if good4 t.1 t.2.1 t.2.2.2.1 t.2.2.2.2.1 t.2.2.2.2.2.1 t.2.2.2.2.2.2.1 t.2.2.2.2.2.2.2 ∧ ps.length = len ∧ len ≤ 500000 then
      some (w4V t.1 t.2.1 t.2.2.1 t.2.2.2.1 t.2.2.2.2.1 t.2.2.2.2.2.1 t.2.2.2.2.2.2.1 t.2.2.2.2.2.2.2 ps) else none
  | _ => none
theorem w4_pure : Pure Try.prog 43 fW4 := ((runF_pure kg_ok follows_mixed dm_ok 100000 2 43).norm).weaken fun args r h => by
  unfold fW4 at h
  generalize args.map AV.norm = args at h ⊢
  split at h
  · rename_i t nn c len cap
    obtain ⟨⟨tos, id, df, ttl, pr, ss, ds, cs⟩, e1, h1⟩ := Option.bind_eq_some_iff.1 h
    obtain ⟨ps, e2, he⟩ := Option.bind_eq_some_iff.1 h1
    clear h h1
    split at he
    case isFalse => cases he
    rename_i hh
    simp only at hh he
    obtain ⟨h1, rfl, h3⟩ := hh
    obtain ⟨cn, cc, rfl⟩ := asI4_eq e1
    obtain rfl := asB8_eq e2
    rw [← he]
    unfold w4V
    split
    · rename_i q; exact pw4_opt tos id df ttl pr ss ds cs ps cn nn cc cap h1 h3 q
    split
    · rename_i q q1; exact pw4_bad tos id df ttl pr ss ds cs ps cn nn cc cap h1 h3 (by simpa using q) q1
    split
    · rename_i q q1 q2; exact pw4_long tos id df ttl pr ss ds cs ps cn nn cc cap h1 h3 (by simpa using q) q1 q2
    · rename_i q q1 q2; exact pw4_ok tos id df ttl pr ss ds cs ps cn nn cc cap h1 h3 (by simpa using q) q1 (by omega)
  · cases h
theorem rw4_pure : Pure Try.prog 143 fRW4 := ((runF_pure kg_ok follows_mixed dm_ok 100000 1 143).norm).weaken fun args r h => by
  unfold fRW4 at h
  generalize args.map AV.norm = args at h ⊢
  split at h
  · rename_i t nn c len cap
    obtain ⟨⟨tos, id, df, ttl, pr, ss, ds, cs⟩, e1, h1⟩ := Option.bind_eq_some_iff.1 h
    obtain ⟨ps, e2, he⟩ := Option.bind_eq_some_iff.1 h1
    clear h h1
    split at he
    case isFalse => cases he
    rename_i hh
    simp only at hh he
    obtain ⟨h1, rfl, h3⟩ := hh
    obtain ⟨cn, cc, rfl⟩ := asI4_eq e1
    obtain rfl := asB8_eq e2
    rw [← he]
    unfold w4V
    split
    · rename_i q; exact rw4_opt tos id df ttl pr ss ds cs ps cn nn cc cap h1 h3 q
    split
    · rename_i q q1; exact rw4_bad tos id df ttl pr ss ds cs ps cn nn cc cap h1 h3 (by simpa using q) q1
    split
    · rename_i q q1 q2; exact rw4_long tos id df ttl pr ss ds cs ps cn nn cc cap h1 h3 (by simpa using q) q1 q2
    · rename_i q q1 q2; exact rw4_ok tos id df ttl pr ss ds cs ps cn nn cc cap h1 h3 (by simpa using q) q1 (by omega)
  · cases h
def like4 (x y : I4) : Prop := x.1 = y.1 ∧ x.2.1 = y.2.1 ∧ x.2.2.1 = y.2.2.1 ∧ x.2.2.2.1 = y.2.2.2.1 ∧ x.2.2.2.2.1 = y.2.2.2.2.1 ∧ x.2.2.2.2.2.1 = y.2.2.2.2.2.1 ∧ x.2.2.2.2.2.2.1 = y.2.2.2.2.2.2.1 ∧ x.2.2.2.2.2.2.2 = y.2.2.2.2.2.2.2
instance (x y : I4) : Decidable (like4 x y) := by unfold like4; infer_instance
theorem like4_self (x : I4) : like4 x x := ⟨rfl, rfl, rfl, rfl, rfl, rfl, rfl, rfl⟩
theorem like4_eq {x y : I4} (h : like4 x y) : x = y := by
  obtain ⟨a, b, c, d, e, f, g, i⟩ := x
  obtain ⟨a', b', c', d', e', f', g', i'⟩ := y
  obtain ⟨h1, h2, h3, h4, h5, h6, h7, h8⟩ := h
  simp only at h1 h2 h3 h4 h5 h6 h7 h8
  subst h1 h2 h3 h4 h5 h6 h7 h8
  rfl
attribute [simp] like4_self
def fSame4 : Fun := fun args => match args.map AV.norm with
  | [a, b] => (asI4 a).bind fun x => (asI4 b).bind fun y => if like4 x y ∧ x.2.2.2.2.2.1.length = 16 ∧ x.2.2.2.2.2.2.1.length = 16 ∧ x.2.2.2.2.2.2.2.length ≤ 500000 then some (.v (.bool true), []) else none
  | _ => none
end Go.Proofs.Ytmdafjegddnecaa
