/- The law Ip4One: the walk. -/
import Derived.Test.YtcbjjkpjbdcakaaJo
namespace Go.Proofs.Ytcbjjkpjbdcakaa
open Go.ChangeShapes Go.WideShapes Go.ChangeAt Go.RowKit Go.Wb Go.Pm
set_option linter.unusedVariables false
set_option linter.unusedSimpArgs false
theorem ws_set4 : ∀ (l : List Int) (o : Bool) (i : Nat) (y : Int), i < l.length → ∃ k : Int, (k = 1 ∨ k = 256) ∧ ws o (l.set i y) = ws o l + (y - l.getD i 0) * k
  | [], _, _, _, h => absurd h (by simp)
  | x :: l, o, 0, y, _ => by
    cases o
    · exact ⟨256, .inr rfl, by simp only [List.set_cons_zero, ws, List.getD_cons_zero]; omega⟩
    · exact ⟨1, .inl rfl, by simp only [List.set_cons_zero, ws, List.getD_cons_zero]; omega⟩
  | x :: l, o, i + 1, y, h => by
    cases o
    · obtain ⟨k, hk, e⟩ := ws_set4 l true i y (by simpa using h)
      exact ⟨k, hk, by simp only [List.set_cons_succ, ws, List.getD_cons_succ, e]; omega⟩
    · obtain ⟨k, hk, e⟩ := ws_set4 l false i y (by simpa using h)
      exact ⟨k, hk, by simp only [List.set_cons_succ, ws, List.getD_cons_succ, e]; omega⟩
theorem ofV_turned {P : List Int} {i : Nat} {y : Int} (hb : bytesB P = true) (hi : i < P.length) (y0 : 0 ≤ y) (y1 : y ≤ 255) (hy : y ≠ gb P i) (h : ofV P = 0) : ¬ ofV (P.set i y) = 0 := by
  obtain ⟨k, hk, e⟩ := ws_set4 P false i y hi
  have w0 := (ws_nonneg false P (bytesB_iff.1 hb)).1
  have g := gb_range hb i
  unfold gb at g hy
  unfold ofV sumTo at h ⊢
  rw [e]
  generalize ws false P = t at *
  generalize P.getD i 0 = z at *
  clear e hb hi
  unfold cn at *
  rcases hk with rfl | rfl <;> split at h <;> split <;> omega
theorem xor8_in {a b : Int} (a0 : 0 ≤ a) (a1 : a ≤ 255) (b0 : 0 ≤ b) (b1 : b ≤ 255) : 0 ≤ bits .xor .u8 a b ∧ bits .xor .u8 a b ≤ 255 := by
  rw [u8_xor a b a0 (by omega) b0 (by omega)]
  have := @Nat.xor_lt_two_pow a.toNat b.toNat 8 (by omega) (by omega)
  omega
theorem xor8_other {a b : Int} (a0 : 0 ≤ a) (a1 : a ≤ 255) (b0 : 0 ≤ b) (b1 : b ≤ 255) (h : ¬ b = 0) : bits .xor .u8 a b ≠ a := by
  rw [u8_xor a b a0 (by omega) b0 (by omega)]
  intro e
  have e2 : a.toNat ^^^ b.toNat = a.toNat := by omega
  have e3 : a.toNat ^^^ (a.toNat ^^^ b.toNat) = a.toNat ^^^ a.toNat := by rw [e2]
  rw [← Nat.xor_assoc, Nat.xor_self, Nat.zero_xor] at e3
  omega
theorem gb_set_other {zs : List Int} {i k : Nat} {y : Int} (h : i ≠ k) : gb (zs.set i y) k = gb zs k := by
  unfold gb
  rw [List.getD_eq_getElem?_getD, List.getD_eq_getElem?_getD, List.getElem?_set_ne h]
theorem bytes_set {zs : List Int} {i : Nat} {y : Int} (h : bytesB zs = true) (y0 : 0 ≤ y) (y1 : y ≤ 255) : bytesB (zs.set i y) = true := by
  rw [bytesB_iff] at h ⊢
  intro x hx
  rcases List.mem_or_eq_of_mem_set hx with h' | rfl
  · exact h x h'
  · exact ⟨y0, y1⟩
theorem bit_range {k : Nat} (hk : k < 8) : (2 : Int) ^ k ≤ 128 ∧ 0 < (2 : Int) ^ k := by
  match k, hk with
  | 0, _ => decide
  | 1, _ => decide
  | 2, _ => decide
  | 3, _ => decide
  | 4, _ => decide
  | 5, _ => decide
  | 6, _ => decide
  | 7, _ => decide
theorem ip4One_walk (w : World) (v0 : Value) (o0 : InIp4 w v0) (v1 : Value) (o1 : In8 w v1) (at_ : Int) (h2 : (Lit.int .i64 at_).wf = true) :
    Calls Try.prog 8 #[v0, v1, .int .i64 at_] w fun e w' => e = .returned (.bool true) ∧ Below w.heap.size w w' := by
  obtain ⟨tos, id, df, ttl, pr, ss, ds, a, len, cap, cs, rfl, ro, c0, c1, l0, l1, p0, p1, q0, q1, hs, hd, bs', bd⟩ := o0
  obtain ⟨b, blen, bcap, bs, rfl, rb⟩ := o1
  have hol : cs.length = len := ro.1
  have hbl : bs.length = blen := rb.1
  subst hol hbl
  have ra : RelL (noneAt w) [ip4A tos id df ttl pr ss ds (.sl false (B8 cs) cs.length none), .sl false (B8 bs) bs.length none, .v (.int .i64 at_)] (#[.agg (v4 tos id df ttl pr ss ds (.slice a cs.length cap)).toArray, .slice b bs.length bcap, .int .i64 at_] : Array Value).toList :=
    .cons (rel_ip4 ro) (.cons (rel_row rb) (.cons .v (.nil _)))
  have key : (pvCall Try.prog KH Dm 100000 1 0 8 [ip4A tos id df ttl pr ss ds (.sl false (B8 cs) cs.length none), .sl false (B8 bs) bs.length none, .v (.int .i64 at_)] (fun _ => none)).map (·.1) = some (.v (.bool true)) := by
    have hz : bytesB bs = true := bytesB_iff.2 rb.5
    have hb : bs.length ≤ 9223372036854775807 := by have := rb.le; have := rb.cap_le; omega
    have hc : cs.length ≤ 9223372036854775807 := by have := ro.le; have := ro.cap_le; omega
    have hg : good4 tos id ttl pr ss ds cs := ⟨c0, c1, l0, l1, p0, p1, q0, q1, hs, hd, bs', bd, bytesB_iff.2 ro.5, hc⟩
    by_cases h1 : optE cs = 0
    case neg => exact ip4o_e tos id df ttl pr ss ds cs bs _ _ _ _ at_ hb hg _ h1 (by unfold w4V; rw [if_pos h1])
    by_cases hx : bad4 ss ds
    · exact ip4o_e tos id df ttl pr ss ds cs bs _ _ _ _ at_ hb hg 2 (by omega) (by unfold w4V; rw [if_neg (by simpa using h1), if_pos hx])
    by_cases h3 : 1660 < 20 + cs.length + bs.length
    · exact ip4o_e tos id df ttl pr ss ds cs bs _ _ _ _ at_ hb hg 3 (by omega) (by unfold w4V; rw [if_neg (by simpa using h1), if_neg hx, if_pos h3])
    have hW : w4V tos id df ttl pr ss ds cs bs = wC (putS (head4 tos id df ttl pr ss ds cs (20 + (cs.length : Int) + (bs.length : Int))) (ofV (head4 tos id df ttl pr ss ds cs (20 + (cs.length : Int) + (bs.length : Int)))) ++ bs) := by
      unfold w4V; rw [if_neg (by simpa using h1), if_neg hx, if_neg h3]
    by_cases hlb : 1500 < bs.length
    · exact ip4o_l tos id df ttl pr ss ds cs bs _ _ _ _ at_ hb hg _ hW hlb
    obtain ⟨_, k2⟩ := ip4_back (df := df) (ps := bs) (rest := []) hg h1 hx (by omega) hz rfl
    have ol := optE_len h1
    have hZb := head4_bytes (df := df) (T := 20 + (cs.length : Int) + (bs.length : Int)) hg ol.1 (by omega)
    have hZl := head4_len (tos := tos) (id := id) (df := df) (ttl := ttl) (pr := pr) (ss := ss) (ds := ds) (os := cs) (T := 20 + (cs.length : Int) + (bs.length : Int))
    have hCr := ofV_range hZb
    have hg0 : ∀ K, gb (putS (head4 tos id df ttl pr ss ds cs (20 + (cs.length : Int) + (bs.length : Int))) K ++ bs) 0 = 64 + (20 + (cs.length : Int)) / 4 := fun K => rfl
    generalize head4 tos id df ttl pr ss ds cs (20 + (cs.length : Int) + (bs.length : Int)) = Z at *
    generalize ofV Z = K at *
    have hPl : (putS Z K).length = 20 + cs.length := by unfold putS; simp; omega
    have hPb : bytesB (putS Z K) = true := by
      unfold putS
      rw [bytesB_append, bytesB_cons, bytesB_cons, bytesB_take hZb, bytesB_drop hZb]
      simp only [Bool.and_true, Bool.true_and, Bool.and_eq_true, decide_eq_true_eq]
      omega
    have g0 := hg0 K
    generalize putS Z K = P at *
    have hWb : bytesB (P ++ bs) = true := by rw [bytesB_append, hPb, hz]; rfl
    obtain ⟨n, hn⟩ : ∃ n, n = 20 + cs.length := ⟨_, rfl⟩
    have hWl : (P ++ bs).length = n + bs.length := by simp; omega
    have m0 : 0 ≤ IntKind.u64.wrap at_ := by simp [IntKind.wrap, IntKind.signed, IntKind.bits]; omega
    have m1 := Int.tmod_nonneg (8 * (n : Int) - 8) m0
    have m2 := Int.tmod_lt_of_pos (IntKind.u64.wrap at_) (show (0 : Int) < 8 * (n : Int) - 8 by omega)
    obtain ⟨m, hm⟩ := Int.eq_ofNat_of_zero_le m1
    rw [hm] at m2
    obtain ⟨i, k, hik, hk⟩ : ∃ i k : Nat, 8 + m = 8 * i + k ∧ k < 8 := ⟨(8 + m) / 8, (8 + m) % 8, by omega, by omega⟩
    have hi : i < n := by omega
    have hi1 : 1 ≤ i := by omega
    have gi := gb_range hWb i
    have hkr := bit_range hk
    have hy := xor8_in gi.1 gi.2 (show (0 : Int) ≤ 2 ^ k by omega) (by omega)
    have hne := xor8_other gi.1 gi.2 (show (0 : Int) ≤ 2 ^ k by omega) (by omega) (by omega)
    generalize hyy : bits .xor .u8 (gb (P ++ bs) i) (2 ^ k) = y at hy hne
    have hUb : bytesB ((P ++ bs).set i y) = true := bytes_set hWb hy.1 hy.2
    have ht : ((P ++ bs).set i y).take n = P.set i y := by
      rw [List.set_append_left _ _ (by omega), List.take_left' (by simp; omega)]
    have hgi : gb (P ++ bs) i = gb P i := by unfold gb; rw [List.getD_eq_getElem?_getD, List.getD_eq_getElem?_getD, List.getElem?_append_left (by omega)]
    rw [hgi] at hne
    have hno := ofV_turned (i := i) (y := y) hPb (by omega) hy.1 hy.2 hne k2
    have hchk : chk4 ((P ++ bs).set i y) = 6 := by
      have u0 : gb ((P ++ bs).set i y) 0 = 64 + (20 + (cs.length : Int)) / 4 := by rw [gb_set_other (by omega)]; exact g0
      have un : hl4 ((P ++ bs).set i y) = n := by unfold hl4; rw [u0]; omega
      unfold chk4
      rw [un, List.length_set, hWl, u0, ht, if_neg (by omega), if_neg (by omega), if_neg (by omega), if_pos hno]
    refine ip4o_o tos id df ttl pr ss ds cs bs _ _ _ _ at_ hb hg _ hW (by omega) n i k hWl (by rw [hWl]; omega) hWb (by omega) hk hi (by rw [hm]; omega) _ rfl ?_ ?_
    · rw [hyy]; exact hUb
    · rw [hyy]; unfold ip4V; rw [hchk, if_neg (by omega)]
  obtain ⟨⟨x, m'⟩, k1, k2⟩ := Option.map_eq_some_iff.1 key
  simp only at k2
  subst k2
  exact law_of_run kh_ok follows_mixed dm_ok k1 ra
end Go.Proofs.Ytcbjjkpjbdcakaa
