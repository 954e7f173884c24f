/- Plain facts on sums of words in ones' complement. No program in sight. -/
namespace Go.Wb

/-- A sum of words, with what is above 16 bits added again. -/
def cn (n : Int) : Int := if n = 0 then 0 else (n - 1) % 65535 + 1

theorem cn_range {n : Int} (_h : 0 ≤ n) : 0 ≤ cn n ∧ cn n ≤ 65535 := by unfold cn; split <;> omega
theorem cn_small {n : Int} (h : 0 ≤ n) (h' : n ≤ 65535) : cn n = n := by unfold cn; split <;> omega
theorem cn_fold {n : Int} (h : 65535 < n) : cn (n / 65536 + n % 65536) = cn n := by unfold cn; split <;> split <;> omega
theorem cn_add {a b : Int} (ha : 0 ≤ a) (hb : 0 ≤ b) : cn (cn a + b) = cn (a + b) := by unfold cn; split <;> split <;> split <;> omega
theorem cn_plus {a b : Int} (ha : 0 ≤ a) (ha' : a ≤ 65535) (hb : 0 ≤ b) (hb' : b ≤ 65535) : cn (a + b) = if 65535 < a + b then a + b + 1 - 65536 else a + b := by
  unfold cn; split <;> split <;> omega

/-- The words of bytes, added: whether the first byte is a low one. -/
def ws : Bool → List Int → Int
  | _, [] => 0
  | true, b :: l => b + ws false l
  | false, b :: l => b * 256 + ws true l
def par (o : Bool) (n : Nat) : Bool := xor o (n % 2 == 1)

theorem par_zero (o : Bool) : par o 0 = o := by cases o <;> rfl
theorem par_succ (o : Bool) (n : Nat) : par o (n + 1) = !par o n := by
  unfold par
  rcases Nat.mod_two_eq_zero_or_one n with h | h
  · rw [h, show (n + 1) % 2 = 1 from by omega]; cases o <;> rfl
  · rw [h, show (n + 1) % 2 = 0 from by omega]; cases o <;> rfl
theorem par_add (o : Bool) (n m : Nat) : par (par o n) m = par o (n + m) := by
  induction m with
  | zero => rw [par_zero]; rfl
  | succ m ih => rw [par_succ, ih, ← par_succ]; rfl

theorem ws_nonneg : ∀ (o : Bool) (l : List Int), (∀ x ∈ l, 0 ≤ x ∧ x ≤ 255) → 0 ≤ ws o l ∧ ws o l ≤ 65280 * l.length
  | o, [], _ => by cases o <;> simp [ws]
  | true, b :: l, h => by
    have := ws_nonneg false l (fun x hx => h x (List.mem_cons_of_mem _ hx))
    have := h b (List.mem_cons_self ..)
    simp only [ws, List.length_cons]; omega
  | false, b :: l, h => by
    have := ws_nonneg true l (fun x hx => h x (List.mem_cons_of_mem _ hx))
    have := h b (List.mem_cons_self ..)
    simp only [ws, List.length_cons]; omega

theorem ws_append : ∀ (o : Bool) (l m : List Int), ws o (l ++ m) = ws o l + ws (par o l.length) m
  | o, [], m => by cases o <;> simp [ws, par_zero]
  | true, b :: l, m => by
    rw [List.cons_append, ws, ws_append, ws, List.length_cons, Nat.add_comm, ← par_add]; simp [par]; omega
  | false, b :: l, m => by
    rw [List.cons_append, ws, ws_append, ws, List.length_cons, Nat.add_comm, ← par_add]; simp [par]; omega

theorem take_succ_getD {l : List Int} {k : Nat} (h : k < l.length) : l.take (k + 1) = l.take k ++ [l.getD k 0] := by
  rw [List.take_succ_eq_append_getElem h, List.getD_eq_getElem?_getD, List.getElem?_eq_getElem h]; rfl
theorem ws_take_succ {o : Bool} {l : List Int} {k : Nat} (h : k < l.length) : ws o (l.take (k + 1)) = ws o (l.take k) + (if par o k = true then l.getD k 0 else l.getD k 0 * 256) := by
  rw [take_succ_getD h, ws_append, List.length_take_of_le (by omega)]
  cases par o k <;> simp [ws]
/-- The sum so far, with bytes behind it. -/
def sumTo (s : Int) (o : Bool) (l : List Int) : Int := cn (s + ws o l)
theorem sumTo_append {s : Int} {o : Bool} {l m : List Int} (hs : 0 ≤ s) (hl : ∀ x ∈ l, 0 ≤ x ∧ x ≤ 255) (hm : ∀ x ∈ m, 0 ≤ x ∧ x ≤ 255) : sumTo (sumTo s o l) (par o l.length) m = sumTo s o (l ++ m) := by
  unfold sumTo
  have h1 := (ws_nonneg o l hl).1
  have h2 := (ws_nonneg (par o l.length) m hm).1
  rw [cn_add (by omega) h2, ws_append, Int.add_assoc]
end Go.Wb
