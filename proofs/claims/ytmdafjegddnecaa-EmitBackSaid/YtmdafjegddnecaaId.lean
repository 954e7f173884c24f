/- The walks of package ip6's looks at a header. -/
import Derived.Test.YtmdafjegddnecaaIc
namespace Go.Proofs.Ytmdafjegddnecaa
open Go.RowKit Go.Wb
set_option linter.unusedVariables false
set_option linter.unusedSimpArgs false

/-- How long a header is. -/
def hlen (k : Int) (zs : List Int) : Int := if k = 44 then 8 else 8 * (1 + zs.getD 1 0)
/-- What is wrong with a header: 0 if nothing is. -/
def herr (k : Int) (zs : List Int) : Int := if k = 43 ∧ 0 < zs.getD 3 0 then 12 else if k = 44 ∧ (0 < zs.getD 2 0 ∨ 8 ≤ zs.getD 3 0 ∨ zs.getD 3 0 % 2 = 1) then 11 else 0

def k3e (x : Int) : Int := if 0 < x then 12 else 0
def k4e (x y : Int) : Int := if 0 < x ∨ 8 ≤ y ∨ y % 2 = 1 then 11 else 0
theorem andNot6 : ∀ b : Nat, b < 256 → (bits .andNot .u8 (b : Int) 6 > 0 ↔ 8 ≤ b ∨ b % 2 = 1) := by decide +kernel

theorem Row8.at {w : World} {b off len cap : Nat} {zs : List Int} (h : Row8 w (some ⟨b, off, none⟩) len cap zs) {i : Nat} (hi : i < len) : w.cell? ⟨b, off + i, none⟩ = some (.int .u8 (zs.getD i 0)) := by
  obtain ⟨b', off', e, _, hc⟩ := h.cells i hi
  cases e; exact hc

set_option maxHeartbeats 1000000 in
theorem k1_any {w : World} {b off len cap : Nat} {zs : List Int} (h : Row8 w (some ⟨b, off, none⟩) len cap zs) (h8 : 8 ≤ len) : Calls Try.prog 152 #[.slice (some ⟨b, off, none⟩) len cap] w fun e w' => e = .returned (.int .i64 (8 * (1 + zs.getD 1 0))) ∧ w = w' := by
  have c1 := h.at (i := 1) (by omega)
  have r1 := h.getD 1
  have hcap := h.cap_le
  have hle := h.le
  obtain ⟨x, hx⟩ : ∃ x, zs.getD 1 0 = x := ⟨_, rfl⟩
  rw [hx] at c1 r1 ⊢
  obtain ⟨r10, r11⟩ := r1
  clear h hx
  have i1 : (1 : Int) < (len : Int) := by omega
  go_enter Try.func152, Try.ntmps152
  go_wp2_with fail
  go_ret
  exact ⟨rfl, rfl⟩

set_option maxHeartbeats 1000000 in
theorem k2_any {w : World} {g b off len cap : Nat} {zs : List Int} (h : Row8 w (some ⟨b, off, none⟩) len cap zs) (h8 : 8 ≤ len) (hg : w.heap[g]? = some (.cells #[.func (.func 152) #[] #[]] 223 (0, 0))) : Calls Try.prog 153 #[.slice (some ⟨b, off, none⟩) len cap, .pointer (some ⟨g, 0, none⟩)] w fun e w' => e = .returned (.tuple #[.int .i64 (8 * (1 + zs.getD 1 0)), .int .i64 0]) ∧ w = w' := by
  have g0 := cell_of (v := .func (.func 152) #[] #[]) 0 hg rfl
  have H := Lib.hid h
  have K := Lib.hid (k1_any h h8)
  clear h hg
  go_enter Try.func153, Try.ntmps153
  go_wp2_with fail
  refine K.out.mono ?_
  rintro e w' ⟨rfl, rfl⟩
  go_wp2_with fail
  go_ret2
  exact ⟨rfl, rfl⟩

set_option maxHeartbeats 1000000 in
theorem k3_any {w : World} {g b off len cap : Nat} {zs : List Int} (h : Row8 w (some ⟨b, off, none⟩) len cap zs) (h8 : 8 ≤ len) (hg : w.heap[g]? = some (.cells #[.func (.func 152) #[] #[]] 223 (0, 0))) : Calls Try.prog 154 #[.slice (some ⟨b, off, none⟩) len cap, .pointer (some ⟨g, 0, none⟩)] w fun e w' => e = .returned (.tuple #[.int .i64 (8 * (1 + zs.getD 1 0)), .int .i64 (k3e (zs.getD 3 0))]) ∧ w = w' := by
  have g0 := cell_of (v := .func (.func 152) #[] #[]) 0 hg rfl
  have c3 := h.at (i := 3) (by omega)
  have r3 := h.getD 3
  have H := Lib.hid h
  have K := Lib.hid (k1_any h h8)
  obtain ⟨x, hx⟩ : ∃ x, zs.getD 3 0 = x := ⟨_, rfl⟩
  rw [hx] at c3 r3 ⊢
  obtain ⟨r30, r31⟩ := r3
  have i3 : (3 : Int) < (len : Int) := by omega
  clear h hg hx
  by_cases h0 : 0 < x
  all_goals
    go_enter Try.func154, Try.ntmps154
    go_wp2_with fail
    refine K.out.mono ?_
    rintro e w' ⟨rfl, rfl⟩
    go_wp2_with fail
    go_ret2
    exact ⟨by simp [k3e, h0], rfl⟩

set_option maxHeartbeats 2000000 in
theorem k4_any {w : World} {b off len cap : Nat} {zs : List Int} (h : Row8 w (some ⟨b, off, none⟩) len cap zs) (h8 : 8 ≤ len) : Calls Try.prog 155 #[.slice (some ⟨b, off, none⟩) len cap] w fun e w' => e = .returned (.tuple #[.int .i64 8, .int .i64 (k4e (zs.getD 2 0) (zs.getD 3 0))]) ∧ w = w' := by
  have c2 := h.at (i := 2) (by omega)
  have c3 := h.at (i := 3) (by omega)
  have r2 := h.getD 2
  have r3 := h.getD 3
  obtain ⟨x, hx⟩ : ∃ x, zs.getD 2 0 = x := ⟨_, rfl⟩
  obtain ⟨y, hy⟩ : ∃ y, zs.getD 3 0 = y := ⟨_, rfl⟩
  rw [hx] at c2 r2 ⊢
  rw [hy] at c3 r3 ⊢
  obtain ⟨r20, r21⟩ := r2
  obtain ⟨r30, r31⟩ := r3
  have i2 : (2 : Int) < (len : Int) := by omega
  have i3 : (3 : Int) < (len : Int) := by omega
  have hcap := h.cap_le
  have hle := h.le
  clear h hx hy
  obtain ⟨n, rfl⟩ := Int.eq_ofNat_of_zero_le r30
  have an := andNot6 n (by omega)
  by_cases h0 : 0 < x
  · clear an
    go_enter Try.func155, Try.ntmps155
    go_wp2_with fail
    go_ret2
    exact ⟨by simp [k4e, h0], rfl⟩
  · by_cases hb : bits .andNot .u8 (n : Int) 6 > 0
    · have hd : decide (bits .andNot .u8 (n : Int) 6 > 0) = true := by simpa using hb
      have A := Lib.hid (an.1 hb)
      clear an
      go_enter Try.func155, Try.ntmps155
      go_wp2_with fail
      go_ret2
      exact ⟨by rw [k4e, if_pos (by have := A.out; omega)]; rfl, rfl⟩
    · have hd : decide (bits .andNot .u8 (n : Int) 6 > 0) = false := by simpa using hb
      have A : Hid (¬ (8 ≤ n ∨ n % 2 = 1)) := fun h => hb (an.2 h)
      clear an
      go_enter Try.func155, Try.ntmps155
      go_wp2_with fail
      go_ret2
      exact ⟨by rw [k4e, if_neg (by have := A.out; omega)]; rfl, rfl⟩
end Go.Proofs.Ytmdafjegddnecaa
