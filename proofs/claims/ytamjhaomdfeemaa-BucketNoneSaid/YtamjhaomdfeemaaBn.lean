/- Walks of the token bucket (package bucket) and of the law BucketNone; no condition on the input. -/
import Derived.Test.YtamjhaomdfeemaaBk4
namespace Go.Proofs.Ytamjhaomdfeemaa
open Go.RowKit Go.Wb
set_option linter.unusedVariables false

/-- A bucket that is not there, or was not made. -/
def NoB (q : Option Addr) (w : World) : Prop := q = none ∨ ∃ b, q = some ⟨b, 0, none⟩ ∧ w.cell? ⟨b, 0, none⟩ = some (.int .u32 0)
section
variable {q : Option Addr} {w : World} (h : NoB q w)
include h
theorem NoB.left : Calls Try.prog 40 #[.pointer q] w fun e w' => e = .returned (.int .u32 0) ∧ w = w' := by
  rcases h with rfl | ⟨b, rfl, h⟩
  · exact left_nil w
  · exact left_zero b w h
theorem NoB.copy : Calls Try.prog 43 #[.pointer q] w fun e w' => e = .returned (.pointer none) ∧ w = w' := by
  rcases h with rfl | ⟨b, rfl, h⟩
  · exact copy_nil w
  · exact copy_zero b w h
theorem NoB.take (n : Int) : Calls Try.prog 38 #[.pointer q, .int .u32 n] w fun e w' => e = .returned (.bool false) ∧ w = w' := by
  rcases h with rfl | ⟨b, rfl, h⟩
  · exact take_nil n w
  · exact take_zero b w h n
theorem NoB.lapse (n : Int) : Calls Try.prog 39 #[.pointer q, .int .u64 n] w fun e w' => e = .returned (.tuple #[]) ∧ w = w' := by
  rcases h with rfl | ⟨b, rfl, h⟩
  · exact lapse_nil n w
  · exact lapse_zero b w h n
theorem NoB.until (n : Int) : Calls Try.prog 44 #[.pointer q, .int .u32 n] w fun e w' => e = .returned (.tuple #[.int .u64 0, .bool false]) ∧ w = w' := by
  rcases h with rfl | ⟨b, rfl, h⟩
  · exact until_nil n w
  · exact until_zero b w h n
theorem NoB.set (n m : Int) : Calls Try.prog 60 #[.pointer q, .int .u32 n, .int .u32 m] w fun e w' => e = .returned (.int .i64 1) ∧ w = w' := by
  rcases h with rfl | ⟨b, rfl, h⟩
  · exact set_nil n m w
  · exact set_zero b w h n m
end

set_option maxRecDepth 100000 in
theorem bucketNone_walk (n m : Int) (w : World) : Calls Try.prog 14 #[.int .u32 n, .int .u64 m] w fun e w' => e = .returned (.bool true) ∧ Below w.heap.size w w' := by
  go_enter Try.func14, Try.ntmps14
  go_wp2_with fail
  have hB := Lib.hid (((Below.refl w.heap.size w).alloc (Nat.le_refl _) (Obj.cells #[Value.int IntKind.u32 0, Value.int IntKind.u32 0, Value.int IntKind.u32 0] 95)).alloc (by simp) (Obj.cells #[Value.pointer none, Value.pointer (some ⟨w.heap.size, 0, none⟩)] 57))
  have hz : ((w.alloc (Obj.cells #[Value.int IntKind.u32 0, Value.int IntKind.u32 0, Value.int IntKind.u32 0] 95)).alloc (Obj.cells #[Value.pointer none, Value.pointer (some ⟨w.heap.size, 0, none⟩)] 57)).cell? ⟨w.heap.size, 0, none⟩ = some (.int .u32 0) := by go_simp
  have h0 : ((w.alloc (Obj.cells #[Value.int IntKind.u32 0, Value.int IntKind.u32 0, Value.int IntKind.u32 0] 95)).alloc (Obj.cells #[Value.pointer none, Value.pointer (some ⟨w.heap.size, 0, none⟩)] 57)).cell? ⟨w.heap.size + 1, 0, none⟩ = some (.pointer none) := by go_simp
  have h1 : ((w.alloc (Obj.cells #[Value.int IntKind.u32 0, Value.int IntKind.u32 0, Value.int IntKind.u32 0] 95)).alloc (Obj.cells #[Value.pointer none, Value.pointer (some ⟨w.heap.size, 0, none⟩)] 57)).cell? ⟨w.heap.size + 1, 1, none⟩ = some (.pointer (some ⟨w.heap.size, 0, none⟩)) := by go_simp
  have HZ := Lib.hid hz
  clear hz
  generalize (w.alloc (Obj.cells #[Value.int IntKind.u32 0, Value.int IntKind.u32 0, Value.int IntKind.u32 0] 95)).alloc (Obj.cells #[Value.pointer none, Value.pointer (some ⟨w.heap.size, 0, none⟩)] 57) = w1 at *
  have HN : ∀ k : Nat, k < 2 → ∃ q, w1.cell? ⟨w.heap.size + 1, k, none⟩ = some (.pointer q) ∧ Hid (NoB q w1) := by
    intro k hk
    match k, hk with
    | 0, _ => exact ⟨_, h0, .inl rfl⟩
    | 1, _ => exact ⟨_, h1, .inr ⟨_, rfl, HZ⟩⟩
  have HH := Lib.hid HN
  clear HN h0 h1
  go_loop [12] (fun i => ∃ k : Nat, k ≤ 2 ∧ i = .int .i64 k) (fun i => 2 - (intOf i).toNat)
  case atStart => exact ⟨0, by omega, rfl⟩
  case round =>
    obtain ⟨k, hk, rfl⟩ := hrel
    by_cases hlt : k < 2
    · obtain ⟨q, hc, hq⟩ := HH.out k hlt
      go_wp2_with fail
      refine (NoB.lapse hq.out _).mono ?_
      rintro e w2 ⟨rfl, rfl⟩
      go_wp2_with fail
      refine (NoB.until hq.out _).mono ?_
      rintro e w2 ⟨rfl, rfl⟩
      go_wp2_with fail
      refine (NoB.take hq.out _).mono ?_
      rintro e w2 ⟨rfl, rfl⟩
      go_wp2_with fail
      refine (NoB.set hq.out _ _).mono ?_
      rintro e w2 ⟨rfl, rfl⟩
      go_wp2_with fail
      refine (NoB.left hq.out).mono ?_
      rintro e w2 ⟨rfl, rfl⟩
      go_wp2_with fail
      refine (NoB.copy hq.out).mono ?_
      rintro e w2 ⟨rfl, rfl⟩
      go_wp2_with fail
      go_round
      case rel => exact ⟨k + 1, by omega, by go_num⟩
      case measure => simp [intOf]; omega
    · go_wp2_with fail
      refine (known_any _).mono ?_
      rintro e w2 ⟨rfl, hb2⟩
      go_wp2_with fail
      go_ret
      exact ⟨rfl, hB.out.trans (hb2.mono hB.out.size)⟩
end Go.Proofs.Ytamjhaomdfeemaa
