/- The walk of package ip6's kinds of headers. -/
import Derived.Test.YtmdafjegddnecaaMp
import Derived.Test.YtmdafjegddnecaaIn
import Derived.Laws.EntriesVeiled
import Derived.WalkLawsBesides
namespace Go.Proofs.Ytmdafjegddnecaa
open Go.RowKit Go.Wb
set_option linter.unusedVariables false
set_option linter.unusedSimpArgs false

/-- The function that looks at a header of a kind. -/
def look (b : Nat) : Nat → Value
  | 43 => .func (.func 154) #[] #[.pointer (some ⟨b, 0, none⟩)]
  | 44 => .func (.func 155) #[] #[]
  | _ => .func (.func 153) #[] #[.pointer (some ⟨b, 0, none⟩)]
def ent (b : Nat) : Array MapEntry := #[⟨.int .u8 0, look b 0, 0⟩, ⟨.int .u8 60, look b 60, 1⟩, ⟨.int .u8 43, look b 43, 2⟩, ⟨.int .u8 44, look b 44, 3⟩]

set_option maxRecDepth 100000 in
set_option maxHeartbeats 1000000 in
theorem kinds_any (w : World) : Calls Try.prog 127 #[] w fun e w' => e = .returned (.map (some (w.heap.size + 1))) ∧ w'.heap[w.heap.size]? = some (.cells #[.func (.func 152) #[] #[]] 223 (0, 0)) ∧ w'.heap[w.heap.size + 1]? = some (.map (ent w.heap.size) 4) ∧ Below w.heap.size w w' := by
  have hmm := @mk_map Try.prog
  have HX := heap_two w (Obj.cells #[.func (.func 152) #[] #[]] 223) (Obj.map #[] 0)
  have X := Lib.hid HX.1
  have M0 := Lib.hid HX.2
  have B := Lib.hid (((Below.refl w.heap.size w).alloc (Nat.le_refl _) (Obj.cells #[.func (.func 152) #[] #[]] 223)).alloc (by simp) (Obj.map #[] 0))
  clear HX
  go_enter Try.func127, Try.ntmps127
  go_wp2_with (first
    | (refine wpList_insert rfl 199 _ _ _ rfl 5 201 .u8 (w.heap.size + 1) #[] 0 0 (look w.heap.size 0) rfl rfl rfl Try.underlying199 Try.underlying5 M0.out rfl ?_; have M1 := Lib.hid (heap_set_new (o' := Obj.map #[⟨.int .u8 0, look w.heap.size 0, 0⟩] 1) M0.out); clear M0)
    | (refine wpList_insert rfl 199 _ _ _ rfl 5 201 .u8 (w.heap.size + 1) #[⟨.int .u8 0, look w.heap.size 0, 0⟩] 1 60 (look w.heap.size 60) rfl rfl rfl Try.underlying199 Try.underlying5 M1.out rfl ?_; have M2 := Lib.hid (heap_set_new (o' := Obj.map #[⟨.int .u8 0, look w.heap.size 0, 0⟩, ⟨.int .u8 60, look w.heap.size 60, 1⟩] 2) M1.out); clear M1)
    | (refine wpList_insert rfl 199 _ _ _ rfl 5 201 .u8 (w.heap.size + 1) #[⟨.int .u8 0, look w.heap.size 0, 0⟩, ⟨.int .u8 60, look w.heap.size 60, 1⟩] 2 43 (look w.heap.size 43) rfl rfl rfl Try.underlying199 Try.underlying5 M2.out rfl ?_; have M3 := Lib.hid (heap_set_new (o' := Obj.map #[⟨.int .u8 0, look w.heap.size 0, 0⟩, ⟨.int .u8 60, look w.heap.size 60, 1⟩, ⟨.int .u8 43, look w.heap.size 43, 2⟩] 3) M2.out); clear M2)
    | (refine wpList_insert rfl 199 _ _ _ rfl 5 201 .u8 (w.heap.size + 1) #[⟨.int .u8 0, look w.heap.size 0, 0⟩, ⟨.int .u8 60, look w.heap.size 60, 1⟩, ⟨.int .u8 43, look w.heap.size 43, 2⟩] 3 44 (look w.heap.size 44) rfl rfl rfl Try.underlying199 Try.underlying5 M3.out rfl ?_; have M4 := Lib.hid (heap_set_new (o' := Obj.map (ent w.heap.size) 4) M3.out); clear M3))
  go_ret
  refine ⟨rfl, ?_, M4.out, ?_⟩
  · exact heap_set_old (by omega) (heap_set_old (by omega) (heap_set_old (by omega) (heap_set_old (by omega) X.out)))
  · exact below_set (below_set (below_set (below_set B.out (by omega)) (by omega)) (by omega)) (by omega)
end Go.Proofs.Ytmdafjegddnecaa
