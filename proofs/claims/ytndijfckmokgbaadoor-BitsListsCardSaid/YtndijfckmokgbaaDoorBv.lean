/- The contracts of bits with the answer named by an equation. -/
import Derived.Test.YtndijfckmokgbaaDoorBn
namespace Go.Proofs.YtndijfckmokgbaaDoor
open Go Go.RowKit

theorem put_v (b : BitVec 64) (s : Int) (r : BitVec 64) (h : putB b s = r) (w : World) :
    Calls Tryd.prog 15 #[.int .u64 (u b), .int .i64 s] w fun e w' => e = .returned (.int .u64 (u r)) ∧ w = w' := by
  rw [← h]; exact put_any b rfl s w
theorem clear_v (b : BitVec 64) (s : Int) (r : BitVec 64) (h : clearB b s = r) (w : World) :
    Calls Tryd.prog 18 #[.int .u64 (u b), .int .i64 s] w fun e w' => e = .returned (.int .u64 (u r)) ∧ w = w' := by
  rw [← h]; exact clear_any b rfl s w
theorem has_v (b : BitVec 64) (s : Int) (r : Bool) (h : hasB b s = r) (w : World) :
    Calls Tryd.prog 19 #[.int .u64 (u b), .int .i64 s] w fun e w' => e = .returned (.bool r) ∧ w = w' := by
  rw [← h]; exact has_any b rfl s w
theorem shift_v (b : BitVec 64) (s : Int) (r : BitVec 64) (h : shiftB b s = r) (w : World) :
    Calls Tryd.prog 16 #[.int .u64 (u b), .int .i64 s] w fun e w' => e = .returned (.int .u64 (u r)) ∧ Below w.heap.size w w' := by
  rw [← h]; exact shift_any b rfl s w
theorem flip_v (b : BitVec 64) (r : BitVec 64) (h : flipB b = r) (w : World) :
    Calls Tryd.prog 17 #[.int .u64 (u b)] w fun e w' => e = .returned (.int .u64 (u r)) ∧ w = w' := by
  rw [← h]; exact flip_any b rfl w
theorem count_v (b : BitVec 64) (r : Nat) (h : cntB b = r) (w : World) :
    Calls Tryd.prog 12 #[.int .u64 (u b)] w fun e w' => e = .returned (.int .i64 r) ∧ w = w' := by
  rw [← h]; exact count_any b rfl w
theorem first_v (b : BitVec 64) (r : Int) (h : firstB b = r) (w : World) (hT : Tab w) :
    Calls Tryd.prog 13 #[.int .u64 (u b)] w fun e w' => e = .returned (.int .i64 r) ∧ w = w' := by
  rw [← h]; exact first_any b rfl w hT
theorem list_v (b : BitVec 64) (l : List Int) (h : listB b = l) (w : World) (hT : Tab w) :
    Calls Tryd.prog 10 #[.int .u64 (u b)] w fun e w' => ∃ v, e = .returned v ∧ OwnsI w' w.heap.size v l ∧ Below w.heap.size w w' := by
  rw [← h]; exact list_any b rfl w hT

end Go.Proofs.YtndijfckmokgbaaDoor
