/- The contracts of bits at numbers that are known. -/
import Derived.Test.YtndijfckmokgbaaDoorB2
import Derived.Test.YtndijfckmokgbaaDoorB4
import Derived.Test.YtndijfckmokgbaaDoorB3
namespace Go.Proofs.YtndijfckmokgbaaDoor
open Go Go.RowKit

def ofI (a : Int) : BitVec 64 := BitVec.ofInt 64 a

theorem put_n (a s r : Int) (h : (a == u (ofI a) && u (putB (ofI a) s) == r) = true) (w : World) :
    Calls Tryd.prog 15 #[.int .u64 a, .int .i64 s] w fun e w' => e = .returned (.int .u64 r) ∧ w = w' := by
  rw [Bool.and_eq_true, beq_iff_eq, beq_iff_eq] at h
  rw [← h.2]; exact put_any (ofI a) h.1 s w
theorem clear_n (a s r : Int) (h : (a == u (ofI a) && u (clearB (ofI a) s) == r) = true) (w : World) :
    Calls Tryd.prog 18 #[.int .u64 a, .int .i64 s] w fun e w' => e = .returned (.int .u64 r) ∧ w = w' := by
  rw [Bool.and_eq_true, beq_iff_eq, beq_iff_eq] at h
  rw [← h.2]; exact clear_any (ofI a) h.1 s w
theorem has_n (a s : Int) (r : Bool) (h : (a == u (ofI a) && hasB (ofI a) s == r) = true) (w : World) :
    Calls Tryd.prog 19 #[.int .u64 a, .int .i64 s] w fun e w' => e = .returned (.bool r) ∧ w = w' := by
  rw [Bool.and_eq_true, beq_iff_eq, beq_iff_eq] at h
  rw [← h.2]; exact has_any (ofI a) h.1 s w
theorem shift_n (a s r : Int) (h : (a == u (ofI a) && u (shiftB (ofI a) s) == r) = true) (w : World) :
    Calls Tryd.prog 16 #[.int .u64 a, .int .i64 s] w fun e w' => e = .returned (.int .u64 r) ∧ Below w.heap.size w w' := by
  rw [Bool.and_eq_true, beq_iff_eq, beq_iff_eq] at h
  rw [← h.2]; exact shift_any (ofI a) h.1 s w
theorem flip_n (a r : Int) (h : (a == u (ofI a) && u (flipB (ofI a)) == r) = true) (w : World) :
    Calls Tryd.prog 17 #[.int .u64 a] w fun e w' => e = .returned (.int .u64 r) ∧ w = w' := by
  rw [Bool.and_eq_true, beq_iff_eq, beq_iff_eq] at h
  rw [← h.2]; exact flip_any (ofI a) h.1 w
theorem count_n (a r : Int) (h : (a == u (ofI a) && (cntB (ofI a) : Int) == r) = true) (w : World) :
    Calls Tryd.prog 12 #[.int .u64 a] w fun e w' => e = .returned (.int .i64 r) ∧ w = w' := by
  rw [Bool.and_eq_true, beq_iff_eq, beq_iff_eq] at h
  rw [← h.2]; exact count_any (ofI a) h.1 w
theorem first_n (a r : Int) (h : (a == u (ofI a) && firstB (ofI a) == r) = true) (w : World) (hT : Tab w) :
    Calls Tryd.prog 13 #[.int .u64 a] w fun e w' => e = .returned (.int .i64 r) ∧ w = w' := by
  rw [Bool.and_eq_true, beq_iff_eq, beq_iff_eq] at h
  rw [← h.2]; exact first_any (ofI a) h.1 w hT
theorem list_n (a : Int) (l : List Int) (h : (a == u (ofI a) && listB (ofI a) == l) = true) (w : World) (hT : Tab w) :
    Calls Tryd.prog 10 #[.int .u64 a] w fun e w' => ∃ v, e = .returned v ∧ OwnsI w' w.heap.size v l ∧ Below w.heap.size w w' := by
  rw [Bool.and_eq_true, beq_iff_eq, beq_iff_eq] at h
  rw [← h.2]; exact list_any (ofI a) h.1 w hT

end Go.Proofs.YtndijfckmokgbaaDoor
