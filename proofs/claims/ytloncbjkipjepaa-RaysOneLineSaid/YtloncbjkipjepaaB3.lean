/- Walks of bits: Count (the library's OnesCount64), First (the library's TrailingZeros64). -/
import Derived.Test.YtloncbjkipjepaaB1
import Derived.Test.YtloncbjkipjepaaU3
namespace Go.Proofs.Ytloncbjkipjepaa
open Go Go.RowKit

section
theorem c1 (b : BitVec 64) : u b / (2 : Int) = u (b >>> 1) := shr_u b 1
theorem c2 (b : BitVec 64) : u b / (4 : Int) = u (b >>> 2) := shr_u b 2
theorem c4 (b : BitVec 64) : u b / (16 : Int) = u (b >>> 4) := shr_u b 4
theorem c8 (b : BitVec 64) : u b / (256 : Int) = u (b >>> 8) := shr_u b 8
theorem c16 (b : BitVec 64) : u b / (65536 : Int) = u (b >>> 16) := shr_u b 16
theorem c32 (b : BitVec 64) : u b / (4294967296 : Int) = u (b >>> 32) := shr_u b 32
theorem cadd (a b : BitVec 64) : IntKind.u64.wrap (u a + u b) = u (a + b) := by
  rw [IntKind.wrap_u64]; unfold u; rw [BitVec.toNat_add]; omega
theorem ck1 (a : BitVec 64) : bits .and .u64 (u a) (6148914691236517205 : Int) = u (a &&& 0x5555555555555555#64) := bits_and_u a 0x5555555555555555#64
theorem ck2 (a : BitVec 64) : bits .and .u64 (u a) (3689348814741910323 : Int) = u (a &&& 0x3333333333333333#64) := bits_and_u a 0x3333333333333333#64
theorem ck4 (a : BitVec 64) : bits .and .u64 (u a) (1085102592571150095 : Int) = u (a &&& 0x0f0f0f0f0f0f0f0f#64) := bits_and_u a 0x0f0f0f0f0f0f0f0f#64

attribute [local go_sem ↓] c1 c2 c4 c8 c16 c32 cadd ck1 ck2 ck4
set_option maxHeartbeats 400000 in
theorem ones_any (b : BitVec 64) (w : World) :
    Calls Try.prog 49 #[.int .u64 (u b)] w fun e w' => e = .returned (.int .i64 (cntB b)) ∧ w = w' := by
  have h0 := u_nonneg b
  go_enter Try.func49, Try.ntmps49
  go_wp2
  go_ret
  exact ⟨ret_int ((and127 (swarV b)).trans (by rw [swarV_nat])), rfl⟩
end




set_option maxHeartbeats 400000 in
theorem count_any (b : BitVec 64) {a : Int} (ha : a = u b) (w : World) :
    Calls Try.prog 27 #[.int .u64 a] w fun e w' => e = .returned (.int .i64 (cntB b)) ∧ w = w' := by
  subst ha
  go_enter Try.func27, Try.ntmps27
  go_wp2_with fail
  refine (ones_any b _).mono ?_
  rintro e w' ⟨rfl, rfl⟩
  go_wp2
  go_ret
  exact ⟨rfl, rfl⟩


end Go.Proofs.Ytloncbjkipjepaa
