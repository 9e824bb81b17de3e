/- Walk of bits.Flip (and the library's ReverseBytes64). -/
import Derived.Test.YtlobmhhilkmfdaaDoorU2
import Derived.Test.YtlobmhhilkmfdaaDoorRows
import Derived.Deep.QuietTactic
import Derived.BigQuiet
namespace Go.Proofs.YtlobmhhilkmfdaaDoor
open Go Go.RowKit

theorem d8 (b : BitVec 64) : u b / (256 : Int) = u (b >>> 8) := shr_u b 8
theorem d16 (b : BitVec 64) : u b / (65536 : Int) = u (b >>> 16) := shr_u b 16
theorem d32 (b : BitVec 64) : u b / (4294967296 : Int) = u (b >>> 32) := shr_u b 32
theorem m8 (b : BitVec 64) : IntKind.u64.wrap (u b * (256 : Int)) = u (b <<< 8) := shl_u b 8
theorem m16 (b : BitVec 64) : IntKind.u64.wrap (u b * (65536 : Int)) = u (b <<< 16) := shl_u b 16
theorem m32 (b : BitVec 64) : IntKind.u64.wrap (u b * (4294967296 : Int)) = u (b <<< 32) := shl_u b 32
theorem k8 : (71777214294589695 : Int) = u 0x00ff00ff00ff00ff#64 := by decide
theorem k16 : (281470681808895 : Int) = u 0x0000ffff0000ffff#64 := by decide

theorem rev_any (b : BitVec 64) (w : World) :
    Calls Tryd.prog 44 #[.int .u64 (u b)] w fun e w' => e = .returned (.int .u64 (u (flipB b))) ∧ w = w' := by
  have h0 := u_nonneg b
  go_enter Tryd.func44, Tryd.ntmps44
  go_wp2
  go_ret
  exact ⟨ret_int (by simp only [d8, m8, k8, bits_and_u, bits_or_u, d16, m16, k16, d32, m32]; rfl), rfl⟩
theorem flip_any (b : BitVec 64) {a : Int} (ha : a = u b) (w : World) :
    Calls Tryd.prog 24 #[.int .u64 a] w fun e w' => e = .returned (.int .u64 (u (flipB b))) ∧ w = w' := by
  subst ha
  go_enter Tryd.func24, Tryd.ntmps24
  go_wp2_with fail
  refine (rev_any b _).mono ?_
  rintro e w1 ⟨rfl, rfl⟩
  go_wp2
  go_ret
  exact ⟨rfl, rfl⟩

end Go.Proofs.YtlobmhhilkmfdaaDoor
