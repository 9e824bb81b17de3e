/- Walks of bits: Count (the library's OnesCount64), First (the library's TrailingZeros64). -/
import Derived.Test.YtkkabacdiefabaaDoorB1
import Derived.Test.YtkkabacdiefabaaDoorU3
namespace Go.Proofs.YtkkabacdiefabaaDoor
open Go Go.RowKit

section
theorem c1 (b : BitVec 64) : u b / (2 : Int) = u (b >>> 1) := shr_u b 1
theorem c2 (b : BitVec 64) : u b / (4 : Int) = u (b >>> 2) := shr_u b 2
theorem c4 (b : BitVec 64) : u b / (16 : Int) = u (b >>> 4) := shr_u b 4
theorem c8 (b : BitVec 64) : u b / (256 : Int) = u (b >>> 8) := shr_u b 8
theorem c16 (b : BitVec 64) : u b / (65536 : Int) = u (b >>> 16) := shr_u b 16
theorem c32 (b : BitVec 64) : u b / (4294967296 : Int) = u (b >>> 32) := shr_u b 32
theorem cadd (a b : BitVec 64) : IntKind.u64.wrap (u a + u b) = u (a + b) := by
  rw [IntKind.wrap_u64]; unfold u; rw [BitVec.toNat_add]; omega
theorem ck1 (a : BitVec 64) : bits .and .u64 (u a) (6148914691236517205 : Int) = u (a &&& 0x5555555555555555#64) := bits_and_u a 0x5555555555555555#64
theorem ck2 (a : BitVec 64) : bits .and .u64 (u a) (3689348814741910323 : Int) = u (a &&& 0x3333333333333333#64) := bits_and_u a 0x3333333333333333#64
theorem ck4 (a : BitVec 64) : bits .and .u64 (u a) (1085102592571150095 : Int) = u (a &&& 0x0f0f0f0f0f0f0f0f#64) := bits_and_u a 0x0f0f0f0f0f0f0f0f#64

attribute [local go_sem ↓] c1 c2 c4 c8 c16 c32 cadd ck1 ck2 ck4
set_option maxHeartbeats 400000 in
theorem ones_any (b : BitVec 64) (w : World) :
    Calls Tryd.prog 34 #[.int .u64 (u b)] w fun e w' => e = .returned (.int .i64 (cntB b)) ∧ w = w' := by
  have h0 := u_nonneg b
  go_enter Tryd.func34, Tryd.ntmps34
  go_wp2
  go_ret
  exact ⟨ret_int ((and127 (swarV b)).trans (by rw [swarV_nat])), rfl⟩
end

/-- The library's table lies in memory as its text lays it. -/
def Tab (w : World) : Prop := ∀ k, k < 64 → w.cell? ⟨0, k, none⟩ = some (.int .u8 (tabL.getD k 0))
theorem Tab.below {w w' : World} (h : Tab w) {B : Nat} (hb : Below B w w') (hB : w.heap.size ≤ B) : Tab w' := by
  intro k hk
  have h1 := h k hk
  have hl : 0 < w.heap.size := World.block_lt_of_cell? _ _ h1
  rw [hb.cell (p := ⟨0, k, none⟩) (by show 0 < B; omega)]; exact h1

set_option maxHeartbeats 400000 in
theorem tz_raw (b : BitVec 64) (i n : Nat) (hi : i < 64) (hn : (u b == 0) = false) (hl : n < 64) (w : World) (hc : w.cell? ⟨0, n, none⟩ = some (.int .u8 (i : Int)))
    (hix : IntKind.u64.wrap (bits BinOp.and IntKind.u64 (u b) (IntKind.u64.wrap (-u b)) * 285870213051353865) / 288230376151711744 = (n : Int)) :
    Calls Tryd.prog 45 #[.int .u64 (u b)] w fun e w' => e = .returned (.int .i64 i) ∧ w = w' := by
  have h0 := u_nonneg b
  go_enter Tryd.func45, Tryd.ntmps45
  go_wp2
  go_ret
  exact ⟨rfl, rfl⟩

theorem tz_any (b : BitVec 64) (i : Nat) (hi : i < 64) (h1 : b.getLsbD i = true) (h2 : ∀ j, j < i → b.getLsbD j = false) (w : World) (hT : Tab w) :
    Calls Tryd.prog 45 #[.int .u64 (u b)] w fun e w' => e = .returned (.int .i64 i) ∧ w = w' := by
  have hn : (u b == 0) = false := by
    rw [u_eq_zero, beq_eq_false_iff_ne]; intro e; subst e; simp at h1
  have hd := db_tab ⟨i, hi⟩
  simp only at hd
  have hc := hT (dbN i) hd.1
  rw [hd.2] at hc
  exact tz_raw b i (dbN i) hi hn hd.1 w hc (db_raw b i (low_bit b i hi h1 h2))

set_option maxHeartbeats 400000 in
theorem count_any (b : BitVec 64) {a : Int} (ha : a = u b) (w : World) :
    Calls Tryd.prog 24 #[.int .u64 a] w fun e w' => e = .returned (.int .i64 (cntB b)) ∧ w = w' := by
  subst ha
  go_enter Tryd.func24, Tryd.ntmps24
  go_wp2_with fail
  refine (ones_any b _).mono ?_
  rintro e w' ⟨rfl, rfl⟩
  go_wp2
  go_ret
  exact ⟨rfl, rfl⟩

set_option maxHeartbeats 400000 in
theorem first_any (b : BitVec 64) {a : Int} (ha : a = u b) (w : World) (hT : Tab w) :
    Calls Tryd.prog 39 #[.int .u64 a] w fun e w' => e = .returned (.int .i64 (firstB b)) ∧ w = w' := by
  subst ha
  rcases first_cases b with ⟨rfl, hf⟩ | ⟨i, hi, h1, h2, hf⟩
  · rw [hf]
    have hn : (u 0#64 == 0) = true := rfl
    clear hf
    go_enter Tryd.func39, Tryd.ntmps39
    go_wp2
    go_ret
    exact ⟨rfl, rfl⟩
  · rw [hf]
    have hn : (u b == 0) = false := by
      rw [u_eq_zero, beq_eq_false_iff_ne]; intro e; subst e; simp at h1
    have hN := fun w => tz_any b i hi h1 h2 w
    have HN := hideIt hN
    clear hf h1 h2 hN
    go_enter Tryd.func39, Tryd.ntmps39
    go_wp2_with fail
    refine (HN.out _ hT).mono ?_
    rintro e w' ⟨rfl, rfl⟩
    go_wp2
    go_ret
    exact ⟨rfl, rfl⟩

end Go.Proofs.YtkkabacdiefabaaDoor
