/- Walks of bits: steps, Shift, Flip (and the library's ReverseBytes64). Lines alike written by gen_b2.py. -/
import Derived.Test.YtnbfgangmkfolaaDoorB1
import Derived.Test.YtnbfgangmkfolaaDoorU2
import Derived.Deep.QuietTactic
import Derived.BigQuiet
namespace Go.Proofs.YtnbfgangmkfolaaDoor
open Go Go.RowKit

def stepsA : Array Value := #[.int .i64 8, .int .u64 0, .int .i64 9, .int .u64 72340172838076673, .int .i64 1, .int .u64 72340172838076673, .int .i64 (-7), .int .u64 72340172838076673, .int .i64 (-8), .int .u64 0, .int .i64 (-9), .int .u64 9259542123273814144, .int .i64 (-1), .int .u64 9259542123273814144, .int .i64 7, .int .u64 9259542123273814144]

set_option maxHeartbeats 400000 in
theorem steps_any (w : World) :
    Calls Tryd.prog 41 #[] w fun e w' => e = .returned (.agg #[.int .i64 8, .int .u64 0, .int .i64 9, .int .u64 72340172838076673, .int .i64 1, .int .u64 72340172838076673, .int .i64 (-7), .int .u64 72340172838076673, .int .i64 (-8), .int .u64 0, .int .i64 (-9), .int .u64 9259542123273814144, .int .i64 (-1), .int .u64 9259542123273814144, .int .i64 7, .int .u64 9259542123273814144]) ∧ Below w.heap.size w w' := by
  go_enter Tryd.func41, Tryd.ntmps41
  go_wp2
  refine bodyPost_ret (v := .agg stepsA) (by simp [results, Tryd.results41, go_sem, stepsA]) rfl ⟨rfl, ?_⟩
  exact (Below.refl _ _).alloc (Nat.le_refl _) _

theorem shl_close (b : BitVec 64) (n : Nat) (k : Int) (hk : k = 2 ^ n) (c : Int) (m : BitVec 64) (hm : c = u m) : bits .andNot .u64 (IntKind.u64.wrap (u b * k)) c = u ((b <<< n) &&& ~~~m) := by
  rw [hk, hm, shl_u, bits_andNot_u]
theorem shr_close (b : BitVec 64) (n : Nat) (k : Int) (hk : k = 2 ^ n) (c : Int) (m : BitVec 64) (hm : c = u m) : bits .andNot .u64 (u b / k) c = u ((b >>> n) &&& ~~~m) := by
  rw [hk, hm, shr_u, bits_andNot_u]

theorem shift_out_any (b : BitVec 64) (dir : Int) (h : ¬ (0 ≤ dir ∧ dir < 8)) (w : World) :
    Calls Tryd.prog 21 #[.int .u64 (u b), .int .i64 dir] w fun e w' => e = .returned (.int .u64 (u (shiftB b dir))) ∧ Below w.heap.size w w' := by
  by_cases h1 : dir < 0
  · go_enter Tryd.func21, Tryd.ntmps21
    go_wp2
    go_ret
    exact ⟨ret_int (by rw [shiftB_out b h]; rfl), Below.refl _ _⟩
  · have h2 : 8 ≤ dir := by omega
    go_enter Tryd.func21, Tryd.ntmps21
    go_wp2
    go_ret
    exact ⟨ret_int (by rw [shiftB_out b h]; rfl), Below.refl _ _⟩

set_option maxHeartbeats 400000 in
theorem shift_0 (b : BitVec 64) (w : World) :
    Calls Tryd.prog 21 #[.int .u64 (u b), .int .i64 0] w fun e w' => e = .returned (.int .u64 (u (shiftB b 0))) ∧ Below w.heap.size w w' := by
  have i0 : ∀ w, (Instr.index 46 (.agg #[.int .i64 8, .int .u64 0, .int .i64 9, .int .u64 72340172838076673, .int .i64 1, .int .u64 72340172838076673, .int .i64 (-7), .int .u64 72340172838076673, .int .i64 (-8), .int .u64 0, .int .i64 (-9), .int .u64 9259542123273814144, .int .i64 (-1), .int .u64 9259542123273814144, .int .i64 7, .int .u64 9259542123273814144]) (.int .i64 0)).run Tryd.prog w = .ok (.agg #[.int .i64 8, .int .u64 0]) w := fun _ => by kernel_rfl
  go_enter Tryd.func21, Tryd.ntmps21
  go_wp2_with fail
  refine (steps_any _).mono ?_
  rintro e w1 ⟨rfl, hb⟩
  go_wp2
  go_quiet (fail)
  go_wp2
  go_ret
  exact ⟨ret_int (shl_close b 8 _ (by decide) _ 0#64 (by decide)), below_drewN (hb.alloc hb.size _) _⟩

set_option maxHeartbeats 400000 in
theorem shift_1 (b : BitVec 64) (w : World) :
    Calls Tryd.prog 21 #[.int .u64 (u b), .int .i64 1] w fun e w' => e = .returned (.int .u64 (u (shiftB b 1))) ∧ Below w.heap.size w w' := by
  have i0 : ∀ w, (Instr.index 46 (.agg #[.int .i64 8, .int .u64 0, .int .i64 9, .int .u64 72340172838076673, .int .i64 1, .int .u64 72340172838076673, .int .i64 (-7), .int .u64 72340172838076673, .int .i64 (-8), .int .u64 0, .int .i64 (-9), .int .u64 9259542123273814144, .int .i64 (-1), .int .u64 9259542123273814144, .int .i64 7, .int .u64 9259542123273814144]) (.int .i64 1)).run Tryd.prog w = .ok (.agg #[.int .i64 9, .int .u64 72340172838076673]) w := fun _ => by kernel_rfl
  go_enter Tryd.func21, Tryd.ntmps21
  go_wp2_with fail
  refine (steps_any _).mono ?_
  rintro e w1 ⟨rfl, hb⟩
  go_wp2
  go_quiet (fail)
  go_wp2
  go_ret
  exact ⟨ret_int (shl_close b 9 _ (by decide) _ fileA (by decide)), below_drewN (hb.alloc hb.size _) _⟩

set_option maxHeartbeats 400000 in
theorem shift_2 (b : BitVec 64) (w : World) :
    Calls Tryd.prog 21 #[.int .u64 (u b), .int .i64 2] w fun e w' => e = .returned (.int .u64 (u (shiftB b 2))) ∧ Below w.heap.size w w' := by
  have i0 : ∀ w, (Instr.index 46 (.agg #[.int .i64 8, .int .u64 0, .int .i64 9, .int .u64 72340172838076673, .int .i64 1, .int .u64 72340172838076673, .int .i64 (-7), .int .u64 72340172838076673, .int .i64 (-8), .int .u64 0, .int .i64 (-9), .int .u64 9259542123273814144, .int .i64 (-1), .int .u64 9259542123273814144, .int .i64 7, .int .u64 9259542123273814144]) (.int .i64 2)).run Tryd.prog w = .ok (.agg #[.int .i64 1, .int .u64 72340172838076673]) w := fun _ => by kernel_rfl
  go_enter Tryd.func21, Tryd.ntmps21
  go_wp2_with fail
  refine (steps_any _).mono ?_
  rintro e w1 ⟨rfl, hb⟩
  go_wp2
  go_quiet (fail)
  go_wp2
  go_ret
  exact ⟨ret_int (shl_close b 1 _ (by decide) _ fileA (by decide)), below_drewN (hb.alloc hb.size _) _⟩

set_option maxHeartbeats 400000 in
theorem shift_3 (b : BitVec 64) (w : World) :
    Calls Tryd.prog 21 #[.int .u64 (u b), .int .i64 3] w fun e w' => e = .returned (.int .u64 (u (shiftB b 3))) ∧ Below w.heap.size w w' := by
  have i0 : ∀ w, (Instr.index 46 (.agg #[.int .i64 8, .int .u64 0, .int .i64 9, .int .u64 72340172838076673, .int .i64 1, .int .u64 72340172838076673, .int .i64 (-7), .int .u64 72340172838076673, .int .i64 (-8), .int .u64 0, .int .i64 (-9), .int .u64 9259542123273814144, .int .i64 (-1), .int .u64 9259542123273814144, .int .i64 7, .int .u64 9259542123273814144]) (.int .i64 3)).run Tryd.prog w = .ok (.agg #[.int .i64 (-7), .int .u64 72340172838076673]) w := fun _ => by kernel_rfl
  go_enter Tryd.func21, Tryd.ntmps21
  go_wp2_with fail
  refine (steps_any _).mono ?_
  rintro e w1 ⟨rfl, hb⟩
  go_wp2
  go_quiet (fail)
  go_wp2
  go_ret
  exact ⟨ret_int (shr_close b 7 _ (by decide) _ fileA (by decide)), below_drewN (hb.alloc hb.size _) _⟩

set_option maxHeartbeats 400000 in
theorem shift_4 (b : BitVec 64) (w : World) :
    Calls Tryd.prog 21 #[.int .u64 (u b), .int .i64 4] w fun e w' => e = .returned (.int .u64 (u (shiftB b 4))) ∧ Below w.heap.size w w' := by
  have i0 : ∀ w, (Instr.index 46 (.agg #[.int .i64 8, .int .u64 0, .int .i64 9, .int .u64 72340172838076673, .int .i64 1, .int .u64 72340172838076673, .int .i64 (-7), .int .u64 72340172838076673, .int .i64 (-8), .int .u64 0, .int .i64 (-9), .int .u64 9259542123273814144, .int .i64 (-1), .int .u64 9259542123273814144, .int .i64 7, .int .u64 9259542123273814144]) (.int .i64 4)).run Tryd.prog w = .ok (.agg #[.int .i64 (-8), .int .u64 0]) w := fun _ => by kernel_rfl
  go_enter Tryd.func21, Tryd.ntmps21
  go_wp2_with fail
  refine (steps_any _).mono ?_
  rintro e w1 ⟨rfl, hb⟩
  go_wp2
  go_quiet (fail)
  go_wp2
  go_ret
  exact ⟨ret_int (shr_close b 8 _ (by decide) _ 0#64 (by decide)), below_drewN (hb.alloc hb.size _) _⟩

set_option maxHeartbeats 400000 in
theorem shift_5 (b : BitVec 64) (w : World) :
    Calls Tryd.prog 21 #[.int .u64 (u b), .int .i64 5] w fun e w' => e = .returned (.int .u64 (u (shiftB b 5))) ∧ Below w.heap.size w w' := by
  have i0 : ∀ w, (Instr.index 46 (.agg #[.int .i64 8, .int .u64 0, .int .i64 9, .int .u64 72340172838076673, .int .i64 1, .int .u64 72340172838076673, .int .i64 (-7), .int .u64 72340172838076673, .int .i64 (-8), .int .u64 0, .int .i64 (-9), .int .u64 9259542123273814144, .int .i64 (-1), .int .u64 9259542123273814144, .int .i64 7, .int .u64 9259542123273814144]) (.int .i64 5)).run Tryd.prog w = .ok (.agg #[.int .i64 (-9), .int .u64 9259542123273814144]) w := fun _ => by kernel_rfl
  go_enter Tryd.func21, Tryd.ntmps21
  go_wp2_with fail
  refine (steps_any _).mono ?_
  rintro e w1 ⟨rfl, hb⟩
  go_wp2
  go_quiet (fail)
  go_wp2
  go_ret
  exact ⟨ret_int (shr_close b 9 _ (by decide) _ fileH (by decide)), below_drewN (hb.alloc hb.size _) _⟩

set_option maxHeartbeats 400000 in
theorem shift_6 (b : BitVec 64) (w : World) :
    Calls Tryd.prog 21 #[.int .u64 (u b), .int .i64 6] w fun e w' => e = .returned (.int .u64 (u (shiftB b 6))) ∧ Below w.heap.size w w' := by
  have i0 : ∀ w, (Instr.index 46 (.agg #[.int .i64 8, .int .u64 0, .int .i64 9, .int .u64 72340172838076673, .int .i64 1, .int .u64 72340172838076673, .int .i64 (-7), .int .u64 72340172838076673, .int .i64 (-8), .int .u64 0, .int .i64 (-9), .int .u64 9259542123273814144, .int .i64 (-1), .int .u64 9259542123273814144, .int .i64 7, .int .u64 9259542123273814144]) (.int .i64 6)).run Tryd.prog w = .ok (.agg #[.int .i64 (-1), .int .u64 9259542123273814144]) w := fun _ => by kernel_rfl
  go_enter Tryd.func21, Tryd.ntmps21
  go_wp2_with fail
  refine (steps_any _).mono ?_
  rintro e w1 ⟨rfl, hb⟩
  go_wp2
  go_quiet (fail)
  go_wp2
  go_ret
  exact ⟨ret_int (shr_close b 1 _ (by decide) _ fileH (by decide)), below_drewN (hb.alloc hb.size _) _⟩

set_option maxHeartbeats 400000 in
theorem shift_7 (b : BitVec 64) (w : World) :
    Calls Tryd.prog 21 #[.int .u64 (u b), .int .i64 7] w fun e w' => e = .returned (.int .u64 (u (shiftB b 7))) ∧ Below w.heap.size w w' := by
  have i0 : ∀ w, (Instr.index 46 (.agg #[.int .i64 8, .int .u64 0, .int .i64 9, .int .u64 72340172838076673, .int .i64 1, .int .u64 72340172838076673, .int .i64 (-7), .int .u64 72340172838076673, .int .i64 (-8), .int .u64 0, .int .i64 (-9), .int .u64 9259542123273814144, .int .i64 (-1), .int .u64 9259542123273814144, .int .i64 7, .int .u64 9259542123273814144]) (.int .i64 7)).run Tryd.prog w = .ok (.agg #[.int .i64 7, .int .u64 9259542123273814144]) w := fun _ => by kernel_rfl
  go_enter Tryd.func21, Tryd.ntmps21
  go_wp2_with fail
  refine (steps_any _).mono ?_
  rintro e w1 ⟨rfl, hb⟩
  go_wp2
  go_quiet (fail)
  go_wp2
  go_ret
  exact ⟨ret_int (shl_close b 7 _ (by decide) _ fileH (by decide)), below_drewN (hb.alloc hb.size _) _⟩

theorem shift_any (b : BitVec 64) {a : Int} (ha : a = u b) (dir : Int) (w : World) :
    Calls Tryd.prog 21 #[.int .u64 a, .int .i64 dir] w fun e w' => e = .returned (.int .u64 (u (shiftB b dir))) ∧ Below w.heap.size w w' := by
  subst ha
  by_cases h : 0 ≤ dir ∧ dir < 8
  · rcases dir_cases h.1 h.2 with rfl | rfl | rfl | rfl | rfl | rfl | rfl | rfl
    · exact shift_0 b w
    · exact shift_1 b w
    · exact shift_2 b w
    · exact shift_3 b w
    · exact shift_4 b w
    · exact shift_5 b w
    · exact shift_6 b w
    · exact shift_7 b w
  · exact shift_out_any b dir h w

theorem d8 (b : BitVec 64) : u b / (256 : Int) = u (b >>> 8) := shr_u b 8
theorem d16 (b : BitVec 64) : u b / (65536 : Int) = u (b >>> 16) := shr_u b 16
theorem d32 (b : BitVec 64) : u b / (4294967296 : Int) = u (b >>> 32) := shr_u b 32
theorem m8 (b : BitVec 64) : IntKind.u64.wrap (u b * (256 : Int)) = u (b <<< 8) := shl_u b 8
theorem m16 (b : BitVec 64) : IntKind.u64.wrap (u b * (65536 : Int)) = u (b <<< 16) := shl_u b 16
theorem m32 (b : BitVec 64) : IntKind.u64.wrap (u b * (4294967296 : Int)) = u (b <<< 32) := shl_u b 32
theorem k8 : (71777214294589695 : Int) = u 0x00ff00ff00ff00ff#64 := by decide
theorem k16 : (281470681808895 : Int) = u 0x0000ffff0000ffff#64 := by decide

theorem rev_any (b : BitVec 64) (w : World) :
    Calls Tryd.prog 46 #[.int .u64 (u b)] w fun e w' => e = .returned (.int .u64 (u (flipB b))) ∧ w = w' := by
  have h0 := u_nonneg b
  go_enter Tryd.func46, Tryd.ntmps46
  go_wp2
  go_ret
  exact ⟨ret_int (by simp only [d8, m8, k8, bits_and_u, bits_or_u, d16, m16, k16, d32, m32]; rfl), rfl⟩
theorem flip_any (b : BitVec 64) {a : Int} (ha : a = u b) (w : World) :
    Calls Tryd.prog 25 #[.int .u64 a] w fun e w' => e = .returned (.int .u64 (u (flipB b))) ∧ w = w' := by
  subst ha
  go_enter Tryd.func25, Tryd.ntmps25
  go_wp2_with fail
  refine (rev_any b _).mono ?_
  rintro e w1 ⟨rfl, rfl⟩
  go_wp2
  go_ret
  exact ⟨rfl, rfl⟩

end Go.Proofs.YtnbfgangmkfolaaDoor
