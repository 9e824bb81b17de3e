/- Walk of the reference of bits: Flip. -/
import Derived.Test.YtlobmhhilkmfdaaR2
namespace Go.Proofs.Ytlobmhhilkmfdaa
open Go Go.RowKit

set_option maxHeartbeats 1600000 in
theorem rflip_any (b : BitVec 64) {a : Int} (ha : a = u b) (w : World) :
    Calls Try.prog 14 #[.int .u64 a] w fun e w' => e = .returned (.int .u64 (u (flipB b))) ∧ Below w.heap.size w w' := by
  subst ha
  rw [← flip_via]
  have HV := hideIt (show viaList flipI b = foldPut flipI (listB b) from rfl)
  have hlen := listB_length b
  go_enter Try.func14, Try.ntmps14
  go_wp2_with fail
  refine (rlist_any b rfl _).mono ?_
  rintro e w1 ⟨v, rfl, hown, hb1⟩
  rcases hown.form with ⟨hl, x, c, rfl⟩ | ⟨g, c, rfl, hg0, hg1, hne, hcell, _⟩
  · have HL := hideIt hl
    clear hl
    go_wp2
    refine wp_loop_rounds 1 ?_
    rw [rounds_succ]
    go_wp2
    go_ret
    exact ⟨ret_int (by rw [HV.out, HL.out]; rfl), hb1⟩
  · go_wp2
    go_loopw [3, 5] (fun x i wr => ∃ k : Nat, k ≤ (listB b).length ∧ i = .int .i64 k ∧ x = .int .u64 (u (foldPut flipI ((listB b).take k))) ∧ Below w1.heap.size w1 wr) (fun _ i _ => (listB b).length - (intOf i).toNat)
    case atStart => exact ⟨0, by omega, rfl, rfl, Below.refl _ _⟩
    case round =>
      obtain ⟨k, hk, rfl, rfl, hbel⟩ := hrel
      by_cases hlt : k < (listB b).length
      · have hc := hcell k hlt
        have hc2 : wr.cell? ⟨g, k, none⟩ = some (.int .i64 ((listB b)[k])) := by rw [hbel.cell (p := ⟨g, k, none⟩) hg1]; exact hc
        have hr := listB_range b k hlt
        have HF := hideIt (foldPut_take flipI (listB b) k hlt)
        generalize hsx : (listB b)[k] = sx at *
        have HS := hideIt hsx
        clear hc hcell hsx
        have hx0 := hr.1
        have hx1 := hr.2
        go_wp2
        go_quiet ((go_at_call 22; exact quietEq (rput_any _ rfl _ _)))
        go_wp2
        go_roundw
        case rel => exact ⟨k + 1, by omega, by go_num, by rw [HF.out]; rfl, below_drewN hbel _⟩
        case measure => simp [intOf]; omega
      · go_wp2
        go_ret
        obtain rfl : k = (listB b).length := by omega
        exact ⟨ret_int (by rw [HV.out, List.take_length]), hb1.trans (hbel.mono hb1.size)⟩

end Go.Proofs.Ytlobmhhilkmfdaa
