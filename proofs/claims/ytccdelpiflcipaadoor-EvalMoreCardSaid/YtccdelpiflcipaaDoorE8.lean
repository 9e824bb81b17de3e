/- The walk of eval.Side, of any color of any position. -/
import Derived.Test.YtccdelpiflcipaaDoorE6
import Derived.Test.YtccdelpiflcipaaDoorE7
namespace Go.Proofs.YtccdelpiflcipaaDoor
open Go Go.RowKit
set_option linter.unusedVariables false

theorem worthI_no (n : Nat → Int) (v c : Nat) (h : knownB v c = false) : worthI n v c = 0 := by
  unfold worthI; rw [h]; rfl
set_option maxHeartbeats 800000 in
theorem side_no (n : Nat → Int) (hn : PosOk n) (v c : Nat) (hv : n 0 = v) (hv9 : v ≤ 255) (hc : c ≤ 255) (hk : knownB v c = false) (w : World) :
    Calls Tryd.prog 13 #[.agg (posA n), .int .u8 (c : Int)] w fun e w' => e = .returned (.int .i64 (worthI n v c)) ∧ Below w.heap.size w w' := by
  have HK := hideIt hk
  have HS := hideIt (worthI_no n v c hk)
  obtain ⟨X, hX⟩ : ∃ X, w.alloc (.cells (posA n) 31) = X := ⟨_, rfl⟩
  obtain ⟨p0, hb⟩ := box1 w n X hX
  have HX := hideIt hX
  have c0 : X.cell? ⟨w.heap.size, 0, none⟩ = some (.int .u8 v) := by rw [p0.cell 0 (by decide), hv]; rfl
  clear hX hk
  go_enter Tryd.func13, Tryd.ntmps13
  go_wp2_with (rw [HX.out])
  refine (known_any v c hv9 hc _).mono ?_
  rw [HK.out]
  rintro e w1 ⟨rfl, h1⟩
  have hx := hb.trans (h1.mono hb.size)
  clear h1 c0
  go_wp2
  go_ret
  exact ⟨ret_int HS.out.symm, hx⟩
theorem side_any (n : Nat → Int) (hn : PosOk n) (v c : Nat) (hv : n 0 = v) (hv9 : v ≤ 255) (hc : c ≤ 255) (w : World) (hT : Tab w) :
    Calls Tryd.prog 13 #[.agg (posA n), .int .u8 (c : Int)] w fun e w' => e = .returned (.int .i64 (worthI n v c)) ∧ Below w.heap.size w w' := by
  cases hk : knownB v c with
  | false => exact side_no n hn v c hv hv9 hc hk w
  | true =>
    have h := hk
    unfold knownB at h
    rw [Bool.and_eq_true, decide_eq_true_eq, decide_eq_true_eq] at h
    obtain ⟨h1, h2⟩ := h
    have hc2 : c = 0 ∨ c = 1 := by omega
    rcases hc2 with rfl | rfl
    · exact side_0 n hn v hv h1 w hT
    · exact side_1 n hn v hv h1 w hT

end Go.Proofs.YtccdelpiflcipaaDoor
