/- The walk of BitsOne. -/
import Derived.Test.YtndijfckmokgbaaDoorAw1
import Derived.Test.YtndijfckmokgbaaDoorBv
import Derived.Test.YtndijfckmokgbaaDoorU4
namespace Go.Proofs.YtndijfckmokgbaaDoor
open Go Go.RowKit

set_option maxHeartbeats 1000000 in
theorem bitsOne_out (b : BitVec 64) (s other : Int) (hs : ¬ (0 ≤ s ∧ s < 64)) (w : World) (hT : Tab w) :
    Calls Tryd.prog 8 #[.int .u64 (u b), .int .i64 s, .int .i64 other] w fun e w' => e = .returned (.bool true) ∧ Below w.heap.size w w' := by
  have P1 := hideIt (putB_out b hs)
  have C1 := hideIt (clear_of_not (hasB_out b hs))
  have H1 := hideIt (hasB_out b hs)
  have hc : s < 0 ∨ (0 ≤ s ∧ 64 ≤ s) := by omega
  rcases hc with h0 | ⟨h0, h0'⟩
  all_goals
    by_cases hne : s = other
    · subst hne
      go_enter Tryd.func8, Tryd.ntmps8
      go_wp2_with fail
      refine (awake_any _ hT).mono ?_
      rintro e w1 ⟨rfl, h1⟩
      go_wp2_with fail
      refine (put_v b s b P1.out _).mono ?_
      rintro e w' ⟨rfl, rfl⟩
      go_wp2_with fail
      refine (clear_v b s b C1.out _).mono ?_
      rintro e w' ⟨rfl, rfl⟩
      go_wp2_with fail
      refine (has_v b s false H1.out _).mono ?_
      rintro e w' ⟨rfl, rfl⟩
      go_wp2_with fail
      refine (has_v b s false H1.out _).mono ?_
      rintro e w' ⟨rfl, rfl⟩
      go_wp2_with fail
      refine (has_v b s false H1.out _).mono ?_
      rintro e w' ⟨rfl, rfl⟩
      go_wp2_with fail
      refine (clear_v b s b C1.out _).mono ?_
      rintro e w' ⟨rfl, rfl⟩
      go_wp2
      go_ret
      exact ⟨rfl, h1⟩
    · have hn : (s != other) = true := by rw [bne_iff_ne]; exact hne
      go_enter Tryd.func8, Tryd.ntmps8
      go_wp2_with fail
      refine (awake_any _ hT).mono ?_
      rintro e w1 ⟨rfl, h1⟩
      go_wp2_with fail
      refine (put_v b s b P1.out _).mono ?_
      rintro e w' ⟨rfl, rfl⟩
      go_wp2_with fail
      refine (clear_v b s b C1.out _).mono ?_
      rintro e w' ⟨rfl, rfl⟩
      go_wp2_with fail
      refine (has_v b s false H1.out _).mono ?_
      rintro e w' ⟨rfl, rfl⟩
      go_wp2_with fail
      refine (has_v b s false H1.out _).mono ?_
      rintro e w' ⟨rfl, rfl⟩
      iterate 4
        go_wp2_with fail
        refine (has_v b other _ rfl _).mono ?_
        rintro e w' ⟨rfl, rfl⟩
      go_wp2_with fail
      refine (has_v b s false H1.out _).mono ?_
      rintro e w' ⟨rfl, rfl⟩
      go_wp2_with fail
      refine (clear_v b s b C1.out _).mono ?_
      rintro e w' ⟨rfl, rfl⟩
      go_wp2
      go_ret
      exact ⟨rfl, h1⟩

set_option maxHeartbeats 1000000 in
theorem bitsOne_in (b : BitVec 64) (s other : Int) (h0 : 0 ≤ s) (h64 : s < 64) (w : World) (hT : Tab w) :
    Calls Tryd.prog 8 #[.int .u64 (u b), .int .i64 s, .int .i64 other] w fun e w' => e = .returned (.bool true) ∧ Below w.heap.size w w' := by
  have HP := hideIt (has_put_self (b := b) h0 h64)
  have HC := hideIt (has_clear_self b s)
  cases hh : hasB b s
  · have H1 := hideIt hh
    have C1 := hideIt (clear_of_not hh)
    have C2 := hideIt (clear_put hh)
    clear hh
    by_cases hne : s = other
    · subst hne
      go_enter Tryd.func8, Tryd.ntmps8
      go_wp2_with fail
      refine (awake_any _ hT).mono ?_
      rintro e w1 ⟨rfl, h1⟩
      go_wp2_with fail
      refine (put_v b s _ rfl _).mono ?_
      rintro e w' ⟨rfl, rfl⟩
      go_wp2_with fail
      refine (clear_v b s b C1.out _).mono ?_
      rintro e w' ⟨rfl, rfl⟩
      go_wp2_with fail
      refine (has_v (putB b s) s true HP.out _).mono ?_
      rintro e w' ⟨rfl, rfl⟩
      go_wp2_with fail
      refine (has_v b s false H1.out _).mono ?_
      rintro e w' ⟨rfl, rfl⟩
      go_wp2_with fail
      refine (has_v b s false H1.out _).mono ?_
      rintro e w' ⟨rfl, rfl⟩
      go_wp2_with fail
      refine (clear_v (putB b s) s b C2.out _).mono ?_
      rintro e w' ⟨rfl, rfl⟩
      go_wp2
      go_ret
      exact ⟨rfl, h1⟩
    · have hn : (s != other) = true := by rw [bne_iff_ne]; exact hne
      have O1 := hideIt (has_put_other (b := b) hne)
      clear hne
      go_enter Tryd.func8, Tryd.ntmps8
      go_wp2_with fail
      refine (awake_any _ hT).mono ?_
      rintro e w1 ⟨rfl, h1⟩
      go_wp2_with fail
      refine (put_v b s _ rfl _).mono ?_
      rintro e w' ⟨rfl, rfl⟩
      go_wp2_with fail
      refine (clear_v b s b C1.out _).mono ?_
      rintro e w' ⟨rfl, rfl⟩
      go_wp2_with fail
      refine (has_v (putB b s) s true HP.out _).mono ?_
      rintro e w' ⟨rfl, rfl⟩
      go_wp2_with fail
      refine (has_v b s false H1.out _).mono ?_
      rintro e w' ⟨rfl, rfl⟩
      go_wp2_with fail
      refine (has_v (putB b s) other _ O1.out _).mono ?_
      rintro e w' ⟨rfl, rfl⟩
      iterate 3
        go_wp2_with fail
        refine (has_v b other _ rfl _).mono ?_
        rintro e w' ⟨rfl, rfl⟩
      go_wp2_with fail
      refine (has_v b s false H1.out _).mono ?_
      rintro e w' ⟨rfl, rfl⟩
      go_wp2_with fail
      refine (clear_v (putB b s) s b C2.out _).mono ?_
      rintro e w' ⟨rfl, rfl⟩
      go_wp2
      go_ret
      exact ⟨rfl, h1⟩
  · have H1 := hideIt hh
    have P1 := hideIt (put_of_has hh)
    have P2 := hideIt (put_clear hh)
    clear hh
    by_cases hne : s = other
    · subst hne
      go_enter Tryd.func8, Tryd.ntmps8
      go_wp2_with fail
      refine (awake_any _ hT).mono ?_
      rintro e w1 ⟨rfl, h1⟩
      go_wp2_with fail
      refine (put_v b s b P1.out _).mono ?_
      rintro e w' ⟨rfl, rfl⟩
      go_wp2_with fail
      refine (clear_v b s _ rfl _).mono ?_
      rintro e w' ⟨rfl, rfl⟩
      go_wp2_with fail
      refine (has_v b s true H1.out _).mono ?_
      rintro e w' ⟨rfl, rfl⟩
      go_wp2_with fail
      refine (has_v (clearB b s) s false HC.out _).mono ?_
      rintro e w' ⟨rfl, rfl⟩
      go_wp2_with fail
      refine (has_v b s true H1.out _).mono ?_
      rintro e w' ⟨rfl, rfl⟩
      go_wp2_with fail
      refine (put_v (clearB b s) s b P2.out _).mono ?_
      rintro e w' ⟨rfl, rfl⟩
      go_wp2
      go_ret
      exact ⟨rfl, h1⟩
    · have hn : (s != other) = true := by rw [bne_iff_ne]; exact hne
      have O1 := hideIt (has_clear_other (b := b) hne)
      clear hne
      go_enter Tryd.func8, Tryd.ntmps8
      go_wp2_with fail
      refine (awake_any _ hT).mono ?_
      rintro e w1 ⟨rfl, h1⟩
      go_wp2_with fail
      refine (put_v b s b P1.out _).mono ?_
      rintro e w' ⟨rfl, rfl⟩
      go_wp2_with fail
      refine (clear_v b s _ rfl _).mono ?_
      rintro e w' ⟨rfl, rfl⟩
      go_wp2_with fail
      refine (has_v b s true H1.out _).mono ?_
      rintro e w' ⟨rfl, rfl⟩
      go_wp2_with fail
      refine (has_v (clearB b s) s false HC.out _).mono ?_
      rintro e w' ⟨rfl, rfl⟩
      iterate 2
        go_wp2_with fail
        refine (has_v b other _ rfl _).mono ?_
        rintro e w' ⟨rfl, rfl⟩
      go_wp2_with fail
      refine (has_v (clearB b s) other _ O1.out _).mono ?_
      rintro e w' ⟨rfl, rfl⟩
      go_wp2_with fail
      refine (has_v b other _ rfl _).mono ?_
      rintro e w' ⟨rfl, rfl⟩
      go_wp2_with fail
      refine (has_v b s true H1.out _).mono ?_
      rintro e w' ⟨rfl, rfl⟩
      go_wp2_with fail
      refine (put_v (clearB b s) s b P2.out _).mono ?_
      rintro e w' ⟨rfl, rfl⟩
      go_wp2
      go_ret
      exact ⟨rfl, h1⟩

theorem bitsOne_walk (a0 a1 a2 : Int) (w0 : (Lit.int .u64 a0).wf = true) (_w1 : (Lit.int .i64 a1).wf = true) (_w2 : (Lit.int .i64 a2).wf = true) (w : World) (hT : Tab w) :
    Calls Tryd.prog 8 #[.int .u64 a0, .int .i64 a1, .int .i64 a2] w fun e w' => e = .returned (.bool true) ∧ Below w.heap.size w w' := by
  obtain ⟨b, rfl⟩ := of_wf w0
  by_cases h : 0 ≤ a1 ∧ a1 < 64
  · exact bitsOne_in b a1 a2 h.1 h.2 w hT
  · exact bitsOne_out b a1 a2 h w hT

end Go.Proofs.YtndijfckmokgbaaDoor
