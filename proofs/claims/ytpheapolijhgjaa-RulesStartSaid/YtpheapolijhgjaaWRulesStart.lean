/- The walk of RulesStart. -/
import Derived.Test.YtpheapolijhgjaaWRSa
import Derived.Test.YtpheapolijhgjaaWRSb
import Derived.Test.YtpheapolijhgjaaWRSc
namespace Go.Proofs.Ytpheapolijhgjaa
open Go Go.RowKit

theorem rulesStart_walk (a0 a1 : Int) (w0 : (Lit.int .u8 a0).wf = true) (_w1 : (Lit.int .i64 a1).wf = true) (w : World) :
    Calls Try.prog 6 #[.int .u8 a0, .int .i64 a1] w fun e w' => e = .returned (.bool true) ∧ Below w.heap.size w w' := by
  obtain ⟨v, rfl, hv⟩ : ∃ v : Nat, a0 = v ∧ v ≤ 255 := ⟨a0.toNat, by have := wf_u8 w0; omega, by have := wf_u8 w0; omega⟩
  have hn : a1 < 0 ∨ (0 ≤ a1 ∧ 960 ≤ a1) ∨ (0 ≤ a1 ∧ a1 < 960) := by omega
  have hc : v = 1 ∨ (v < 9 ∧ v ≠ 1) ∨ 9 ≤ v := by omega
  rcases hc with h | ⟨h, h1⟩ | h
  · rcases hn with hn | ⟨h0, hn⟩ | ⟨h0, hn⟩
    · exact rs_one_neg v hv a1 h hn w
    · exact rs_one_big v hv a1 h h0 hn w
    · exact rs_one_in v hv a1 h a1.toNat (by omega) (by omega) w
  · rcases hn with hn | ⟨h0, hn⟩ | ⟨h0, hn⟩
    · exact rs_var_neg v hv a1 h h1 hn w
    · exact rs_var_big v hv a1 h h1 h0 hn w
    · exact rs_var_in v hv a1 h h1 a1.toNat (by omega) (by omega) w
  · rcases hn with hn | ⟨h0, hn⟩ | ⟨h0, hn⟩
    · exact rs_no_neg v hv a1 h hn w
    · exact rs_no_big v hv a1 h h0 hn w
    · exact rs_no_in v hv a1 h a1.toNat (by omega) (by omega) w

end Go.Proofs.Ytpheapolijhgjaa
