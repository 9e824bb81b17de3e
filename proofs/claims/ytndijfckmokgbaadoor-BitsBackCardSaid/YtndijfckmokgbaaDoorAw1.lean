/- The walk of awake (layer 1). Lines alike written by gen_aw1.py. -/
import Derived.Test.YtndijfckmokgbaaDoorBn
namespace Go.Proofs.YtndijfckmokgbaaDoor
open Go Go.RowKit

set_option maxRecDepth 100000 in
set_option maxHeartbeats 4000000 in
theorem awake_any (w : World) (hT : Tab w) :
    Calls Tryd.prog 14 #[] w fun e w' => e = .returned (.bool true) ∧ Below w.heap.size w w' := by
  go_enter Tryd.func14, Tryd.ntmps14
  go_wp2_with fail
  refine (put_n 0 0 1 (by decide +kernel) _).mono ?_
  rintro e w' ⟨rfl, rfl⟩
  go_wp2_with fail
  refine (put_n 1 2 5 (by decide +kernel) _).mono ?_
  rintro e w' ⟨rfl, rfl⟩
  go_wp2_with fail
  refine (put_n 5 63 9223372036854775813 (by decide +kernel) _).mono ?_
  rintro e w' ⟨rfl, rfl⟩
  go_wp2_with fail
  refine (list_n 9223372036854775813 [0, 2, 63] (by decide +kernel) _ hT).mono ?_
  rintro e w1 ⟨v, rfl, hown, h1⟩
  have hb1 := h1
  rcases hown.form with ⟨hl, _⟩ | ⟨g, c, rfl, _, _, _, hcell, _⟩
  · cases hl
  have c0 := hcell 0 (by decide)
  have c1 := hcell 1 (by decide)
  have c2 := hcell 2 (by decide)
  simp only [List.length_cons, List.length_nil, Nat.zero_add, Nat.reduceAdd, List.getElem_cons_zero, List.getElem_cons_succ] at c0 c1 c2 ⊢
  clear hcell hown
  go_wp2_with fail
  refine (count_n 9223372036854775813 3 (by decide +kernel) _).mono ?_
  rintro e w' ⟨rfl, rfl⟩
  go_wp2_with fail
  refine (first_n 9223372036854775813 0 (by decide +kernel) _ (hT.below hb1 (Nat.le_refl _))).mono ?_
  rintro e w' ⟨rfl, rfl⟩
  go_wp2_with fail
  refine (first_n 0 (-1) (by decide +kernel) _ (hT.below hb1 (Nat.le_refl _))).mono ?_
  rintro e w' ⟨rfl, rfl⟩
  go_wp2_with fail
  refine (has_n 9223372036854775813 2 true (by decide +kernel) _).mono ?_
  rintro e w' ⟨rfl, rfl⟩
  go_wp2_with fail
  refine (has_n 9223372036854775813 1 false (by decide +kernel) _).mono ?_
  rintro e w' ⟨rfl, rfl⟩
  go_wp2_with fail
  refine (has_n 9223372036854775813 64 false (by decide +kernel) _).mono ?_
  rintro e w' ⟨rfl, rfl⟩
  go_wp2_with fail
  refine (put_n 9223372036854775813 64 9223372036854775813 (by decide +kernel) _).mono ?_
  rintro e w' ⟨rfl, rfl⟩
  go_wp2_with fail
  refine (put_n 0 7 128 (by decide +kernel) _).mono ?_
  rintro e w' ⟨rfl, rfl⟩
  go_wp2_with fail
  refine (put_n 0 0 1 (by decide +kernel) _).mono ?_
  rintro e w' ⟨rfl, rfl⟩
  go_wp2_with fail
  refine (put_n 0 9 512 (by decide +kernel) _).mono ?_
  rintro e w' ⟨rfl, rfl⟩
  go_wp2_with fail
  refine (shift_n 128 2 0 (by decide +kernel) _).mono ?_
  rintro e w2 ⟨rfl, h2⟩
  have hb2 := hb1.trans (h2.mono hb1.size)
  go_wp2_with fail
  refine (shift_n 128 0 32768 (by decide +kernel) _).mono ?_
  rintro e w3 ⟨rfl, h3⟩
  have hb3 := hb2.trans (h3.mono hb2.size)
  go_wp2_with fail
  refine (put_n 0 15 32768 (by decide +kernel) _).mono ?_
  rintro e w' ⟨rfl, rfl⟩
  go_wp2_with fail
  refine (shift_n 1 5 0 (by decide +kernel) _).mono ?_
  rintro e w4 ⟨rfl, h4⟩
  have hb4 := hb3.trans (h4.mono hb3.size)
  go_wp2_with fail
  refine (shift_n 512 7 65536 (by decide +kernel) _).mono ?_
  rintro e w5 ⟨rfl, h5⟩
  have hb5 := hb4.trans (h5.mono hb4.size)
  go_wp2_with fail
  refine (put_n 0 16 65536 (by decide +kernel) _).mono ?_
  rintro e w' ⟨rfl, rfl⟩
  go_wp2_with fail
  refine (shift_n 1 8 0 (by decide +kernel) _).mono ?_
  rintro e w6 ⟨rfl, h6⟩
  have hb6 := hb5.trans (h6.mono hb5.size)
  go_wp2_with fail
  refine (flip_n 1 72057594037927936 (by decide +kernel) _).mono ?_
  rintro e w' ⟨rfl, rfl⟩
  go_wp2_with fail
  refine (put_n 0 56 72057594037927936 (by decide +kernel) _).mono ?_
  rintro e w' ⟨rfl, rfl⟩
  go_wp2_with fail
  refine (put_n 0 27 134217728 (by decide +kernel) _).mono ?_
  rintro e w' ⟨rfl, rfl⟩
  go_wp2_with fail
  refine (flip_n 134217728 34359738368 (by decide +kernel) _).mono ?_
  rintro e w' ⟨rfl, rfl⟩
  go_wp2_with fail
  refine (put_n 0 35 34359738368 (by decide +kernel) _).mono ?_
  rintro e w' ⟨rfl, rfl⟩
  go_wp2
  go_ret
  exact ⟨rfl, hb6⟩

end Go.Proofs.YtndijfckmokgbaaDoor
