/- The walk of BitsLists. -/
import Derived.Test.YtndijfckmokgbaaDoorB4
import Derived.Test.YtndijfckmokgbaaDoorBv
import Derived.Test.YtndijfckmokgbaaDoorR4
import Derived.Test.YtndijfckmokgbaaDoorU4
namespace Go.Proofs.YtndijfckmokgbaaDoor
open Go Go.RowKit

/-- The law's first look: of an empty list -1. -/
theorem first_none {b : BitVec 64} (h : listB b = []) : firstB b = -1 := by unfold firstB; rw [h]; rfl

theorem rlist_v (b : BitVec 64) (l : List Int) (h : listB b = l) (w : World) :
    Calls Tryd.prog 9 #[.int .u64 (u b)] w fun e w' => ∃ v, e = .returned v ∧ OwnsI w' w.heap.size v l ∧ Below w.heap.size w w' := by
  rw [← h]; exact rlist_any b rfl w

set_option maxRecDepth 100000 in
set_option maxHeartbeats 1600000 in
theorem bitsLists_walk (a0 : Int) (w0 : (Lit.int .u64 a0).wf = true) (w : World) (hT : Tab w) :
    Calls Tryd.prog 3 #[.int .u64 a0] w fun e w' => e = .returned (.bool true) ∧ Below w.heap.size w w' := by
  obtain ⟨b, rfl⟩ := of_wf w0
  obtain ⟨l, hl, hlen, _, _, hc, hh, _⟩ := list_facts b
  have HN := hideIt (first_none (b := b))
  have HL := hideIt hl
  have HC := hideIt hc
  have HH := hideIt hh
  clear hl hc hh
  go_enter Tryd.func3, Tryd.ntmps3
  go_wp2_with fail
  refine (rlist_v b l HL.out _).mono ?_
  rintro e w1 ⟨v, rfl, hown, hb⟩
  have HT := hideIt (hT.below hb (Nat.le_refl _))
  clear hT
  have HO := hideIt hown
  obtain ⟨first, hfirst, hw⟩ : ∃ first : Int, firstB b = first ∧ ((l = [] ∧ first = -1 ∧ ∃ a c, v = .slice a 0 c) ∨ ∃ g c, v = .slice (some ⟨g, 0, none⟩) l.length c ∧ 0 < l.length ∧ w1.cell? ⟨g, 0, none⟩ = some (.int .i64 first)) := by
    refine ⟨_, rfl, ?_⟩
    rcases hown.form with ⟨hl, x, c, hv⟩ | ⟨g, c, hv, hg0, hg1, hne, hcell, _⟩
    · left; exact ⟨hl, HN.out (by rw [HL.out]; exact hl), x, c, hv⟩
    · right
      have hp : 0 < l.length := by
        rcases Nat.eq_zero_or_pos l.length with e | e
        · exact absurd (List.length_eq_zero_iff.1 e) hne
        · exact e
      exact ⟨g, c, hv, hp, by rw [HH.out hp]; exact hcell 0 hp⟩
  have HF := hideIt hfirst
  clear hfirst hown HH HN
  rcases hw with ⟨hl, hf, x, c, rfl⟩ | ⟨g, c, rfl, hp, hx⟩
  · subst hl
    subst hf
    go_wp2
    go_loopw [5, 6, 7] (fun t _ _ wr => ∃ k : Nat, k ≤ 2 ∧ t = .int .i64 k ∧ Below w1.heap.size w1 wr) (fun t _ _ _ => 2 - (intOf t).toNat)
    case atStart => exact ⟨0, by omega, rfl, Below.refl _ _⟩
    case round =>
      obtain ⟨k, hk, rfl, hbel⟩ := hrel
      by_cases hlt : k < 2
      · have HTr := hideIt (HT.out.below hbel (Nat.le_refl _))
        have HOr := hideIt (HO.out.kept hbel (Nat.le_refl _))
        go_wp2_with fail
        refine (list_v b _ HL.out _ HTr.out).mono ?_
        rintro e w2 ⟨v2, rfl, hown2, h2⟩
        have hbel2 := hbel.trans (h2.mono hbel.size)
        have HT2 := hideIt (HT.out.below hbel2 (Nat.le_refl _))
        go_wp2_with fail
        refine (rsame_any w2 _ _ _ _ _ hown2 (HOr.out.kept h2 (Nat.le_refl _)) (Nat.le_trans hlen (by decide))).mono ?_
        rintro e w3 ⟨rfl, h3⟩
        have hbel3 := hbel2.trans (h3.mono hbel2.size)
        have hown3 := hown2.kept h3 (Nat.le_refl _)
        have HT3 := hideIt (HT.out.below hbel3 (Nat.le_refl _))
        clear h2 h3 hown2 hbel2
        go_wp2_with fail
        refine (count_v b _ HC.out _).mono ?_
        rintro e w' ⟨rfl, rfl⟩
        go_wp2_with fail
        refine (first_v b _ HF.out _ HT3.out).mono ?_
        rintro e w' ⟨rfl, rfl⟩
        rcases hown3.form with ⟨hl2, x2, c2, rfl⟩ | ⟨g2, c2, rfl, hg20, hg21, hne2, hcx, hfx⟩
        · go_wp2
          refine wp_loop_rounds 1 ?_
          rw [rounds_succ]
          go_wp2
          go_roundw
          case rel => exact ⟨k + 1, by omega, by go_num, hbel3⟩
          case measure => simp [intOf]; omega
        · exact absurd rfl hne2
      · go_wp2
        go_ret
        exact ⟨rfl, hb.trans (hbel.mono hb.size)⟩
  · go_wp2
    go_loopw [5, 6, 7] (fun t _ _ wr => ∃ k : Nat, k ≤ 2 ∧ t = .int .i64 k ∧ Below w1.heap.size w1 wr) (fun t _ _ _ => 2 - (intOf t).toNat)
    case atStart => exact ⟨0, by omega, rfl, Below.refl _ _⟩
    case round =>
      obtain ⟨k, hk, rfl, hbel⟩ := hrel
      by_cases hlt : k < 2
      · have HTr := hideIt (HT.out.below hbel (Nat.le_refl _))
        have HOr := hideIt (HO.out.kept hbel (Nat.le_refl _))
        go_wp2_with fail
        refine (list_v b _ HL.out _ HTr.out).mono ?_
        rintro e w2 ⟨v2, rfl, hown2, h2⟩
        have hbel2 := hbel.trans (h2.mono hbel.size)
        have HT2 := hideIt (HT.out.below hbel2 (Nat.le_refl _))
        go_wp2_with fail
        refine (rsame_any w2 _ _ _ _ _ hown2 (HOr.out.kept h2 (Nat.le_refl _)) (Nat.le_trans hlen (by decide))).mono ?_
        rintro e w3 ⟨rfl, h3⟩
        have hbel3 := hbel2.trans (h3.mono hbel2.size)
        have hown3 := hown2.kept h3 (Nat.le_refl _)
        have HT3 := hideIt (HT.out.below hbel3 (Nat.le_refl _))
        clear h2 h3 hown2 hbel2
        go_wp2_with fail
        refine (count_v b _ HC.out _).mono ?_
        rintro e w' ⟨rfl, rfl⟩
        go_wp2_with fail
        refine (first_v b _ HF.out _ HT3.out).mono ?_
        rintro e w' ⟨rfl, rfl⟩
        rcases hown3.form with ⟨hl2, x2, c2, rfl⟩ | ⟨g2, c2, rfl, hg20, hg21, hne2, hcx, hfx⟩
        · exact absurd (by rw [hl2]; rfl) (Nat.ne_of_gt hp)
        · clear hne2 hcx hfx
          have hBw : w1.heap.size ≤ wr.heap.size := hbel.size
          generalize wr.heap.size = B at hown3 hg20 hBw
          go_wp2
          go_loopw [7] (fun i wi => ∃ (m : Nat) (l' : List Int), m ≤ l.length ∧ i = .int .i64 m ∧ l'.length = l.length ∧ OwnsI wi B (.slice (some ⟨g2, 0, none⟩) l.length c2) l' ∧ Below w1.heap.size w1 wi) (fun i _ => l.length - (intOf i).toNat)
          case atStart => exact ⟨0, l, by omega, rfl, rfl, hown3, hbel3⟩
          case round =>
            obtain ⟨m, l', hm, rfl, hll, hown4, hbel4⟩ := hrel
            have HLL := hideIt hll
            have hz4 := hown4
            rcases hown4.form with ⟨hl4, _⟩ | ⟨g4, c4, e4, hg40, hg41, _, hcell4, hfr4⟩
            · rw [hl4] at hll; simp at hll; omega
            simp only [Value.slice.injEq, Option.some.injEq, Addr.mk.injEq, and_true] at e4
            obtain ⟨e5, _, _⟩ := e4
            rw [← e5] at hcell4 hfr4
            by_cases hlt2 : m < l.length
            · have hc4 := hcell4 m (by omega)
              have hf4 := hfr4 m
              generalize l'[m] = x4 at hc4
              have HZ := hideIt (hz4.stored hll m (-7))
              clear hcell4 hfr4 hown4 hz4 e5 hll hown3
              go_wp2
              go_roundw
              case rel => exact ⟨m + 1, _, by omega, by go_num, by rw [List.length_set]; exact HLL.out, HZ.out, hbel4.setCell (by show w1.heap.size ≤ g2; omega) _⟩
              case measure => simp [intOf]; omega
            · clear hcell4 hfr4 hown4 hz4 e5 hll hown3
              go_wp2
              go_roundw
              case rel => exact ⟨k + 1, by omega, by go_num, hbel4⟩
              case measure => simp [intOf]; omega
      · go_wp2
        go_ret
        exact ⟨rfl, hb.trans (hbel.mono hb.size)⟩

end Go.Proofs.YtndijfckmokgbaaDoor
