/- The walk of RulesHave. -/
import Derived.Test.YtpheapolijhgjaaVR
import Derived.Deep.QuietTactic
import Derived.BigQuiet
namespace Go.Proofs.Ytpheapolijhgjaa
open Go Go.RowKit
set_option linter.unusedVariables false

theorem prom_facts (k : Nat) : (promL k = [] ∨ ∃ t, promL k = 2 :: t) ∧ (promL k).length ≤ 5 := by
  unfold promL
  split
  · exact ⟨.inr ⟨_, rfl⟩, by decide⟩
  · split
    · exact ⟨.inr ⟨_, rfl⟩, by decide⟩
    · exact ⟨.inl rfl, by decide⟩

def SameFrom (j : Nat) (l' l : List Int) : Prop := l'.length = l.length ∧ ∀ i, j ≤ i → l'[i]? = l[i]?
theorem SameFrom.step {j : Nat} {l' l : List Int} (h : SameFrom j l' l) (x : Int) : SameFrom (j + 1) (l'.set j x) l :=
  ⟨by rw [List.length_set]; exact h.1, fun i hi => by rw [List.getElem?_set_ne (by omega)]; exact h.2 i (by omega)⟩

set_option maxHeartbeats 1600000 in
theorem rulesHave_walk (a0 a1 : Int) (w0 : (Lit.int .u8 a0).wf = true) (w1 : (Lit.int .u8 a1).wf = true) (w : World) :
    Calls Try.prog 3 #[.int .u8 a0, .int .u8 a1] w fun e w' => e = .returned (.bool true) ∧ Below w.heap.size w w' := by
  obtain ⟨k, rfl, hk⟩ : ∃ k : Nat, a0 = k ∧ k ≤ 255 := by
    simp [Lit.wf] at w0
    have e1 : IntKind.u8.min = 0 := by decide
    have e2 : IntKind.u8.max = 255 := by decide
    exact ⟨a0.toNat, by omega, by omega⟩
  obtain ⟨c, rfl, hc⟩ : ∃ c : Nat, a1 = c ∧ c ≤ 255 := by
    simp [Lit.wf] at w1
    have e1 : IntKind.u8.min = 0 := by decide
    have e2 : IntKind.u8.max = 255 := by decide
    exact ⟨a1.toNat, by omega, by omega⟩
  clear w0 w1
  obtain ⟨hp, hlen⟩ := prom_facts k
  obtain ⟨l, hl⟩ : ∃ l, promL k = l := ⟨_, rfl⟩
  rw [hl] at hp hlen
  have HP := hideIt hp
  have HL := hideIt hl
  clear hp hl
  go_enter Try.func3, Try.ntmps3
  go_wp2_with fail
  refine (vpromotes_any k hk _).mono ?_
  rw [HL.out]
  rintro e w1 ⟨v1, rfl, o1, h1⟩
  go_wp2_with fail
  refine (rpromotes_any k hk _).mono ?_
  rw [HL.out]
  rintro e w2 ⟨v2, rfl, o2, h2⟩
  have hlt1 := World.ownsRow.lt o1
  have o1 := o1.kept h2 (Nat.le_refl _)
  have hb := h1.trans (h2.mono h1.size)
  have hB := h1.size
  clear h1 h2
  rcases o1.form with ⟨rfl, x1, c1, rfl⟩ | ⟨g1, c1, rfl, hg1, hs1, hne, hcell1, hfr1⟩
  · rcases o2.form with ⟨_, x2, c2, rfl⟩ | ⟨g2, c2, rfl, hg2, hs2, hne, hcell2, hfr2⟩
    · clear o1 o2 HP
      go_wp2
      refine wp_loop_rounds 1 ?_
      rw [rounds_succ]
      go_wp2_with fail
      refine (vpromotes_any k hk _).mono ?_
      rw [HL.out]
      rintro e w3 ⟨v3, rfl, o3, h3⟩
      have hb := hb.trans (h3.mono hb.size)
      clear h3
      rcases o3.form with ⟨_, x3, c3, rfl⟩ | ⟨_, _, _, _, _, hne, _⟩
      · clear o3
        go_wp2_with fail
        refine (vroyal_any k c hk hc _).mono ?_
        rintro e w4 ⟨rfl, h4⟩
        have hb := hb.trans (h4.mono hb.size)
        clear h4
        go_wp2_with fail
        refine (rroyal_any k c hk hc _).mono ?_
        rintro e w4 ⟨rfl, rfl⟩
        go_wp2_with fail
        refine (vcastles_any k hk _).mono ?_
        rintro e w4 ⟨rfl, h4⟩
        have hb := hb.trans (h4.mono hb.size)
        clear h4
        go_wp2_with fail
        refine (rcastles_any k hk _).mono ?_
        rintro e w4 ⟨rfl, rfl⟩
        go_wp2_with fail
        refine (vpockets_any k hk _).mono ?_
        rintro e w4 ⟨rfl, h4⟩
        have hb := hb.trans (h4.mono hb.size)
        clear h4
        go_wp2_with fail
        refine (rpockets_any k hk _).mono ?_
        rintro e w4 ⟨rfl, rfl⟩
        go_wp2_with fail
        refine (vpawns_any k hk _).mono ?_
        rintro e w4 ⟨rfl, h4⟩
        have hb := hb.trans (h4.mono hb.size)
        clear h4
        go_wp2_with fail
        refine (rpawns_any k hk _).mono ?_
        rintro e w4 ⟨rfl, rfl⟩
        go_wp2
        go_ret
        exact ⟨rfl, hb⟩
      · exact absurd rfl hne
    · exact absurd rfl hne
  · rcases o2.form with ⟨h0, _⟩ | ⟨g2, c2, rfl, hg2, hs2, _, hcell2, hfr2⟩
    · exact absurd h0 hne
    · clear hcell1 hfr1 hcell2 hfr2
      have hlt1 := hideIt hlt1
      go_wp2
      go_loopw [7] (fun i wi => ∃ (j : Nat) (l' : List Int), j ≤ l.length ∧ i = .int .i64 j ∧ SameFrom j l' l ∧ OwnsU wi w.heap.size (.slice (some ⟨g1, 0, none⟩) l.length c1) l' ∧ OwnsU wi w1.heap.size (.slice (some ⟨g2, 0, none⟩) l.length c2) l ∧ Below w.heap.size w wi) (fun i _ => l.length - (intOf i).toNat)
      case atStart => exact ⟨0, l, by omega, rfl, ⟨rfl, fun _ _ => rfl⟩, o1, o2, hb⟩
      case round =>
        obtain ⟨j, l', hj, rfl, hsame, r1, r2, hb⟩ := hrel
        by_cases hlt : j < l.length
        · obtain ⟨x, hx⟩ : ∃ x, l[j]? = some x := ⟨_, List.getElem?_eq_getElem hlt⟩
          have hx' : l'[j]? = some x := (hsame.2 j (Nat.le_refl _)).trans hx
          have r1e : wr.ownsRow w.heap.size 5 1 (.slice (some ⟨g1, 0, none⟩) l.length c1) l.length (l'.map (Value.int .u8)) := by have h := r1; unfold OwnsU at h; rw [hsame.1] at h; exact h
          have cc1 : wr.cell? ⟨g1, j, none⟩ = some (.int .u8 x) := by
            have := World.ownsRow.cellAt r1e j (by omega)
            rw [this, List.getElem?_map, hx']; rfl
          have cc2 : wr.cell? ⟨g2, j, none⟩ = some (.int .u8 x) := by
            rw [World.ownsRow.cellAt r2 j (by omega), List.getElem?_map, hx]; rfl
          have ff1 := World.ownsRow.frozenAt r1e j
          have HR := hideIt (r1.stored hsame.1 j 99)
          have HS := hideIt (hsame.step 99)
          have HR2 : Hid (OwnsU (wr.setCell ⟨g1, j, none⟩ (.int .u8 99)) w1.heap.size (.slice (some ⟨g2, 0, none⟩) l.length c2) l) := ownsRow_setCell_other r2 (by show some g2 ≠ some g1; intro h; injection h with h; have := (hlt1.out g1 rfl).2; omega) _
          have HB := hideIt (fun nq => (hb.trans (show Below w.heap.size wr (wr.drewN nq) from ⟨rfl, rfl, rfl, Nat.le_refl _, fun _ _ => rfl⟩)).setCell (p := ⟨g1, j, none⟩) hg1 (.int .u8 99))
          clear r1e r1 r2 hsame hx hx' hb
          go_wp2
          go_quiet (fail)
          go_wp2
          go_roundw
          case rel => exact ⟨j + 1, _, by omega, by go_num, HS.out, HR.out, HR2.out, HB.out _⟩
          case measure => simp [intOf]; omega
        · clear r1 r2
          go_wp2_with fail
          refine (vpromotes_any k hk _).mono ?_
          rw [HL.out]
          rintro e w3 ⟨v3, rfl, o3, h3⟩
          have hb := hb.trans (h3.mono hb.size)
          clear h3
          rcases o3.form with ⟨h0, _⟩ | ⟨g3, c3, rfl, hg3, hs3, _, hcell3, _⟩
          · exact absurd h0 hne
          · have hx : w3.cell? ⟨g3, 0, none⟩ = some (.int .u8 2) := by
              rcases HP.out with h | ⟨t, rfl⟩
              · exact absurd h hne
              · exact hcell3 0 (by simp)
            have hpos : 0 < l.length := by
              rcases Nat.eq_zero_or_pos l.length with h | h
              · exact absurd (List.length_eq_zero_iff.1 h) hne
              · exact h
            clear o3 hcell3
            go_wp2_with fail
            refine (vroyal_any k c hk hc _).mono ?_
            rintro e w4 ⟨rfl, h4⟩
            have hb := hb.trans (h4.mono hb.size)
            clear h4
            go_wp2_with fail
            refine (rroyal_any k c hk hc _).mono ?_
            rintro e w4 ⟨rfl, rfl⟩
            go_wp2_with fail
            refine (vcastles_any k hk _).mono ?_
            rintro e w4 ⟨rfl, h4⟩
            have hb := hb.trans (h4.mono hb.size)
            clear h4
            go_wp2_with fail
            refine (rcastles_any k hk _).mono ?_
            rintro e w4 ⟨rfl, rfl⟩
            go_wp2_with fail
            refine (vpockets_any k hk _).mono ?_
            rintro e w4 ⟨rfl, h4⟩
            have hb := hb.trans (h4.mono hb.size)
            clear h4
            go_wp2_with fail
            refine (rpockets_any k hk _).mono ?_
            rintro e w4 ⟨rfl, rfl⟩
            go_wp2_with fail
            refine (vpawns_any k hk _).mono ?_
            rintro e w4 ⟨rfl, h4⟩
            have hb := hb.trans (h4.mono hb.size)
            clear h4
            go_wp2_with fail
            refine (rpawns_any k hk _).mono ?_
            rintro e w4 ⟨rfl, rfl⟩
            go_wp2
            go_ret
            exact ⟨rfl, hb⟩

end Go.Proofs.Ytpheapolijhgjaa
