/- Walks of the reference of board: At, Of, All, Find. -/
import Derived.Test.YtccdelpiflcipaaDoorPA
import Derived.Test.YtccdelpiflcipaaDoorQR
import Derived.Test.YtccdelpiflcipaaDoorR2
import Derived.Test.YtccdelpiflcipaaDoorPE
namespace Go.Proofs.YtccdelpiflcipaaDoor
open Go Go.RowKit

set_option maxHeartbeats 800000 in
theorem rat_any (n : Nat → Int) (s : Int) (w : World) :
    Calls Tryd.prog 30 #[.agg (posA n), .int .i64 s] w fun e w' => e = .returned (.int .u8 (atN n s)) ∧ Below w.heap.size w w' := by
  obtain ⟨X, hX⟩ : ∃ X, w.alloc (.cells (posA n) 31) = X := ⟨_, rfl⟩
  obtain ⟨p0, hb⟩ := box1 w n X hX
  have HX := hideIt hX
  clear hX
  have hc : s < 0 ∨ (0 ≤ s ∧ 63 < s) ∨ (0 ≤ s ∧ s ≤ 63) := by omega
  rcases hc with h0 | ⟨h0, h1⟩ | ⟨h0, h1⟩
  · have E := hideIt (show atN n s = 0 from if_neg (fun h => by omega))
    go_enter Tryd.func30, Tryd.ntmps30
    go_wp2_with (first | rw [HX.out])
    go_ret
    exact ⟨ret_int E.out.symm, hb⟩
  · have E := hideIt (show atN n s = 0 from if_neg (fun h => by omega))
    go_enter Tryd.func30, Tryd.ntmps30
    go_wp2_with (first | rw [HX.out])
    go_ret
    exact ⟨ret_int E.out.symm, hb⟩
  · have a1 := p0.board (1 + s.toNat) (by omega)
    cases hi : isB (n (1 + s.toNat)) with
    | true =>
      have E := hideIt (show atN n s = n (1 + s.toNat) from if_pos ⟨h0, by omega, hi⟩)
      have HI := hideIt hi
      clear hi
      go_enter Tryd.func30, Tryd.ntmps30
      go_wp2_with (first | rw [HX.out])
      refine (ris_any _ _).mono ?_
      rintro e w2 ⟨rfl, h2⟩
      have a1 := (h2.cell (p := ⟨w.heap.size, 1 + s.toNat, none⟩) p0.lt).trans a1
      have hb := hb.trans (h2.mono hb.size)
      clear h2
      rw [HI.out]
      go_wp2
      go_ret
      exact ⟨ret_int E.out.symm, hb⟩
    | false =>
      have E := hideIt (show atN n s = 0 from if_neg (fun h => by rw [hi] at h; exact absurd h.2.2 (by decide)))
      have HI := hideIt hi
      clear hi
      go_enter Tryd.func30, Tryd.ntmps30
      go_wp2_with (first | rw [HX.out])
      refine (ris_any _ _).mono ?_
      rintro e w2 ⟨rfl, h2⟩
      have hb := hb.trans (h2.mono hb.size)
      clear h2
      rw [HI.out]
      go_wp2
      go_ret
      exact ⟨ret_int E.out.symm, hb⟩

theorem isB_pos {x : Int} (h : isB x = true) : (x != 0) = true := by
  rw [isB_iff] at h
  rw [bne, beq_eq_false_iff_ne.2 (by omega)]; rfl
set_option maxHeartbeats 3200000 in
theorem rof2_any (n : Nat → Int) (c kd : Int) (w : World) :
    Calls Tryd.prog 56 #[.agg (posA n), .int .u8 c, .int .u8 kd] w fun e w' => e = .returned (.int .u64 (u (ofN n c kd))) ∧ Below w.heap.size w w' := by
  obtain ⟨X, hX⟩ : ∃ X, w.alloc (.cells (posA n) 31) = X := ⟨_, rfl⟩
  obtain ⟨p0, hb⟩ := box1 w n X hX
  have HX := hideIt hX
  clear hX
  go_enter Tryd.func56, Tryd.ntmps56
  go_wp2_with (first | rw [HX.out])
  go_loopw [7, 8] (fun b i wr => ∃ k : Nat, k ≤ 64 ∧ i = .int .i64 k ∧ b = .int .u64 (u (selN (ofP c kd) n k)) ∧ PosAt wr w.heap.size n ∧ Below w.heap.size w wr) (fun _ i _ => 64 - (intOf i).toNat)
  case atStart => exact ⟨0, by omega, rfl, rfl, p0, hb⟩
  case round =>
    obtain ⟨k, hk, rfl, rfl, pr, hr⟩ := hrel
    by_cases hlt : k < 64
    · obtain ⟨i0, r0⟩ := pr.rules
      have PR := hideIt pr
      clear pr p0 hb
      have S1 := hideIt (fun h : ¬ (isB (n (1 + k)) = true ∧ ofP c kd (n (1 + k)) = true) => (show selN (ofP c kd) n (k + 1) = selN (ofP c kd) n k from if_neg h))
      have S2 := hideIt (fun h : isB (n (1 + k)) = true ∧ ofP c kd (n (1 + k)) = true => (show selN (ofP c kd) n (k + 1) = putB (selN (ofP c kd) n k) k from if_pos h))
      go_wp2_with fail
      refine (rat_any n k _).mono ?_
      rintro e w1 ⟨rfl, h1⟩
      have hr := hr.trans (h1.mono hr.size)
      have pr := PR.out.below h1 PR.out.lt
      clear h1 i0 r0 PR
      have PR := hideIt pr
      clear pr
      cases hi : isB (n (1 + k)) with
      | false =>
        rw [show atN n (k : Int) = 0 from if_neg (fun h => by have h3 := h.2.2; rw [Int.toNat_natCast, hi] at h3; cases h3)]
        have S := hideIt (S1.out (fun h => by rw [hi] at h; exact absurd h.1 (by decide)))
        clear hi S1 S2
        go_wp2
        go_roundw
        case rel => exact ⟨k + 1, by omega, by go_num, by rw [S.out], PR.out, hr⟩
        case measure => simp [intOf]; omega
      | true =>
        rw [show atN n (k : Int) = n (1 + k) from if_pos ⟨by omega, by omega, by rw [Int.toNat_natCast]; exact hi⟩]
        have z := isB_pos hi
        obtain ⟨x, hx⟩ : ∃ x, n (1 + k) = x := ⟨_, rfl⟩
        rw [hx] at z hi S1 S2 ⊢
        clear hx
        cases e1 : (colI x == c) with
        | false =>
          have S := hideIt (S1.out (fun h => by have h2 := h.2; unfold ofP at h2; rw [e1] at h2; cases h2))
          clear hi S1 S2
          go_wp2_with fail
          refine (rcolor_any x _).mono ?_
          rintro e w2 ⟨rfl, h1⟩
          have hr := hr.trans (h1.mono hr.size)
          have PR := hideIt (PR.out.below h1 PR.out.lt)
          clear h1
          go_wp2
          go_roundw
          case rel => exact ⟨k + 1, by omega, by go_num, by rw [S.out], PR.out, hr⟩
          case measure => simp [intOf]; omega
        | true =>
          cases e2 : (kd == 0) with
          | true =>
            have S := hideIt (S2.out ⟨hi, by unfold ofP; rw [e1, e2]; rfl⟩)
            clear hi S1 S2
            go_wp2_with fail
            refine (rcolor_any x _).mono ?_
            rintro e w2 ⟨rfl, h1⟩
            have hr := hr.trans (h1.mono hr.size)
            have PR := hideIt (PR.out.below h1 PR.out.lt)
            clear h1
            go_wp2_with fail
            refine (rput_any _ rfl k _).mono ?_
            rintro e w3 ⟨rfl, rfl⟩
            go_wp2
            go_roundw
            case rel => exact ⟨k + 1, by omega, by go_num, by rw [S.out], PR.out, hr⟩
            case measure => simp [intOf]; omega
          | false =>
            cases e3 : (kndI x == kd) with
            | true =>
              have S := hideIt (S2.out ⟨hi, by unfold ofP; rw [e1, e2, e3]; rfl⟩)
              clear hi S1 S2
              go_wp2_with fail
              refine (rcolor_any x _).mono ?_
              rintro e w2 ⟨rfl, h1⟩
              have hr := hr.trans (h1.mono hr.size)
              have PR := hideIt (PR.out.below h1 PR.out.lt)
              clear h1
              go_wp2_with fail
              refine (rkind_any x _).mono ?_
              rintro e w3 ⟨rfl, h1⟩
              have hr := hr.trans (h1.mono hr.size)
              have PR := hideIt (PR.out.below h1 PR.out.lt)
              clear h1
              go_wp2_with fail
              refine (rput_any _ rfl k _).mono ?_
              rintro e w4 ⟨rfl, rfl⟩
              go_wp2
              go_roundw
              case rel => exact ⟨k + 1, by omega, by go_num, by rw [S.out], PR.out, hr⟩
              case measure => simp [intOf]; omega
            | false =>
              have S := hideIt (S1.out (fun h => by have h2 := h.2; unfold ofP at h2; rw [e1, e2, e3] at h2; cases h2))
              clear hi S1 S2
              go_wp2_with fail
              refine (rcolor_any x _).mono ?_
              rintro e w2 ⟨rfl, h1⟩
              have hr := hr.trans (h1.mono hr.size)
              have PR := hideIt (PR.out.below h1 PR.out.lt)
              clear h1
              go_wp2_with fail
              refine (rkind_any x _).mono ?_
              rintro e w3 ⟨rfl, h1⟩
              have hr := hr.trans (h1.mono hr.size)
              have PR := hideIt (PR.out.below h1 PR.out.lt)
              clear h1
              go_wp2
              go_roundw
              case rel => exact ⟨k + 1, by omega, by go_num, by rw [S.out], PR.out, hr⟩
              case measure => simp [intOf]; omega
    · obtain rfl : k = 64 := by omega
      go_wp2
      go_ret
      exact ⟨rfl, hr⟩

theorem col_cases (x : Int) (h : isB x = true) : ofP 0 0 x = true ∨ ofP 1 0 x = true := by
  rw [isB_iff] at h
  unfold ofP colI
  rcases h with h | h
  · left; rw [if_pos h]; rfl
  · right; rw [if_neg (by omega), if_pos h]; rfl
theorem all_or (n : Nat → Int) : ofN n 0 0 ||| ofN n 1 0 = allN n := by
  apply ext_has'; intro s
  rw [has_or]
  unfold ofN allN
  rw [has_set, has_set, has_set]
  cases hd : decide (0 ≤ s ∧ s < 64) with
  | false => simp
  | true =>
    cases hi : isB (n (1 + s.toNat)) with
    | false => simp
    | true =>
      rcases col_cases _ hi with h | h <;> simp [h]
set_option maxHeartbeats 1600000 in
theorem rbfind_any (n : Nat → Int) (c kd : Int) (w : World) :
    Calls Tryd.prog 34 #[.agg (posA n), .int .u8 c, .int .u8 kd] w fun e w' => e = .returned (.int .i64 (firstB (ofN n c kd))) ∧ Below w.heap.size w w' := by
  obtain ⟨X, hX⟩ : ∃ X, w.alloc (.cells (posA n) 31) = X := ⟨_, rfl⟩
  obtain ⟨p0, hb⟩ := box1 w n X hX
  have HX := hideIt hX
  obtain ⟨i0, r0⟩ := p0.rules
  clear hX
  go_enter Tryd.func34, Tryd.ntmps34
  go_wp2_with (rw [HX.out])
  refine (rof2_any n c kd _).mono ?_
  rintro e w2 ⟨rfl, h1⟩
  have hb := hb.trans (h1.mono hb.size)
  clear h1 i0 r0
  go_wp2_with fail
  refine (rlist_any (ofN n c kd) rfl _).mono ?_
  rintro e w3 ⟨v, rfl, hown, h1⟩
  have hb := hb.trans (h1.mono hb.size)
  clear h1
  have F := hideIt (show firstB (ofN n c kd) = (listB (ofN n c kd)).head?.getD (-1) from rfl)
  obtain ⟨l, hl⟩ : ∃ l, listB (ofN n c kd) = l := ⟨_, rfl⟩
  rw [hl] at hown F
  clear hl
  rcases hown.form with ⟨rfl, x, cc, rfl⟩ | ⟨g, cc, rfl, hg0, hg1, hne, hcell, _⟩
  · go_wp2
    go_ret
    exact ⟨ret_int F.out.symm, hb⟩
  · cases l with
    | nil => exact absurd rfl hne
    | cons y l =>
      have c0 : w3.cell? ⟨g, 0, none⟩ = some (.int .i64 y) := hcell 0 (by simp)
      have hlen : (((y :: l).length : Int) == 0) = false := by rw [beq_eq_false_iff_ne, List.length_cons]; omega
      have hlen2 : 0 < (y :: l).length := by simp
      have hlen3 : (0 : Int) < ((y :: l).length : Int) := by rw [List.length_cons]; omega
      obtain ⟨q, hq⟩ : ∃ q, (y :: l).length = q := ⟨_, rfl⟩
      rw [hq] at hlen hlen2 hlen3 ⊢
      clear hcell hq hne
      go_wp2
      go_ret
      exact ⟨ret_int F.out.symm, hb⟩

end Go.Proofs.YtccdelpiflcipaaDoor
