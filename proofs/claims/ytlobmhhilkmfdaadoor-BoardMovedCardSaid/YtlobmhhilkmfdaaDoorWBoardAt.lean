/- The walk of BoardAt. -/
import Derived.Test.YtlobmhhilkmfdaaDoorAw6
namespace Go.Proofs.YtlobmhhilkmfdaaDoor
open Go Go.RowKit

def wantB (x c k : Int) : Bool := (x != 0) && (colI x == c) && (k == 0 || kndI x == k)
theorem at_bd {n : Nat → Int} (hn : PosOk n) (s : Int) : 0 ≤ atN n s ∧ atN n s ≤ 255 := by
  unfold atN
  split
  · rename_i h; exact hn.u8 _ (by omega) (kind_board (by omega))
  · omega
theorem has_of (n : Nat → Int) (s c k : Int) : hasB (ofN n c k) s = wantB (atN n s) c k := by
  unfold ofN
  rw [has_set]
  unfold wantB atN
  by_cases hs : 0 ≤ s ∧ s < 64
  · cases hi : isB (n (1 + s.toNat)) with
    | true =>
      rw [if_pos ⟨hs.1, hs.2, rfl⟩, isB_pos hi, decide_eq_true hs]
      unfold ofP
      simp
    | false => rw [if_neg (fun h => by cases h.2.2)]; simp
  · rw [if_neg (fun h => hs ⟨h.1, h.2.1⟩), decide_eq_false hs]; simp
theorem has_all (n : Nat → Int) (s : Int) : hasB (allN n) s = (atN n s != 0) := by
  unfold allN
  rw [has_set]
  unfold atN
  by_cases hs : 0 ≤ s ∧ s < 64
  · cases hi : isB (n (1 + s.toNat)) with
    | true => rw [if_pos ⟨hs.1, hs.2, rfl⟩, isB_pos hi, decide_eq_true hs]; rfl
    | false => rw [if_neg (fun h => by cases h.2.2)]; simp
  · rw [if_neg (fun h => hs ⟨h.1, h.2.1⟩), decide_eq_false hs]; simp

set_option maxHeartbeats 4000000 in
theorem boardAt_walk (n : Nat → Int) (a1 : Int) (w0 : PosOk n) (_w1 : (Lit.int .i64 a1).wf = true) (w : World) (hT : Tab w) :
    Calls Tryd.prog 6 #[.agg (posA n), .int .i64 a1] w fun e w' => e = .returned (.bool true) ∧ Below w.heap.size w w' := by
  obtain ⟨X, hX⟩ : ∃ X, w.alloc (.cells (posA n) 31) = X := ⟨_, rfl⟩
  obtain ⟨p0, hb⟩ := box1 w n X hX
  have HX := hideIt hX
  have hT := hT.below hb (Nat.le_refl _)
  have HW := hideIt (has_of n a1)
  have HA := hideIt (has_all n a1)
  have B := at_bd w0 a1
  clear hX
  go_enter Tryd.func6, Tryd.ntmps6
  go_wp2_with (first | rw [HX.out])
  refine (awake_any _ hT).mono ?_
  rintro e w1 ⟨rfl, h1⟩
  have p0 := p0.below h1 p0.lt
  have hb := hb.trans (h1.mono hb.size)
  clear h1 hT
  obtain ⟨i0, r0⟩ := p0.rules
  go_wp2_with fail
  refine (at_any n w0 a1 _).mono ?_
  rintro e w2 ⟨rfl, h1⟩
  have p0 := p0.below h1 p0.lt
  have hb := hb.trans (h1.mono hb.size)
  clear h1 i0 r0
  obtain ⟨x, hx⟩ : ∃ x, atN n a1 = x := ⟨_, rfl⟩
  rw [hx] at HW HA B ⊢
  clear hx
  obtain ⟨x0, x1⟩ := B
  go_wp2
  go_loopw [6] (fun cv wr => ∃ c : Nat, c ≤ 3 ∧ cv = .int .u8 c ∧ PosAt wr w.heap.size n ∧ Below w.heap.size w wr) (fun cv _ => 3 - (intOf cv).toNat)
  case atStart => exact ⟨0, by omega, rfl, p0, hb⟩
  case round =>
    obtain ⟨c, hc, rfl, pr, hr⟩ := hrel
    clear p0 hb
    by_cases hlc : c < 3
    · have dc : decide ((c : Int) < 3) = true := decide_eq_true (by omega)
      obtain ⟨wo, hwo⟩ : ∃ wo : World, wo = wr := ⟨_, rfl⟩
      subst hwo
      go_wp2
      go_loopw [7] (fun kv wi => ∃ k : Nat, k ≤ 8 ∧ kv = .int .u8 k ∧ PosAt wi w.heap.size n ∧ Below w.heap.size w wi) (fun kv _ => 8 - (intOf kv).toNat)
      case atStart => exact ⟨0, by omega, rfl, pr, hr⟩
      case round =>
        obtain ⟨k, hk, rfl, pr, hr⟩ := hrel
        by_cases hlk : k < 8
        · obtain ⟨i0, r0⟩ := pr.rules
          have PR := hideIt pr
          clear pr
          cases e0 : (x != 0) with
          | false =>
            have hw : wantB x c k = false := by unfold wantB; rw [e0]; rfl
            have HH := hideIt ((HW.out c k).trans hw)
            clear hw
            go_wp2_with fail
            refine (of_any n w0 c k _).mono ?_
            rintro e w3 ⟨rfl, h1⟩
            have hr := hr.trans (h1.mono hr.size)
            have PR := hideIt (PR.out.below h1 PR.out.lt)
            clear h1 i0 r0
            go_wp2_with fail
            refine (has_any (ofN n c k) rfl a1 _).mono ?_
            rintro e w4 ⟨rfl, rfl⟩
            rw [HH.out]
            go_wp2
            go_roundw
            case rel => exact ⟨k + 1, by omega, by go_num, PR.out, hr⟩
            case measure => simp [intOf]; omega

          | true =>
            cases e1 : (colI x == (c : Int)) with
            | false =>
              have hw : wantB x c k = false := by unfold wantB; rw [e0, e1]; rfl
              have HH := hideIt ((HW.out c k).trans hw)
              clear hw
              go_wp2_with (first | (go_at_call 25; refine (color_any x x0 x1 _).mono ?_; rintro e w2 ⟨rfl, rfl⟩))
              refine (of_any n w0 c k _).mono ?_
              rintro e w3 ⟨rfl, h1⟩
              have hr := hr.trans (h1.mono hr.size)
              have PR := hideIt (PR.out.below h1 PR.out.lt)
              clear h1 i0 r0
              go_wp2_with fail
              refine (has_any (ofN n c k) rfl a1 _).mono ?_
              rintro e w4 ⟨rfl, rfl⟩
              rw [HH.out]
              go_wp2
              go_roundw
              case rel => exact ⟨k + 1, by omega, by go_num, PR.out, hr⟩
              case measure => simp [intOf]; omega

            | true =>
              cases e2 : ((k : Int) == 0) with
              | true =>
                have hw : wantB x c k = true := by unfold wantB; rw [e0, e1, e2]; rfl
                have HH := hideIt ((HW.out c k).trans hw)
                clear hw
                go_wp2_with (first | (go_at_call 25; refine (color_any x x0 x1 _).mono ?_; rintro e w2 ⟨rfl, rfl⟩))
                refine (of_any n w0 c k _).mono ?_
                rintro e w3 ⟨rfl, h1⟩
                have hr := hr.trans (h1.mono hr.size)
                have PR := hideIt (PR.out.below h1 PR.out.lt)
                clear h1 i0 r0
                go_wp2_with fail
                refine (has_any (ofN n c k) rfl a1 _).mono ?_
                rintro e w4 ⟨rfl, rfl⟩
                rw [HH.out]
                go_wp2
                go_roundw
                case rel => exact ⟨k + 1, by omega, by go_num, PR.out, hr⟩
                case measure => simp [intOf]; omega

              | false =>
                cases e3 : (kndI x == (k : Int)) with
                | true =>
                  have hw : wantB x c k = true := by unfold wantB; rw [e0, e1, e2, e3]; rfl
                  have HH := hideIt ((HW.out c k).trans hw)
                  clear hw
                  go_wp2_with (first | (go_at_call 25; refine (color_any x x0 x1 _).mono ?_; rintro e w2 ⟨rfl, rfl⟩) | (go_at_call 26; refine (kind_any x x0 x1 _).mono ?_; rintro e w2 ⟨rfl, rfl⟩))
                  refine (of_any n w0 c k _).mono ?_
                  rintro e w3 ⟨rfl, h1⟩
                  have hr := hr.trans (h1.mono hr.size)
                  have PR := hideIt (PR.out.below h1 PR.out.lt)
                  clear h1 i0 r0
                  go_wp2_with fail
                  refine (has_any (ofN n c k) rfl a1 _).mono ?_
                  rintro e w4 ⟨rfl, rfl⟩
                  rw [HH.out]
                  go_wp2
                  go_roundw
                  case rel => exact ⟨k + 1, by omega, by go_num, PR.out, hr⟩
                  case measure => simp [intOf]; omega

                | false =>
                  have hw : wantB x c k = false := by unfold wantB; rw [e0, e1, e2, e3]; rfl
                  have HH := hideIt ((HW.out c k).trans hw)
                  clear hw
                  go_wp2_with (first | (go_at_call 25; refine (color_any x x0 x1 _).mono ?_; rintro e w2 ⟨rfl, rfl⟩) | (go_at_call 26; refine (kind_any x x0 x1 _).mono ?_; rintro e w2 ⟨rfl, rfl⟩))
                  refine (of_any n w0 c k _).mono ?_
                  rintro e w3 ⟨rfl, h1⟩
                  have hr := hr.trans (h1.mono hr.size)
                  have PR := hideIt (PR.out.below h1 PR.out.lt)
                  clear h1 i0 r0
                  go_wp2_with fail
                  refine (has_any (ofN n c k) rfl a1 _).mono ?_
                  rintro e w4 ⟨rfl, rfl⟩
                  rw [HH.out]
                  go_wp2
                  go_roundw
                  case rel => exact ⟨k + 1, by omega, by go_num, PR.out, hr⟩
                  case measure => simp [intOf]; omega

        · obtain rfl : k = 8 := by omega
          go_wp2
          go_roundw
          case rel => exact ⟨c + 1, by omega, by go_num, pr, hr⟩
          case measure => simp [intOf]; omega
    · obtain rfl : c = 3 := by omega
      obtain ⟨i0, r0⟩ := pr.rules
      go_wp2_with fail
      refine (ball_any n w0 _).mono ?_
      rintro e w3 ⟨rfl, h1⟩
      have hr := hr.trans (h1.mono hr.size)
      clear h1 i0 r0
      go_wp2_with fail
      refine (has_any (allN n) rfl a1 _).mono ?_
      rintro e w4 ⟨rfl, rfl⟩
      rw [HA.out]
      go_wp2
      go_ret
      exact ⟨ret_bool (by cases (x != 0) <;> rfl), hr⟩

end Go.Proofs.YtlobmhhilkmfdaaDoor
