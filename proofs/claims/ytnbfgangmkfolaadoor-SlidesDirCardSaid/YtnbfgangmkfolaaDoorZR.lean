/- Walks of the reference of slides. -/
import Derived.Test.YtnbfgangmkfolaaDoorYR
import Derived.Test.YtnbfgangmkfolaaDoorZ
namespace Go.Proofs.YtnbfgangmkfolaaDoor
open Go Go.RowKit

theorem see_stop (occ : BitVec 64) : ∀ (l : List Int) (k : Nat) (hk : k < l.length), (∀ j (hj : j < l.length), j < k → hasB occ l[j] = false) → hasB occ l[k] = true → seeL occ l = l.take (k + 1)
  | [], k, hk, _, _ => absurd hk (Nat.not_lt_zero k)
  | x :: l, 0, _, _, h => by
    have h' : hasB occ x = true := h
    rw [seeL, if_pos h']; rfl
  | x :: l, k + 1, hk, hj, h => by
    have h0 : hasB occ x = false := hj 0 (by simp) (by omega)
    rw [seeL, if_neg (by rw [h0]; decide), see_stop occ l k (by simpa using hk) (fun j hj' hjk => hj (j + 1) (by simp; omega) (by omega)) h]; rfl
theorem see_all (occ : BitVec 64) : ∀ (l : List Int), (∀ j (hj : j < l.length), hasB occ l[j] = false) → seeL occ l = l
  | [], _ => rfl
  | x :: l, h => by
    have h0 : hasB occ x = false := h 0 (by simp)
    rw [seeL, if_neg (by rw [h0]; decide), see_all occ l (fun j hj => h (j + 1) (by simp; omega))]

set_option maxHeartbeats 1600000 in
theorem rdir_any (s d : Int) (occ : BitVec 64) {a : Int} (ha : a = u occ) (w : World) :
    Calls Tryd.prog 12 #[.int .i64 s, .int .i64 d, .int .u64 a] w fun e w' => e = .returned (.int .u64 (u (dirB s d occ))) ∧ Below w.heap.size w w' := by
  subst ha
  have W7 := walk_len s d
  have HD := hideIt (show foldPut idI (seeL occ (walkL s d)) = dirB s d occ from rfl)
  go_enter Tryd.func12, Tryd.ntmps12
  go_wp2_with fail
  refine (rwalk_any s d _).mono ?_
  rintro e w1 ⟨v, rfl, hown, hb⟩
  obtain ⟨x, c, rfl, hc⟩ := owns_cells hown
  clear hown
  obtain ⟨l, hl⟩ : ∃ l, walkL s d = l := ⟨_, rfl⟩
  rw [hl] at hc HD W7 ⊢
  clear hl
  rcases hc with hnil | ⟨g, hx, hc⟩
  · subst hnil
    go_wp2
    refine wp_loop_rounds 1 ?_
    rw [rounds_succ]
    go_wp2
    go_ret
    exact ⟨ret_u HD.out, hb⟩
  · subst hx
    have HC := hideIt hc
    clear hc
    obtain ⟨n, hn2⟩ : ∃ n, l.length = n := ⟨_, rfl⟩
    rw [hn2] at W7 ⊢
    have HLn := hideIt hn2
    clear hn2
    go_wp2
    go_loop [7, 9] (fun y i => ∃ m : Nat, m ≤ n ∧ i = .int .i64 m ∧ y = .int .u64 (u (foldPut (fun x => x) (l.take m))) ∧ Hid (∀ j (hj : j < l.length), j < m → hasB occ l[j] = false)) (fun _ i => n - (intOf i).toNat)
    case atStart => exact ⟨0, by omega, rfl, rfl, fun j hj h => absurd h (Nat.not_lt_zero j)⟩
    case round =>
      obtain ⟨m, hm, rfl, rfl, hq⟩ := hrel
      by_cases hmn : m < n
      · have hml : m < l.length := by rw [HLn.out]; exact hmn
        have hcell := HC.out m hml
        have HF := hideIt (foldPut_take (fun x => x) l m hml)
        cases hh : hasB occ l[m] with
        | true =>
          have HS := hideIt (see_stop occ l m hml hq.out hh)
          have HH := hideIt hh
          clear hh
          obtain ⟨y, hy⟩ : ∃ y, l[m] = y := ⟨_, rfl⟩
          rw [hy] at hcell HF HH
          clear hy
          go_wp2_with fail
          refine (rput_any _ rfl y _).mono ?_
          rintro e w3 ⟨rfl, rfl⟩
          go_wp2_with fail
          refine (rhas_any occ rfl y _).mono ?_
          rintro e w3 ⟨rfl, rfl⟩
          rw [HH.out]
          go_wp2
          go_ret
          exact ⟨ret_u (by rw [← HD.out, HS.out]; exact HF.out.symm), hb⟩
        | false =>
          have HQ : Hid (∀ j (hj : j < l.length), j < m + 1 → hasB occ l[j] = false) := by
            intro j hj h
            by_cases e : j = m
            · subst e; exact hh
            · exact hq.out j hj (by omega)
          have HH := hideIt hh
          clear hh
          obtain ⟨y, hy⟩ : ∃ y, l[m] = y := ⟨_, rfl⟩
          rw [hy] at hcell HF HH
          clear hy
          go_wp2_with fail
          refine (rput_any _ rfl y _).mono ?_
          rintro e w3 ⟨rfl, rfl⟩
          go_wp2_with fail
          refine (rhas_any occ rfl y _).mono ?_
          rintro e w3 ⟨rfl, rfl⟩
          rw [HH.out]
          go_wp2
          go_round
          case rel => exact ⟨m + 1, by omega, by go_num, by rw [HF.out], HQ⟩
          case measure => simp [intOf]; omega
      · obtain rfl : m = n := by omega
        have HS := hideIt (see_all occ l (fun j hj => hq.out j hj (by have := HLn.out; omega)))
        go_wp2
        go_ret
        exact ⟨ret_u (by rw [← HD.out, HS.out, ← HLn.out, List.take_length]; rfl), hb⟩

end Go.Proofs.YtnbfgangmkfolaaDoor
