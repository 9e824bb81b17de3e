/- Walks of board: At, set, Of, All, Find, Count. -/
import Derived.Test.YtkkabacdiefabaaDoorPB
import Derived.Test.YtkkabacdiefabaaDoorB3
import Derived.Test.YtkkabacdiefabaaDoorQ
import Derived.Deep.QuietTactic
import Derived.BigQuiet
namespace Go.Proofs.YtkkabacdiefabaaDoor
open Go Go.RowKit

def atN (n : Nat → Int) (s : Int) : Int := if 0 ≤ s ∧ s < 64 ∧ isB (n (1 + s.toNat)) = true then n (1 + s.toNat) else 0
def selN (p : Int → Bool) (n : Nat → Int) : Nat → BitVec 64
  | 0 => 0#64
  | k + 1 => if isB (n (1 + k)) = true ∧ p (n (1 + k)) = true then putB (selN p n k) k else selN p n k
def ofP (c k : Int) (x : Int) : Bool := colI x == c && (k == 0 || kndI x == k)
def setN (p : Int → Bool) (n : Nat → Int) : BitVec 64 := selN p n 64
def ofN (n : Nat → Int) (c k : Int) : BitVec 64 := setN (ofP c k) n
def allN (n : Nat → Int) : BitVec 64 := setN (fun _ => true) n
theorem has_selN (p : Int → Bool) (n : Nat → Int) (s : Int) : ∀ k : Nat, k ≤ 64 → hasB (selN p n k) s = (decide (0 ≤ s ∧ s < k) && isB (n (1 + s.toNat)) && p (n (1 + s.toNat)))
  | 0, _ => by
    show hasB 0#64 s = _
    rw [has_zero, decide_eq_false (by omega)]; rfl
  | k + 1, hk => by
    have ih := has_selN p n s k (by omega)
    by_cases e : s = k
    · subst e
      have e1 : (1 : Nat) + (k : Int).toNat = 1 + k := by omega
      rw [e1, decide_eq_true (by omega), Bool.true_and]
      show hasB (if _ then _ else _) _ = _
      split
      · rename_i h
        rw [has_put, decide_eq_true (by omega), Bool.or_true, h.1, h.2]; rfl
      · rename_i h
        rw [ih, decide_eq_false (by omega), Bool.false_and, Bool.false_and]
        cases h1 : isB (n (1 + k)) with
        | false => rfl
        | true =>
          cases h2 : p (n (1 + k)) with
          | false => rfl
          | true => exact absurd ⟨h1, h2⟩ h
    · have ed : decide (0 ≤ s ∧ s < ((k + 1 : Nat) : Int)) = decide (0 ≤ s ∧ s < (k : Int)) := by
        rw [decide_eq_decide]; omega
      rw [ed, ← ih]
      show hasB (if _ then _ else _) _ = _
      split
      · rw [has_put]; simp [e]
      · rfl
theorem has_set (p : Int → Bool) (n : Nat → Int) (s : Int) : hasB (setN p n) s = (decide (0 ≤ s ∧ s < 64) && isB (n (1 + s.toNat)) && p (n (1 + s.toNat))) := has_selN p n s 64 (by decide)


/-- A row of a position's numbers. -/
def rowN (n : Nat → Int) (o k : Nat) : List Value := (List.range k).map (fun j => cellP n (o + j))
theorem PosAt.range {w : World} {g : Nat} {n : Nat → Int} (h : PosAt w g n) (o k : Nat) (hk : o + k ≤ 88) : w.rangeAt g o (rowN n o k) := by
  intro j v hv
  unfold rowN at hv
  have hj : j < k := by
    have := (List.getElem?_eq_some_iff.1 hv).1
    simpa using this
  rw [List.getElem?_map, List.getElem?_range hj] at hv
  cases hv
  exact h.cell (o + j) (by omega)

theorem blN (w : World) (k : Nat) : Below w.heap.size w (w.drewN k) := (Below.refl _ _).trans ⟨rfl, rfl, rfl, Nat.le_refl _, fun _ _ => rfl⟩


theorem size_board (n : Nat → Int) : (Tryd.prog.info? 22).map (·.size) = some (rowN n 1 64).length := by
  unfold rowN
  rw [List.length_map, List.length_range]; kernel_rfl
theorem index_board (n : Nat → Int) (k : Nat) (hk : k < 64) (w : World) : (Instr.index 22 (.agg (rowN n 1 64).toArray) (.int .i64 (k : Int))).run Tryd.prog w = .ok (.int .u8 (n (1 + k))) w := by
  have hc : (rowN n 1 64)[k]? = some (.int .u8 (n (1 + k))) := by
    unfold rowN
    rw [List.getElem?_map, List.getElem?_range hk]
    show some (cellP n (1 + k)) = _
    unfold cellP
    rw [kind_board (by omega)]
  simp [Instr.index, part, go_sem, hc]
  intro h; omega


theorem all1_any (x : Int) (w : World) : Calls Tryd.prog 28 #[.int .u8 x] w fun e w' => e = .returned (.bool true) ∧ w = w' := by
  go_enter Tryd.func28, Tryd.ntmps28
  go_wp2
  go_ret
  exact ⟨rfl, rfl⟩

set_option maxHeartbeats 1600000 in
theorem set_all (n : Nat → Int) (hn : PosOk n) (w : World) :
    Calls Tryd.prog 27 #[.agg (posA n), .func (.func 28) #[] #[]] w fun e w' => e = .returned (.int .u64 (u (setN (fun _ => true) n))) ∧ Below w.heap.size w w' := by
  obtain ⟨X, hX⟩ : ∃ X, w.alloc (.cells (posA n) 31) = X := ⟨_, rfl⟩
  obtain ⟨p0, hb⟩ := box1 w n X hX
  have HX := hideIt hX
  clear hX
  go_enter Tryd.func27, Tryd.ntmps27
  go_wp2_with (first | rw [HX.out] | (refine wpList_load_mid (by rfl) 22 _ rfl w.heap.size 1 rfl (rowN n 1 64) _ (p0.range 1 64 (by decide)) Tryd.underlying22 rfl (size_board n) ?_))
  clear p0
  go_loopw [5, 10] (fun b i wr => ∃ k : Nat, k ≤ 64 ∧ i = .int .i64 k ∧ b = .int .u64 (u (selN (fun _ => true) n k)) ∧ Below w.heap.size w wr) (fun _ i _ => 64 - (intOf i).toNat)
  case atStart => exact ⟨0, by omega, rfl, rfl, hb⟩
  case round =>
    obtain ⟨k, hk, rfl, rfl, hr⟩ := hrel
    by_cases hlt : k < 64
    · have ix := index_board n k hlt
      obtain ⟨v0, v1⟩ := hn.u8 (1 + k) (by omega) (kind_board (by omega))
      cases hi : isB (n (1 + k)) with
      | false =>
        have S := hideIt (show selN (fun _ => true) n (k + 1) = selN (fun _ => true) n k from if_neg (fun h => by rw [hi] at h; exact absurd h.1 (by decide)))
        have HI := hideIt hi
        clear hi
        go_wp2_with (first | (go_at_call 36; refine (is_any _ v0 v1 _).mono ?_; rintro e w2 ⟨rfl, rfl⟩; rw [HI.out]))
        go_roundw
        case rel => exact ⟨k + 1, by omega, by go_num, by rw [S.out], hr⟩
        case measure => simp [intOf]; omega
      | true =>
        have hp : (fun _ : Int => true) (n (1 + k)) = true := rfl
        · have S := hideIt (show selN (fun _ => true) n (k + 1) = putB (selN (fun _ => true) n k) k from if_pos ⟨hi, hp⟩)
          have HI := hideIt hi
          clear hi hp
          go_wp2_with (first | (go_at_call 36; refine (is_any _ v0 v1 _).mono ?_; rintro e w2 ⟨rfl, rfl⟩; rw [HI.out]))
          refine (all1_any (n (1 + k)) _).mono ?_
          rintro e w3 ⟨rfl, rfl⟩
          go_wp2_with fail
          refine (put_any (selN (fun _ => true) n k) rfl k _).mono ?_
          rintro e w4 ⟨rfl, rfl⟩
          go_wp2
          go_roundw
          case rel => exact ⟨k + 1, by omega, by go_num, by rw [S.out], hr⟩
          case measure => simp [intOf]; omega
    · obtain rfl : k = 64 := by omega
      go_wp2
      go_ret
      exact ⟨rfl, hr⟩


set_option maxHeartbeats 1600000 in
theorem ball_any (n : Nat → Int) (hn : PosOk n) (w : World) :
    Calls Tryd.prog 20 #[.agg (posA n)] w fun e w' => e = .returned (.int .u64 (u (allN n))) ∧ Below w.heap.size w w' := by
  obtain ⟨X, hX⟩ : ∃ X, w.alloc (.cells (posA n) 31) = X := ⟨_, rfl⟩
  obtain ⟨p0, hb⟩ := box1 w n X hX
  have HX := hideIt hX
  obtain ⟨i0, r0⟩ := p0.rules
  clear hX
  go_enter Tryd.func20, Tryd.ntmps20
  go_wp2_with (rw [HX.out])
  refine (set_all n hn _).mono ?_
  rintro e w2 ⟨rfl, h1⟩
  have hb := hb.trans (h1.mono hb.size)
  clear h1
  go_wp2
  go_ret
  exact ⟨rfl, hb⟩



end Go.Proofs.YtkkabacdiefabaaDoor
