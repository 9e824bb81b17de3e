/- Plain laws of first positions: the boards of both, the 960 rows. -/
import Derived.Test.YtpheapolijhgjaaV9
namespace Go.Proofs.Ytpheapolijhgjaa
open Go Go.RowKit
set_option linter.unusedVariables false

def bdN (l : Nat → Int) (k : Nat) (i : Nat) : Int :=
  if 1 ≤ i ∧ i < 1 + k then l (i - 1) else if 9 ≤ i ∧ i < 9 + k then 1 else if 49 ≤ i ∧ i < 49 + k then 9 else if 57 ≤ i ∧ i < 57 + k then 8 + l (i - 57) else 0
theorem men_bd (l n : Nat → Int) (k : Nat) (hk : k < 8) (i : Nat) (h : n i = bdN l k i) : menK l n k i = bdN l (k + 1) i := by
  unfold menK upd
  by_cases h1 : i = 1 + (48 + k)
  · rw [if_pos h1]; unfold bdN; rw [if_neg (by omega), if_neg (by omega), if_pos (by omega)]
  · rw [if_neg h1]
    by_cases h2 : i = 1 + (56 + k)
    · rw [if_pos h2]; unfold bdN; rw [if_neg (by omega), if_neg (by omega), if_neg (by omega), if_pos (by omega), show i - 57 = k by omega]
    · rw [if_neg h2]
      by_cases h3 : i = 1 + (8 + k)
      · rw [if_pos h3]; unfold bdN; rw [if_neg (by omega), if_pos (by omega)]
      · rw [if_neg h3]
        by_cases h4 : i = 1 + k
        · rw [if_pos h4]; unfold bdN; rw [if_pos (by omega), show i - 1 = k by omega]
        · rw [if_neg h4, h]
          unfold bdN
          have e1 : (1 ≤ i ∧ i < 1 + k) ↔ (1 ≤ i ∧ i < 1 + (k + 1)) := by omega
          have e2 : (9 ≤ i ∧ i < 9 + k) ↔ (9 ≤ i ∧ i < 9 + (k + 1)) := by omega
          have e3 : (49 ≤ i ∧ i < 49 + k) ↔ (49 ≤ i ∧ i < 49 + (k + 1)) := by omega
          have e4 : (57 ≤ i ∧ i < 57 + k) ↔ (57 ≤ i ∧ i < 57 + (k + 1)) := by omega
          simp only [e1, e2, e3, e4]
theorem rook_bd (m : Nat → Int) (k i : Nat) (h : i < 79) : rookK m k i = m i := by
  unfold rookK upd sideI
  split <;> (rw [if_neg (by omega), if_neg (by omega)])
theorem both_bdK (v : Nat) (l : Nat → Int) : ∀ k, k ≤ 8 → ∀ i, 1 ≤ i → i ≤ 64 → bothK v l k i = bdN l k i
  | 0, _, i, h1, h2 => by
    unfold bothK noneN bdN
    rw [if_neg (by omega), if_neg (by omega), if_neg (by omega), if_neg (by omega), if_neg (by omega), if_neg (by omega), if_neg (by omega), if_neg (by omega), if_neg (by omega), if_neg (by omega), if_neg (by omega)]
  | k + 1, hk, i, h1, h2 => by
    have ih := both_bdK v l k (by omega) i h1 h2
    have := men_bd l (bothK v l k) k (by omega) i ih
    unfold bothK
    split
    · rw [rook_bd _ _ _ (by omega)]; exact this
    · exact this
theorem both_bd (v : Nat) (l : Nat → Int) (i : Nat) (h1 : 1 ≤ i) (h2 : i ≤ 64) : bothN v l i = bdN l 8 i := both_bdK v l 8 (Nat.le_refl 8) i h1 h2

theorem row7_in : ∀ n : Fin 960, ∀ f : Fin 8, 2 ≤ row7 n.val f.val ∧ row7 n.val f.val ≤ 6 := by decide +kernel

/-- Which number a row has. -/
def rowL (l : Nat → Int) : List Int := (List.range 8).map l
def decR (L : List Int) : Nat :=
  let no : List Int := L.filter fun x => x != 3
  let q := no.findIdx fun x => x == 5
  let b1 := if L.getD 1 0 = 3 then 0 else if L.getD 3 0 = 3 then 1 else if L.getD 5 0 = 3 then 2 else 3
  let b0 := if L.getD 0 0 = 3 then 0 else if L.getD 2 0 = 3 then 1 else if L.getD 4 0 = 3 then 2 else 3
  let ro : List Int := no.filter fun x => x != 5
  let x := ro.findIdx fun x => x == 2
  let y := 4 - (ro.reverse.findIdx fun x => x == 2)
  let pr : Nat := if x = 0 then y - 1 else if x = 1 then y + 2 else if x = 2 then y + 4 else 9
  b1 + 4 * b0 + 16 * q + 96 * pr
theorem decR_row : ∀ n : Fin 960, decR (rowL (row7 n.val)) = n.val := by decide +kernel
theorem rowL_congr {l m : Nat → Int} (h : ∀ k, k < 8 → l k = m k) : rowL l = rowL m :=
  List.map_congr_left fun k hk => h k (List.mem_range.1 hk)
theorem start960_inj {a b : Nat} (ha : a < 960) (hb : b < 960) (h : ∀ i, i < 88 → start960N a i = start960N b i) : a = b := by
  have e : rowL (row7 a) = rowL (row7 b) := rowL_congr fun k hk => by
    have h1 := h (1 + k) (by omega)
    unfold start960N at h1
    rw [both_bd _ _ _ (by omega) (by omega), both_bd _ _ _ (by omega) (by omega)] at h1
    unfold bdN at h1
    rwa [if_pos (by omega), if_pos (by omega), show 1 + k - 1 = k by omega] at h1
  exact (decR_row ⟨a, ha⟩).symm.trans ((congrArg decR e).trans (decR_row ⟨b, hb⟩))
theorem eq960 {a b : Nat} (ha : a < 960) (hb : b < 960) : eqP (start960N a) (start960N b) = ((a : Int) == b) := by
  rw [Bool.eq_iff_iff, eqP_iff, beq_iff_eq]
  constructor
  · intro h; rw [start960_inj ha hb h]
  · intro h i _; rw [show a = b by omega]

/-- The files on which a piece stands; how many; the last one. -/
def filesL (l : Nat → Int) (v : Int) : Nat → List Int
  | 0 => []
  | k + 1 => if l k = v then filesL l v k ++ [(k : Int)] else filesL l v k
def cntR (l : Nat → Int) (v : Int) : Nat → Nat
  | 0 => 0
  | k + 1 => if l k = v then cntR l v k + 1 else cntR l v k
def kingF (l : Nat → Int) : Nat → Int
  | 0 => -1
  | k + 1 => if l k = 6 then (k : Int) else kingF l k
def cntL (l : Nat → Int) (k : Nat) : List Int := [(cntR l 0 k : Nat), (cntR l 1 k : Nat), (cntR l 2 k : Nat), (cntR l 3 k : Nat), (cntR l 4 k : Nat), (cntR l 5 k : Nat), (cntR l 6 k : Nat)]
theorem counts960 : ∀ n : Fin 960, cntL (row7 n.val) 8 = [0, 0, 2, 2, 2, 1, 1] := by decide +kernel
def okL (R B : List Int) (kg c0 c1 c2 c3 : Int) : Bool :=
  match R, B with
  | [r0, r1], [b0, b1] => decide (0 ≤ r0 ∧ r0 < kg ∧ kg < r1 ∧ r1 < 8 ∧ 0 ≤ b0 ∧ 0 ≤ b1 ∧ b0 < 8 ∧ b1 < 8 ∧ (b0 + b1) % 2 = 1 ∧ c0 = r1 ∧ c1 = r0 ∧ c2 = r1 ∧ c3 = r0)
  | _, _ => false
theorem ok960 : ∀ n : Fin 960, okL (filesL (row7 n.val) 4 8) (filesL (row7 n.val) 3 8) (kingF (row7 n.val) 8) (start960N n.val 79) (start960N n.val 80) (start960N n.val 81) (start960N n.val 82) = true := by decide +kernel
theorem ok_out {R B : List Int} {kg c0 c1 c2 c3 : Int} (h : okL R B kg c0 c1 c2 c3 = true) : ∃ r0 r1 b0 b1, R = [r0, r1] ∧ B = [b0, b1] ∧ 0 ≤ r0 ∧ r0 < kg ∧ kg < r1 ∧ r1 < 8 ∧ 0 ≤ b0 ∧ 0 ≤ b1 ∧ b0 < 8 ∧ b1 < 8 ∧ (b0 + b1) % 2 = 1 ∧ c0 = r1 ∧ c1 = r0 ∧ c2 = r1 ∧ c3 = r0 := by
  unfold okL at h
  split at h
  · rename_i r0 r1 b0 b1
    exact ⟨r0, r1, b0, b1, rfl, rfl, of_decide_eq_true h⟩
  · cases h
theorem std518 : ∀ i : Fin 88, bothN 0 chessL i.val = upd (start960N 518) 0 0 i.val := by decide +kernel

end Go.Proofs.Ytpheapolijhgjaa
