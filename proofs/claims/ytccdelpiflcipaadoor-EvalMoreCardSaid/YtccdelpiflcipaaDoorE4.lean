/- The walk of eval.extras; the sum over a list of squares. -/
import Derived.Test.YtccdelpiflcipaaDoorE3
namespace Go.Proofs.YtccdelpiflcipaaDoor
open Go Go.RowKit
set_option linter.unusedVariables false

def exA : Array Value := #[.int .u8 2, .func (.func 44) #[] #[], .int .u8 8, .func (.func 45) #[] #[], .int .u8 6, .func (.func 48) #[] #[], .int .u8 5, .func (.func 50) #[] #[], .int .u8 4, .func (.func 51) #[] #[]]
set_option maxHeartbeats 800000 in
theorem extras_any (w : World) :
    Calls Tryd.prog 29 #[] w fun e w' => e = .returned (.slice (some ⟨w.heap.size, 0, none⟩) 5 5) ∧ w.alloc (.cells exA 57) = w' := by
  go_enter Tryd.func29, Tryd.ntmps29
  go_wp2
  go_ret
  exact ⟨rfl, rfl⟩

/-- What a piece of a color and a kind on a square is worth. -/
def valI (c k s : Int) : Int := wortI k - 4 * sqI s + (if k = 1 then 6 * (if c = 0 then s / 8 else 7 - s / 8) else 0)
def sumK (f : Int → Int) : List Int → Int
  | [] => 0
  | x :: l => f x + sumK f l
/-- Over the squares, those on which such a piece stands. -/
def sqK (n : Nat → Int) (c k : Int) : Nat → Int
  | 0 => 0
  | j + 1 => sqK n c k j + (if hasB (ofN n c k) j = true then valI c k j else 0)
theorem sum_app (f : Int → Int) : ∀ l m, sumK f (l ++ m) = sumK f l + sumK f m
  | [], m => by show sumK f m = 0 + sumK f m; omega
  | x :: l, m => by
    show f x + sumK f (l ++ m) = f x + sumK f l + sumK f m
    rw [sum_app f l m]; omega
/-- All kinds, square by square: the document's order. -/
def baseK (n : Nat → Int) (c : Int) : Nat → Int
  | 0 => 0
  | j + 1 => baseK n c j + (if atN n j ≠ 0 ∧ colI (atN n j) = c then valI c (kndI (atN n j)) j else 0)

theorem sum_listN (n : Nat → Int) (c k : Int) : ∀ j, j ≤ 64 → sumK (valI c k) ((listN (ofN n c k) j).map (fun k : Nat => (k : Int))) = sqK n c k j
  | 0, _ => rfl
  | j + 1, hj => by
    have ih := sum_listN n c k j (by omega)
    have hb := hasB_nat (ofN n c k) j (by omega)
    show _ = sqK n c k j + (if hasB (ofN n c k) j = true then valI c k j else 0)
    cases h : (ofN n c k).getLsbD j with
    | true =>
      rw [listN_succ_yes _ _ h, List.map_append, sum_app, ih, hb, h, if_pos rfl]
      show sqK n c k j + (valI c k j + 0) = _
      omega
    | false =>
      rw [listN_succ_no _ _ h, ih, hb, h, if_neg (by decide)]; omega
theorem sum_listB (n : Nat → Int) (c k : Int) : sumK (valI c k) (listB (ofN n c k)) = sqK n c k 64 := sum_listN n c k 64 (Nat.le_refl 64)
theorem knd_in {x : Int} (h : isB x = true) : 1 ≤ kndI x ∧ kndI x ≤ 6 := by
  rw [isB_iff] at h
  unfold kndI
  rcases h with h | h
  · rw [if_pos h]; exact h
  · rw [if_neg (by omega), if_pos h]; omega
theorem has_ofN (n : Nat → Int) (c k : Int) (j : Nat) (hj : j < 64) (hk : k ≠ 0) : hasB (ofN n c k) j = (isB (n (1 + j)) && (colI (n (1 + j)) == c && kndI (n (1 + j)) == k)) := by
  unfold ofN
  rw [has_set, decide_eq_true (by omega), Bool.true_and, Int.toNat_natCast]
  unfold ofP
  rw [beq_eq_false_iff_ne.2 hk, Bool.false_or]
/-- Kind by kind, or square by square. -/
theorem kinds_squares (n : Nat → Int) (c : Int) : ∀ j, j ≤ 64 → sqK n c 1 j + sqK n c 2 j + sqK n c 3 j + sqK n c 4 j + sqK n c 5 j + sqK n c 6 j = baseK n c j
  | 0, _ => rfl
  | j + 1, hj => by
    have ih := kinds_squares n c j (by omega)
    unfold sqK baseK
    rw [has_ofN n c 1 j (by omega) (by decide), has_ofN n c 2 j (by omega) (by decide), has_ofN n c 3 j (by omega) (by decide), has_ofN n c 4 j (by omega) (by decide), has_ofN n c 5 j (by omega) (by decide), has_ofN n c 6 j (by omega) (by decide)]
    have ha : atN n (j : Int) = if isB (n (1 + j)) = true then n (1 + j) else 0 := by
      unfold atN
      rw [Int.toNat_natCast]
      by_cases h : isB (n (1 + j)) = true
      · rw [if_pos ⟨by omega, by omega, h⟩, if_pos h]
      · rw [if_neg (fun hh => h hh.2.2), if_neg h]
    cases h : isB (n (1 + j)) with
    | false =>
      rw [h, if_neg (by decide)] at ha
      rw [ha]; simp; omega
    | true =>
      rw [h, if_pos rfl] at ha
      rw [ha]
      have hx : n (1 + j) ≠ 0 := by rw [isB_iff] at h; omega
      obtain ⟨k1, k2⟩ := knd_in h
      generalize n (1 + j) = x at h hx k1 k2
      by_cases hc : colI x = c
      · have hr : (if x ≠ 0 ∧ colI x = c then valI c (kndI x) j else 0) = valI c (kndI x) j := if_pos ⟨hx, hc⟩
        rw [hr]
        have hcc : (colI x == c) = true := beq_iff_eq.2 hc
        rw [hcc]
        have hk : kndI x = 1 ∨ kndI x = 2 ∨ kndI x = 3 ∨ kndI x = 4 ∨ kndI x = 5 ∨ kndI x = 6 := by omega
        rcases hk with hk | hk | hk | hk | hk | hk <;> (rw [hk]; simp; omega)
      · have hr : (if x ≠ 0 ∧ colI x = c then valI c (kndI x) j else 0) = 0 := if_neg (fun hh => hc hh.2)
        rw [hr]
        have hcc : (colI x == c) = false := beq_eq_false_iff_ne.2 hc
        rw [hcc]
        simp; omega

end Go.Proofs.YtccdelpiflcipaaDoor
