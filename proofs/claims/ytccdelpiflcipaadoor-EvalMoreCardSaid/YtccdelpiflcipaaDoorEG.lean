/- Plain laws of worths: what a position's worth hangs on; what it becomes by a number changed. -/
import Derived.Test.YtccdelpiflcipaaDoorE9
import Derived.Test.YtccdelpiflcipaaDoorEC
namespace Go.Proofs.YtccdelpiflcipaaDoor
open Go Go.RowKit
set_option linter.unusedVariables false

theorem selN_congr (p : Int → Bool) (n m : Nat → Int) (h : ∀ j, j < 64 → n (1 + j) = m (1 + j)) : ∀ k, k ≤ 64 → selN p n k = selN p m k
  | 0, _ => rfl
  | k + 1, hk => by
    have ih := selN_congr p n m h k (by omega)
    show (if _ then _ else _) = (if _ then _ else _)
    rw [h k (by omega), ih]
theorem ofN_congr (n m : Nat → Int) (h : ∀ j, j < 64 → n (1 + j) = m (1 + j)) (c k : Int) : ofN n c k = ofN m c k := selN_congr _ n m h 64 (Nat.le_refl 64)
theorem atN_congr (n m : Nat → Int) (h : ∀ j, j < 64 → n (1 + j) = m (1 + j)) (j : Nat) (hj : j < 64) : atN n j = atN m j := by
  unfold atN
  rw [Int.toNat_natCast, h j hj]
theorem baseK_congr (n m : Nat → Int) (h : ∀ j, j < 64 → n (1 + j) = m (1 + j)) (c : Int) : ∀ j, j ≤ 64 → baseK n c j = baseK m c j
  | 0, _ => rfl
  | j + 1, hj => by
    have ih := baseK_congr n m h c j (by omega)
    unfold baseK
    rw [ih, atN_congr n m h j (by omega)]
theorem heldI_congr (n m : Nat → Int) (c : Nat) (h : ∀ k, k < 6 → n (66 + 6 * c + k) = m (66 + 6 * c + k)) : ∀ k, k ≤ 6 → heldI n c k = heldI m c k
  | 0, _ => rfl
  | k + 1, hk => by
    have ih := heldI_congr n m c h k (by omega)
    unfold heldI
    rw [ih, h k (by omega)]
theorem worthI_congr (n m : Nat → Int) (v c : Nat) (hb : ∀ j, j < 64 → n (1 + j) = m (1 + j)) (hp : ∀ k, k < 6 → n (66 + 6 * c + k) = m (66 + 6 * c + k)) (hc : n (84 + c) = m (84 + c)) : worthI n v c = worthI m v c := by
  unfold worthI
  rw [baseK_congr n m hb c 64 (Nat.le_refl 64)]
  have e : ∀ j, exI n c j = exI m c j := fun j => by
    have eo := ofN_congr n m hb c 6
    rcases j with _ | _ | _ | _ | j
    · exact heldI_congr n m c hp 6 (Nat.le_refl 6)
    · show kingI n c (fun s => 60 * (s / 8)) = kingI m c (fun s => 60 * (s / 8))
      unfold kingI; rw [eo]
    · show kingI n c (fun s => -30 * sqI s) = kingI m c (fun s => -30 * sqI s)
      unfold kingI; rw [eo]
    · show 150 * n (84 + c) = 150 * m (84 + c)
      rw [hc]
    · show 200 * (cntB (ofN n c 6) : Int) = 200 * (cntB (ofN m c 6) : Int)
      rw [eo]
  have es : ∀ j, exS n c v j = exS m c v j := fun j => by
    induction j with
    | zero => rfl
    | succ j ih => unfold exS; rw [ih, e j]
  rw [es 5]
theorem ofW_congr (n m : Nat → Int) (v t : Nat) (hb : ∀ j, j < 64 → n (1 + j) = m (1 + j)) (hp : ∀ k, k < 12 → n (66 + k) = m (66 + k)) (hc : ∀ k, k < 2 → n (84 + k) = m (84 + k)) : ofW n v t = ofW m v t := by
  unfold ofW
  by_cases hk : knownB v t = true
  · rw [if_pos hk, if_pos hk]
    unfold knownB at hk
    rw [Bool.and_eq_true, decide_eq_true_eq, decide_eq_true_eq] at hk
    obtain ⟨h1, h2⟩ := hk
    have hs : ∀ c, c ≤ 1 → worthI n v c = worthI m v c := fun c hc2 =>
      worthI_congr n m v c hb (fun k hk => by have := hp (6 * c + k) (by omega); rwa [show 66 + (6 * c + k) = 66 + 6 * c + k by omega] at this) (hc c (by omega))
    rw [hs t h2, hs (1 - t) (by omega)]
  · rw [if_neg hk, if_neg hk]

/-- A held number changed. -/
theorem heldI_set (n : Nat → Int) (c k : Nat) (x : Int) (hk : k < 6) : heldI (upd n (66 + 6 * c + k) x) c 6 = heldI n c 6 + wortI k * (x - n (66 + 6 * c + k)) := by
  have hc : k = 0 ∨ k = 1 ∨ k = 2 ∨ k = 3 ∨ k = 4 ∨ k = 5 := by omega
  have w0 : wortI ((0 : Nat) : Int) = 0 := rfl
  have w1 : wortI ((1 : Nat) : Int) = 100 := rfl
  have w2 : wortI ((2 : Nat) : Int) = 320 := rfl
  have w3 : wortI ((3 : Nat) : Int) = 330 := rfl
  have w4 : wortI ((4 : Nat) : Int) = 500 := rfl
  have w5 : wortI ((5 : Nat) : Int) = 900 := rfl
  have hu : ∀ j, upd n (66 + 6 * c + k) x (66 + 6 * c + j) = if j = k then x else n (66 + 6 * c + j) := fun j => by
    unfold upd
    by_cases h : j = k
    · rw [if_pos h, if_pos (by omega)]
    · rw [if_neg h, if_neg (by omega)]
  unfold heldI heldI heldI heldI heldI heldI heldI
  rw [hu 0, hu 1, hu 2, hu 3, hu 4, hu 5, w0, w1, w2, w3, w4, w5]
  rcases hc with rfl | rfl | rfl | rfl | rfl | rfl
  · simp only [w0]; simp; try omega
  · simp only [w1]; simp; omega
  · simp only [w2]; simp; omega
  · simp only [w3]; simp; omega
  · simp only [w4]; simp; omega
  · simp only [w5]; simp; omega

/-- EvalHeld's position: a held number and a number of checks changed. -/
def hdN (n : Nat → Int) (c k : Nat) (x y : Int) : Nat → Int := upd (upd n (66 + 6 * c + k) x) (84 + c) y
theorem hd_same (n : Nat → Int) (v c k : Nat) (x y : Int) (hc : c ≤ 1) (hk : k < 6) : worthI (hdN n c k x y) v (1 - c) = worthI n v (1 - c) := by
  have hu : ∀ i, i ≠ 66 + 6 * c + k → i ≠ 84 + c → hdN n c k x y i = n i := fun i h1 h2 => by
    unfold hdN upd; rw [if_neg h2, if_neg h1]
  refine worthI_congr _ _ v (1 - c) (fun j hj => hu _ (by omega) (by omega)) (fun j hj => hu _ (by omega) (by omega)) (hu _ (by omega) (by omega))
theorem hd_worth (n : Nat → Int) (v c k : Nat) (x y : Int) (hc : c ≤ 1) (hk : k < 6) :
    worthI (hdN n c k x y) v c = worthI n v c + (if v = 2 then wortI k * (x - n (66 + 6 * c + k)) else 0) + (if v = 5 then 150 * (y - n (84 + c)) else 0) := by
  by_cases hv : v < 9
  · have hb : ∀ j, j < 64 → hdN n c k x y (1 + j) = n (1 + j) := fun j hj => by unfold hdN upd; rw [if_neg (by omega), if_neg (by omega)]
    rw [worthI_ref _ v c hv hc, worthI_ref _ v c hv hc, rbK_cnt _ v c 64 (Nat.le_refl 64), rbK_cnt _ v c 64 (Nat.le_refl 64), baseK_congr _ _ hb c 64 (Nat.le_refl 64), ofN_congr _ _ hb c 6]
    have e1 : heldI (hdN n c k x y) c 6 = heldI n c 6 + wortI k * (x - n (66 + 6 * c + k)) := by
      rw [← heldI_set n c k x hk]
      refine heldI_congr _ _ c (fun j hj => ?_) 6 (Nat.le_refl 6)
      unfold hdN
      show upd _ _ _ _ = _
      unfold upd
      rw [if_neg (by omega)]
    have e2 : hdN n c k x y (84 + c) = y := by unfold hdN upd; rw [if_pos rfl]
    have e3 : ∀ f, kingI (hdN n c k x y) c f = kingI n c f := fun f => by unfold kingI; rw [ofN_congr _ _ hb c 6]
    unfold tailI
    rw [e1, e2, e3, e3]
    by_cases h2 : v = 2
    · rw [if_pos h2, if_pos h2, if_pos h2, if_neg (show ¬ v = 5 by omega)]; omega
    · rw [if_neg h2, if_neg h2, if_neg h2]
      by_cases h5 : v = 5
      · rw [if_pos h5, if_pos h5, if_pos h5]; omega
      · rw [if_neg h5, if_neg h5, if_neg h5]; omega
  · have hk : knownB v c = false := by unfold knownB; rw [decide_eq_false hv]; rfl
    rw [worthI_no _ _ _ hk, worthI_no _ _ _ hk, if_neg (by omega), if_neg (by omega)]; rfl

end Go.Proofs.YtccdelpiflcipaaDoor
