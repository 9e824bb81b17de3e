/- Plain laws of rays for the reference: no program here. -/
import Derived.Test.YtnbfgangmkfolaaDoorY7
namespace Go.Proofs.YtnbfgangmkfolaaDoor
open Go

def apI (a b : Int) : Int := max (a - b) (b - a)
theorem apI_bd {a b : Int} (ha : -1 ≤ a ∧ a ≤ 63) (hb : -1 ≤ b ∧ b ≤ 63) : 0 ≤ apI a b ∧ apI a b ≤ 64 := by unfold apI; omega
def kinP (s t : Int) : Bool := distI s t == 1
def kniP (s t : Int) : Bool := (apI (fileI s) (fileI t) == 2 && apI (rankI s) (rankI t) == 1) || (apI (fileI s) (fileI t) == 1 && apI (rankI s) (rankI t) == 2)
def pawP (up s t : Int) : Bool := apI (fileI s) (fileI t) == 1 && rankI t == rankI s + up
theorem selB_yes (p : Int → Bool) (k : Nat) (h : p k = true) : selB p (k + 1) = putB (selB p k) k := if_pos h
theorem selB_no (p : Int → Bool) (k : Nat) (h : p k = false) : selB p (k + 1) = selB p k := if_neg (by rw [h]; decide)
theorem selB_none (p : Int → Bool) (h : ∀ k : Nat, p k = false) : ∀ n, selB p n = 0#64
  | 0 => rfl
  | n + 1 => by rw [selB_no p n (h n)]; exact selB_none p h n
theorem king_sel_in : ∀ s : Fin 64, selB (kinP (s.val : Int)) 64 = kingB (s.val : Int) := by decide +kernel
theorem knight_sel_in : ∀ s : Fin 64, selB (kniP (s.val : Int)) 64 = knightB (s.val : Int) := by decide +kernel
theorem pawn0_sel_in : ∀ s : Fin 64, selB (pawP 1 (s.val : Int)) 64 = pawnB 0 (s.val : Int) := by decide +kernel
theorem pawn1_sel_in : ∀ s : Fin 64, selB (pawP (-1) (s.val : Int)) 64 = pawnB 1 (s.val : Int) := by decide +kernel
theorem king_sel (s : Int) : selB (kinP s) 64 = kingB s := by
  by_cases h : 0 ≤ s ∧ s < 64
  · obtain ⟨x, rfl⟩ := sq h; exact king_sel_in x
  · rw [kingB_none h]
    exact selB_none _ (fun k => by unfold kinP; rw [show distI s k = -1 from if_neg (fun hh => h hh.1)]; rfl) 64
theorem knight_sel {s : Int} (h : 0 ≤ s ∧ s < 64) : selB (kniP s) 64 = knightB s := by obtain ⟨x, rfl⟩ := sq h; exact knight_sel_in x
theorem pawn0_sel {s : Int} (h : 0 ≤ s ∧ s < 64) : selB (pawP 1 s) 64 = pawnB 0 s := by obtain ⟨x, rfl⟩ := sq h; exact pawn0_sel_in x
theorem pawn1_sel {s : Int} (h : 0 ≤ s ∧ s < 64) : selB (pawP (-1) s) 64 = pawnB 1 s := by obtain ⟨x, rfl⟩ := sq h; exact pawn1_sel_in x

def tailL (t d : Int) : List Int := if t < 0 then [] else t :: walkL t d
theorem step_bd (s d : Int) : -1 ≤ stepI s d ∧ stepI s d < 64 := by
  unfold stepI
  split
  · split <;> omega
  · omega
theorem wX_none {s d : Int} (h : stepI s d = -1) : ∀ k, wX s d k = -1
  | 0 => h
  | k + 1 => by show stepI (wX s d k) d = -1; rw [wX_none h k]; exact if_neg (by omega)
theorem wL_none {s d : Int} (h : stepI s d = -1) : ∀ k, wL s d k = []
  | 0 => rfl
  | k + 1 => by show (if 0 ≤ wX s d k then _ else _) = []; rw [wX_none h k, if_neg (by decide)]; exact wL_none h k
theorem walk_none {s d : Int} (h : stepI s d = -1) : walkL s d = [] := wL_none h 7
theorem walk_tail_in : ∀ s : Fin 64, ∀ d : Fin 8, walkL (s.val : Int) (d.val : Int) = tailL (stepI (s.val : Int) (d.val : Int)) (d.val : Int) := by decide +kernel
theorem walk_tail (s d : Int) : walkL s d = tailL (stepI s d) d := by
  by_cases h : 0 ≤ s ∧ s < 64 ∧ 0 ≤ d ∧ d < 8
  · obtain ⟨x, rfl⟩ := sq ⟨h.1, h.2.1⟩
    obtain ⟨j, rfl⟩ : ∃ j : Fin 8, d = (j.val : Int) := ⟨⟨d.toNat, by omega⟩, by simp; omega⟩
    exact walk_tail_in x j
  · have e : stepI s d = -1 := if_neg h
    rw [walk_none e, e]; rfl
theorem tail_cons {t d : Int} (h : 0 ≤ t) : tailL t d = t :: tailL (stepI t d) d := by
  rw [← walk_tail]; exact if_neg (by omega)
theorem tail_nil {t d : Int} (h : t < 0) : tailL t d = [] := if_pos h
theorem walk_len_in : ∀ s : Fin 64, ∀ d : Fin 8, (walkL (s.val : Int) (d.val : Int)).length ≤ 7 ∧ (walkL (s.val : Int) (d.val : Int)).Nodup := by decide +kernel
theorem walk_none2 {s d : Int} (h : ¬ (0 ≤ s ∧ s < 64 ∧ 0 ≤ d ∧ d < 8)) : walkL s d = [] := walk_none (if_neg h)
theorem dr {d : Int} (h : 0 ≤ d ∧ d < 8) : ∃ j : Fin 8, d = (j.val : Int) := ⟨⟨d.toNat, by omega⟩, by simp; omega⟩
theorem walk_len (s d : Int) : (walkL s d).length ≤ 7 := by
  by_cases h : 0 ≤ s ∧ s < 64 ∧ 0 ≤ d ∧ d < 8
  · obtain ⟨x, rfl⟩ := sq ⟨h.1, h.2.1⟩; obtain ⟨j, rfl⟩ := dr h.2.2; exact (walk_len_in x j).1
  · rw [walk_none2 h]; decide
theorem walk_nodup (s d : Int) : (walkL s d).Nodup := by
  by_cases h : 0 ≤ s ∧ s < 64 ∧ 0 ≤ d ∧ d < 8
  · obtain ⟨x, rfl⟩ := sq ⟨h.1, h.2.1⟩; obtain ⟨j, rfl⟩ := dr h.2.2; exact (walk_len_in x j).2
  · rw [walk_none2 h]; exact List.nodup_nil
def idI (x : Int) : Int := x
theorem ray_of_in : ∀ s : Fin 64, ∀ d : Fin 8, foldPut idI (walkL (s.val : Int) (d.val : Int)) = rayB (s.val : Int) (d.val : Int) := by decide +kernel
theorem ray_of (s d : Int) : foldPut idI (walkL s d) = rayB s d := by
  by_cases h : 0 ≤ s ∧ s < 64 ∧ 0 ≤ d ∧ d < 8
  · obtain ⟨x, rfl⟩ := sq ⟨h.1, h.2.1⟩; obtain ⟨j, rfl⟩ := dr h.2.2; exact ray_of_in x j
  · rw [walk_none2 h, rayB_none s d h]; rfl
theorem mem_ray {s d b : Int} : b ∈ walkL s d ↔ hasB (rayB s d) b = true := by
  rw [← ray_of, has_foldPut, List.any_eq_true]
  constructor
  · intro hb
    refine ⟨b, hb, ?_⟩
    rw [decide_eq_true_iff]
    refine ⟨rfl, ?_⟩
    by_cases h : 0 ≤ s ∧ s < 64 ∧ 0 ≤ d ∧ d < 8
    · obtain ⟨x, rfl⟩ := sq ⟨h.1, h.2.1⟩; obtain ⟨j, rfl⟩ := dr h.2.2
      have W : ∀ s : Fin 64, ∀ d : Fin 8, (walkL (s.val : Int) (d.val : Int)).all (fun x => decide (0 ≤ x ∧ x < 64)) = true := by decide +kernel
      have := List.all_eq_true.1 (W x j) b hb
      simpa using this
    · rw [walk_none2 h] at hb; cases hb
  · rintro ⟨x, hx, hd⟩
    rw [decide_eq_true_iff] at hd
    rw [hd.1]; exact hx
def refOk (a d : Int) : Bool :=
  (walkL a d).all fun b => foldPut idI ((walkL a d).take ((walkL a d).idxOf b)) == (rayB a d &&& rayB b ((d + 4) % 8)) && putB (rayB a d ||| rayB a ((d + 4) % 8) ||| rayB b d ||| rayB b ((d + 4) % 8)) a == (oneB a ||| rayB a d ||| rayB a ((d + 4) % 8))
theorem ref_in : ∀ a : Fin 64, ∀ d : Fin 8, refOk (a.val : Int) (d.val : Int) = true := by decide +kernel
theorem ref_of {a b : Int} {d : Nat} (hd : d < 8) (hb : b ∈ walkL a d) : foldPut idI ((walkL a d).take ((walkL a d).idxOf b)) = betB a b ∧ putB (rayB a d ||| rayB a (((d : Int) + 4) % 8) ||| rayB b d ||| rayB b (((d : Int) + 4) % 8)) a = lineB a b := by
  have hr := mem_ray.1 hb
  have has : 0 ≤ a ∧ a < 64 := by
    by_cases e : 0 ≤ a ∧ a < 64
    · exact e
    · rw [ray_none1 e, has_zero] at hr; cases hr
  have R : refOk a d = true := by obtain ⟨x, rfl⟩ := sq has; exact ref_in x ⟨d, hd⟩
  unfold refOk at R
  have R1 := List.all_eq_true.1 R b hb
  rw [Bool.and_eq_true, beq_iff_eq, beq_iff_eq] at R1
  have hdist : 1 ≤ distI a b := by
    have hbs := has_sq hr
    have hne : a ≠ b := by
      intro e
      subst e
      have O : ∀ a : Fin 64, ∀ d : Fin 8, hasB (rayB (a.val : Int) (d.val : Int)) (a.val : Int) = false := by decide +kernel
      obtain ⟨x, rfl⟩ := sq has
      have := O x ⟨d, hd⟩
      rw [this] at hr; cases hr
    obtain ⟨x, rfl⟩ := sq has; obtain ⟨y, rfl⟩ := sq hbs
    exact dist_in x y (fun e => hne (by rw [e]))
  rw [bet_of d hd hr, line_of d (tow_ray a b d hd hr) (by omega) hdist]
  exact R1
theorem ref_no {a b : Int} (h : ∀ d : Nat, d < 8 → b ∉ walkL a d) : betB a b = 0#64 ∧ lineB a b = 0#64 := by
  have : towI a b = -1 := tow_no a b (fun j hj => by
    cases e : hasB (rayB a j) b with
    | false => rfl
    | true => exact absurd (mem_ray.2 e) (h j hj))
  unfold betB lineB
  rw [this]
  exact ⟨rfl, rfl⟩
/-- The place of an element in a list without twins. -/
theorem idx_at {l : List Int} (k : Nat) (hk : k < l.length) (b : Int) (h : l[k] = b) (hn : ∀ j (hj : j < l.length), j < k → l[j] ≠ b) : l.idxOf b = k := by
  have e : l.findIdx? (· == b) = some k := by
    rw [List.findIdx?_eq_some_iff_getElem]
    exact ⟨hk, by simp [h], fun j hj => by simp [hn j (by omega) hj]⟩
  rw [List.findIdx?_eq_some_iff_findIdx_eq] at e
  exact e.2

end Go.Proofs.YtnbfgangmkfolaaDoor
