/- Plain words of slides and what is seen: no program here. -/
import Derived.Test.YtnbfgangmkfolaaDoorY8
import Derived.Test.YtnbfgangmkfolaaDoorU3
namespace Go.Proofs.YtnbfgangmkfolaaDoor
open Go

/-- What is seen along some squares: up to the first occupied one. -/
def seeL (occ : BitVec 64) : List Int → List Int
  | [] => []
  | x :: r => if hasB occ x = true then [x] else x :: seeL occ r
def dirB (s d : Int) (occ : BitVec 64) : BitVec 64 := foldPut idI (seeL occ (walkL s d))
def lastB (b : BitVec 64) : Int := (listB b).getLast?.getD (-1)
def nearI (d : Int) (b : BitVec 64) : Int := if 3 ≤ d ∧ d ≤ 6 then lastB b else firstB b

theorem see_cases (occ : BitVec 64) (l : List Int) : ((∀ x ∈ l, hasB occ x = false) ∧ seeL occ l = l) ∨ ∃ p n r, l = p ++ n :: r ∧ (∀ x ∈ p, hasB occ x = false) ∧ hasB occ n = true ∧ seeL occ l = p ++ [n] := by
  induction l with
  | nil => exact .inl ⟨(fun x hx => by cases hx), rfl⟩
  | cons x r ih =>
    cases hx : hasB occ x with
    | true => exact .inr ⟨[], x, r, rfl, (fun y hy => by cases hy), hx, by unfold seeL; rw [if_pos hx]; rfl⟩
    | false =>
      have e : seeL occ (x :: r) = x :: seeL occ r := by rw [seeL, if_neg (by rw [hx]; decide)]
      rcases ih with ⟨h1, h2⟩ | ⟨p, n, q, h1, h2, h3, h4⟩
      · left
        refine ⟨fun y hy => ?_, by rw [e, h2]⟩
        rcases List.mem_cons.1 hy with rfl | hy
        · exact hx
        · exact h1 y hy
      · right
        refine ⟨x :: p, n, q, by rw [h1]; rfl, fun y hy => ?_, h3, by rw [e, h4]; rfl⟩
        rcases List.mem_cons.1 hy with rfl | hy
        · exact hx
        · exact h2 y hy
theorem see_at (occ : BitVec 64) (t : Int) (r : List Int) : ∀ a : List Int, t ∉ a → (t ∈ seeL occ (a ++ t :: r) ↔ ∀ x ∈ a, hasB occ x = false)
  | [], _ => by
    constructor
    · intro _ x hx; cases hx
    · intro _
      show t ∈ seeL occ (t :: r)
      rw [seeL]; split <;> simp
  | x :: a, h => by
    have hne : t ≠ x := fun e => h (by rw [e]; exact List.mem_cons_self ..)
    have ih := see_at occ t r a (fun e => h (List.mem_cons_of_mem _ e))
    show t ∈ seeL occ (x :: (a ++ t :: r)) ↔ _
    rw [seeL]
    cases hx : hasB occ x with
    | true =>
      rw [if_pos rfl]
      constructor
      · intro h1; exact absurd (List.mem_singleton.1 h1) hne
      · intro h1; have := h1 x (List.mem_cons_self ..); rw [hx] at this; cases this
    | false =>
      rw [if_neg (by decide), List.mem_cons]
      constructor
      · rintro (h1 | h1)
        · exact absurd h1 hne
        · intro y hy
          rcases List.mem_cons.1 hy with rfl | hy
          · exact hx
          · exact ih.1 h1 y hy
      · intro h1
        exact .inr (ih.2 (fun y hy => h1 y (List.mem_cons_of_mem _ hy)))
theorem see_sub (occ : BitVec 64) (l : List Int) (x : Int) (h : x ∈ seeL occ l) : x ∈ l := by
  rcases see_cases occ l with ⟨_, e⟩ | ⟨p, n, r, e, _, _, e2⟩
  · rw [e] at h; exact h
  · rw [e2] at h; rw [e]
    rcases List.mem_append.1 h with h | h
    · exact List.mem_append.2 (.inl h)
    · exact List.mem_append.2 (.inr (by rw [List.mem_singleton.1 h]; exact List.mem_cons_self ..))

theorem walk_all_in : ∀ s : Fin 64, ∀ d : Fin 8, (walkL (s.val : Int) (d.val : Int)).all (fun x => decide (0 ≤ x ∧ x < 64)) = true := by decide +kernel
theorem walk_sq {s d x : Int} (h : x ∈ walkL s d) : 0 ≤ x ∧ x < 64 := has_sq (mem_ray.1 h)
theorem has_list {l : List Int} (h : ∀ x ∈ l, 0 ≤ x ∧ x < 64) (t : Int) : hasB (foldPut idI l) t = true ↔ t ∈ l := by
  rw [has_foldPut, List.any_eq_true]
  constructor
  · rintro ⟨x, hx, hd⟩
    rw [decide_eq_true_iff] at hd
    rw [hd.1]; exact hx
  · intro ht
    exact ⟨t, ht, by rw [decide_eq_true_iff]; exact ⟨rfl, (h t ht).1, (h t ht).2⟩⟩
theorem walkL_in {s d x : Int} (h : x ∈ walkL s d) : 0 ≤ s ∧ s < 64 ∧ 0 ≤ d ∧ d < 8 := by
  by_cases e : 0 ≤ s ∧ s < 64 ∧ 0 ≤ d ∧ d < 8
  · exact e
  · rw [walk_none2 e] at h; cases h

def sufOk (s d : Int) : Bool := (List.range 7).all fun i => decide (walkL s d ≠ []) == false || decide ((walkL s d).length ≤ i) || (walkL ((walkL s d).getD i 0) d == (walkL s d).drop (i + 1) && shiftB (foldPut idI ((walkL s d).take (i + 1))) d &&& ~~~foldPut idI ((walkL s d).take (i + 1)) == shiftB (oneB ((walkL s d).getD i 0)) d)
theorem suf_in : ∀ s : Fin 64, ∀ d : Fin 8, sufOk (s.val : Int) (d.val : Int) = true := by decide +kernel
theorem suf {s d : Int} {p : List Int} {n : Int} {r : List Int} (h : walkL s d = p ++ n :: r) : walkL n d = r ∧ shiftB (foldPut idI (p ++ [n])) d &&& ~~~foldPut idI (p ++ [n]) = shiftB (oneB n) d := by
  have hm : n ∈ walkL s d := by rw [h]; exact List.mem_append.2 (.inr (List.mem_cons_self ..))
  have hi := walkL_in hm
  have S : sufOk s d = true := by
    obtain ⟨x, rfl⟩ := sq ⟨hi.1, hi.2.1⟩; obtain ⟨j, rfl⟩ := dr hi.2.2; exact suf_in x j
  have hl : p.length < 7 := by
    have := walk_len s d
    rw [h, List.length_append, List.length_cons] at this; omega
  unfold sufOk at S
  have S1 := List.all_eq_true.1 S p.length (List.mem_range.2 hl)
  have e1 : (p ++ n :: r).getD p.length 0 = n := by
    rw [List.getD_eq_getElem?_getD, List.getElem?_append_right (Nat.le_refl _), Nat.sub_self]; rfl
  have e2 : (p ++ n :: r).drop (p.length + 1) = r := by
    rw [← List.drop_drop, List.drop_left]; rfl
  have e3 : (p ++ n :: r).take (p.length + 1) = p ++ [n] := by
    rw [show p ++ n :: r = (p ++ [n]) ++ r by simp]
    exact List.take_left' (by simp)
  have e4 : decide (p ++ n :: r ≠ []) = true := by simp
  have e5 : decide ((p ++ n :: r).length ≤ p.length) = false := by
    rw [decide_eq_false_iff_not, List.length_append, List.length_cons]; omega
  rw [h, e1, e2, e3, e4, e5] at S1
  simp only [Bool.false_eq_true, Bool.true_eq_false, beq_iff_eq, Bool.or_eq_true, Bool.and_eq_true, false_or, or_false] at S1
  simpa using S1

def upD (d : Int) : Bool := !(decide (3 ≤ d ∧ d ≤ 6))
def ordOk (s d : Int) : Bool := if upD d then decide ((walkL s d).Pairwise (· < ·)) else decide ((walkL s d).Pairwise (· > ·))
theorem ord_in : ∀ s : Fin 64, ∀ d : Fin 8, ordOk (s.val : Int) (d.val : Int) = true := by decide +kernel

theorem bit_has (b : BitVec 64) (i : Nat) (h : i < 64) : b.getLsbD i = hasB b (i : Int) := (hasB_nat b i h).symm
theorem first_has (b : BitVec 64) (n : Int) (hn : hasB b n = true) (hmin : ∀ x, hasB b x = true → n ≤ x) : firstB b = n := by
  rcases first_cases b with ⟨h0, _⟩ | ⟨i, hi, h1, h2, h3⟩
  · rw [h0, has_zero] at hn; cases hn
  · rw [h3]
    have a1 := hmin i (by rw [← bit_has b i hi]; exact h1)
    have hs := has_sq hn
    obtain ⟨m, rfl⟩ : ∃ m : Nat, n = m := ⟨n.toNat, by omega⟩
    by_cases e : m < i
    · have := h2 m e
      rw [bit_has b m (by omega), hn] at this; cases this
    · omega
theorem listN_sorted (b : BitVec 64) (n : Nat) : (listN b n).Pairwise (· < ·) := by
  unfold listN
  exact List.Pairwise.filter _ List.pairwise_lt_range
theorem last_has (b : BitVec 64) (n : Int) (hn : hasB b n = true) (hmax : ∀ x, hasB b x = true → x ≤ n) : lastB b = n := by
  unfold lastB
  have hm := (mem_listB b n).2 hn
  obtain ⟨p, r, e⟩ := List.append_of_mem hm
  have hr : r = [] := by
    cases r with
    | nil => rfl
    | cons y r =>
      exfalso
      have hy : y ∈ listB b := by rw [e]; simp
      have h1 := hmax y ((mem_listB b y).1 hy)
      have hs : (listB b).Pairwise (· < ·) := by
        unfold listB
        rw [List.pairwise_map]
        exact (listN_sorted b 64).imp (fun h => by omega)
      rw [e, List.pairwise_append] at hs
      have h2 := (List.pairwise_cons.1 hs.2.1).1 y (List.mem_cons_self ..)
      omega
  subst hr
  rw [e, List.getLast?_concat]; rfl

theorem met_has (s d : Int) (occ : BitVec 64) (x : Int) : hasB (rayB s d &&& occ) x = true ↔ x ∈ walkL s d ∧ hasB occ x = true := by
  rw [has_and, Bool.and_eq_true, mem_ray]
theorem near_is {s d : Int} {occ : BitVec 64} {p : List Int} {n : Int} {r : List Int} (h : walkL s d = p ++ n :: r) (hp : ∀ x ∈ p, hasB occ x = false) (hn : hasB occ n = true) : nearI d (rayB s d &&& occ) = n := by
  have hm : n ∈ walkL s d := by rw [h]; exact List.mem_append.2 (.inr (List.mem_cons_self ..))
  have hi := walkL_in hm
  have O : ordOk s d = true := by
    obtain ⟨x, rfl⟩ := sq ⟨hi.1, hi.2.1⟩; obtain ⟨j, rfl⟩ := dr hi.2.2; exact ord_in x j
  have H : hasB (rayB s d &&& occ) n = true := (met_has s d occ n).2 ⟨hm, hn⟩
  have K : ∀ x, hasB (rayB s d &&& occ) x = true → x = n ∨ x ∈ r := by
    intro x hx
    obtain ⟨h1, h2⟩ := (met_has s d occ x).1 hx
    rw [h] at h1
    rcases List.mem_append.1 h1 with h3 | h3
    · rw [hp x h3] at h2; cases h2
    · exact List.mem_cons.1 h3
  unfold ordOk upD at O
  unfold nearI
  by_cases hd : 3 ≤ d ∧ d ≤ 6
  · rw [if_pos hd]
    rw [decide_eq_true hd] at O
    simp only [Bool.not_true, Bool.false_eq_true, if_false, decide_eq_true_eq] at O
    rw [h, List.pairwise_append] at O
    have O2 := (List.pairwise_cons.1 O.2.1).1
    refine last_has _ _ H (fun x hx => ?_)
    rcases K x hx with rfl | h1
    · exact Int.le_refl _
    · have := O2 x h1; omega
  · rw [if_neg hd]
    rw [decide_eq_false hd] at O
    simp only [Bool.not_false, if_true, decide_eq_true_eq] at O
    rw [h, List.pairwise_append] at O
    have O2 := (List.pairwise_cons.1 O.2.1).1
    refine first_has _ _ H (fun x hx => ?_)
    rcases K x hx with rfl | h1
    · exact Int.le_refl _
    · have := O2 x h1; omega

/-- The program's way: the ray without the ray behind the nearest one. -/
theorem prog_free {s d : Int} {occ : BitVec 64} (h : rayB s d &&& occ = 0#64) : dirB s d occ = rayB s d := by
  unfold dirB
  rcases see_cases occ (walkL s d) with ⟨_, e⟩ | ⟨p, n, r, e, _, h3, _⟩
  · rw [e, ray_of]
  · have : hasB (rayB s d &&& occ) n = true := (met_has s d occ n).2 ⟨by rw [e]; simp, h3⟩
    rw [h, has_zero] at this; cases this
theorem prog_met {s d : Int} {occ : BitVec 64} (h : ¬ (rayB s d &&& occ = 0#64)) : rayB s d &&& ~~~rayB (nearI d (rayB s d &&& occ)) d = dirB s d occ := by
  unfold dirB
  rcases see_cases occ (walkL s d) with ⟨h1, e⟩ | ⟨p, n, r, e, h2, h3, e2⟩
  · exfalso
    apply h
    apply ext_has; intro k _
    rw [has_zero]
    cases hk : hasB (rayB s d &&& occ) (k : Int) with
    | false => rfl
    | true =>
      obtain ⟨a, b⟩ := (met_has s d occ k).1 hk
      rw [h1 _ a] at b; cases b
  · rw [near_is e h2 h3, e2]
    apply ext_has'; intro t
    have hall : ∀ x ∈ p ++ [n], 0 ≤ x ∧ x < 64 := by
      intro x hx
      apply walk_sq (s := s) (d := d)
      rw [e]
      rcases List.mem_append.1 hx with h | h
      · exact List.mem_append.2 (.inl h)
      · exact List.mem_append.2 (.inr (by rw [List.mem_singleton.1 h]; exact List.mem_cons_self ..))
    rw [has_list hall, has_andNot, Bool.and_eq_true, Bool.not_eq_true', ← mem_ray]
    have hnd := walk_nodup s d
    rw [e] at hnd
    rw [List.nodup_append] at hnd
    obtain ⟨_, hn2, hn3⟩ := hnd
    have hn4 := List.nodup_cons.1 hn2
    have hr : hasB (rayB n d) t = false ↔ t ∉ r := by
      rw [← (suf e).1, mem_ray]; cases hasB (rayB n d) t <;> simp
    rw [hr, e]
    constructor
    · rintro ⟨h1, h2⟩
      rcases List.mem_append.1 h1 with h | h
      · exact List.mem_append.2 (.inl h)
      · rcases List.mem_cons.1 h with rfl | h
        · exact List.mem_append.2 (.inr (List.mem_singleton.2 rfl))
        · exact absurd h h2
    · intro h1
      rcases List.mem_append.1 h1 with h | h
      · exact ⟨List.mem_append.2 (.inl h), fun hr => hn3 t h t (List.mem_cons_of_mem _ hr) rfl⟩
      · rw [List.mem_singleton.1 h]
        exact ⟨List.mem_append.2 (.inr (List.mem_cons_self ..)), hn4.1⟩

/-- What is seen: on the ray, with nothing occupied between. -/
theorem has_dir (s t d : Int) (h0 : 0 ≤ d) (h8 : d < 8) (occ : BitVec 64) : hasB (dirB s d occ) t = (hasB (rayB s d) t && (betB s t &&& occ) == 0#64) := by
  have hall : ∀ x ∈ seeL occ (walkL s d), 0 ≤ x ∧ x < 64 := fun x hx => walk_sq (see_sub occ _ x hx)
  cases hr : hasB (rayB s d) t with
  | false =>
    cases hd : hasB (dirB s d occ) t with
    | false => rfl
    | true =>
      have := see_sub occ _ t ((has_list hall t).1 hd)
      rw [mem_ray, hr] at this; cases this
  | true =>
    obtain ⟨k, rfl⟩ : ∃ k : Nat, d = k := ⟨d.toNat, by omega⟩
    have hm := mem_ray.2 hr
    obtain ⟨a, r, e, hna⟩ := List.eq_append_cons_of_mem hm
    have hb := (ref_of (by omega) hm).1
    have hidx : (walkL s k).idxOf t = a.length := by
      rw [e, List.idxOf_append, if_neg hna, List.idxOf_cons_self, Nat.zero_add]
    rw [hidx, e, List.take_left' rfl] at hb
    have hsa : ∀ x ∈ a, 0 ≤ x ∧ x < 64 := fun x hx => walk_sq (s := s) (d := k) (by rw [e]; exact List.mem_append.2 (.inl hx))
    rw [Bool.true_and, Bool.eq_iff_iff]
    show hasB (foldPut idI (seeL occ (walkL s k))) t = true ↔ _
    rw [has_list hall, e, see_at occ t r a hna, beq_iff_eq, ← hb]
    constructor
    · intro h
      apply ext_has; intro j _
      rw [has_zero, has_and]
      cases hj : hasB (foldPut idI a) (j : Int) with
      | false => rfl
      | true => rw [h _ ((has_list hsa _).1 hj)]; rfl
    · intro h x hx
      have h1 := has_and (foldPut idI a) occ x
      rw [h, has_zero, (has_list hsa x).2 hx, Bool.true_and] at h1
      exact h1.symm

def rookB (s : Int) (occ : BitVec 64) : BitVec 64 := dirB s 0 occ ||| dirB s 2 occ ||| dirB s 4 occ ||| dirB s 6 occ
def bishB (s : Int) (occ : BitVec 64) : BitVec 64 := dirB s 1 occ ||| dirB s 3 occ ||| dirB s 5 occ ||| dirB s 7 occ
def queenB (s : Int) (occ : BitVec 64) : BitVec 64 := rookB s occ ||| bishB s occ
def rookR (s : Int) : BitVec 64 := rayB s 0 ||| rayB s 2 ||| rayB s 4 ||| rayB s 6
def bishR (s : Int) : BitVec 64 := rayB s 1 ||| rayB s 3 ||| rayB s 5 ||| rayB s 7
theorem or4 (a b c d x : Bool) : ((a && x || b && x) || c && x || d && x) = ((a || b || c || d) && x) := by cases a <;> cases b <;> cases c <;> cases d <;> cases x <;> rfl
theorem has_rook (s t : Int) (occ : BitVec 64) : hasB (rookB s occ) t = (hasB (rookR s) t && (betB s t &&& occ) == 0#64) := by
  unfold rookB rookR
  simp only [has_or]
  rw [has_dir s t 0 (by decide) (by decide), has_dir s t 2 (by decide) (by decide), has_dir s t 4 (by decide) (by decide), has_dir s t 6 (by decide) (by decide), or4]
theorem has_bish (s t : Int) (occ : BitVec 64) : hasB (bishB s occ) t = (hasB (bishR s) t && (betB s t &&& occ) == 0#64) := by
  unfold bishB bishR
  simp only [has_or]
  rw [has_dir s t 1 (by decide) (by decide), has_dir s t 3 (by decide) (by decide), has_dir s t 5 (by decide) (by decide), has_dir s t 7 (by decide) (by decide), or4]
theorem or8 (a b c d e f g h : Bool) : ((a || c || e || g) || (b || d || f || h)) = (((((((a || b) || c) || d) || e) || f) || g) || h) := by cases a <;> cases b <;> cases c <;> cases d <;> cases e <;> cases f <;> cases g <;> cases h <;> rfl
theorem all_rb (s t : Int) : (hasB (rookR s) t || hasB (bishR s) t) = !(lineB s t == 0#64) := by
  rw [← all_line]
  unfold rookR bishR
  simp only [has_or, or8]
  unfold allA allA allA allA allA allA allA allA allA
  simp only [has_or, has_zero, Bool.false_or]
  rfl
theorem has_queen (s t : Int) (occ : BitVec 64) : hasB (queenB s occ) t = (!(lineB s t == 0#64) && (betB s t &&& occ) == 0#64) := by
  unfold queenB
  rw [has_or, has_rook, has_bish, ← all_rb]
  cases hasB (rookR s) t <;> cases hasB (bishR s) t <;> cases (betB s t &&& occ) == 0#64 <;> rfl

end Go.Proofs.YtnbfgangmkfolaaDoor
