/- Plain words on lists of squares, steps, shifts. No program here. -/
import Derived.Test.YtkkabacdiefabaaDoorU
namespace Go.Proofs.YtkkabacdiefabaaDoor
open Go

/-- The squares below n of a set, rising. -/
def listN (b : BitVec 64) (n : Nat) : List Nat := (List.range n).filter (fun k => b.getLsbD k)
/-- The squares of a set, rising. -/
def listB (b : BitVec 64) : List Int := (listN b 64).map (fun k : Nat => (k : Int))

theorem listN_succ_yes (b : BitVec 64) (k : Nat) (h : b.getLsbD k = true) : listN b (k + 1) = listN b k ++ [k] := by
  unfold listN; rw [List.range_succ, List.filter_append]; simp [h]
theorem listN_succ_no (b : BitVec 64) (k : Nat) (h : b.getLsbD k = false) : listN b (k + 1) = listN b k := by
  unfold listN; rw [List.range_succ, List.filter_append]; simp [h]
theorem listN_le (b : BitVec 64) (n : Nat) : (listN b n).length ≤ n := by
  unfold listN; exact Nat.le_trans (List.length_filter_le _ _) (by simp)
theorem listB_length (b : BitVec 64) : (listB b).length ≤ 64 := by unfold listB; rw [List.length_map]; exact listN_le b 64
theorem mem_listN (b : BitVec 64) (n k : Nat) : k ∈ listN b n ↔ k < n ∧ b.getLsbD k = true := by
  unfold listN; rw [List.mem_filter, List.mem_range]
theorem mem_listB (b : BitVec 64) (s : Int) : s ∈ listB b ↔ hasB b s = true := by
  unfold listB
  rw [List.mem_map]
  constructor
  · rintro ⟨k, hk, rfl⟩
    rw [mem_listN] at hk
    rw [hasB_nat b k hk.1]; exact hk.2
  · intro h
    by_cases hs : 0 ≤ s ∧ s < 64
    · obtain ⟨k, rfl⟩ := Int.eq_ofNat_of_zero_le hs.1
      refine ⟨k, ?_, rfl⟩
      rw [mem_listN]
      rw [hasB_nat b k (by omega)] at h
      exact ⟨by omega, h⟩
    · rw [hasB_out b hs] at h; cases h

/-- Puts what f tells of each, one behind the other. -/
def foldPut (f : Int → Int) (l : List Int) : BitVec 64 := l.foldl (fun a s => putB a (f s)) 0#64
theorem foldPut_snoc (f : Int → Int) (l : List Int) (x : Int) : foldPut f (l ++ [x]) = putB (foldPut f l) (f x) := by
  unfold foldPut; rw [List.foldl_append]; rfl
theorem has_foldPut (f : Int → Int) (l : List Int) (s : Int) : hasB (foldPut f l) s = l.any (fun x => decide (s = f x ∧ 0 ≤ s ∧ s < 64)) := by
  unfold foldPut
  suffices H : ∀ (l : List Int) (a : BitVec 64), hasB (l.foldl (fun a s => putB a (f s)) a) s = (hasB a s || l.any (fun x => decide (s = f x ∧ 0 ≤ s ∧ s < 64))) by
    rw [H l, has_zero]; rfl
  intro l
  induction l with
  | nil => intro a; simp
  | cons x r ih =>
    intro a
    rw [List.foldl_cons, ih, has_put, List.any_cons, Bool.or_assoc]

/-- Two functions of sets that go square by square agree if they agree on each lone square. -/
structure Lin (F : BitVec 64 → BitVec 64) : Prop where
  zero : F 0#64 = 0#64
  join : ∀ a b, F (a ||| b) = F a ||| F b

theorem lin_ext {F G : BitVec 64 → BitVec 64} (hF : Lin F) (hG : Lin G) (h : ∀ k : Nat, k < 64 → F (1#64 <<< k) = G (1#64 <<< k)) (b : BitVec 64) : F b = G b := by
  suffices H : ∀ n : Nat, n ≤ 64 → ∀ b : BitVec 64, (∀ k, n ≤ k → b.getLsbD k = false) → F b = G b by
    exact H 64 (Nat.le_refl _) b (fun k hk => BitVec.getLsbD_of_ge b k hk)
  intro n
  induction n with
  | zero =>
    intro _ b hb
    have : b = 0#64 := by
      apply BitVec.eq_of_getLsbD_eq; intro i _; rw [hb i (by omega)]; simp
    rw [this, hF.zero, hG.zero]
  | succ n ih =>
    intro hn b hb
    have e1 : ∀ k, n ≤ k → (b &&& ~~~(1#64 <<< n)).getLsbD k = false := by
      intro k hk
      rw [BitVec.getLsbD_and, BitVec.getLsbD_not, bit_one n k (by omega)]
      by_cases e : k = n
      · simp [e]
      · rw [hb k (by omega)]; rfl
    have ih' := ih (by omega) _ e1
    cases hb' : b.getLsbD n with
    | false =>
      have : b &&& ~~~(1#64 <<< n) = b := by
        apply BitVec.eq_of_getLsbD_eq; intro i hi
        rw [BitVec.getLsbD_and, BitVec.getLsbD_not, bit_one n i (by omega)]
        by_cases e : i = n
        · subst e; rw [hb']; rfl
        · simp [e, hi]
      rw [this] at ih'; exact ih'
    | true =>
      have : b = (b &&& ~~~(1#64 <<< n)) ||| (1#64 <<< n) := by
        apply BitVec.eq_of_getLsbD_eq; intro i hi
        rw [BitVec.getLsbD_or, BitVec.getLsbD_and, BitVec.getLsbD_not, bit_one n i (by omega)]
        by_cases e : i = n
        · subst e; rw [hb']; simp
        · simp [e, hi]
      rw [this, hF.join, hG.join, ih', h n (by omega)]

/-- What is put square by square. -/
def viaList (f : Int → Int) (b : BitVec 64) : BitVec 64 := foldPut f (listB b)
theorem has_viaList (f : Int → Int) (b : BitVec 64) (s : Int) : hasB (viaList f b) s = true ↔ ∃ t, hasB b t = true ∧ s = f t ∧ 0 ≤ s ∧ s < 64 := by
  unfold viaList
  rw [has_foldPut, List.any_eq_true]
  constructor
  · rintro ⟨t, ht, h⟩; exact ⟨t, (mem_listB b t).1 ht, by simpa using h⟩
  · rintro ⟨t, ht, h⟩; exact ⟨t, (mem_listB b t).2 ht, by simpa using h⟩
theorem ext_has' {a b : BitVec 64} (h : ∀ s : Int, hasB a s = true ↔ hasB b s = true) : a = b := by
  apply ext_has; intro k _
  have := h (k : Int)
  cases h1 : hasB a (k : Int) <;> cases h2 : hasB b (k : Int) <;> simp_all
theorem lin_viaList (f : Int → Int) : Lin (viaList f) := by
  constructor
  · apply ext_has'; intro s
    rw [has_viaList]
    constructor
    · rintro ⟨t, ht, _⟩; rw [has_zero] at ht; cases ht
    · intro h; rw [has_zero] at h; cases h
  · intro a b
    apply ext_has'; intro s
    rw [has_or, Bool.or_eq_true, has_viaList, has_viaList, has_viaList]
    constructor
    · rintro ⟨t, ht, h⟩
      rw [has_or, Bool.or_eq_true] at ht
      rcases ht with ht | ht
      · exact .inl ⟨t, ht, h⟩
      · exact .inr ⟨t, ht, h⟩
    · rintro (⟨t, ht, h⟩ | ⟨t, ht, h⟩)
      · exact ⟨t, by rw [has_or, ht]; rfl, h⟩
      · exact ⟨t, by rw [has_or, ht]; simp, h⟩

theorem lin_shl (n : Nat) (m : BitVec 64) : Lin (fun b => (b <<< n) &&& m) := by
  constructor
  · simp
  · intro a b
    apply BitVec.eq_of_getLsbD_eq; intro i hi
    simp only [BitVec.getLsbD_and, BitVec.getLsbD_or, BitVec.getLsbD_shiftLeft]
    cases a.getLsbD (i - n) <;> cases b.getLsbD (i - n) <;> cases m.getLsbD i <;> cases decide (i < n) <;> simp [hi]
theorem lin_shr (n : Nat) (m : BitVec 64) : Lin (fun b => (b >>> n) &&& m) := by
  constructor
  · simp
  · intro a b
    apply BitVec.eq_of_getLsbD_eq; intro i hi
    simp only [BitVec.getLsbD_and, BitVec.getLsbD_or, BitVec.getLsbD_ushiftRight]
    cases a.getLsbD (n + i) <;> cases b.getLsbD (n + i) <;> cases m.getLsbD i <;> simp
theorem Lin.or {F G : BitVec 64 → BitVec 64} (hF : Lin F) (hG : Lin G) : Lin (fun b => F b ||| G b) := by
  constructor
  · rw [hF.zero, hG.zero]; rfl
  · intro a b
    rw [hF.join, hG.join]
    apply BitVec.eq_of_getLsbD_eq; intro i _
    simp only [BitVec.getLsbD_or]
    cases (F a).getLsbD i <;> cases (F b).getLsbD i <;> cases (G a).getLsbD i <;> simp
theorem Lin.comp {F G : BitVec 64 → BitVec 64} (hF : Lin F) (hG : Lin G) : Lin (fun b => F (G b)) := by
  constructor
  · rw [hG.zero, hF.zero]
  · intro a b; rw [hG.join, hF.join]
theorem lin_and (m : BitVec 64) : Lin (fun b => b &&& m) := by
  constructor
  · simp
  · intro a b
    apply BitVec.eq_of_getLsbD_eq; intro i _
    simp only [BitVec.getLsbD_and, BitVec.getLsbD_or]
    cases a.getLsbD i <;> cases b.getLsbD i <;> cases m.getLsbD i <;> simp
theorem lin_none : Lin (fun _ => 0#64) := ⟨rfl, fun _ _ => by simp⟩

/-- How far a direction leads: files, ranks. -/
def dirF (dir : Int) : Int := [0, 1, 1, 1, 0, -1, -1, -1].getD dir.toNat 0
def dirR (dir : Int) : Int := [1, 1, 0, -1, -1, -1, 0, 1].getD dir.toNat 0
/-- The square one step in a direction from a square; -1: it is beyond the board. -/
def stepI (s dir : Int) : Int :=
  if 0 ≤ s ∧ s < 64 ∧ 0 ≤ dir ∧ dir < 8 then
    if 0 ≤ s % 8 + dirF dir ∧ s % 8 + dirF dir < 8 ∧ 0 ≤ s / 8 + dirR dir ∧ s / 8 + dirR dir < 8 then 8 * (s / 8 + dirR dir) + (s % 8 + dirF dir) else -1
  else -1

def fileA : BitVec 64 := 0x0101010101010101#64
def fileH : BitVec 64 := 0x8080808080808080#64
/-- A step of a whole set. -/
def shiftB (b : BitVec 64) (dir : Int) : BitVec 64 :=
  if dir = 0 then (b <<< 8) &&& ~~~0#64
  else if dir = 1 then (b <<< 9) &&& ~~~fileA
  else if dir = 2 then (b <<< 1) &&& ~~~fileA
  else if dir = 3 then (b >>> 7) &&& ~~~fileA
  else if dir = 4 then (b >>> 8) &&& ~~~0#64
  else if dir = 5 then (b >>> 9) &&& ~~~fileH
  else if dir = 6 then (b >>> 1) &&& ~~~fileH
  else if dir = 7 then (b <<< 7) &&& ~~~fileH
  else 0#64

theorem shiftB_out (b : BitVec 64) {dir : Int} (h : ¬ (0 ≤ dir ∧ dir < 8)) : shiftB b dir = 0#64 := by
  unfold shiftB
  repeat rw [if_neg (by omega)]

theorem dir_cases {dir : Int} (h0 : 0 ≤ dir) (h1 : dir < 8) : dir = 0 ∨ dir = 1 ∨ dir = 2 ∨ dir = 3 ∨ dir = 4 ∨ dir = 5 ∨ dir = 6 ∨ dir = 7 := by omega

theorem lin_shiftB (dir : Int) : Lin (fun b => shiftB b dir) := by
  by_cases h : 0 ≤ dir ∧ dir < 8
  · rcases dir_cases h.1 h.2 with rfl | rfl | rfl | rfl | rfl | rfl | rfl | rfl
    · exact lin_shl _ _
    · exact lin_shl _ _
    · exact lin_shl _ _
    · exact lin_shr _ _
    · exact lin_shr _ _
    · exact lin_shr _ _
    · exact lin_shr _ _
    · exact lin_shl _ _
  · have : (fun b => shiftB b dir) = fun _ => 0#64 := by funext b; exact shiftB_out b h
    rw [this]; exact lin_none

theorem shift_ones : ∀ d : Fin 8, ∀ k : Fin 64, viaList (fun s => stepI s (d.val : Int)) (1#64 <<< k.val) = shiftB (1#64 <<< k.val) (d.val : Int) := by decide +kernel

/-- The reference's way: step by step. -/
theorem shift_via (b : BitVec 64) (dir : Int) : viaList (fun s => stepI s dir) b = shiftB b dir := by
  by_cases h : 0 ≤ dir ∧ dir < 8
  · obtain ⟨d, rfl⟩ := Int.eq_ofNat_of_zero_le h.1
    exact lin_ext (lin_viaList _) (lin_shiftB _) (fun k hk => shift_ones ⟨d, by omega⟩ ⟨k, hk⟩) b
  · rw [shiftB_out b h]
    apply ext_has'; intro s
    rw [has_viaList]
    constructor
    · rintro ⟨t, _, hs, h0, _⟩
      have : stepI t dir = -1 := by unfold stepI; rw [if_neg (by omega)]
      omega
    · intro hh; rw [has_zero] at hh; cases hh

/-- The ranks turned about. -/
def flipB (b : BitVec 64) : BitVec 64 :=
  let x := ((b >>> 8) &&& 0x00ff00ff00ff00ff#64) ||| ((b &&& 0x00ff00ff00ff00ff#64) <<< 8)
  let y := ((x >>> 16) &&& 0x0000ffff0000ffff#64) ||| ((x &&& 0x0000ffff0000ffff#64) <<< 16)
  (y >>> 32) ||| (y <<< 32)

theorem lin_shl' (n : Nat) : Lin (fun b => b <<< n) := by
  have e : (fun b : BitVec 64 => b <<< n) = (fun b : BitVec 64 => (b <<< n) &&& BitVec.allOnes 64) := by funext b; exact (BitVec.and_allOnes).symm
  rw [e]; exact lin_shl n _
theorem lin_shr' (n : Nat) : Lin (fun b => b >>> n) := by
  have e : (fun b : BitVec 64 => b >>> n) = (fun b : BitVec 64 => (b >>> n) &&& BitVec.allOnes 64) := by funext b; exact (BitVec.and_allOnes).symm
  rw [e]; exact lin_shr n _
theorem lin_flipB : Lin flipB := by
  have h1 : Lin (fun b : BitVec 64 => ((b >>> 8) &&& 0x00ff00ff00ff00ff#64) ||| ((b &&& 0x00ff00ff00ff00ff#64) <<< 8)) :=
    (lin_shr _ _).or ((lin_shl' 8).comp (lin_and _))
  have h2 : Lin (fun x : BitVec 64 => ((x >>> 16) &&& 0x0000ffff0000ffff#64) ||| ((x &&& 0x0000ffff0000ffff#64) <<< 16)) :=
    (lin_shr _ _).or ((lin_shl' 16).comp (lin_and _))
  have h3 : Lin (fun y : BitVec 64 => (y >>> 32) ||| (y <<< 32)) := (lin_shr' 32).or (lin_shl' 32)
  exact h3.comp (h2.comp h1)

/-- A square's rank turned about. -/
def flipI (s : Int) : Int := 8 * (7 - s / 8) + s % 8
theorem flip_ones : ∀ k : Fin 64, viaList flipI (1#64 <<< k.val) = flipB (1#64 <<< k.val) := by decide +kernel
theorem flip_via (b : BitVec 64) : viaList flipI b = flipB b :=
  lin_ext (lin_viaList _) lin_flipB (fun k hk => flip_ones ⟨k, hk⟩) b

/-! ### how the walk spells shifts -/
theorem shl_u (b : BitVec 64) (n : Nat) : IntKind.u64.wrap (u b * 2 ^ n) = u (b <<< n) := by
  rw [IntKind.wrap_u64]; unfold u
  rw [BitVec.toNat_shiftLeft, Nat.shiftLeft_eq]
  have : ((2 : Int) ^ n) = ((2 ^ n : Nat) : Int) := by simp
  rw [this]
  generalize 2 ^ n = m
  omega
theorem shr_u (b : BitVec 64) (n : Nat) : u b / 2 ^ n = u (b >>> n) := by
  unfold u
  rw [BitVec.toNat_ushiftRight, Nat.shiftRight_eq_div_pow]
  have : ((2 : Int) ^ n) = ((2 ^ n : Nat) : Int) := by simp
  rw [this]
  generalize 2 ^ n = m
  omega

theorem take_snocI (l : List Int) (k : Nat) (h : k < l.length) : l.take (k + 1) = l.take k ++ [l[k]] := by
  rw [List.take_succ_eq_append_getElem h]
theorem foldPut_take (f : Int → Int) (l : List Int) (k : Nat) (h : k < l.length) : foldPut f (l.take (k + 1)) = putB (foldPut f (l.take k)) (f (l[k])) := by
  rw [take_snocI l k h, foldPut_snoc]
theorem listB_range (b : BitVec 64) (k : Nat) (h : k < (listB b).length) : 0 ≤ (listB b)[k] ∧ (listB b)[k] < 64 := by
  have hm : (listB b)[k] ∈ listB b := List.getElem_mem h
  rw [mem_listB] at hm
  apply Classical.byContradiction; intro hc
  rw [hasB_out b (by omega)] at hm; cases hm

end Go.Proofs.YtkkabacdiefabaaDoor
