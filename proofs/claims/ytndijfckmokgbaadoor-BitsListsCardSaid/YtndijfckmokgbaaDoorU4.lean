/- Plain laws on sets of squares (layer 1). No program here. -/
import Derived.Test.YtndijfckmokgbaaDoorU3
namespace Go.Proofs.YtndijfckmokgbaaDoor
open Go

theorem put_of_has {b : BitVec 64} {s : Int} (h : hasB b s = true) : putB b s = b := by
  rw [put_plus, if_pos h]
theorem clear_of_not {b : BitVec 64} {s : Int} (h : hasB b s = false) : clearB b s = b := by
  rw [clear_minus, if_neg (by simp [h])]
theorem put_clear {b : BitVec 64} {s : Int} (h : hasB b s = true) : putB (clearB b s) s = b := by
  apply ext_has; intro k hk
  rw [has_put, has_clear]
  by_cases e : (k : Int) = s
  · subst e; rw [h]; simp
  · simp [e]
theorem clear_put {b : BitVec 64} {s : Int} (h : hasB b s = false) : clearB (putB b s) s = b := by
  apply ext_has; intro k hk
  rw [has_clear, has_put]
  by_cases e : (k : Int) = s
  · subst e; rw [h]; simp
  · simp [e]
theorem has_put_self {b : BitVec 64} {s : Int} (h0 : 0 ≤ s) (h1 : s < 64) : hasB (putB b s) s = true := by
  rw [has_put]; simp [h0, h1]
theorem has_clear_self (b : BitVec 64) (s : Int) : hasB (clearB b s) s = false := by
  by_cases h : 0 ≤ s ∧ s < 64
  · rw [has_clear]; simp [h.1, h.2]
  · exact hasB_out _ h
theorem has_put_other {b : BitVec 64} {s t : Int} (h : s ≠ t) : hasB (putB b s) t = hasB b t := by
  rw [has_put]; simp [Ne.symm h]
theorem has_clear_other {b : BitVec 64} {s t : Int} (h : s ≠ t) : hasB (clearB b s) t = hasB b t := by
  rw [has_clear]; simp [Ne.symm h]

theorem shift_both (a b : BitVec 64) (dir : Int) : shiftB (a &&& b) dir = shiftB a dir &&& shiftB b dir := by
  have hl : ∀ (n : Nat) (m : BitVec 64), ((a &&& b) <<< n) &&& m = ((a <<< n) &&& m) &&& ((b <<< n) &&& m) := by
    intro n m
    apply BitVec.eq_of_getLsbD_eq; intro i hi
    simp only [BitVec.getLsbD_and, BitVec.getLsbD_shiftLeft]
    cases a.getLsbD (i - n) <;> cases b.getLsbD (i - n) <;> cases m.getLsbD i <;> cases decide (i < n) <;> simp [hi]
  have hr : ∀ (n : Nat) (m : BitVec 64), ((a &&& b) >>> n) &&& m = ((a >>> n) &&& m) &&& ((b >>> n) &&& m) := by
    intro n m
    apply BitVec.eq_of_getLsbD_eq; intro i hi
    simp only [BitVec.getLsbD_and, BitVec.getLsbD_ushiftRight]
    cases a.getLsbD (n + i) <;> cases b.getLsbD (n + i) <;> cases m.getLsbD i <;> simp
  by_cases h : 0 ≤ dir ∧ dir < 8
  · rcases dir_cases h.1 h.2 with rfl | rfl | rfl | rfl | rfl | rfl | rfl | rfl
    · exact hl _ _
    · exact hl _ _
    · exact hl _ _
    · exact hr _ _
    · exact hr _ _
    · exact hr _ _
    · exact hr _ _
    · exact hl _ _
  · rw [shiftB_out _ h, shiftB_out _ h, shiftB_out _ h]; rfl

theorem lin_id : Lin (fun b => b) := ⟨rfl, fun _ _ => rfl⟩
theorem flip_flip_ones : ∀ k : Fin 64, flipB (flipB (1#64 <<< k.val)) = 1#64 <<< k.val := by decide +kernel
theorem flip_flip (b : BitVec 64) : flipB (flipB b) = b :=
  lin_ext (lin_flipB.comp lin_flipB) lin_id (fun k hk => flip_flip_ones ⟨k, hk⟩) b
theorem flip_shift_ones : ∀ d : Fin 8, ∀ k : Fin 64, flipB (shiftB (1#64 <<< k.val) (d.val : Int)) = shiftB (flipB (1#64 <<< k.val)) (((12 - d.val) % 8 : Nat) : Int) := by decide +kernel
theorem flip_shift (b : BitVec 64) (d : Nat) (hd : d < 8) : flipB (shiftB b (d : Int)) = shiftB (flipB b) (((12 - d) % 8 : Nat) : Int) :=
  lin_ext (lin_flipB.comp (lin_shiftB _)) ((lin_shiftB _).comp lin_flipB) (fun k hk => flip_shift_ones ⟨d, hd⟩ ⟨k, hk⟩) b

theorem flipI_range {s : Int} (h0 : 0 ≤ s) (h1 : s < 64) : 0 ≤ flipI s ∧ flipI s < 64 ∧ flipI (flipI s) = s := by
  unfold flipI; omega
theorem has_flip (b : BitVec 64) (s : Int) (h0 : 0 ≤ s) (h1 : s < 64) : hasB (flipB b) s = hasB b (flipI s) := by
  have h := flipI_range h0 h1
  rw [Bool.eq_iff_iff, ← flip_via, has_viaList]
  constructor
  · rintro ⟨t, ht, rfl, _⟩
    have : 0 ≤ t ∧ t < 64 := by
      apply Classical.byContradiction; intro hc; rw [hasB_out b hc] at ht; cases ht
    rw [(flipI_range this.1 this.2).2.2]; exact ht
  · intro hh; exact ⟨flipI s, hh, h.2.2.symm, h0, h1⟩

/-- How many squares, by a count over all numbers. -/
theorem cntB_filter (b : BitVec 64) : cntB b = ((List.range 64).filter (fun k => b.getLsbD k)).length := by
  unfold cntB listB listN; rw [List.length_map]
def flipN (k : Nat) : Nat := 8 * (7 - k / 8) + k % 8
theorem flipN_perm : ((List.range 64).map flipN).Perm (List.range 64) := by decide +kernel
theorem cnt_flip (b : BitVec 64) : cntB (flipB b) = cntB b := by
  rw [cntB_filter, cntB_filter, ← (flipN_perm.filter _).length_eq, List.filter_map, List.length_map]
  congr 1
  apply List.filter_congr
  intro k hk
  rw [List.mem_range] at hk
  simp only [Function.comp]
  have hf : flipN k < 64 := by unfold flipN; omega
  have h1 := has_flip b (flipN k : Int) (by omega) (by omega)
  have h2 : flipI (flipN k : Int) = (k : Int) := by unfold flipI flipN; omega
  rw [h2, hasB_nat _ k hk, hasB_nat _ (flipN k) hf] at h1
  exact h1

theorem cnt_shl (x : BitVec 64) (n : Nat) (hn : n ≤ 64) (h : ∀ j, 64 - n ≤ j → x.getLsbD j = false) : cntB (x <<< n) = cntB x := by
  rw [cntB_filter, cntB_filter]
  have e1 : List.range 64 = List.range n ++ (List.range (64 - n)).map (fun j => n + j) := by
    have := List.range_add (n := n) (m := 64 - n)
    rw [show n + (64 - n) = 64 from by omega] at this; exact this
  have e2 : List.range 64 = List.range (64 - n) ++ (List.range n).map (fun j => (64 - n) + j) := by
    have := List.range_add (n := 64 - n) (m := n)
    rw [show 64 - n + n = 64 from by omega] at this; exact this
  have a1 : ((List.range 64).filter (fun k => (x <<< n).getLsbD k)).length = ((List.range (64 - n)).filter (fun k => x.getLsbD k)).length := by
    rw [e1, List.filter_append, List.length_append]
    have z : (List.range n).filter (fun k => (x <<< n).getLsbD k) = [] := by
      rw [List.filter_eq_nil_iff]
      intro k hk
      rw [List.mem_range] at hk
      rw [BitVec.getLsbD_shiftLeft]; simp [hk]
    rw [z, List.filter_map, List.length_map]
    simp only [List.length_nil, Nat.zero_add]
    congr 1
    apply List.filter_congr
    intro k hk
    rw [List.mem_range] at hk
    simp only [Function.comp]
    rw [BitVec.getLsbD_shiftLeft]
    have t1 : decide (n + k < 64) = true := by simp; omega
    have t2 : decide (n + k < n) = false := by simp
    rw [t1, t2, show n + k - n = k from by omega]; simp
  have a2 : ((List.range 64).filter (fun k => x.getLsbD k)).length = ((List.range (64 - n)).filter (fun k => x.getLsbD k)).length := by
    rw [e2, List.filter_append, List.length_append]
    have z : ((List.range n).map (fun j => (64 - n) + j)).filter (fun k => x.getLsbD k) = [] := by
      rw [List.filter_eq_nil_iff]
      intro k hk
      rw [List.mem_map] at hk
      obtain ⟨j, _, rfl⟩ := hk
      rw [h _ (by omega)]; simp
    rw [z]; rfl
  rw [a1, a2]
theorem cnt_shr (x : BitVec 64) (n : Nat) (hn : n ≤ 64) (h : ∀ j, j < n → x.getLsbD j = false) : cntB (x >>> n) = cntB x := by
  have e : (x >>> n) <<< n = x := by
    apply BitVec.eq_of_getLsbD_eq; intro i hi
    rw [BitVec.getLsbD_shiftLeft, BitVec.getLsbD_ushiftRight]
    by_cases hl : i < n
    · rw [h i hl]; simp [hl]
    · rw [show n + (i - n) = i from by omega]; simp [hi, hl]
  rw [← cnt_shl (x >>> n) n hn ?_, e]
  intro j hj
  rw [BitVec.getLsbD_ushiftRight]
  exact BitVec.getLsbD_of_ge x _ (by omega)

/-- The squares from which a step in a direction stays on the board. -/
def stays (d : Nat) : BitVec 64 :=
  [0x00ffffffffffffff#64, 0x007f7f7f7f7f7f7f#64, 0x7f7f7f7f7f7f7f7f#64, 0x7f7f7f7f7f7f7f00#64, 0xffffffffffffff00#64, 0xfefefefefefefe00#64, 0xfefefefefefefefe#64, 0x00fefefefefefefe#64].getD d 0#64
theorem back_ones : ∀ d : Fin 8, ∀ k : Fin 64, shiftB (shiftB (1#64 <<< k.val) (d.val : Int)) (((d.val + 4) % 8 : Nat) : Int) = (1#64 <<< k.val) &&& stays d.val := by decide +kernel
theorem shift_back (b : BitVec 64) (d : Nat) (hd : d < 8) : shiftB (shiftB b (d : Int)) (((d + 4) % 8 : Nat) : Int) = b &&& stays d :=
  lin_ext ((lin_shiftB _).comp (lin_shiftB _)) (lin_and _) (fun k hk => back_ones ⟨d, hd⟩ ⟨k, hk⟩) b
theorem stay_ones : ∀ d : Fin 8, ∀ k : Fin 64, shiftB (1#64 <<< k.val) (d.val : Int) = shiftB ((1#64 <<< k.val) &&& stays d.val) (d.val : Int) := by decide +kernel
theorem shift_stay (b : BitVec 64) (d : Nat) (hd : d < 8) : shiftB b (d : Int) = shiftB (b &&& stays d) (d : Int) :=
  lin_ext (lin_shiftB _) ((lin_shiftB _).comp (lin_and _)) (fun k hk => stay_ones ⟨d, hd⟩ ⟨k, hk⟩) b
/-- How far a direction leads. -/
def wayN (d : Nat) : Nat := [8, 9, 1, 7, 8, 9, 1, 7].getD d 0
def up (d : Nat) : Bool := [true, true, true, false, false, false, false, true].getD d false
theorem stay_plain_ones : ∀ d : Fin 8, ∀ k : Fin 64, shiftB ((1#64 <<< k.val) &&& stays d.val) (d.val : Int) = if up d.val = true then ((1#64 <<< k.val) &&& stays d.val) <<< wayN d.val else ((1#64 <<< k.val) &&& stays d.val) >>> wayN d.val := by decide +kernel
theorem lin_way (d : Nat) : Lin (fun b => if up d = true then b <<< wayN d else b >>> wayN d) := by
  cases h : up d with
  | true => exact lin_shl' _
  | false => exact lin_shr' _
theorem stay_plain (b : BitVec 64) (d : Nat) (hd : d < 8) : shiftB (b &&& stays d) (d : Int) = if up d = true then (b &&& stays d) <<< wayN d else (b &&& stays d) >>> wayN d :=
  lin_ext ((lin_shiftB _).comp (lin_and _)) ((lin_way d).comp (lin_and _)) (fun k hk => stay_plain_ones ⟨d, hd⟩ ⟨k, hk⟩) b
theorem stays_high : ∀ d : Fin 8, ∀ j : Fin 64, (up d.val = true → 64 - wayN d.val ≤ j.val → (stays d.val).getLsbD j.val = false) ∧ (up d.val = false → j.val < wayN d.val → (stays d.val).getLsbD j.val = false) ∧ wayN d.val ≤ 64 := by decide +kernel
theorem cnt_shift (b : BitVec 64) (d : Nat) (hd : d < 8) : cntB (shiftB b (d : Int)) = cntB (b &&& stays d) := by
  rw [shift_stay b d hd, stay_plain b d hd]
  cases h : up d with
  | true =>
    rw [if_pos rfl]
    refine cnt_shl _ _ ((stays_high ⟨d, hd⟩ 0).2.2) ?_
    intro j hj
    rw [BitVec.getLsbD_and]
    by_cases h64 : j < 64
    · rw [(stays_high ⟨d, hd⟩ ⟨j, h64⟩).1 h hj]; simp
    · rw [BitVec.getLsbD_of_ge b _ (by omega)]; rfl
  | false =>
    rw [if_neg (by simp)]
    refine cnt_shr _ _ ((stays_high ⟨d, hd⟩ 0).2.2) ?_
    intro j hj
    have hw := (stays_high ⟨d, hd⟩ 0).2.2
    simp only at hw
    rw [BitVec.getLsbD_and, (stays_high ⟨d, hd⟩ ⟨j, by omega⟩).2.1 h hj]; simp
/-- Which squares lie at the edge towards a direction. -/
def edgeB (d s : Int) : Bool := ((d == 7 || decide (d ≤ 1)) && s / 8 == 7) || ((decide (d ≥ 3) && decide (d ≤ 5)) && s / 8 == 0) || ((decide (d ≥ 1) && decide (d ≤ 3)) && s % 8 == 7) || (decide (d ≥ 5) && s % 8 == 0)
theorem edge_all : ∀ d : Fin 8, ∀ k : Fin 64, (stays d.val).getLsbD k.val = !edgeB (d.val : Int) (k.val : Int) := by decide +kernel
theorem left_edge (b : BitVec 64) (d : Nat) (hd : d < 8) (k : Nat) (hk : k < 64) (h : hasB (b &&& ~~~(b &&& stays d)) (k : Int) = true) : edgeB (d : Int) (k : Int) = true := by
  rw [has_andNot, has_and] at h
  have e := edge_all ⟨d, hd⟩ ⟨k, hk⟩
  simp only at e
  rw [← hasB_nat _ k hk] at e
  cases h1 : hasB b (k : Int) <;> cases h2 : hasB (stays d) (k : Int) <;> simp_all

theorem fold_id (b : BitVec 64) : foldPut (fun s => s) (listB b) = b := by
  apply ext_has'; intro s
  have := has_viaList (fun s => s) b s
  unfold viaList at this
  rw [this]
  constructor
  · rintro ⟨t, ht, rfl, _⟩; exact ht
  · intro h
    have : 0 ≤ s ∧ s < 64 := by
      apply Classical.byContradiction; intro hc; rw [hasB_out b hc] at h; cases h
    exact ⟨s, h, rfl, this.1, this.2⟩
theorem listB_rises (b : BitVec 64) (i j : Nat) (hij : i < j) (hj : j < (listB b).length) : (listB b)[i] < (listB b)[j] := by
  have h1 : (listN b 64).Pairwise (· < ·) := by
    unfold listN; exact List.Pairwise.filter _ List.pairwise_lt_range
  have h2 : (listB b).Pairwise (· < ·) := by
    unfold listB
    rw [List.pairwise_map]
    exact h1.imp (fun h => by omega)
  exact (List.pairwise_iff_getElem.1 h2) i j (by omega) hj hij
theorem firstB_head (b : BitVec 64) (h : 0 < (listB b).length) : firstB b = (listB b)[0] := by
  unfold firstB
  rw [List.head?_eq_getElem?, List.getElem?_eq_getElem h]; rfl

/-! ### a direction out of any number -/
theorem dir_any (a : Int) : (IntKind.u64.wrap a).tmod 8 = 0 ∨ (IntKind.u64.wrap a).tmod 8 = 1 ∨ (IntKind.u64.wrap a).tmod 8 = 2 ∨ (IntKind.u64.wrap a).tmod 8 = 3 ∨ (IntKind.u64.wrap a).tmod 8 = 4 ∨ (IntKind.u64.wrap a).tmod 8 = 5 ∨ (IntKind.u64.wrap a).tmod 8 = 6 ∨ (IntKind.u64.wrap a).tmod 8 = 7 := by
  have h : 0 ≤ IntKind.u64.wrap a := by rw [IntKind.wrap_u64]; omega
  rw [Int.tmod_eq_emod_of_nonneg h]
  omega
theorem flip_shiftI (b : BitVec 64) (d : Int) (hd : 0 ≤ d ∧ d < 8) : flipB (shiftB b d) = shiftB (flipB b) ((12 - d) % 8) := by
  obtain ⟨n, rfl⟩ := Int.eq_ofNat_of_zero_le hd.1
  rw [flip_shift b n (by omega)]
  congr 1
  omega

theorem list_facts (b : BitVec 64) : ∃ l : List Int, listB b = l ∧ l.length ≤ 64 ∧ foldPut (fun s => s) l = b ∧ (∀ (i j : Nat) (_ : i < j) (hj : j < l.length), l[i] < l[j]) ∧ cntB b = l.length ∧ (∀ h : 0 < l.length, firstB b = l[0]) ∧ ∀ (i : Nat) (hi : i < l.length), hasB b (l[i]) = true :=
  ⟨listB b, rfl, listB_length b, fold_id b, listB_rises b, rfl, firstB_head b, fun _ hi => (mem_listB b _).1 (List.getElem_mem hi)⟩

end Go.Proofs.YtndijfckmokgbaaDoor
