/- A position as an argument: its opening and its data; two positions compared. -/
import Derived.Test.YtkkabacdiefabaaDoorP1
import Derived.DeepKeys
namespace Go.Proofs.YtkkabacdiefabaaDoor
open Go Go.RowKit Go.WideShapes

def tyAt (i : Nat) : TypeId := if i ≤ 64 then 5 else if i = 65 then 23 else if i ≤ 78 then 5 else if i ≤ 83 then 26 else if i ≤ 85 then 5 else 3
theorem und_ty (i : Nat) : Tryd.prog.underlying (tyAt i) = some (.int (kindAt i)) := by
  unfold tyAt kindAt
  split
  · exact Tryd.underlying5
  · split
    · exact Tryd.underlying23
    · split
      · exact Tryd.underlying5
      · split
        · exact Tryd.underlying26
        · split
          · exact Tryd.underlying5
          · exact Tryd.underlying3
theorem typesPos : Tryd.prog.cellTypes Tryd.prog.depth 31 = some ((List.range 88).map tyAt) := by kernel_rfl

theorem wf_of_ok {w : World} {base : Nat} {t : TypeId} {k : IntKind} {v : Value} (ht : Tryd.prog.underlying t = some (.int k)) (h : Cell.okWide Tryd.prog w .any base t v) : ∃ x, v = .int k x ∧ (Lit.int k x).wf = true := by
  unfold Cell.okWide at h
  rw [ht] at h
  simp only [Cell.ok, ht] at h
  cases v <;> simp_all [Lit.wf, IntKind.has]

theorem open_pos {w : World} {base : Nat} {v : Value} (h : Value.okWide Tryd.prog w .any base 31 v) : ∃ n, v = .agg (posA n) ∧ PosOk n := by
  simp only [Value.okWide, Tryd.underlying31] at h
  obtain ⟨cs, rfl, hs, ts, hts, _, hc⟩ := h
  rw [typesPos] at hts
  cases hts
  rw [cellsPos] at hs
  have H : ∀ i, i < 88 → ∃ x, cs[i]? = some (.int (kindAt i) x) ∧ (Lit.int (kindAt i) x).wf = true := by
    intro i hi
    obtain ⟨v, hv⟩ : ∃ v, cs[i]? = some v := ⟨cs[i]'(by omega), Array.getElem?_eq_some_iff.2 ⟨by omega, rfl⟩⟩
    obtain ⟨t, ht, hok⟩ := hc i v hv
    rw [List.length_map, List.length_range, Nat.mod_eq_of_lt hi, List.getElem?_map, List.getElem?_range hi] at ht
    cases ht
    obtain ⟨x, rfl, hx⟩ := wf_of_ok (und_ty i) hok
    exact ⟨x, hv, hx⟩
  refine ⟨fun i => if h : i < 88 then Classical.choose (H i h) else 0, ?_, ?_⟩
  · congr 1
    apply Array.ext_getElem?
    intro i
    by_cases hi : i < 88
    · rw [posA_get _ i hi, (Classical.choose_spec (H i hi)).1]
      unfold cellP
      simp only [dif_pos hi]
    · rw [Array.getElem?_eq_none_iff.2 (by omega), Array.getElem?_eq_none_iff.2 (by rw [posA_size]; omega)]
  · intro i hi
    simp only [dif_pos hi]
    exact (Classical.choose_spec (H i hi)).2

theorem row_drop (n : Nat → Int) (o k : Nat) (h : o + k ≤ 88) : ((posA n).toList.drop o).take k = (List.range k).map (fun j => cellP n (o + j)) := by
  rw [posA_toList]
  apply List.ext_getElem?
  intro i
  rw [List.getElem?_take]
  by_cases hi : i < k
  · rw [if_pos hi, List.getElem?_drop, List.getElem?_map, List.getElem?_range (by omega), List.getElem?_map, List.getElem?_range hi]; rfl
  · rw [if_neg hi, List.getElem?_eq_none (by simp; omega)]
theorem row_drop2 (n : Nat → Int) (o k p q : Nat) (h : p + q ≤ k) : ((((List.range k).map (fun j => cellP n (o + j))).drop p).take q) = (List.range q).map (fun j => cellP n (o + p + j)) := by
  apply List.ext_getElem?
  intro i
  rw [List.getElem?_take]
  by_cases hi : i < q
  · rw [if_pos hi, List.getElem?_drop, List.getElem?_map, List.getElem?_range (by omega), List.getElem?_map, List.getElem?_range hi]
    simp [Nat.add_assoc]
  · rw [if_neg hi, List.getElem?_eq_none (by simp; omega)]

section
variable {H : Type} (enc : TypeId × Value → H)
theorem reads_cell (n : Nat → Int) (hn : PosOk n) (t : TypeId) (i : Nat) (hi : i < 88) (ht : Tryd.prog.underlying t = some (.int (kindAt i))) : Reads0 enc t ((List.range 1).map (fun j => cellP n (i + j))) :=
  reads_int enc ht (hn i hi)
theorem reads_row (n : Nat → Int) (hn : PosOk n) (t e : TypeId) (o k : Nat) (h : o + k ≤ 88) (ht : Tryd.prog.underlying t = some (.array k e)) (hc : Tryd.prog.cellsOf t = k) (h1 : Tryd.prog.cellsOf e = 1) (he : ∀ i, i < k → Tryd.prog.underlying e = some (.int (kindAt (o + i)))) :
    Reads0 enc t ((List.range k).map (fun j => cellP n (o + j))) := by
  refine reads_array enc ht (by rw [List.length_map, List.length_range, hc]) (fun i hi => ?_)
  rw [h1, Nat.mul_one, row_drop2 n o k i 1 (by omega)]
  exact reads_cell enc n hn e (o + i) (by omega) (he i hi)
theorem reads_rows (n : Nat → Int) (hn : PosOk n) (t r e : TypeId) (o m k : Nat) (h : o + m * k ≤ 88) (ht : Tryd.prog.underlying t = some (.array m r)) (hc : Tryd.prog.cellsOf t = m * k) (hr : Tryd.prog.underlying r = some (.array k e)) (hcr : Tryd.prog.cellsOf r = k) (h1 : Tryd.prog.cellsOf e = 1) (he : ∀ i, i < m * k → Tryd.prog.underlying e = some (.int (kindAt (o + i)))) :
    Reads0 enc t ((List.range (m * k)).map (fun j => cellP n (o + j))) := by
  refine reads_array enc ht (by rw [List.length_map, List.length_range, hc]) (fun i hi => ?_)
  have hb : i * k + k ≤ m * k := by
    have := Nat.mul_le_mul_right k (show i + 1 ≤ m by omega)
    rw [Nat.add_mul, Nat.one_mul] at this; exact this
  rw [hcr, row_drop2 n o (m * k) (i * k) k hb]
  exact reads_row enc n hn r e (o + i * k) k (by omega) hr hcr h1 (fun j hj => by rw [Nat.add_assoc]; exact he _ (by omega))
theorem reads_pos (n : Nat → Int) (hn : PosOk n) : Reads0 enc 31 (posA n).toList := by
  refine reads_struct enc Tryd.underlying31 (by rw [Array.length_toList, posA_size, cellsPos]) (fun f hf => ?_)
  have c8 : Tryd.prog.cellsOf 5 = 1 := by kernel_rfl
  have c64 : Tryd.prog.cellsOf 23 = 1 := by kernel_rfl
  have ci8 : Tryd.prog.cellsOf 26 = 1 := by kernel_rfl
  have ci : Tryd.prog.cellsOf 3 = 1 := by kernel_rfl
  have cB : Tryd.prog.cellsOf 22 = 64 := by kernel_rfl
  have cP : Tryd.prog.cellsOf 25 = 2 * 6 := by kernel_rfl
  have cp : Tryd.prog.cellsOf 24 = 6 := by kernel_rfl
  have cR : Tryd.prog.cellsOf 28 = 2 * 2 := by kernel_rfl
  have cr : Tryd.prog.cellsOf 27 = 2 := by kernel_rfl
  have cC : Tryd.prog.cellsOf 29 = 2 := by kernel_rfl
  have k8 : ∀ i, (i ≤ 64 ∨ (66 ≤ i ∧ i ≤ 78) ∨ (84 ≤ i ∧ i ≤ 85)) → Tryd.prog.underlying 5 = some (.int (kindAt i)) := by
    intro i hi
    have : kindAt i = .u8 := by
      unfold kindAt
      repeat (first | rfl | omega | split)
    rw [this]; exact Tryd.underlying5
  have ki : ∀ i, 79 ≤ i ∧ i ≤ 83 → Tryd.prog.underlying 26 = some (.int (kindAt i)) := by
    intro i hi
    have : kindAt i = .i8 := by
      unfold kindAt
      repeat (first | rfl | omega | split)
    rw [this]; exact Tryd.underlying26
  simp only [List.mem_cons, List.not_mem_nil, or_false] at hf
  rcases hf with rfl | rfl | rfl | rfl | rfl | rfl | rfl | rfl | rfl | rfl
  · show Reads0 enc _ (List.take (Tryd.prog.cellsOf 5) (List.drop 0 _))
    rw [c8, row_drop n 0 1 (by decide)]; exact reads_cell enc n hn _ 0 (by decide) Tryd.underlying5
  · show Reads0 enc _ (List.take (Tryd.prog.cellsOf 22) (List.drop 1 _))
    rw [cB, row_drop n 1 64 (by decide)]; exact reads_row enc n hn _ _ 1 64 (by decide) Tryd.underlying22 cB c8 (fun i hi => k8 _ (by omega))
  · show Reads0 enc _ (List.take (Tryd.prog.cellsOf 23) (List.drop 65 _))
    rw [c64, row_drop n 65 1 (by decide)]; exact reads_cell enc n hn _ 65 (by decide) Tryd.underlying23
  · show Reads0 enc _ (List.take (Tryd.prog.cellsOf 25) (List.drop 66 _))
    rw [cP, row_drop n 66 (2 * 6) (by decide)]; exact reads_rows enc n hn _ _ _ 66 2 6 (by decide) Tryd.underlying25 cP Tryd.underlying24 cp c8 (fun i hi => k8 _ (by omega))
  · show Reads0 enc _ (List.take (Tryd.prog.cellsOf 5) (List.drop 78 _))
    rw [c8, row_drop n 78 1 (by decide)]; exact reads_cell enc n hn _ 78 (by decide) Tryd.underlying5
  · show Reads0 enc _ (List.take (Tryd.prog.cellsOf 28) (List.drop 79 _))
    rw [cR, row_drop n 79 (2 * 2) (by decide)]; exact reads_rows enc n hn _ _ _ 79 2 2 (by decide) Tryd.underlying28 cR Tryd.underlying27 cr ci8 (fun i hi => ki _ (by omega))
  · show Reads0 enc _ (List.take (Tryd.prog.cellsOf 26) (List.drop 83 _))
    rw [ci8, row_drop n 83 1 (by decide)]; exact reads_cell enc n hn _ 83 (by decide) Tryd.underlying26
  · show Reads0 enc _ (List.take (Tryd.prog.cellsOf 29) (List.drop 84 _))
    rw [cC, row_drop n 84 2 (by decide)]; exact reads_row enc n hn _ _ 84 2 (by decide) Tryd.underlying29 cC c8 (fun i hi => k8 _ (by omega))
  · show Reads0 enc _ (List.take (Tryd.prog.cellsOf 3) (List.drop 86 _))
    rw [ci, row_drop n 86 1 (by decide)]; exact reads_cell enc n hn _ 86 (by decide) Tryd.underlying3
  · show Reads0 enc _ (List.take (Tryd.prog.cellsOf 3) (List.drop 87 _))
    rw [ci, row_drop n 87 1 (by decide)]; exact reads_cell enc n hn _ 87 (by decide) Tryd.underlying3

/-- An argument that is a position reads as data without places, and so in every world. -/
theorem trod_pos {n : Nat → Int} (hn : PosOk n) {W : World} {base : Nat} {spare : Nat → Bool} {held : Bool} {d : DataW H} {p : List MemPlace} (h : DataW.Trod enc Tryd.prog W base spare held 31 (.agg (posA n)) d p) :
    p = [] ∧ ∀ (W' : World) (base' : Nat) (spare' : Nat → Bool) (held' : Bool), DataW.Trod enc Tryd.prog W' base' spare' held' 31 (.agg (posA n)) d [] := by
  obtain ⟨f, d', hd⟩ := reads_pos enc n hn
  have h2 : ∀ (W' : World) (base' : Nat) (spare' : Nat → Bool) (held' : Bool), DataW.Trod enc Tryd.prog W' base' spare' held' 31 (.agg (posA n)) d' [] := fun W' b' s' h' => ⟨f, hd W' b' s' h' 0⟩
  obtain ⟨e1, e2⟩ := DataW.Trod.unique h (h2 W base spare held)
  subst e1
  exact ⟨e2, h2⟩
end

end Go.Proofs.YtkkabacdiefabaaDoor
