/- Two positions compared. -/
import Derived.Test.YtkkabacdiefabaaDoorP2
import Derived.DeepKeys
import Derived.Laws.StructEq
namespace Go.Proofs.YtkkabacdiefabaaDoor
open Go Go.RowKit

def litP (n : Nat → Int) (i : Nat) : Lit := .int (kindAt i) (n i)
def eqP (n m : Nat → Int) : Bool := (List.range 88).all fun i => n i == m i
theorem eqP_iff (n m : Nat → Int) : eqP n m = true ↔ ∀ i, i < 88 → n i = m i := by
  unfold eqP
  rw [List.all_eq_true]
  constructor
  · intro h i hi; exact beq_iff_eq.1 (h i (List.mem_range.2 hi))
  · intro h i hi; exact beq_iff_eq.2 (h i (List.mem_range.1 hi))
theorem lits_iff (n m : Nat → Int) : (List.range 88).map (litP n) = (List.range 88).map (litP m) ↔ eqP n m = true := by
  rw [eqP_iff]
  constructor
  · intro h i hi
    have h1 := congrArg (fun l => l[i]?) h
    simp only [List.getElem?_map, List.getElem?_range hi, Option.map_some, Option.some.injEq] at h1
    unfold litP at h1
    injection h1
  · intro h
    apply List.map_congr_left
    intro i hi
    unfold litP
    rw [h i (List.mem_range.1 hi)]

theorem keys_cell (n : Nat → Int) (hn : PosOk n) (t : TypeId) (i k : Nat) (hi : i < 88) (ht : Tryd.prog.underlying t = some (.int (kindAt i))) : Tryd.prog.keyLits (k + 1) t ((List.range 1).map (fun j => cellP n (i + j))) = some [litP n i] := by
  show Tryd.prog.keyLits (k + 1) t [.int (kindAt (i + 0)) (n (i + 0))] = _
  have := hn i hi
  simp [Program.keyLits, ht, litP, this]
theorem mapM_all {α β : Type} (g : α → Option β) (f : α → β) : ∀ l : List α, (∀ x ∈ l, g x = some (f x)) → l.mapM g = some (l.map f)
  | [], _ => rfl
  | x :: l, h => by
    rw [List.mapM_cons, h x (List.mem_cons_self ..), mapM_all g f l (fun y hy => h y (List.mem_cons_of_mem _ hy))]; rfl
theorem flat_one {α β : Type} (f : α → β) (l : List α) : (l.map fun x => [f x]).flatten = l.map f := by
  induction l with
  | nil => rfl
  | cons x l ih => rw [List.map_cons, List.flatten_cons, ih]; rfl
theorem keys_row (n : Nat → Int) (hn : PosOk n) (t e : TypeId) (o k d : Nat) (h : o + k ≤ 88) (ht : Tryd.prog.underlying t = some (.array k e)) (hc : Tryd.prog.cellsOf t = k) (h1 : Tryd.prog.cellsOf e = 1) (he : ∀ i, i < k → Tryd.prog.underlying e = some (.int (kindAt (o + i)))) :
    Tryd.prog.keyLits (d + 2) t ((List.range k).map (fun j => cellP n (o + j))) = some ((List.range k).map (fun j => litP n (o + j))) := by
  show Tryd.prog.keyLits ((d + 1) + 1) t _ = _
  unfold Program.keyLits
  simp only [ht]
  rw [if_pos (by rw [List.length_map, List.length_range, hc])]
  rw [mapM_all _ (fun i => [litP n (o + i)]) (List.range k) (fun i hi => by
    rw [h1, Nat.mul_one, row_drop2 n o k i 1 (by have := List.mem_range.1 hi; omega)]
    exact keys_cell n hn e (o + i) d (by have := List.mem_range.1 hi; omega) (he i (List.mem_range.1 hi)))]
  rw [Option.map_some, flat_one]
theorem keys_rows (n : Nat → Int) (hn : PosOk n) (t r e : TypeId) (o m k d : Nat) (h : o + m * k ≤ 88) (ht : Tryd.prog.underlying t = some (.array m r)) (hc : Tryd.prog.cellsOf t = m * k) (hr : Tryd.prog.underlying r = some (.array k e)) (hcr : Tryd.prog.cellsOf r = k) (h1 : Tryd.prog.cellsOf e = 1) (he : ∀ i, i < m * k → Tryd.prog.underlying e = some (.int (kindAt (o + i)))) :
    Tryd.prog.keyLits (d + 3) t ((List.range (m * k)).map (fun j => cellP n (o + j))) = some (((List.range m).map fun i => (List.range k).map (fun j => litP n (o + i * k + j))).flatten) := by
  show Tryd.prog.keyLits ((d + 2) + 1) t _ = _
  unfold Program.keyLits
  simp only [ht]
  rw [if_pos (by rw [List.length_map, List.length_range, hc])]
  rw [mapM_all _ (fun i => (List.range k).map (fun j => litP n (o + i * k + j))) (List.range m) (fun i hi => by
    have hi := List.mem_range.1 hi
    have hb : i * k + k ≤ m * k := by
      have := Nat.mul_le_mul_right k (show i + 1 ≤ m by omega)
      rw [Nat.add_mul, Nat.one_mul] at this; exact this
    rw [hcr, row_drop2 n o (m * k) (i * k) k hb]
    exact keys_row n hn r e (o + i * k) k d (by omega) hr hcr h1 (fun j hj => by rw [Nat.add_assoc]; exact he _ (by omega)))]
  rfl
theorem keys_pos (n : Nat → Int) (hn : PosOk n) (d : Nat) : Tryd.prog.keyLits (d + 4) 31 (posA n).toList = some ((List.range 88).map (litP n)) := by
  have c8 : Tryd.prog.cellsOf 5 = 1 := by kernel_rfl
  have c64 : Tryd.prog.cellsOf 23 = 1 := by kernel_rfl
  have ci8 : Tryd.prog.cellsOf 26 = 1 := by kernel_rfl
  have ci : Tryd.prog.cellsOf 3 = 1 := by kernel_rfl
  have cB : Tryd.prog.cellsOf 22 = 64 := by kernel_rfl
  have cP : Tryd.prog.cellsOf 25 = 2 * 6 := by kernel_rfl
  have cp : Tryd.prog.cellsOf 24 = 6 := by kernel_rfl
  have cR : Tryd.prog.cellsOf 28 = 2 * 2 := by kernel_rfl
  have cr : Tryd.prog.cellsOf 27 = 2 := by kernel_rfl
  have cC : Tryd.prog.cellsOf 29 = 2 := by kernel_rfl
  have k8 : ∀ i, (i ≤ 64 ∨ (66 ≤ i ∧ i ≤ 78) ∨ (84 ≤ i ∧ i ≤ 85)) → Tryd.prog.underlying 5 = some (.int (kindAt i)) := by
    intro i hi
    have : kindAt i = .u8 := by
      unfold kindAt
      repeat (first | rfl | omega | split)
    rw [this]; exact Tryd.underlying5
  have ki : ∀ i, 79 ≤ i ∧ i ≤ 83 → Tryd.prog.underlying 26 = some (.int (kindAt i)) := by
    intro i hi
    have : kindAt i = .i8 := by
      unfold kindAt
      repeat (first | rfl | omega | split)
    rw [this]; exact Tryd.underlying26
  show Tryd.prog.keyLits ((d + 3) + 1) 31 _ = _
  unfold Program.keyLits
  simp only [Tryd.underlying31]
  rw [if_pos ⟨by rw [Array.length_toList, posA_size, cellsPos], by decide +kernel⟩]
  simp only [List.mapM_cons, List.mapM_nil]
  rw [c8, cB, c64, cP, cR, ci8, cC, ci]
  rw [row_drop n 0 1 (by decide), row_drop n 1 64 (by decide), row_drop n 65 1 (by decide), row_drop n 66 (2 * 6) (by decide), row_drop n 78 1 (by decide), row_drop n 79 (2 * 2) (by decide), row_drop n 83 1 (by decide), row_drop n 84 2 (by decide), row_drop n 86 1 (by decide), row_drop n 87 1 (by decide)]
  rw [keys_cell n hn _ 0 (d + 2) (by decide) Tryd.underlying5, keys_row n hn _ _ 1 64 (d + 1) (by decide) Tryd.underlying22 cB c8 (fun i hi => k8 _ (by omega)), keys_cell n hn _ 65 (d + 2) (by decide) Tryd.underlying23,
    keys_rows n hn _ _ _ 66 2 6 d (by decide) Tryd.underlying25 cP Tryd.underlying24 cp c8 (fun i hi => k8 _ (by omega)), keys_cell n hn _ 78 (d + 2) (by decide) Tryd.underlying5,
    keys_rows n hn _ _ _ 79 2 2 d (by decide) Tryd.underlying28 cR Tryd.underlying27 cr ci8 (fun i hi => ki _ (by omega)), keys_cell n hn _ 83 (d + 2) (by decide) Tryd.underlying26,
    keys_row n hn _ _ 84 2 (d + 1) (by decide) Tryd.underlying29 cC c8 (fun i hi => k8 _ (by omega)), keys_cell n hn _ 86 (d + 2) (by decide) Tryd.underlying3, keys_cell n hn _ 87 (d + 2) (by decide) Tryd.underlying3]
  rfl

theorem equal_pos (n m : Nat → Int) (hn : PosOk n) (hm : PosOk m) (w : World) : (Op.equalIn 10000 31 (.agg (posA n)) (.agg (posA m))).run Tryd.prog w = .ok (eqP n m) w := by
  have E : EqAt Tryd.prog (9996 + 4) 31 := run_equalIn_deep 9996 4 31 (by kernel_rfl)
  have f : ∀ n, (Value.agg (posA n)).formed Tryd.prog 31 = true := by
    intro n
    simp only [Value.formed, Tryd.underlying31, posA_size, cellsPos]; rfl
  obtain ⟨r, h1, h2⟩ := E w (0 + 4) (0 + 4) (.agg (posA n)) (.agg (posA m)) _ _ (f n) (f m) (keys_pos n hn 0) (keys_pos m hm 0)
  rw [lits_iff] at h2
  have : r = eqP n m := by rw [Bool.eq_iff_iff]; exact h2
  rw [← this]; exact h1
theorem eql_pos (n m : Nat → Int) (hn : PosOk n) (hm : PosOk m) (w : World) : (binOp .eql 31 (.agg (posA n)) (.agg (posA m))).run Tryd.prog w = .ok (.bool (eqP n m)) w := by
  rw [run_eql_struct, equal_pos n m hn hm]; rfl
theorem neq_pos (n m : Nat → Int) (hn : PosOk n) (hm : PosOk m) (w : World) : (binOp .neq 31 (.agg (posA n)) (.agg (posA m))).run Tryd.prog w = .ok (.bool (!eqP n m)) w := by
  rw [run_neq_struct, equal_pos n m hn hm]; rfl

end Go.Proofs.YtkkabacdiefabaaDoor
