/- A position in memory: its block, loads, stores; its opening and its data. -/
import Derived.Test.YtkkabacdiefabaaDoorP
import Derived.Deep.WholeRow
import Derived.Deep.MidRow
import Derived.OneCell
namespace Go.Proofs.YtkkabacdiefabaaDoor
open Go Go.RowKit Go.WideShapes

def zeroN : Nat → Int := fun _ => 0
theorem infoPos : (Tryd.prog.info? 31).map (fun i => (i.zero, i.size)) = some (some (.agg (posA zeroN)), 88) := by kernel_rfl
theorem zeroPos : ∀ w, (zeroValue 31).run Tryd.prog w = .ok (.agg (posA zeroN)) w := (zero_of_info infoPos).1
theorem sizePos : (Tryd.prog.info? 31).map (·.size) = some 88 := (zero_of_info infoPos).2
theorem undPos : ∃ fs, Tryd.prog.underlying 31 = some (.struct fs) := ⟨_, Tryd.underlying31⟩
theorem cellsPos : Tryd.prog.cellsOf 31 = 88 := by kernel_rfl

/-- The block of a position. -/
def PosAt (w : World) (g : Nat) (n : Nat → Int) : Prop := w.heap[g]? = some (.cells (posA n) 31 (0, 0))
def upd (n : Nat → Int) (i : Nat) (x : Int) : Nat → Int := fun j => if j = i then x else n j
theorem PosAt.lt {w : World} {g : Nat} {n : Nat → Int} (h : PosAt w g n) : g < w.heap.size := (Array.getElem?_eq_some_iff.1 h).1
theorem PosAt.cell {w : World} {g : Nat} {n : Nat → Int} (h : PosAt w g n) (i : Nat) (hi : i < 88) : w.cell? ⟨g, i, none⟩ = some (.int (kindAt i) (n i)) := by
  rw [cell_of_row w g i _ _ _ h, posA_get n i hi]; rfl
theorem PosAt.free {w : World} {g : Nat} {n : Nat → Int} (h : PosAt w g n) (i : Nat) : w.frozen? ⟨g, i, none⟩ = false := by
  simp [World.frozen?, show w.heap[g]? = _ from h]
theorem PosAt.below {w w' : World} {g B : Nat} {n : Nat → Int} (h : PosAt w g n) (hb : Below B w w') (hg : g < B) : PosAt w' g n := (hb.block g hg).trans h
theorem PosAt.new (w : World) (n : Nat → Int) : PosAt (w.alloc (.cells (posA n) 31)) w.heap.size n := heap_alloc_last w _
theorem PosAt.alloc {w : World} {g : Nat} {n : Nat → Int} (h : PosAt w g n) (o : Obj) : PosAt (w.alloc o) g n := (heap_alloc_old w o h.lt).trans h
theorem PosAt.drew {w : World} {g : Nat} {n : Nat → Int} (h : PosAt w g n) : PosAt w.drew g n := h
theorem posA_upd (n : Nat → Int) (i : Nat) (x : Int) : (posA n).setIfInBounds i (.int (kindAt i) x) = posA (upd n i x) := by
  apply Array.ext_getElem?
  intro j
  rw [Array.getElem?_setIfInBounds]
  by_cases hj : j < 88
  · rw [posA_get (upd n i x) j hj]
    by_cases e : i = j
    · subst e; rw [if_pos rfl, posA_size, if_pos hj]; unfold cellP upd; rw [if_pos rfl]
    · rw [if_neg e, posA_get n j hj]; unfold cellP upd; rw [if_neg (fun h => e h.symm)]
  · have e1 : (posA (upd n i x))[j]? = none := by rw [Array.getElem?_eq_none_iff, posA_size]; omega
    have e2 : (posA n)[j]? = none := by rw [Array.getElem?_eq_none_iff, posA_size]; omega
    rw [e1, e2, posA_size]
    by_cases e : i = j
    · subst e; rw [if_pos rfl, if_neg hj]
    · rw [if_neg e]
theorem PosAt.set {w : World} {g : Nat} {n : Nat → Int} (h : PosAt w g n) (i : Nat) (x : Int) : PosAt (w.setCell ⟨g, i, none⟩ (.int (kindAt i) x)) g (upd n i x) := by
  unfold PosAt at h ⊢
  rw [← posA_upd]
  simp only [World.setCell]
  rw [Array.getElem?_modify, if_pos rfl, h]
  rfl
theorem PosAt.other {w : World} {g b i : Nat} {n : Nat → Int} (h : PosAt w g n) (hb : b ≠ g) (v : Value) : PosAt (w.setCell ⟨b, i, none⟩ v) g n := by
  unfold PosAt at h ⊢
  simp only [World.setCell]
  rw [Array.getElem?_modify, if_neg hb, h]
theorem PosAt.setRow {w : World} {g : Nat} {n : Nat → Int} (h : PosAt w g n) (m : Nat → Int) : PosAt (w.setRow g (posA m)) g m := by
  unfold PosAt at h ⊢
  simp only [World.setRow]
  rw [Array.getElem?_modify, if_pos rfl, h]
  rfl
theorem PosAt.otherRow {w : World} {g b : Nat} {n : Nat → Int} (h : PosAt w g n) (hb : b ≠ g) (c : Array Value) : PosAt (w.setRow b c) g n := by
  unfold PosAt at h ⊢
  simp only [World.setRow]
  rw [Array.getElem?_modify, if_neg hb, h]
theorem below_setRow {B : Nat} {w w' : World} (h : Below B w w') {b : Nat} (hb : B ≤ b) (c : Array Value) : Below B w (w'.setRow b c) :=
  h.trans ⟨rfl, rfl, rfl, by simp [World.setRow], fun k hk => by simp only [World.setRow]; rw [Array.getElem?_modify, if_neg (by omega)]⟩

theorem oneP (n : Nat → Int) : (posA n).all (·.oneCell') = true := by
  rw [Array.all_eq_true]
  intro i hi
  have h := posA_get n i (by rw [posA_size] at hi; exact hi)
  rw [Array.getElem?_eq_some_iff] at h
  obtain ⟨_, h⟩ := h
  rw [h]; rfl

/-- The operations. -/
theorem pos_load {ops : Array Oper} {rest : List Oper} {o : Oper} {a : Act} {w : World} {Q : Exit → Act → World → Prop} (hgd : o.guard = none) (x : Operand) (ho : o.op = .load 31 x)
    (g : Nat) (hx : a.eval x = .pointer (some ⟨g, 0, none⟩)) (n : Nat → Int) (hp : PosAt w g n)
    (h : wpList Tryd.prog ops Q rest (a.put o.dst (.agg (posA n))) w) : wpList Tryd.prog ops Q (o :: rest) a w := by
  refine wpList_load_row hgd 31 x ho g hx _ (posA n) _ _ hp Tryd.underlying31 rfl ?_ h
  rw [posA_size]; exact sizePos
theorem pos_store {ops : Array Oper} {rest : List Oper} {o : Oper} {a : Act} {w : World} {Q : Exit → Act → World → Prop} (hgd : o.guard = none) (x y : Operand) (ho : o.op = .store 31 x y)
    (g : Nat) (hx : a.eval x = .pointer (some ⟨g, 0, none⟩)) (n m : Nat → Int) (hp : PosAt w g n) (hy : a.eval y = .agg (posA m))
    (h : wpList Tryd.prog ops Q rest (a.put o.dst undef) (w.setRow g (posA m))) : wpList Tryd.prog ops Q (o :: rest) a w := by
  refine wpList_store_row hgd 31 x y ho g (posA m) hx hy _ (posA n) hp ?_ ?_ (oneP m) h
  · rw [posA_size]; exact sizePos
  · rw [posA_size, posA_size]
theorem pos_result {fn : Func} {p : Tmp} (h : fn.results = #[.cell p 31]) (tmps : Array Value) (w : World) (g : Nat) (n : Nat → Int)
    (hp : tmps.getD p undef = .pointer (some ⟨g, 0, none⟩)) (hg : PosAt w g n) : (results fn tmps).run Tryd.prog w = .ok (.agg (posA n)) w :=
  results_cell_row h tmps w g _ (posA n) _ _ hp hg Tryd.underlying31 rfl (by rw [posA_size]; exact sizePos)

end Go.Proofs.YtkkabacdiefabaaDoor
