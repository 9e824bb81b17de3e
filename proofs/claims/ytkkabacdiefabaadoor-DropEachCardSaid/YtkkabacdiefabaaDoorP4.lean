/- Whole positions loaded and stored, as the walk's own rules. -/
import Derived.Test.YtkkabacdiefabaaDoorP3
namespace Go.Proofs.YtkkabacdiefabaaDoor
open Go Go.RowKit

/-- Some position lies there; which one. -/
def IsPos (w : World) (g : Nat) : Prop := ∃ n, PosAt w g n
def posOf (w : World) (g : Nat) : Nat → Int := fun i => if i < 88 then (match w.cell? ⟨g, i, none⟩ with | some (.int _ x) => x | _ => 0) else 0
def cut (n : Nat → Int) : Nat → Int := fun i => if i < 88 then n i else 0
theorem posA_cut (n : Nat → Int) : posA (cut n) = posA n := by
  apply Array.ext_getElem?
  intro i
  by_cases hi : i < 88
  · rw [posA_get _ i hi, posA_get _ i hi]; unfold cellP cut; rw [if_pos hi]
  · rw [Array.getElem?_eq_none_iff.2 (by rw [posA_size]; omega), Array.getElem?_eq_none_iff.2 (by rw [posA_size]; omega)]
theorem posOf_at {w : World} {g : Nat} {n : Nat → Int} (h : PosAt w g n) : posOf w g = cut n := by
  funext i
  unfold posOf cut
  by_cases hi : i < 88
  · rw [if_pos hi, if_pos hi, h.cell i hi]
  · rw [if_neg hi, if_neg hi]
theorem PosAt.is {w : World} {g : Nat} {n : Nat → Int} (h : PosAt w g n) : IsPos w g := ⟨n, h⟩
/-- What the walk asks: the whole position that lies there. -/
def rowOf (w : World) (g : Nat) : Array Value := posA (posOf w g)
theorem PosAt.row {w : World} {g : Nat} {n : Nat → Int} (h : PosAt w g n) : rowOf w g = posA n := by unfold rowOf; rw [posOf_at h, posA_cut]

def posLoad (v : Value) : Sem Value := Instr.loadAt 31 v
def posStore (p v : Value) : Sem Unit := Instr.storeAt 31 p v
@[go_sem ↓] theorem loadAt_pos (v : Value) : Instr.loadAt 31 v = posLoad v := rfl
@[go_sem ↓] theorem storeAt_pos (p v : Value) : Instr.storeAt 31 p v = posStore p v := rfl
@[go_sem] theorem run_loadPos (w : World) (g : Nat) (h : IsPos w g) : (posLoad (.pointer (some ⟨g, 0, none⟩))).run Tryd.prog w = .ok (.agg (rowOf w g)) w := by
  obtain ⟨n, hn⟩ := h
  rw [hn.row]
  unfold posLoad
  simp only [Instr.loadAt, Instr.sureAddr, Sem.run_bind, Sem.run_pure, Result.andThen_ok]
  exact run_loadVar_row w g _ _ (posA n) _ _ hn Tryd.underlying31 rfl (by rw [posA_size]; exact sizePos)
@[go_sem] theorem run_storePos (w : World) (g : Nat) (m : Nat → Int) (h : IsPos w g) : (posStore (.pointer (some ⟨g, 0, none⟩)) (.agg (posA m))).run Tryd.prog w = .ok () (w.setRow g (posA m)) := by
  obtain ⟨n, hn⟩ := h
  unfold posStore
  simp only [Instr.storeAt, Instr.sureAddr, Sem.run_bind, Sem.run_pure, Result.andThen_ok]
  exact run_storeVar_row w g _ _ (posA n) (posA m) hn (by rw [posA_size]; exact sizePos) (by rw [posA_size, posA_size]) (oneP m)
@[go_sem] theorem isPos_new (w : World) (n : Nat → Int) : IsPos (w.alloc (.cells (posA n) 31)) w.heap.size := (PosAt.new w n).is
@[go_sem] theorem rowOf_new (w : World) (n : Nat → Int) : rowOf (w.alloc (.cells (posA n) 31)) w.heap.size = posA n := (PosAt.new w n).row
theorem PosAt.new1 (w : World) (o : Obj) (n : Nat → Int) : PosAt ((w.alloc o).alloc (.cells (posA n) 31)) (w.heap.size + 1) n := heap_alloc2_new w o _
@[go_sem] theorem isPos_new1 (w : World) (o : Obj) (n : Nat → Int) : IsPos ((w.alloc o).alloc (.cells (posA n) 31)) (w.heap.size + 1) := (PosAt.new1 w o n).is
@[go_sem] theorem isPos_old1 (w : World) (o : Obj) (n : Nat → Int) : IsPos ((w.alloc (.cells (posA n) 31)).alloc o) w.heap.size := ((PosAt.new w n).alloc o).is
@[go_sem] theorem rowOf_old1 (w : World) (o : Obj) (n : Nat → Int) : rowOf ((w.alloc (.cells (posA n) 31)).alloc o) w.heap.size = posA n := ((PosAt.new w n).alloc o).row

end Go.Proofs.YtkkabacdiefabaaDoor
