/- Rows of ints in memory. -/
import Derived.Test.YtpheapolijhgjaaPE0
namespace Go.Proofs.Ytpheapolijhgjaa
open Go Go.RowKit
set_option linter.unusedVariables false

def RowI (w : World) (g : Nat) (t : TypeId) (l : List Int) : Prop := w.heap[g]? = some (.cells (l.map (Value.int .i64)).toArray t (0, 0))
section
variable {w w' : World} {g B : Nat} {t : TypeId} {l : List Int}
theorem RowI.lt (h : RowI w g t l) : g < w.heap.size := (Array.getElem?_eq_some_iff.1 h).1
theorem RowI.cell (h : RowI w g t l) (i : Nat) (x : Int) (hx : l[i]? = some x) : w.cell? ⟨g, i, none⟩ = some (.int .i64 x) := by
  rw [cell_of_row w g i _ _ _ h, List.getElem?_toArray, List.getElem?_map, hx]; rfl
theorem RowI.free (h : RowI w g t l) (i : Nat) : w.frozen? ⟨g, i, none⟩ = false := by
  simp [World.frozen?, show w.heap[g]? = _ from h]
theorem RowI.below (h : RowI w g t l) (hb : Below B w w') (hg : g < B) : RowI w' g t l := (hb.block g hg).trans h
theorem RowI.new (w : World) (t : TypeId) (l : List Int) : RowI (w.alloc (.cells (l.map (Value.int .i64)).toArray t)) w.heap.size t l := heap_alloc_last w _
theorem RowI.alloc (h : RowI w g t l) (o : Obj) : RowI (w.alloc o) g t l := (heap_alloc_old w o h.lt).trans h
theorem RowI.set (h : RowI w g t l) (i : Nat) (x : Int) : RowI (w.setCell ⟨g, i, none⟩ (.int .i64 x)) g t (l.set i x) := by
  unfold RowI at h ⊢
  simp only [World.setCell]
  rw [Array.getElem?_modify, if_pos rfl, h]
  simp [List.map_set]
theorem RowI.other {b i : Nat} (h : RowI w g t l) (hb : b ≠ g) (v : Value) : RowI (w.setCell ⟨b, i, none⟩ v) g t l := by
  unfold RowI at h ⊢
  simp only [World.setCell]
  rw [Array.getElem?_modify, if_neg hb, h]
end

end Go.Proofs.Ytpheapolijhgjaa
