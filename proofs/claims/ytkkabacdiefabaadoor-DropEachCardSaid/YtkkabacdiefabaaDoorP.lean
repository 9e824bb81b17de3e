/- A position as its 88 numbers: how it lies in memory and reads as data. -/
import Derived.Test.YtkkabacdiefabaaDoorRows
import Derived.WalkKit
import Derived.ProofKit
import Derived.OpenShut
import Derived.ChangeOld
import Derived.Below
namespace Go.Proofs.YtkkabacdiefabaaDoor
open Go Go.RowKit Go.WideShapes

def kindAt (i : Nat) : IntKind := if i ≤ 64 then .u8 else if i = 65 then .u64 else if i ≤ 78 then .u8 else if i ≤ 83 then .i8 else if i ≤ 85 then .u8 else .i64
def cellP (n : Nat → Int) (i : Nat) : Value := .int (kindAt i) (n i)
def posA (n : Nat → Int) : Array Value := ((List.range 88).map (cellP n)).toArray
def posV (n : Nat → Int) : Value := .agg (posA n)
def PosOk (n : Nat → Int) : Prop := ∀ i, i < 88 → (Lit.int (kindAt i) (n i)).wf = true

theorem posA_size (n : Nat → Int) : (posA n).size = 88 := by simp [posA]
theorem posA_get (n : Nat → Int) (i : Nat) (h : i < 88) : (posA n)[i]? = some (cellP n i) := by
  unfold posA
  rw [List.getElem?_toArray, List.getElem?_map, List.getElem?_range h]; rfl
theorem posA_toList (n : Nat → Int) : (posA n).toList = (List.range 88).map (cellP n) := rfl

section
variable {H : Type} (enc : TypeId × Value → H)
/-- It reads as data that hang on no memory. -/
def Reads0 (t : TypeId) (cs : List Value) : Prop := ∃ (fuel : Nat) (d : DataW H), ∀ (w : World) (base : Nat) (spare : Nat → Bool) (held : Bool) (k : Nat), DataW.trod enc Tryd.prog w base spare held (fuel + k) t cs = some (d, [])
theorem reads_int {t : TypeId} {k : IntKind} {n : Int} (ht : Tryd.prog.underlying t = some (.int k)) (h : (Lit.int k n).wf = true) : Reads0 enc t [.int k n] :=
  ⟨1, .lit (.int k n), fun w base spare held j => by
    rw [Nat.add_comm]
    simp [DataW.trod, ht, h]⟩
theorem mapM_ex {κ α : Type} (g : κ → α → Option (DataW H × List MemPlace)) : ∀ l : List α, (∀ x ∈ l, ∃ d : DataW H, ∀ p, g p x = some (d, [])) → ∃ ds : List (DataW H), ∀ p, l.mapM (g p) = some (ds.map fun d => (d, []))
  | [], _ => ⟨[], fun _ => rfl⟩
  | x :: l, h => by
    obtain ⟨d, hd⟩ := h x (List.mem_cons_self ..)
    obtain ⟨ds, hds⟩ := mapM_ex g l (fun y hy => h y (List.mem_cons_of_mem _ hy))
    exact ⟨d :: ds, fun p => by rw [List.mapM_cons, hd p, hds p]; rfl⟩
theorem flat_nil : ∀ ds : List (DataW H), ((ds.map fun d => ((d, []) : DataW H × List MemPlace)).flatMap (·.2)) = []
  | [] => rfl
  | d :: ds => by rw [List.map_cons, List.flatMap_cons, flat_nil ds]; rfl
theorem all_fuel {α : Type} (ts : α → TypeId) (cs : α → List Value) : ∀ l : List α, (∀ x ∈ l, Reads0 enc (ts x) (cs x)) → ∃ (fuel : Nat), ∀ x ∈ l, ∃ d : DataW H, ∀ (w : World) (base : Nat) (spare : Nat → Bool) (held : Bool) (k : Nat), DataW.trod enc Tryd.prog w base spare held (fuel + k) (ts x) (cs x) = some (d, [])
  | [], _ => ⟨0, fun x hx => by cases hx⟩
  | y :: l, h => by
    obtain ⟨f1, d1, h1⟩ := h y (List.mem_cons_self ..)
    obtain ⟨f2, h2⟩ := all_fuel ts cs l (fun x hx => h x (List.mem_cons_of_mem _ hx))
    refine ⟨f1 + f2, fun x hx => ?_⟩
    rcases List.mem_cons.1 hx with rfl | hx
    · exact ⟨d1, fun w base spare held k => by rw [Nat.add_assoc]; exact h1 w base spare held (f2 + k)⟩
    · obtain ⟨d2, h3⟩ := h2 x hx
      exact ⟨d2, fun w base spare held k => by rw [Nat.add_comm f1 f2, Nat.add_assoc]; exact h3 w base spare held (f1 + k)⟩
theorem reads_array {t e : TypeId} {n : Nat} {cs : List Value} (ht : Tryd.prog.underlying t = some (.array n e)) (hl : cs.length = Tryd.prog.cellsOf t)
    (h : ∀ i, i < n → Reads0 enc e ((cs.drop (i * Tryd.prog.cellsOf e)).take (Tryd.prog.cellsOf e))) : Reads0 enc t cs := by
  obtain ⟨f, hf⟩ := all_fuel enc (fun _ => e) (fun i => (cs.drop (i * Tryd.prog.cellsOf e)).take (Tryd.prog.cellsOf e)) (List.range n) (fun i hi => h i (List.mem_range.1 hi))
  obtain ⟨ds, hds⟩ := mapM_ex (κ := World × Nat × (Nat → Bool) × Bool × Nat) (fun p i => DataW.trod enc Tryd.prog p.1 p.2.1 p.2.2.1 p.2.2.2.1 (f + p.2.2.2.2) e ((cs.drop (i * Tryd.prog.cellsOf e)).take (Tryd.prog.cellsOf e))) (List.range n) (fun i hi => by
    obtain ⟨d, hd⟩ := hf i hi
    exact ⟨d, fun p => hd p.1 p.2.1 p.2.2.1 p.2.2.2.1 p.2.2.2.2⟩)
  refine ⟨f + 1, .agg ds, fun w base spare held k => ?_⟩
  have e1 : f + 1 + k = (f + k) + 1 := by omega
  have e2 := hds (w, base, spare, held, k)
  rw [e1]
  simp only [DataW.trod, ht, hl, if_true]
  rw [e2]
  simp [flat_nil, Function.comp_def]
theorem reads_struct {t : TypeId} {fs : Array Field} {cs : List Value} (ht : Tryd.prog.underlying t = some (.struct fs)) (hl : cs.length = Tryd.prog.cellsOf t)
    (h : ∀ f ∈ fs.toList, Reads0 enc f.type ((cs.drop f.offset).take (Tryd.prog.cellsOf f.type))) : Reads0 enc t cs := by
  obtain ⟨g, hg⟩ := all_fuel enc (fun f : Field => f.type) (fun f => (cs.drop f.offset).take (Tryd.prog.cellsOf f.type)) fs.toList h
  obtain ⟨ds, hds⟩ := mapM_ex (κ := World × Nat × (Nat → Bool) × Bool × Nat) (fun p (f : Field) => DataW.trod enc Tryd.prog p.1 p.2.1 p.2.2.1 p.2.2.2.1 (g + p.2.2.2.2) f.type ((cs.drop f.offset).take (Tryd.prog.cellsOf f.type))) fs.toList (fun f hf => by
    obtain ⟨d, hd⟩ := hg f hf
    exact ⟨d, fun p => hd p.1 p.2.1 p.2.2.1 p.2.2.2.1 p.2.2.2.2⟩)
  refine ⟨g + 1, .agg ds, fun w base spare held k => ?_⟩
  have e1 : g + 1 + k = (g + k) + 1 := by omega
  have e2 := hds (w, base, spare, held, k)
  rw [e1]
  simp only [DataW.trod, ht, hl, if_true]
  rw [e2]
  simp [flat_nil, Function.comp_def]
end

end Go.Proofs.YtkkabacdiefabaaDoor
