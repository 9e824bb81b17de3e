/- Slices of ints that a call makes. -/
import Derived.Test.YtkkabacdiefabaaDoorU2
import Derived.Test.YtkkabacdiefabaaDoorRows
namespace Go.Proofs.YtkkabacdiefabaaDoor
open Go Go.RowKit

theorem Tryd.infoI : (Tryd.prog.info? 3).map (fun i => (i.zero, i.size, i.bytes)) = some (some (.int .i64 0), 1, 8) := by kernel_rfl

/-- A slice of ints that the call owns from a base on. -/
def OwnsI (w : World) (base : Nat) (v : Value) (l : List Int) : Prop := w.ownsRow base 3 1 v l.length (l.map (Value.int .i64))

theorem OwnsI.app {w : World} {base : Nat} {v : Value} {l : List Int} {x : Int} (h : w.ownsRow base 3 1 v (l.length + 1) (l.map (Value.int .i64) ++ [.int .i64 x])) : OwnsI w base v (l ++ [x]) := by
  simpa [OwnsI] using h
theorem OwnsI.grown {w w1 w2 : World} {B : Nat} {v : Value} {l : List Int} (hown : OwnsI w1 B v l) (hbel : Below B w w1) (hB : B ≤ w1.heap.size) (o : Obj) (hg : (w1.alloc o).grownBy w2 v.ownBlock) : Below B w w2 :=
  (hbel.alloc hB o).grown hg (by simp; omega) (fun j hj => (World.ownsRow.lt hown j hj).1)
/-- What one may do with such a slice. -/
theorem OwnsI.form {w : World} {base : Nat} {v : Value} {l : List Int} (h : OwnsI w base v l) :
    (l = [] ∧ ∃ a c, v = .slice a 0 c) ∨ (∃ g c, v = .slice (some ⟨g, 0, none⟩) l.length c ∧ base ≤ g ∧ g < w.heap.size ∧ l ≠ [] ∧ (∀ k (hk : k < l.length), w.cell? ⟨g, k, none⟩ = some (.int .i64 (l[k]))) ∧ ∀ k, w.frozen? ⟨g, k, none⟩ = false) := by
  have hlt := World.ownsRow.lt h
  obtain ⟨h1, h2⟩ := id h
  rcases h2 with ⟨hv, hx⟩ | ⟨g, cap, cur, hv, rest⟩
  · left
    refine ⟨by simpa using hx, none, 0, hv⟩
  · subst hv
    by_cases hl : l = []
    · left; subst hl; exact ⟨rfl, _, _, rfl⟩
    · right
      have hlt := hlt g rfl
      refine ⟨g, cap, rfl, hlt.1, hlt.2, hl, ?_, ?_⟩
      · intro k hk
        have e := World.ownsRow.cellAt h k (by omega)
        rw [e]; simp [hk]
      · intro k; exact World.ownsRow.frozenAt h k

theorem ownsRow_less {w : World} {base base' : Nat} {e : TypeId} {size : Nat} {v : Value} {n : Nat} {xs : List Value} (h : w.ownsRow base e size v n xs) (hb : base' ≤ base) : w.ownsRow base' e size v n xs := by
  obtain ⟨h1, h2⟩ := h
  refine ⟨h1, ?_⟩
  rcases h2 with h2 | ⟨g, cap, cur, hv, hg, rest⟩
  · exact .inl h2
  · exact .inr ⟨g, cap, cur, hv, Nat.le_trans hb hg, rest⟩

theorem OwnsI.less {w : World} {B B' : Nat} {v : Value} {l : List Int} (h : OwnsI w B v l) (hb : B' ≤ B) : OwnsI w B' v l := ownsRow_less h hb
theorem OwnsI.kept {w w' : World} {B C : Nat} {v : Value} {l : List Int} (h : OwnsI w B v l) (hb : Below C w w') (hC : w.heap.size ≤ C) : OwnsI w' B v l := by
  have hlt := World.ownsRow.lt h
  obtain ⟨h1, h2⟩ := h
  refine ⟨h1, ?_⟩
  rcases h2 with h2 | ⟨g, cap, cur, hv, hg, hgb, rest⟩
  · exact .inl h2
  · have := (hlt g (by rw [hv]; rfl)).2
    exact .inr ⟨g, cap, cur, hv, hg, (hb.block g (by omega)).trans hgb, rest⟩

theorem OwnsI.stored {w : World} {B g n c : Nat} {l : List Int} (h : OwnsI w B (.slice (some ⟨g, 0, none⟩) n c) l) (hn : l.length = n) (j : Nat) (x : Int) :
    OwnsI (w.setCell ⟨g, j, none⟩ (.int .i64 x)) B (.slice (some ⟨g, 0, none⟩) n c) (l.set j x) := by
  subst hn
  have := (World.ownsRow.stored h j (.int .i64 x)).1
  unfold OwnsI
  rw [List.length_set, List.map_set]; exact this

end Go.Proofs.YtkkabacdiefabaaDoor
