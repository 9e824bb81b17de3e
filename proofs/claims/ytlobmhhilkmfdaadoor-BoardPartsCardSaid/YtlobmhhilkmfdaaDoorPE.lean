/- Positions compared, as the walk's own rules; regions that load whole positions. -/
import Derived.Test.YtlobmhhilkmfdaaDoorPM
import Derived.Deep.RegionHeld3
namespace Go.Proofs.YtlobmhhilkmfdaaDoor
open Go Go.RowKit

def posEql (x y : Value) : Sem Value := binOp .eql 31 x y
def posNeq (x y : Value) : Sem Value := binOp .neq 31 x y
@[go_sem ↓] theorem eql_posEql (x y : Value) : binOp .eql 31 x y = posEql x y := rfl
@[go_sem ↓] theorem neq_posNeq (x y : Value) : binOp .neq 31 x y = posNeq x y := rfl
@[go_sem] theorem run_posEql (n m : Nat → Int) (hn : PosOk n) (hm : PosOk m) (w : World) : (posEql (.agg (posA n)) (.agg (posA m))).run Tryd.prog w = .ok (.bool (eqP n m)) w := eql_pos n m hn hm w
@[go_sem] theorem run_posNeq (n m : Nat → Int) (hn : PosOk n) (hm : PosOk m) (w : World) : (posNeq (.agg (posA n)) (.agg (posA m))).run Tryd.prog w = .ok (.bool (!eqP n m)) w := neq_pos n m hn hm w
theorem eqP_self (n : Nat → Int) : eqP n n = true := (eqP_iff n n).2 (fun _ _ => rfl)

theorem PosOk.upd {n : Nat → Int} (h : PosOk n) {i : Nat} {x : Int} (hx : (Lit.int (kindAt i) x).wf = true) : PosOk (upd n i x) := by
  intro j hj
  unfold Proofs.YtlobmhhilkmfdaaDoor.upd
  by_cases e : j = i
  · subst e; rw [if_pos rfl]; exact hx
  · rw [if_neg e]; exact h j hj
theorem wf_u8_mk {x : Int} (h0 : 0 ≤ x) (h1 : x ≤ 255) : (Lit.int .u8 x).wf = true := by
  simp [Lit.wf]
  have e1 : IntKind.u8.min = 0 := by decide
  have e2 : IntKind.u8.max = 255 := by decide
  omega
theorem wf_i8_mk {x : Int} (h0 : -128 ≤ x) (h1 : x ≤ 127) : (Lit.int .i8 x).wf = true := by
  simp [Lit.wf]
  have e1 : IntKind.i8.min = -128 := by decide
  have e2 : IntKind.i8.max = 127 := by decide
  omega
theorem wf_u64_mk (b : BitVec 64) : (Lit.int .u64 (u b)).wf = true := by
  have h0 := u_nonneg b
  have h1 := u_lt b
  simp [Lit.wf]
  have e1 : IntKind.u64.min = 0 := by decide
  have e2 : IntKind.u64.max = 18446744073709551615 := by decide
  omega
theorem PosOk.put {n : Nat → Int} (h : PosOk n) (s x : Int) (h0 : 0 ≤ x) (h1 : x ≤ 255) : PosOk (putN n s x) := by
  unfold putN
  by_cases e : putOk s x = true
  · rw [if_pos e]
    unfold putOk at e
    rw [Bool.and_eq_true, decide_eq_true_iff] at e
    exact h.upd (by rw [kind_board (by omega)]; exact wf_u8_mk h0 h1)
  · rw [if_neg e]; exact h
theorem oth_bd (x : Int) : 0 ≤ othI x ∧ othI x ≤ 255 := by unfold othI; repeat (first | omega | split)
theorem PosOk.mir {n : Nat → Int} (h : PosOk n) : PosOk (mirN n) := by
  intro i hi
  have k : ∀ j, j < 88 → kindAt j = kindAt i → (Lit.int (kindAt i) (n j)).wf = true := fun j hj e => by rw [← e]; exact h j hj
  unfold mirN
  by_cases h1 : 1 ≤ i ∧ i ≤ 64
  · rw [if_pos h1, kind_board h1.2]
    exact wf_u8_mk (oth_bd _).1 (oth_bd _).2
  · rw [if_neg h1]
    by_cases h2 : i = 65
    · rw [if_pos h2]; subst h2; exact wf_u64_mk _
    · rw [if_neg h2]
      have hc : i = 0 ∨ i = 66 ∨ i = 67 ∨ i = 68 ∨ i = 69 ∨ i = 70 ∨ i = 71 ∨ i = 72 ∨ i = 73 ∨ i = 74 ∨ i = 75 ∨ i = 76 ∨ i = 77 ∨ i = 78 ∨ i = 79 ∨ i = 80 ∨ i = 81 ∨ i = 82 ∨ i = 83 ∨ i = 84 ∨ i = 85 ∨ i = 86 ∨ i = 87 := by omega
      rcases hc with rfl | rfl | rfl | rfl | rfl | rfl | rfl | rfl | rfl | rfl | rfl | rfl | rfl | rfl | rfl | rfl | rfl | rfl | rfl | rfl | rfl | rfl | rfl
      case inr.inr.inr.inr.inr.inr.inr.inr.inr.inr.inr.inr.inr.inl =>
        show (Lit.int .u8 (if n 78 = 0 then 1 else if n 78 = 1 then 0 else n 78)).wf = true
        have := h.u8 78 (by decide) rfl
        refine wf_u8_mk ?_ ?_ <;> (split; · omega
                                   · split <;> omega)
      case inr.inr.inr.inr.inr.inr.inr.inr.inr.inr.inr.inr.inr.inr.inr.inr.inr.inr.inl =>
        show (Lit.int .i8 (if 0 ≤ n 83 ∧ n 83 < 64 then flipI (n 83) else n 83)).wf = true
        split
        · rename_i hp
          refine wf_i8_mk ?_ ?_ <;> (unfold flipI; omega)
        · exact h 83 (by decide)
      all_goals exact k _ (by decide) rfl

/-- What stays true of a position's block in a region that draws. -/
def Keeps (g : Nat) (n : Nat → Int) (X W : World) : Prop := (IsPos W g ∧ rowOf W g = posA n) ∧ Below X.heap.size X W
theorem keepP {X W : World} {g : Nat} {n : Nat → Int} (h : PosAt X g n) (hb : Below X.heap.size X W) : (IsPos W g ∧ rowOf W g = posA n) ∧ Below X.heap.size X W := ⟨(h.below hb h.lt).rules, hb⟩
theorem bl_drew {n : Nat} {w w' : World} (h : Below n w w') : Below n w w'.drew := h.drew
theorem bl_new {n : Nat} {w w' : World} {o : Obj} (h : Below n w w') (hn : n ≤ w.heap.size) : Below n w (w'.alloc o) := h.alloc (Nat.le_trans hn h.size) o
theorem bl_then {w w' w2 : World} (h : Below w.heap.size w w') (h2 : Below w'.heap.size w' w2) : Below w.heap.size w w2 := h.trans (h2.mono h.size)

end Go.Proofs.YtlobmhhilkmfdaaDoor
