/- A range over an iterator that keeps its state in one captured variable (block Bx): each round's body ends normally. Over whatever program. -/
import Derived.Test.YtkkabacdiefabaaDoorU2
import Derived.RangeFuncBox
import Derived.RangeFuncNested
import Derived.RangeFuncBound
import Derived.RangeFuncCalls
import Derived.RangeFuncLeaves
import Derived.Shelf.Abstract
import Derived.Shelf.RegionOpen
import Derived.OwnWalkIn
import Derived.TacticsInMore
import Derived.LoopNIn
import Derived.LoopIn
namespace Go.Proofs.YtkkabacdiefabaaDoor
open Go Go.RowKit Go.Shelf

/-- How a round's body may end: off its end; the iterator's variable lies as it lay. -/
def roundEnd (I : List Int → World → Prop) (Bx : Nat) (xs : List Int) (W : World) : Exit → Act → World → Prop
  | .normal, _, W' => KeepsOthers W W' ∧ W'.heap[Bx]? = W.heap[Bx]? ∧ I xs W'
  | .ret, _, _ => False
  | .exit _, _, _ => False
  | .goto _, _, _ => False
  | .panic _, _, _ => False
  | .outgrown, _, _ => False

theorem range_box {P : Program} {g : Operand} {ps : Array Tmp} {assign body : Code} {Q : Exit → Act → World → Prop} {a : Act} {w : World} {n : Nat} {gf Bx : Nat} (h1 : 1 ≤ n)
    (hg : a.eval g = .func (.func gf) #[] #[.pointer (some ⟨Bx, 0, none⟩)]) (eg : ∀ args w, (callFunc gf args).run P w = .ok (.enter gf args) w) (hps : ps.size = 1) (hBx : Bx < w.heap.size)
    (I : List Int → World → Prop) (xs : List Int)
    (hput : ∀ pre W l o o', I pre W → w.heap.size ≤ l → W.heap[l]? = some o → o.isCells = false → I pre (W.putObj l o'))
    (hnew : ∀ pre W o, I pre W → I pre (W.alloc o))
    (hset : ∀ pre W v, I pre W → I pre (W.setCell ⟨Bx, 0, none⟩ v))
    (hiter : ∀ (l : Nat) (J : List Int → World → Prop) (W : World), W.heap[Bx]? = w.heap[Bx]? → (∀ pre W, J pre W → I pre W) → (∀ pre W v, J pre W → J pre (W.setCell ⟨Bx, 0, none⟩ v)) →
      (∀ pre x W, J pre W → pre.length < xs.length → YieldAt Fence.wide (n - 1 - 1) P l #[.int .i64 x] W fun e W' => e = .returned (.bool true) ∧ J (pre ++ [x]) W' ∧ W'.heap[Bx]? = W.heap[Bx]?) →
      J [] W → CallsIn Fence.wide (n - 1) P gf #[.func (.yield l) #[] #[], .pointer (some ⟨Bx, 0, none⟩)] W fun e W' => (∃ v, e = .returned v) ∧ J xs W')
    (h0 : I [] w) (a₁ : Int → Act)
    (hassign : ∀ (l : Nat) (x : Int) (W : World) (K : Act → World → Prop), K (a₁ x) W →
      assign.wpIn (Fence.wide.inRound l) (n - 1 - 1) P (Exit.then K (fun _ _ _ => False)) { tmps := (ps.zip #[.int .i64 x]).foldl (fun t (p, v) => t.setIfInBounds p v) a.tmps, defers := [] } W)
    (hbody : ∀ (l : Nat) (pre : List Int) (x : Int) (W : World), I pre W → pre.length < xs.length → body.wpIn (Fence.wide.inRound l) (n - 1 - 1) P (roundEnd I Bx (pre ++ [x]) W) (a₁ x) W)
    (hdone : ∀ (D : Nat) (W : World), w.heap.size ≤ D → I xs W → W.heap[D]? = some (.deferred (some [])) → Q .normal { a with defers := { target := .collected D, args := #[] } :: a.defers } W) :
    (Code.rangeFunc g ps assign body).wpIn Fence.wide n P Q a w := by
  refine wpIn_rangeFunc fun fn hfn => ?_
  generalize hS : w.heap.size = S at *
  obtain ⟨rd, hrd⟩ : ∃ rd : Loop, rd = { state := .ready, pending := none, fn, tmps := a.tmps, params := ps, assign, body, defers := S } := ⟨_, rfl⟩
  obtain ⟨bz, hbz⟩ : ∃ bz : Loop, bz = { rd with state := .busy } := ⟨_, rfl⟩
  obtain ⟨W1, hW1⟩ : ∃ W1, (w.alloc (.deferred (some []))).alloc (.loop rd) = W1 := ⟨_, rfl⟩
  have hD1 : W1.heap[S]? = some (.deferred (some [])) := by
    rw [← hW1, ← hS]; exact (Below.heap_alloc _ _ _ (by simp)).trans (World.alloc_heap_new w _)
  have hL1 : W1.heap[S + 1]? = some (.loop rd) := by
    have := World.alloc_heap_new (w.alloc (.deferred (some []))) (.loop rd)
    rw [World.size_alloc, hS] at this
    rw [← hW1]; exact this
  have hB1 : W1.heap[Bx]? = w.heap[Bx]? := by
    rw [← hW1, Below.heap_alloc _ _ _ (by simp; omega), Below.heap_alloc _ _ _ (by omega)]
  have hI1 : I [] W1 := by rw [← hW1]; exact hnew _ _ _ (hnew _ _ _ h0)
  have henter : (Instr.enterLoop fn a.tmps ps assign body none).run P w = .ok (S + 1, [{ target := .collected S, args := #[] }]) W1 := by
    rw [run_enterLoop_outer, ← hW1, hrd, hS]
  refine ⟨S + 1, [{ target := .collected S, args := #[] }], W1, { target := .fn (.func gf) #[.pointer (some ⟨Bx, 0, none⟩)], args := #[.func (.yield (S + 1)) #[] #[]] }, W1, gf,
    #[.func (.yield (S + 1)) #[] #[], .pointer (some ⟨Bx, 0, none⟩)], W1, henter, ?_, fun _ _ => trivial, ?_, fun _ => h1, ?_⟩
  · simp only [resolve, hg]
    simp [go_sem]
  · simp [invoke, go_sem, eg]
  · refine (hiter (S + 1) (fun pre W => I pre W ∧ W.heap[S + 1]? = some (.loop rd) ∧ W.heap[S]? = some (.deferred (some []))) W1 hB1 (fun _ _ h => h.1)
      (fun pre W v h => ⟨hset _ _ _ h.1, (Below.heap_setCell _ _ _ _ (by show S + 1 ≠ Bx; omega)).trans h.2.1, (Below.heap_setCell _ _ _ _ (by show S ≠ Bx; omega)).trans h.2.2⟩) ?_ ⟨hI1, hL1, hD1⟩).mono ?_
    · rintro pre x W ⟨hi, hl, hd⟩ hxs
      have hlt : S + 1 < W.heap.size := (Array.getElem?_eq_some_iff.1 hl).1
      have hy := run_yield (P := P) (args := #[.int .i64 x]) hl (by rw [hrd]; exact hps.symm)
      have hbeg := run_beginRound (P := P) hl (by rw [hrd])
      rw [← hbz] at hbeg
      have e1 : rd.fn = fn ∧ rd.assign = assign ∧ rd.body = body ∧ rd.params = ps ∧ rd.tmps = a.tmps := by rw [hrd]; exact ⟨rfl, rfl, rfl, rfl, rfl⟩
      rw [e1.1, e1.2.1, e1.2.2.1, e1.2.2.2.1, e1.2.2.2.2] at hy
      refine ⟨fn, _, assign, body, hy, roundIn_of_wpIn hfn (hassign _ x W _ ⟨_, hbeg, ?_⟩)⟩
      have hi2 : I pre (W.putObj (S + 1) (.loop bz)) := hput _ _ _ _ _ hi (by omega) hl rfl
      refine wpIn_mono (hbody _ pre x _ hi2 hxs) ?_
      rintro e a3 W3 hp
      cases e with
      | normal =>
        obtain ⟨hk3, hb3, hi3⟩ := hp
        have hl3 : W3.heap[S + 1]? = some (.loop bz) := hk3.same _ _ (World.putObj_heap_same hlt) rfl
        have hd3 : W3.heap[S]? = some (.deferred (some [])) := hk3.same _ _ ((World.putObj_heap_other (by omega)).trans hd) rfl
        have hlt3 : S + 1 < W3.heap.size := (Array.getElem?_eq_some_iff.1 hl3).1
        have hend := run_endRound (P := P) none hl3
        have e2 : ({ bz with state := if (none : Option Code).isNone then .ready else .done, pending := none } : Loop) = rd := by rw [hbz, hrd]; rfl
        rw [e2] at hend
        refine ⟨_, _, hend, rfl, ⟨hput _ _ _ _ _ hi3 (by omega) hl3 rfl, World.putObj_heap_same hlt3, (World.putObj_heap_other (by omega)).trans hd3⟩, ?_⟩
        rw [World.putObj_heap_other (by omega), hb3, World.putObj_heap_other (by omega)]
      | ret => exact hp.elim
      | exit id => exact hp.elim
      | goto t => exact hp.elim
      | panic ch => exact hp.elim
      | outgrown => exact hp.elim
    · rintro e W2 ⟨⟨v, rfl⟩, hi, hl, hd⟩
      have hend := run_endLoop (P := P) hl (by rw [hrd]; simp)
      have e3 : rd.pending = none := by rw [hrd]
      rw [e3] at hend
      exact ⟨none, _, hend, hdone S _ (Nat.le_refl _) (hput _ _ _ _ _ hi (by omega) hl rfl) ((World.putObj_heap_other (by omega)).trans hd)⟩

end Go.Proofs.YtkkabacdiefabaaDoor
