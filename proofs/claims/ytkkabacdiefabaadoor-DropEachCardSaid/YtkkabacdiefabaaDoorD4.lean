/- Plain words of the drops; slices of moves beside slices of ints. -/
import Derived.Test.YtkkabacdiefabaaDoorD3
import Derived.Test.YtkkabacdiefabaaDoorM
import Derived.Test.YtkkabacdiefabaaDoorB4
import Derived.Test.YtkkabacdiefabaaDoorV
import Derived.Maps.AppendAt
import Derived.WalkMore
namespace Go.Proofs.YtkkabacdiefabaaDoor
open Go Go.RowKit
set_option linter.unusedVariables false

def midB : BitVec 64 := 0x00FFFFFFFFFFFF00#64
def whB (n : Nat → Int) (k : Nat) : BitVec 64 := if k = 1 then ~~~(allN n) &&& midB else ~~~(allN n)
def dmv (s k : Int) : Mv := ⟨s, s, 0, k, false⟩
def dropK (n : Nat → Int) (t : Nat) : Nat → List Mv
  | 0 => []
  | j + 1 => dropK n t j ++ (if n (67 + 6 * t + j) = 0 then [] else (listB (whB n (j + 1))).map (fun s => dmv s ((j : Int) + 1)))
theorem dropK_len (n : Nat → Int) (t : Nat) : ∀ j, (dropK n t j).length ≤ 64 * j
  | 0 => Nat.le_refl 0
  | j + 1 => by
    have ih := dropK_len n t j
    have hl := listB_length (whB n (j + 1))
    unfold dropK
    rw [List.length_append]
    split
    · simp only [List.length_nil]; omega
    · rw [List.length_map]; omega
def dropL (n : Nat → Int) (v t : Nat) : List Mv := if t ≤ 1 ∧ v = 2 then dropK n t 5 else []
theorem cells5_new (w : World) (a b c d e : Value) (t : TypeId) : ∀ j u, [a, b, c, d, e][j]? = some u → (w.alloc (.cells #[a, b, c, d, e] t)).cell? ((⟨w.heap.size, 0, none⟩ : Addr).add j) = some u := by
  intro j u hj
  have h : (w.alloc (.cells #[a, b, c, d, e] t)).cell? ⟨w.heap.size, j, none⟩ = #[a, b, c, d, e][j]? := World.cell?_alloc_new ..
  have ha : (⟨w.heap.size, 0, none⟩ : Addr).add j = ⟨w.heap.size, j, none⟩ := by
    unfold Addr.add
    split
    · rename_i h0; subst h0; rfl
    · simp
  rw [ha, h]
  simpa using hj
theorem OwnsI.keptBlk {w w' : World} {B g n c : Nat} {l : List Int} (h : OwnsI w B (.slice (some ⟨g, 0, none⟩) n c) l) (hb : w'.heap[g]? = w.heap[g]?) : OwnsI w' B (.slice (some ⟨g, 0, none⟩) n c) l := by
  obtain ⟨h1, h2⟩ := h
  refine ⟨h1, ?_⟩
  rcases h2 with ⟨h2, _⟩ | ⟨g', cap, cur, hv, hg, hgb, rest⟩
  · cases h2
  · cases hv
    exact .inr ⟨_, _, _, rfl, hg, hb.trans hgb, rest⟩
theorem owns_apart {w : World} {B B' g n c : Nat} {l : List Int} {v : Value} {m : List Mv} (h : OwnsI w B (.slice (some ⟨g, 0, none⟩) n c) l) (hm : OwnsM w B' v m) : some g ≠ v.ownBlock := by
  intro e
  rcases h.2 with ⟨h2, _⟩ | ⟨g', cap, cur, hv, hg, hgb, rest⟩
  · cases h2
  · cases hv
    rcases hm.2 with ⟨h3, _⟩ | ⟨g2, cap2, cur2, hv2, hg2, hgb2, rest2⟩
    · subst h3; cases e
    · subst hv2
      have : g = g2 := by simpa [Value.ownBlock] using e
      subst this
      rw [hgb] at hgb2
      injection hgb2 with hx
      injection hx with _ ht
      exact absurd ht (by decide)

set_option maxHeartbeats 800000 in
theorem drop_none (n : Nat → Int) (hn : PosOk n) (v t : Nat) (hv : n 0 = v) (ht : n 78 = t) (hv9 : v ≤ 255) (h : ¬ (t ≤ 1 ∧ v = 2)) (w : World) :
    Calls Tryd.prog 10 #[.agg (posA n)] w fun e w' => e = .returned (.slice none 0 0) ∧ Below w.heap.size w w' := by
  obtain ⟨X, hX⟩ : ∃ X, w.alloc (.cells (posA n) 31) = X := ⟨_, rfl⟩
  obtain ⟨p0, hb⟩ := box1 w n X hX
  have HX := hideIt hX
  have c0 : X.cell? ⟨w.heap.size, 0, none⟩ = some (.int .u8 v) := by rw [p0.cell 0 (by decide), hv]; rfl
  have c78 : X.cell? ⟨w.heap.size, 78, none⟩ = some (.int .u8 t) := by rw [p0.cell 78 (by decide), ht]; rfl
  clear hX
  by_cases h1 : t ≤ 1
  · have d1 : decide ((1 : Int) < t) = false := decide_eq_false (by omega)
    have HP := hideIt (show pocB v = false from beq_eq_false_iff_ne.2 (fun e => h ⟨h1, e⟩))
    clear h1 h
    go_enter Tryd.func10, Tryd.ntmps10
    go_wp2_with (rw [HX.out])
    go_step3
    go_wp2_with fail
    refine (vpockets_any v hv9 _).mono ?_
    rw [HP.out]
    rintro e w1 ⟨rfl, h1⟩
    have hb := hb.trans (h1.mono hb.size)
    clear h1
    go_wp2
    (try rw [Exit.noGoto_ret])
    go_ret
    exact ⟨rfl, hb⟩
  · have d1 : decide ((1 : Int) < t) = true := decide_eq_true (by omega)
    clear h1 h
    go_enter Tryd.func10, Tryd.ntmps10
    go_wp2_with (rw [HX.out])
    go_step3
    go_wp2_with fail
    (try rw [Exit.noGoto_ret])
    go_ret
    exact ⟨rfl, hb⟩
set_option maxHeartbeats 800000 in
theorem rdrop_none (n : Nat → Int) (hn : PosOk n) (v t : Nat) (hv : n 0 = v) (ht : n 78 = t) (hv9 : v ≤ 255) (h : ¬ (t ≤ 1 ∧ v = 2)) (w : World) :
    Calls Tryd.prog 11 #[.agg (posA n)] w fun e w' => e = .returned (.slice none 0 0) ∧ Below w.heap.size w w' := by
  obtain ⟨X, hX⟩ : ∃ X, w.alloc (.cells (posA n) 31) = X := ⟨_, rfl⟩
  obtain ⟨p0, hb⟩ := box1 w n X hX
  have HX := hideIt hX
  have c0 : X.cell? ⟨w.heap.size, 0, none⟩ = some (.int .u8 v) := by rw [p0.cell 0 (by decide), hv]; rfl
  have c78 : X.cell? ⟨w.heap.size, 78, none⟩ = some (.int .u8 t) := by rw [p0.cell 78 (by decide), ht]; rfl
  clear hX
  by_cases h1 : t ≤ 1
  · have d1 : decide ((1 : Int) < t) = false := decide_eq_false (by omega)
    have d2 : ((v : Int) != 2) = true := by rw [bne, beq_eq_false_iff_ne.2 (by omega)]; rfl
    clear h1 h
    go_enter Tryd.func11, Tryd.ntmps11
    go_wp2_with (rw [HX.out])
    go_ret
    exact ⟨rfl, hb⟩
  · have d1 : decide ((1 : Int) < t) = true := decide_eq_true (by omega)
    clear h1 h
    go_enter Tryd.func11, Tryd.ntmps11
    go_wp2_with (rw [HX.out])
    go_ret
    exact ⟨rfl, hb⟩

end Go.Proofs.YtkkabacdiefabaaDoor
