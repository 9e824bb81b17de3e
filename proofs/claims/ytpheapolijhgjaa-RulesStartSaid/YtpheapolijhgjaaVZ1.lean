/- The two rows as texts; blocks in a region that draws. -/
import Derived.Test.YtpheapolijhgjaaVZ0
import Derived.Laws.BytesArg
import Derived.Deep.RegionHeld3
namespace Go.Proofs.Ytpheapolijhgjaa
open Go Go.RowKit
set_option linter.unusedVariables false

def rows960 (q : Nat → Int) : Nat → ByteArray
  | 0 => strOfNums ((List.range 8).map (lowK q 8))
  | 1 => ⟨#[112, 112, 112, 112, 112, 112, 112, 112]⟩
  | 6 => ⟨#[80, 80, 80, 80, 80, 80, 80, 80]⟩
  | 7 => strOfNums ((List.range 8).map q)
  | _ => ⟨#[]⟩
theorem rows960_le (q : Nat → Int) : ∀ i, i < 8 → (rows960 q i).size ≤ 8 := by
  intro i hi
  have hc : i = 0 ∨ i = 1 ∨ i = 2 ∨ i = 3 ∨ i = 4 ∨ i = 5 ∨ i = 6 ∨ i = 7 := by omega
  rcases hc with rfl | rfl | rfl | rfl | rfl | rfl | rfl | rfl 
  · show (strOfNums ((List.range 8).map (lowK q 8))).size ≤ 8
    rw [strOfNums_size, List.length_map, List.length_range]; omega
  · exact (by decide : (8 : Nat) ≤ 8)
  · exact Nat.zero_le 8
  · exact Nat.zero_le 8
  · exact Nat.zero_le 8
  · exact Nat.zero_le 8
  · exact (by decide : (8 : Nat) ≤ 8)
  · show (strOfNums ((List.range 8).map q)).size ≤ 8
    rw [strOfNums_size, List.length_map, List.length_range]; omega
/-- What the conversions of the two rows give. -/
def Convs (W : World) (gw gr : Nat) (q : Nat → Int) : Prop :=
  (convert 22 9 (.slice (some ⟨gw, 0, none⟩) 8 8)).run Try.prog W = .ok (.string (rows960 q 0)) W ∧ (convert 22 9 (.slice (some ⟨gr, 0, none⟩) 8 8)).run Try.prog W = .ok (.string (rows960 q 7)) W
theorem conv8 {W : World} {g : Nat} {m : Nat → Int} (h : R8At W g m) : (convert 22 9 (.slice (some ⟨g, 0, none⟩) 8 8)).run Try.prog W = .ok (.string (strOfNums ((List.range 8).map m))) W :=
  run_convert_bytes_arg W 22 5 Try.underlying22 Try.underlying5 g 0 8 8 ((List.range 8).map m) (by simp) (fun i hi => by
    rw [Nat.zero_add, h.cell i hi, List.getD_eq_getElem?_getD, List.getElem?_map, List.getElem?_range hi]; rfl) 9 Try.underlying9
theorem keepC {X W : World} {gw gr : Nat} {q : Nat → Int} (h : R8At X gw (lowK q 8)) (k : R8At X gr q) (hb : Below X.heap.size X W) : Convs W gw gr q ∧ Below X.heap.size X W :=
  ⟨⟨conv8 (h.below hb h.lt), conv8 (k.below hb k.lt)⟩, hb⟩
theorem bl_r1 {w w' : World} {o : Obj} {c : Array Value} (h : Below w.heap.size w w') : Below w.heap.size w ((w'.alloc o).setRow w'.heap.size c) := below_setRow (h.alloc h.size o) h.size c
theorem bl_r2 {w w' : World} {c : Array Value} (h : Below w.heap.size w w') : Below w.heap.size w (w'.setRow w.heap.size c) := below_setRow h (Nat.le_refl _) c
theorem bl_r3 {w w' : World} {c : Array Value} (h : Below w.heap.size w w') : Below w.heap.size w (w'.setRow (w.heap.size + 1) c) := below_setRow h (Nat.le_succ _) c
theorem strs_at (U : World) (q : Nat → Int) (i : Nat) (h : i < 8) : (U.alloc (.cells #[.string (rows960 q 0), .string ⟨#[112, 112, 112, 112, 112, 112, 112, 112]⟩, .string ⟨#[]⟩, .string ⟨#[]⟩, .string ⟨#[]⟩, .string ⟨#[]⟩, .string ⟨#[80, 80, 80, 80, 80, 80, 80, 80]⟩, .string (rows960 q 7)] 9)).cell? ⟨U.heap.size, i, none⟩ = some (.string (rows960 q i)) := str_cell U (rows960 q) i h
theorem rof1 (W : World) (q : Nat → Int) : Calls Try.prog 34 #[.int .u8 1, .slice (some ⟨W.heap.size, 0, none⟩) 8 8] (W.alloc (.cells #[.string (rows960 q 0), .string ⟨#[112, 112, 112, 112, 112, 112, 112, 112]⟩, .string ⟨#[]⟩, .string ⟨#[]⟩, .string ⟨#[]⟩, .string ⟨#[]⟩, .string ⟨#[80, 80, 80, 80, 80, 80, 80, 80]⟩, .string (rows960 q 7)] 9)).drew
    fun e w' => e = .returned (.agg (posA (ofK 1 (rows960 q) 8))) ∧ Below (W.alloc (.cells #[.string (rows960 q 0), .string ⟨#[112, 112, 112, 112, 112, 112, 112, 112]⟩, .string ⟨#[]⟩, .string ⟨#[]⟩, .string ⟨#[]⟩, .string ⟨#[]⟩, .string ⟨#[80, 80, 80, 80, 80, 80, 80, 80]⟩, .string (rows960 q 7)] 9)).drew.heap.size (W.alloc (.cells #[.string (rows960 q 0), .string ⟨#[112, 112, 112, 112, 112, 112, 112, 112]⟩, .string ⟨#[]⟩, .string ⟨#[]⟩, .string ⟨#[]⟩, .string ⟨#[]⟩, .string ⟨#[80, 80, 80, 80, 80, 80, 80, 80]⟩, .string (rows960 q 7)] 9)).drew w' :=
  rof_any 1 _ W.heap.size (rows960 q) (by show W.heap.size < (W.alloc _).heap.size; simp) (fun i hi => strs_at W q i hi) (rows960_le q)
theorem rof2 (W : World) (q : Nat → Int) : Calls Try.prog 34 #[.int .u8 1, .slice (some ⟨W.heap.size + 1, 0, none⟩) 8 8] ((W.alloc (.cells (posA zeroN) 40)).alloc (.cells #[.string (rows960 q 0), .string ⟨#[112, 112, 112, 112, 112, 112, 112, 112]⟩, .string ⟨#[]⟩, .string ⟨#[]⟩, .string ⟨#[]⟩, .string ⟨#[]⟩, .string ⟨#[80, 80, 80, 80, 80, 80, 80, 80]⟩, .string (rows960 q 7)] 9)).drew
    fun e w' => e = .returned (.agg (posA (ofK 1 (rows960 q) 8))) ∧ Below ((W.alloc (.cells (posA zeroN) 40)).alloc (.cells #[.string (rows960 q 0), .string ⟨#[112, 112, 112, 112, 112, 112, 112, 112]⟩, .string ⟨#[]⟩, .string ⟨#[]⟩, .string ⟨#[]⟩, .string ⟨#[]⟩, .string ⟨#[80, 80, 80, 80, 80, 80, 80, 80]⟩, .string (rows960 q 7)] 9)).drew.heap.size ((W.alloc (.cells (posA zeroN) 40)).alloc (.cells #[.string (rows960 q 0), .string ⟨#[112, 112, 112, 112, 112, 112, 112, 112]⟩, .string ⟨#[]⟩, .string ⟨#[]⟩, .string ⟨#[]⟩, .string ⟨#[]⟩, .string ⟨#[80, 80, 80, 80, 80, 80, 80, 80]⟩, .string (rows960 q 7)] 9)).drew w' ∧ PosAt w' W.heap.size zeroN :=
  (rof_any 1 _ (W.heap.size + 1) (rows960 q) (by show W.heap.size + 1 < ((W.alloc _).alloc _).heap.size; simp) (fun i hi => by
    have := strs_at (W.alloc (.cells (posA zeroN) 40)) q i hi
    rw [show (W.alloc (.cells (posA zeroN) 40)).heap.size = W.heap.size + 1 by simp] at this
    exact this) (rows960_le q)).mono fun e w' ⟨h1, h2⟩ => ⟨h1, h2, PosAt.below (w := ((W.alloc (.cells (posA zeroN) 40)).alloc (.cells #[.string (rows960 q 0), .string ⟨#[112, 112, 112, 112, 112, 112, 112, 112]⟩, .string ⟨#[]⟩, .string ⟨#[]⟩, .string ⟨#[]⟩, .string ⟨#[]⟩, .string ⟨#[80, 80, 80, 80, 80, 80, 80, 80]⟩, .string (rows960 q 7)] 9)).drew) ((PosAt.new W zeroN).alloc _) h2 ((PosAt.new W zeroN).alloc _).lt⟩
theorem rof3 (W : World) (q : Nat → Int) : Calls Try.prog 34 #[.int .u8 1, .slice (some ⟨W.heap.size, 0, none⟩) 8 8] ((W.alloc (.cells #[.string (rows960 q 0), .string ⟨#[112, 112, 112, 112, 112, 112, 112, 112]⟩, .string ⟨#[]⟩, .string ⟨#[]⟩, .string ⟨#[]⟩, .string ⟨#[]⟩, .string ⟨#[80, 80, 80, 80, 80, 80, 80, 80]⟩, .string (rows960 q 7)] 9)).alloc (.cells (posA zeroN) 40)).drew
    fun e w' => e = .returned (.agg (posA (ofK 1 (rows960 q) 8))) ∧ Below ((W.alloc (.cells #[.string (rows960 q 0), .string ⟨#[112, 112, 112, 112, 112, 112, 112, 112]⟩, .string ⟨#[]⟩, .string ⟨#[]⟩, .string ⟨#[]⟩, .string ⟨#[]⟩, .string ⟨#[80, 80, 80, 80, 80, 80, 80, 80]⟩, .string (rows960 q 7)] 9)).alloc (.cells (posA zeroN) 40)).drew.heap.size ((W.alloc (.cells #[.string (rows960 q 0), .string ⟨#[112, 112, 112, 112, 112, 112, 112, 112]⟩, .string ⟨#[]⟩, .string ⟨#[]⟩, .string ⟨#[]⟩, .string ⟨#[]⟩, .string ⟨#[80, 80, 80, 80, 80, 80, 80, 80]⟩, .string (rows960 q 7)] 9)).alloc (.cells (posA zeroN) 40)).drew w' ∧ PosAt w' (W.heap.size + 1) zeroN :=
  (rof_any 1 _ W.heap.size (rows960 q) (by show W.heap.size < ((W.alloc _).alloc _).heap.size; simp; omega) (fun i hi => by
    have := strs_at W q i hi
    show ((W.alloc (.cells #[.string (rows960 q 0), .string ⟨#[112, 112, 112, 112, 112, 112, 112, 112]⟩, .string ⟨#[]⟩, .string ⟨#[]⟩, .string ⟨#[]⟩, .string ⟨#[]⟩, .string ⟨#[80, 80, 80, 80, 80, 80, 80, 80]⟩, .string (rows960 q 7)] 9)).alloc (.cells (posA zeroN) 40)).cell? _ = _
    rw [World.cell?_alloc_some _ _ _ (by rw [this]; rfl)]
    exact this) (rows960_le q)).mono fun e w' ⟨h1, h2⟩ => ⟨h1, h2, PosAt.below (w := ((W.alloc (.cells #[.string (rows960 q 0), .string ⟨#[112, 112, 112, 112, 112, 112, 112, 112]⟩, .string ⟨#[]⟩, .string ⟨#[]⟩, .string ⟨#[]⟩, .string ⟨#[]⟩, .string ⟨#[80, 80, 80, 80, 80, 80, 80, 80]⟩, .string (rows960 q 7)] 9)).alloc (.cells (posA zeroN) 40)).drew) (PosAt.new1 W _ zeroN) h2 (PosAt.new1 W _ zeroN).lt⟩

end Go.Proofs.Ytpheapolijhgjaa
