/- What the variants add; the block of the extras. -/
import Derived.Test.YtccdelpiflcipaaDoorE5
namespace Go.Proofs.YtccdelpiflcipaaDoor
open Go Go.RowKit
set_option linter.unusedVariables false

/-- What the extra at a place of the list would add. -/
def exI (n : Nat → Int) (c : Nat) : Nat → Int
  | 0 => heldI n c 6
  | 1 => kingI n c (fun s => 60 * (s / 8))
  | 2 => kingI n c (fun s => -30 * sqI s)
  | 3 => 150 * n (84 + c)
  | _ => 200 * (cntB (ofN n c 6) : Int)
def exV : Nat → Nat
  | 0 => 2
  | 1 => 8
  | 2 => 6
  | 3 => 5
  | _ => 4
def exF : Nat → Value
  | 0 => .func (.func 44) #[] #[]
  | 1 => .func (.func 45) #[] #[]
  | 2 => .func (.func 48) #[] #[]
  | 3 => .func (.func 50) #[] #[]
  | _ => .func (.func 51) #[] #[]
/-- What the first places' extras add. -/
def exS (n : Nat → Int) (c v : Nat) : Nat → Int
  | 0 => 0
  | j + 1 => exS n c v j + (if exV j = v then exI n c j else 0)
theorem exI_bd (n : Nat → Int) (hn : PosOk n) (c : Nat) (hc : c ≤ 1) : ∀ j, j < 5 → -2000000 ≤ exI n c j ∧ exI n c j ≤ 2000000
  | 0, _ => by
    obtain ⟨h1, h2⟩ := held_bd n hn c hc 6 (by decide)
    show -2000000 ≤ heldI n c 6 ∧ heldI n c 6 ≤ 2000000
    omega
  | 1, _ => by
    obtain ⟨h1, h2⟩ := first_bd (ofN n c 6)
    show -2000000 ≤ kingI n c (fun s => 60 * (s / 8)) ∧ kingI n c (fun s => 60 * (s / 8)) ≤ 2000000
    unfold kingI
    split
    · omega
    · show -2000000 ≤ 60 * (firstB (ofN n c 6) / 8) ∧ 60 * (firstB (ofN n c 6) / 8) ≤ 2000000
      omega
  | 2, _ => by
    obtain ⟨h1, h2⟩ := first_bd (ofN n c 6)
    show -2000000 ≤ kingI n c (fun s => -30 * sqI s) ∧ kingI n c (fun s => -30 * sqI s) ≤ 2000000
    unfold kingI
    split
    · omega
    · obtain ⟨q0, q1⟩ := sq_bd ⟨(firstB (ofN n c 6)).toNat, by omega⟩
      rw [show (((⟨(firstB (ofN n c 6)).toNat, by omega⟩ : Fin 64).val : Nat) : Int) = firstB (ofN n c 6) by show (((firstB (ofN n c 6)).toNat : Nat) : Int) = _; omega] at q0 q1
      show -2000000 ≤ -30 * sqI (firstB (ofN n c 6)) ∧ -30 * sqI (firstB (ofN n c 6)) ≤ 2000000
      omega
  | 3, _ => by
    have k84 : kindAt (84 + c) = .u8 := by
      have : c = 0 ∨ c = 1 := by omega
      rcases this with rfl | rfl <;> rfl
    obtain ⟨y0, y1⟩ := hn.u8 (84 + c) (by omega) k84
    show -2000000 ≤ 150 * n (84 + c) ∧ 150 * n (84 + c) ≤ 2000000
    omega
  | 4, _ => by
    have hl : cntB (ofN n c 6) ≤ 64 := listB_length _
    show -2000000 ≤ 200 * (cntB (ofN n c 6) : Int) ∧ 200 * (cntB (ofN n c 6) : Int) ≤ 2000000
    omega
theorem exS_bd (n : Nat → Int) (hn : PosOk n) (c v : Nat) (hc : c ≤ 1) : ∀ j : Nat, j ≤ 5 → -2000000 * (j : Int) ≤ exS n c v j ∧ exS n c v j ≤ 2000000 * (j : Int)
  | 0, _ => ⟨Int.le_refl 0, Int.le_refl 0⟩
  | j + 1, hj => by
    obtain ⟨h1, h2⟩ := exS_bd n hn c v hc j (by omega)
    obtain ⟨h3, h4⟩ := exI_bd n hn c hc j (by omega)
    unfold exS
    split <;> omega
theorem size_ex : (Tryd.prog.info? 57).map (·.size) = some 2 := by kernel_rfl
theorem ex_one (j : Nat) (hj : j < 5) : (#[Value.int .u8 (exV j), exF j]).all (·.oneCell') = true := by
  have hc : j = 0 ∨ j = 1 ∨ j = 2 ∨ j = 3 ∨ j = 4 := by omega
  rcases hc with rfl | rfl | rfl | rfl | rfl <;> simp [exV, exF, Value.oneCell']
def ExAt (w : World) (g : Nat) : Prop := w.heap[g]? = some (.cells exA 57 (0, 0))
theorem ExAt.range {w : World} {g : Nat} (h : ExAt w g) (j : Nat) (hj : j < 5) : w.rangeAt g (j * 2) [.int .u8 (exV j), exF j] := by
  intro i v hv
  have hi : i < 2 := (List.getElem?_eq_some_iff.1 hv).1
  unfold ExAt at h
  unfold World.cell?
  simp only [h]
  rw [← hv]
  have hc : j = 0 ∨ j = 1 ∨ j = 2 ∨ j = 3 ∨ j = 4 := by omega
  have hd : i = 0 ∨ i = 1 := by omega
  rcases hc with rfl | rfl | rfl | rfl | rfl <;> rcases hd with rfl | rfl <;> rfl
theorem ExAt.below {w w' : World} {g B : Nat} (h : ExAt w g) (hb : Below B w w') (hg : g < B) : ExAt w' g := (hb.block g hg).trans h
theorem ExAt.lt {w : World} {g : Nat} (h : ExAt w g) : g < w.heap.size := (Array.getElem?_eq_some_iff.1 h).1

/-- A color's worth. -/
def worthI (n : Nat → Int) (v c : Nat) : Int := if knownB v c = true then baseK n c 64 + exS n c v 5 else 0

end Go.Proofs.YtccdelpiflcipaaDoor
