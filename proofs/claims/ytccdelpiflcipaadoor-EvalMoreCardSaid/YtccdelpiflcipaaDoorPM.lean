/- A position turned about: plain words, and the block that is being turned. -/
import Derived.Test.YtccdelpiflcipaaDoorPB
import Derived.Test.YtccdelpiflcipaaDoorU2
import Derived.Test.YtccdelpiflcipaaDoorS
namespace Go.Proofs.YtccdelpiflcipaaDoor
open Go Go.RowKit

def bitsOf (x : Int) : BitVec 64 := BitVec.ofInt 64 x
theorem bits_u (b : BitVec 64) : bitsOf (u b) = b := ofInt_u b
def mirN (n : Nat → Int) : Nat → Int := fun i =>
  if 1 ≤ i ∧ i ≤ 64 then othI (n (1 + (flipI ((i : Int) - 1)).toNat))
  else if i = 65 then u (flipB (bitsOf (n 65)))
  else if 66 ≤ i ∧ i ≤ 71 then n (i + 6)
  else if 72 ≤ i ∧ i ≤ 77 then n (i - 6)
  else if i = 78 then (if n 78 = 0 then 1 else if n 78 = 1 then 0 else n 78)
  else if 79 ≤ i ∧ i ≤ 80 then n (i + 2)
  else if 81 ≤ i ∧ i ≤ 82 then n (i - 2)
  else if i = 83 then (if 0 ≤ n 83 ∧ n 83 < 64 then flipI (n 83) else n 83)
  else if i = 84 then n 85
  else if i = 85 then n 84
  else n i

/-- Three blocks: the position, the answer's, the one that is being turned. -/
structure Mir (w0 : World) (g : Nat) (n : Nat → Int) (W : World) (m : Nat → Int) : Prop where
  own : PosAt W w0.heap.size n
  res : PosAt W (w0.heap.size + 1) zeroN
  new : PosAt W g m
  far : w0.heap.size + 1 < g
  below : Below w0.heap.size w0 W
theorem Mir.set {w0 W : World} {g : Nat} {n m : Nat → Int} (h : Mir w0 g n W m) (i : Nat) (x : Int) {k : IntKind} (hk : k = kindAt i) : Mir w0 g n (W.setCell ⟨g, i, none⟩ (.int k x)) (upd m i x) := by
  subst hk
  have := h.far
  exact ⟨h.own.other (by omega) _, h.res.other (by omega) _, h.new.set i x, h.far, h.below.setCell (by show w0.heap.size ≤ g; omega) _⟩
theorem Mir.drew {w0 W : World} {g : Nat} {n m : Nat → Int} (h : Mir w0 g n W m) : Mir w0 g n W.drew m := ⟨h.own, h.res, h.new, h.far, h.below.drew⟩
theorem Mir.then {w0 W W' : World} {g : Nat} {n m : Nat → Int} (h : Mir w0 g n W m) (hb : Below W.heap.size W W') : Mir w0 g n W' m :=
  ⟨h.own.below hb h.own.lt, h.res.below hb h.res.lt, h.new.below hb h.new.lt, h.far, h.below.trans (hb.mono h.below.size)⟩
theorem Mir.begin {w0 X Y : World} {n : Nat → Int} (hX : (w0.alloc (.cells (posA n) 31)).alloc (.cells (posA zeroN) 31) = X)
    (hY : (X.alloc (.cells (posA zeroN) 31)).setRow X.heap.size (posA n) = Y) : Mir w0 X.heap.size n Y n := by
  obtain ⟨p0, p1, hb⟩ := box2 w0 n zeroN X hX
  have hs : X.heap.size = w0.heap.size + 2 := by rw [← hX]; simp
  rw [World.setRow_alloc_new] at hY
  subst hY
  exact ⟨p0.alloc _, p1.alloc _, PosAt.new X n, by omega, hb.alloc hb.size _⟩

theorem posA_congr {n m : Nat → Int} (h : ∀ i, i < 88 → n i = m i) : posA n = posA m := by
  apply Array.ext_getElem?
  intro i
  by_cases hi : i < 88
  · rw [posA_get _ i hi, posA_get _ i hi]; unfold cellP; rw [h i hi]
  · rw [Array.getElem?_eq_none_iff.2 (by rw [posA_size]; omega), Array.getElem?_eq_none_iff.2 (by rw [posA_size]; omega)]

/-- What stands before the loop (Promoted, pockets, rooks, checks, who moves), and in it. -/
def headN (n : Nat → Int) (i : Nat) : Int := if 1 ≤ i ∧ i ≤ 64 then n i else if i = 83 then n 83 else mirN n i
def turnK (n h : Nat → Int) (k : Nat) : Nat → Int := fun i => if 1 ≤ i ∧ i ≤ 64 ∧ (flipI ((i : Int) - 1)).toNat < k then othI (n (1 + (flipI ((i : Int) - 1)).toNat)) else h i
theorem turnK_zero (n h : Nat → Int) : turnK n h 0 = h := by
  funext i; unfold turnK; rw [if_neg (by omega)]
theorem turnK_succ (n h : Nat → Int) (k : Nat) (hk : k < 64) : upd (turnK n h k) (1 + (flipI (k : Int)).toNat) (othI (n (1 + k))) = turnK n h (k + 1) := by
  funext i
  unfold upd turnK
  by_cases e : i = 1 + (flipI (k : Int)).toNat
  · subst e
    have e1 : (flipI (((1 + (flipI (k : Int)).toNat : Nat) : Int) - 1)).toNat = k := by unfold flipI; omega
    have e2 : 1 ≤ 1 + (flipI (k : Int)).toNat ∧ 1 + (flipI (k : Int)).toNat ≤ 64 := by unfold flipI; omega
    rw [if_pos rfl, if_pos ⟨e2.1, e2.2, by rw [e1]; omega⟩, e1]
  · rw [if_neg e]
    by_cases h1 : 1 ≤ i ∧ i ≤ 64
    · have e3 : (flipI ((i : Int) - 1)).toNat ≠ k := by intro e4; apply e; rw [← e4]; unfold flipI; omega
      by_cases h2 : (flipI ((i : Int) - 1)).toNat < k
      · rw [if_pos ⟨h1.1, h1.2, h2⟩, if_pos ⟨h1.1, h1.2, by omega⟩]
      · rw [if_neg (fun h => h2 h.2.2), if_neg (fun h => by have := h.2.2; omega)]
    · rw [if_neg (fun h => h1 ⟨h.1, h.2.1⟩), if_neg (fun h => h1 ⟨h.1, h.2.1⟩)]

end Go.Proofs.YtccdelpiflcipaaDoor
