/- Plain words on squares (layer 2). No program here. -/
import Derived.Test.YtonlfgldhnkcgaaU2
namespace Go.Proofs.Ytonlfgldhnkcgaa
open Go

/-- The greatest of four. -/
def max4 (x y z t : Int) : Int := max (max (max x y) z) t
@[go_sem] theorem run_max_int4 {P : Program} {w : World} (ts : Array TypeId) (t : TypeId) (k k1 k2 k3 : IntKind) (x y z v : Int) : (Builtin.max_ ts t #[.int k x, .int k1 y, .int k2 z, .int k3 v]).run P w = .ok (.int k (max4 x y z v)) w := by
  have e : ∀ a b : Int, (if b > a then b else a) = max a b := by intro a b; rw [Int.max_def]; split <;> split <;> omega
  simp [Builtin.max_, Builtin.max2, e, max4]

def fileI (s : Int) : Int := if 0 ≤ s ∧ s < 64 then s % 8 else -1
def rankI (s : Int) : Int := if 0 ≤ s ∧ s < 64 then s / 8 else -1
/-- Is there a square of a file and a rank? -/
def okI (f r : Int) : Bool := decide (0 ≤ f ∧ f < 8 ∧ 0 ≤ r ∧ r < 8)
def ofFR (f r : Int) : Int := if 0 ≤ f ∧ f < 8 ∧ 0 ≤ r ∧ r < 8 then 8 * r + f else 0
def distI (a b : Int) : Int :=
  if (0 ≤ a ∧ a < 64) ∧ (0 ≤ b ∧ b < 64) then
    max (max (a % 8 - b % 8) (b % 8 - a % 8)) (max (a / 8 - b / 8) (b / 8 - a / 8))
  else -1
def flipS (s : Int) : Int := if 0 ≤ s ∧ s < 64 then flipI s else -1
/-- A square's text, its letters. -/
def textL (s : Int) : List UInt8 := if 0 ≤ s ∧ s < 64 then [UInt8.ofNat (97 + (s % 8).toNat), UInt8.ofNat (49 + (s / 8).toNat)] else []

theorem xor56 (s : Int) (h0 : 0 ≤ s) (h1 : s < 64) : bits .xor .i64 s 56 = flipI s := by
  obtain ⟨n, rfl⟩ := Int.eq_ofNat_of_zero_le h0
  have h : ∀ k : Fin 64, bits .xor .i64 (k.val : Int) 56 = flipI (k.val : Int) := by decide +kernel
  exact h ⟨n, by omega⟩

theorem text_nums (s : Int) (h0 : 0 ≤ s) (h1 : s < 64) : Value.string (strOfNums [97 + s % 8, 49 + s / 8]) = .string ⟨[UInt8.ofNat (97 + (s % 8).toNat), UInt8.ofNat (49 + (s / 8).toNat)].toArray⟩ := by
  unfold strOfNums
  have e1 : (97 + s % 8).toNat = 97 + (s % 8).toNat := by omega
  have e2 : (49 + s / 8).toNat = 49 + (s / 8).toNat := by omega
  simp [e1, e2]

end Go.Proofs.Ytonlfgldhnkcgaa
