/- Plain words on squares (layer 2). No program here. -/
import Derived.Test.YtccdelpiflcipaaDoorU2
namespace Go.Proofs.YtccdelpiflcipaaDoor
open Go

/-- The greatest of four. -/
def max4 (x y z t : Int) : Int := max (max (max x y) z) t
@[go_sem] theorem run_max_int4 {P : Program} {w : World} (ts : Array TypeId) (t : TypeId) (k k1 k2 k3 : IntKind) (x y z v : Int) : (Builtin.max_ ts t #[.int k x, .int k1 y, .int k2 z, .int k3 v]).run P w = .ok (.int k (max4 x y z v)) w := by
  have e : ∀ a b : Int, (if b > a then b else a) = max a b := by intro a b; rw [Int.max_def]; split <;> split <;> omega
  simp [Builtin.max_, Builtin.max2, e, max4]

def fileI (s : Int) : Int := if 0 ≤ s ∧ s < 64 then s % 8 else -1
def rankI (s : Int) : Int := if 0 ≤ s ∧ s < 64 then s / 8 else -1
/-- Is there a square of a file and a rank? -/
def okI (f r : Int) : Bool := decide (0 ≤ f ∧ f < 8 ∧ 0 ≤ r ∧ r < 8)
def ofFR (f r : Int) : Int := if 0 ≤ f ∧ f < 8 ∧ 0 ≤ r ∧ r < 8 then 8 * r + f else 0
def distI (a b : Int) : Int :=
  if (0 ≤ a ∧ a < 64) ∧ (0 ≤ b ∧ b < 64) then
    max (max (a % 8 - b % 8) (b % 8 - a % 8)) (max (a / 8 - b / 8) (b / 8 - a / 8))
  else -1
def flipS (s : Int) : Int := if 0 ≤ s ∧ s < 64 then flipI s else -1
/-- A square's text, its letters. -/
def textL (s : Int) : List UInt8 := if 0 ≤ s ∧ s < 64 then [UInt8.ofNat (97 + (s % 8).toNat), UInt8.ofNat (49 + (s / 8).toNat)] else []

theorem xor56 (s : Int) (h0 : 0 ≤ s) (h1 : s < 64) : bits .xor .i64 s 56 = flipI s := by
  obtain ⟨n, rfl⟩ := Int.eq_ofNat_of_zero_le h0
  have h : ∀ k : Fin 64, bits .xor .i64 (k.val : Int) 56 = flipI (k.val : Int) := by decide +kernel
  exact h ⟨n, by omega⟩

theorem text_nums (s : Int) (h0 : 0 ≤ s) (h1 : s < 64) : Value.string (strOfNums [97 + s % 8, 49 + s / 8]) = .string ⟨[UInt8.ofNat (97 + (s % 8).toNat), UInt8.ofNat (49 + (s / 8).toNat)].toArray⟩ := by
  unfold strOfNums
  have e1 : (97 + s % 8).toNat = 97 + (s % 8).toNat := by omega
  have e2 : (49 + s / 8).toNat = 49 + (s / 8).toNat := by omega
  simp [e1, e2]

/-- What a text reads as. -/
def byteI (t : ByteArray) (i : Nat) : Int := ((t.data.toList.getD i 0).toNat : Int)
def readI (t : ByteArray) : Int := if t.size = 2 then ofFR (byteI t 0 - 97) (byteI t 1 - 49) else 0
def readB (t : ByteArray) : Bool := if t.size = 2 then okI (byteI t 0 - 97) (byteI t 1 - 49) else false
theorem read_own : ∀ k : Fin 64, readI ⟨(textL (k.val : Int)).toArray⟩ = k.val ∧ readB ⟨(textL (k.val : Int)).toArray⟩ = true := by decide +kernel
theorem read_yes (t : ByteArray) (k : Nat) (hk : k < 64) (h : (⟨(textL (k : Int)).toArray⟩ : ByteArray) = t) : (k : Int) = readI t ∧ true = readB t := by
  subst h; have := read_own ⟨k, hk⟩; exact ⟨this.1.symm, this.2.symm⟩
theorem read_text (t : ByteArray) (h : readB t = true) : 0 ≤ readI t ∧ readI t < 64 ∧ (⟨(textL (readI t)).toArray⟩ : ByteArray) = t := by
  unfold readB at h
  by_cases h2 : t.size = 2
  · rw [if_pos h2] at h
    have h3 := of_decide_eq_true h
    unfold readI
    rw [if_pos h2]
    unfold ofFR
    rw [if_pos h3]
    refine ⟨by omega, by omega, ?_⟩
    unfold textL
    rw [if_pos (by omega)]
    obtain ⟨⟨l⟩⟩ := t
    have hl : l.length = 2 := h2
    match l, hl with
    | [x, y], _ =>
      simp only [byteI, List.getD_cons_zero, List.getD_cons_succ] at h3 ⊢
      have e1 : (97 + ((8 * ((y.toNat : Int) - 49) + ((x.toNat : Int) - 97)) % 8).toNat) = x.toNat := by omega
      have e2 : (49 + ((8 * ((y.toNat : Int) - 49) + ((x.toNat : Int) - 97)) / 8).toNat) = y.toNat := by omega
      rw [e1, e2]
      simp
  · rw [if_neg h2] at h; cases h
theorem read_zero (t : ByteArray) (h : readB t = false) : readI t = 0 := by
  unfold readB at h; unfold readI
  by_cases h2 : t.size = 2
  · rw [if_pos h2] at h ⊢; exact if_neg (of_decide_eq_false h)
  · rw [if_neg h2]
theorem read_no (t : ByteArray) (h : ∀ k : Nat, k < 64 → (⟨(textL (k : Int)).toArray⟩ : ByteArray) ≠ t) : 0 = readI t ∧ false = readB t := by
  have : readB t = false := by
    cases hb : readB t
    · rfl
    · obtain ⟨h0, h1, h2⟩ := read_text t hb
      obtain ⟨k, hk⟩ : ∃ k : Nat, readI t = k := ⟨(readI t).toNat, by omega⟩
      rw [hk] at h0 h1 h2
      exact absurd h2 (h k (by omega))
  exact ⟨(read_zero t this).symm, this.symm⟩

end Go.Proofs.YtccdelpiflcipaaDoor
