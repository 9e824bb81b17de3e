/- Plain words on counting the squares of a set: the library's way by sums of fields. No program here. -/
import Derived.Test.YtkkabacdiefabaaDoorU2
namespace Go.Proofs.YtkkabacdiefabaaDoor
open Go

def ofB (l : List Nat) : Nat := l.foldr (fun lo hi => 256 * hi + lo) 0
def sA (n M : Nat) : Nat := ((n >>> 1) &&& M) + (n &&& M)
def sB (n M : Nat) : Nat := ((n >>> 2) &&& M) + (n &&& M)
def sC (n M : Nat) : Nat := ((n >>> 4) + n) &&& M

theorem and_split (hi lo mh ml : Nat) (h : lo < 256) (hm : ml < 256) : (256 * hi + lo) &&& (256 * mh + ml) = 256 * (hi &&& mh) + (lo &&& ml) := by
  have ha : lo &&& ml < 2 ^ 8 := Nat.and_lt_two_pow _ (by omega)
  apply Nat.eq_of_testBit_eq
  intro i
  have e1 : (256 * hi + lo).testBit i = if i < 8 then lo.testBit i else hi.testBit (i - 8) := Nat.testBit_two_pow_mul_add (i := 8) hi (by omega) i
  have e2 : (256 * mh + ml).testBit i = if i < 8 then ml.testBit i else mh.testBit (i - 8) := Nat.testBit_two_pow_mul_add (i := 8) mh (by omega) i
  have e3 : (256 * (hi &&& mh) + (lo &&& ml)).testBit i = if i < 8 then (lo &&& ml).testBit i else (hi &&& mh).testBit (i - 8) := Nat.testBit_two_pow_mul_add (i := 8) _ ha i
  rw [Nat.testBit_and, e1, e2, e3]
  split
  · rw [Nat.testBit_and]
  · rw [Nat.testBit_and]

theorem byteA : ∀ c : Fin 2, ∀ lo : Fin 256, (c.val * 128 + lo.val / 2) &&& 0x55 = (lo.val >>> 1) &&& 0x55 ∧ sA lo.val 0x55 < 256 := by decide +kernel
theorem byteB : ∀ c : Fin 4, ∀ lo : Fin 256, (c.val * 64 + lo.val / 4) &&& 0x33 = (lo.val >>> 2) &&& 0x33 ∧ sB lo.val 0x33 < 256 := by decide +kernel
theorem byteC : ∀ c : Fin 5, ∀ lo : Fin 256, lo.val / 16 ≤ 4 → (c.val * 16 + lo.val / 16 + lo.val) &&& 0x0f = ((lo.val >>> 4) + lo.val) &&& 0x0f := by decide +kernel
theorem byteP : ∀ lo : Fin 256, sC (sB (sA lo.val 0x55) 0x33) 0x0f = ((List.range 8).filter (fun i => lo.val.testBit i)).length ∧ sB (sA lo.val 0x55) 0x33 / 16 ≤ 4 ∧ sB (sA lo.val 0x55) 0x33 % 16 ≤ 4 := by decide +kernel

theorem sA_split (hi lo M : Nat) (h : lo < 256) : sA (256 * hi + lo) (256 * M + 0x55) = 256 * sA hi M + sA lo 0x55 := by
  unfold sA
  have e : (256 * hi + lo) >>> 1 = 256 * (hi >>> 1) + (hi % 2 * 128 + lo / 2) := by simp only [Nat.shiftRight_eq_div_pow]; omega
  have hb := (byteA ⟨hi % 2, by omega⟩ ⟨lo, h⟩).1
  simp only at hb
  rw [e, and_split _ _ _ _ (by omega) (by omega), and_split _ _ _ _ h (by omega), hb]
  omega
theorem sB_split (hi lo M : Nat) (h : lo < 256) : sB (256 * hi + lo) (256 * M + 0x33) = 256 * sB hi M + sB lo 0x33 := by
  unfold sB
  have e : (256 * hi + lo) >>> 2 = 256 * (hi >>> 2) + (hi % 4 * 64 + lo / 4) := by simp only [Nat.shiftRight_eq_div_pow]; omega
  have hb := (byteB ⟨hi % 4, by omega⟩ ⟨lo, h⟩).1
  simp only at hb
  rw [e, and_split _ _ _ _ (by omega) (by omega), and_split _ _ _ _ h (by omega), hb]
  omega
theorem sC_split (hi lo M : Nat) (h : lo < 256) (h1 : lo / 16 ≤ 4) (h2 : lo % 16 ≤ 4) (h3 : hi % 16 ≤ 4) : sC (256 * hi + lo) (256 * M + 0x0f) = 256 * sC hi M + sC lo 0x0f := by
  unfold sC
  have e : (256 * hi + lo) >>> 4 + (256 * hi + lo) = 256 * (hi >>> 4 + hi) + (hi % 16 * 16 + lo / 16 + lo) := by simp only [Nat.shiftRight_eq_div_pow]; omega
  have hb := byteC ⟨hi % 16, by omega⟩ ⟨lo, h⟩ h1
  simp only at hb
  rw [e, and_split _ _ _ _ (by omega) (by omega), hb]

def same (l : List Nat) (x : Nat) : List Nat := l.map fun _ => x
theorem sA_all (l : List Nat) (h : ∀ x ∈ l, x < 256) : sA (ofB l) (ofB (same l 0x55)) = ofB (l.map fun x => sA x 0x55) := by
  induction l with
  | nil => rfl
  | cons x r ih =>
    show sA (256 * ofB r + x) (256 * ofB (same r 0x55) + 0x55) = 256 * ofB (r.map fun x => sA x 0x55) + sA x 0x55
    rw [sA_split _ _ _ (h x (by simp)), ih (fun y hy => h y (by simp [hy]))]
theorem sB_all (l : List Nat) (h : ∀ x ∈ l, x < 256) : sB (ofB l) (ofB (same l 0x33)) = ofB (l.map fun x => sB x 0x33) := by
  induction l with
  | nil => rfl
  | cons x r ih =>
    show sB (256 * ofB r + x) (256 * ofB (same r 0x33) + 0x33) = 256 * ofB (r.map fun x => sB x 0x33) + sB x 0x33
    rw [sB_split _ _ _ (h x (by simp)), ih (fun y hy => h y (by simp [hy]))]
theorem sC_all (l : List Nat) (h : ∀ x ∈ l, x < 256 ∧ x / 16 ≤ 4 ∧ x % 16 ≤ 4) : sC (ofB l) (ofB (same l 0x0f)) = ofB (l.map fun x => sC x 0x0f) := by
  induction l with
  | nil => rfl
  | cons x r ih =>
    show sC (256 * ofB r + x) (256 * ofB (same r 0x0f) + 0x0f) = 256 * ofB (r.map fun x => sC x 0x0f) + sC x 0x0f
    have hx := h x (by simp)
    have hr : ofB r % 16 ≤ 4 := by
      cases r with
      | nil => decide
      | cons y r' =>
        have hy := h y (by simp)
        show (256 * ofB r' + y) % 16 ≤ 4
        omega
    rw [sC_split _ _ _ hx.1 hx.2.1 hx.2.2 hr, ih (fun y hy => h y (by simp [hy]))]

/-- How many of the bits below m are set. -/
def cntN (n m : Nat) : Nat := ((List.range m).filter (fun i => n.testBit i)).length
theorem cntN_split (hi lo m : Nat) (h : lo < 256) : cntN (256 * hi + lo) (8 + m) = cntN lo 8 + cntN hi m := by
  have e1 : ∀ i, (256 * hi + lo).testBit i = if i < 8 then lo.testBit i else hi.testBit (i - 8) := fun i => Nat.testBit_two_pow_mul_add (i := 8) hi (by omega) i
  unfold cntN
  rw [List.range_add, List.filter_append, List.length_append]
  congr 1
  · congr 1
    apply List.filter_congr
    intro i hi'
    rw [List.mem_range] at hi'
    rw [e1 i, if_pos hi']
  · rw [List.filter_map, List.length_map]
    congr 1
    apply List.filter_congr
    intro i _
    simp only [Function.comp]
    rw [e1, if_neg (by omega)]
    congr 1
    omega
theorem cntN_all (l : List Nat) (h : ∀ x ∈ l, x < 256) : cntN (ofB l) (8 * l.length) = (l.map fun x => cntN x 8).sum := by
  induction l with
  | nil => rfl
  | cons x r ih =>
    show cntN (256 * ofB r + x) (8 * (r.length + 1)) = _
    rw [show 8 * (r.length + 1) = 8 + 8 * r.length from by omega, cntN_split _ _ _ (h x (by simp)), ih (fun y hy => h y (by simp [hy]))]
    simp

/-- The library's way: sums of fields. -/
def swarN (n : Nat) : Nat :=
  let x3 := sC (sB (sA n 0x5555555555555555) 0x3333333333333333) 0x0f0f0f0f0f0f0f0f
  let x4 := (x3 + x3 / 256) % 18446744073709551616
  let x5 := (x4 + x4 / 65536) % 18446744073709551616
  let x6 := (x5 + x5 / 4294967296) % 18446744073709551616
  x6 % 128

theorem swar_count (n : Nat) (h : n < 18446744073709551616) : swarN n = cntN n 64 := by
  obtain ⟨l, hl, hb, rfl⟩ : ∃ l : List Nat, l.length = 8 ∧ (∀ x ∈ l, x < 256) ∧ n = ofB l := by
    refine ⟨[n % 256, n / 256 % 256, n / 65536 % 256, n / 16777216 % 256, n / 4294967296 % 256, n / 1099511627776 % 256, n / 281474976710656 % 256, n / 72057594037927936 % 256], rfl, ?_, ?_⟩
    · intro x hx
      simp only [List.mem_cons, List.not_mem_nil, or_false] at hx
      rcases hx with rfl | rfl | rfl | rfl | rfl | rfl | rfl | rfl <;> omega
    · simp only [ofB, List.foldr_cons, List.foldr_nil]
      omega
  have hm5 : ofB (same l 0x55) = 0x5555555555555555 := by
    match l, hl with
    | [a, b, c, d, e, f, g, i], _ => simp [ofB, same]
  have hm3 : ofB (same (l.map fun x => sA x 0x55) 0x33) = 0x3333333333333333 := by
    match l, hl with
    | [a, b, c, d, e, f, g, i], _ => simp [ofB, same]
  have hm0 : ofB (same ((l.map fun x => sA x 0x55).map fun x => sB x 0x33) 0x0f) = 0x0f0f0f0f0f0f0f0f := by
    match l, hl with
    | [a, b, c, d, e, f, g, i], _ => simp [ofB, same]
  have hA : ∀ x ∈ (l.map fun x => sA x 0x55), x < 256 := by
    intro x hx
    rw [List.mem_map] at hx
    obtain ⟨y, hy, rfl⟩ := hx
    exact (byteA 0 ⟨y, hb y hy⟩).2
  have hB : ∀ x ∈ ((l.map fun x => sA x 0x55).map fun x => sB x 0x33), x < 256 ∧ x / 16 ≤ 4 ∧ x % 16 ≤ 4 := by
    intro x hx
    rw [List.map_map, List.mem_map] at hx
    obtain ⟨y, hy, rfl⟩ := hx
    have h1 := (byteB 0 ⟨sA y 0x55, hA _ (List.mem_map.2 ⟨y, hy, rfl⟩)⟩).2
    exact ⟨h1, (byteP ⟨y, hb y hy⟩).2⟩
  have e3 : sC (sB (sA (ofB l) 0x5555555555555555) 0x3333333333333333) 0x0f0f0f0f0f0f0f0f = ofB (l.map fun x => cntN x 8) := by
    rw [← hm5, sA_all l hb, ← hm3, sB_all _ hA, ← hm0, sC_all _ hB, List.map_map, List.map_map]
    congr 1
    apply List.map_congr_left
    intro x hx
    exact (byteP ⟨x, hb x hx⟩).1
  have hc : ∀ x, cntN x 8 ≤ 8 := fun x => Nat.le_trans (List.length_filter_le _ _) (by simp)
  have e4 : cntN (ofB l) 64 = (l.map fun x => cntN x 8).sum := by
    have := cntN_all l hb
    rw [hl] at this; exact this
  rw [e4]
  unfold swarN
  rw [e3]
  clear e3 e4 hA hB hm5 hm3 hm0 h
  match l, hl with
  | [a, b, c, d, e, f, g, i], _ =>
    have ha := hc a; have hb := hc b; have hc' := hc c; have hd := hc d; have he := hc e; have hf := hc f; have hg := hc g; have hi := hc i
    simp only [List.map_cons, List.map_nil, ofB, List.foldr_cons, List.foldr_nil, List.sum_cons, List.sum_nil]
    generalize cntN a 8 = a at *; generalize cntN b 8 = b at *; generalize cntN c 8 = c at *; generalize cntN d 8 = d at *
    generalize cntN e 8 = e at *; generalize cntN f 8 = f at *; generalize cntN g 8 = g at *; generalize cntN i 8 = i at *
    have q1 : (256 * (256 * (256 * (256 * (256 * (256 * (256 * (256 * 0 + i) + g) + f) + e) + d) + c) + b) + a) / 256 = 256 * (256 * (256 * (256 * (256 * (256 * i + g) + f) + e) + d) + c) + b := by omega
    rw [q1]; clear q1
    have q2 : (256 * (256 * (256 * (256 * (256 * (256 * (256 * (256 * 0 + i) + g) + f) + e) + d) + c) + b) + a + (256 * (256 * (256 * (256 * (256 * (256 * i + g) + f) + e) + d) + c) + b)) % 18446744073709551616
        = 256 * (256 * (256 * (256 * (256 * (256 * (256 * i + (g + i)) + (f + g)) + (e + f)) + (d + e)) + (c + d)) + (b + c)) + (a + b) := by omega
    rw [q2]; clear q2
    have q3 : (256 * (256 * (256 * (256 * (256 * (256 * (256 * i + (g + i)) + (f + g)) + (e + f)) + (d + e)) + (c + d)) + (b + c)) + (a + b)) / 65536
        = 256 * (256 * (256 * (256 * (256 * i + (g + i)) + (f + g)) + (e + f)) + (d + e)) + (c + d) := by omega
    rw [q3]; clear q3
    have q4 : (256 * (256 * (256 * (256 * (256 * (256 * (256 * i + (g + i)) + (f + g)) + (e + f)) + (d + e)) + (c + d)) + (b + c)) + (a + b) + (256 * (256 * (256 * (256 * (256 * i + (g + i)) + (f + g)) + (e + f)) + (d + e)) + (c + d))) % 18446744073709551616
        = 256 * (256 * (256 * (256 * (256 * (256 * (256 * i + (g + i)) + (f + g + i)) + (e + f + g + i)) + (d + e + f + g)) + (c + d + e + f)) + (b + c + d + e)) + (a + b + c + d) := by omega
    rw [q4]; clear q4
    have q5 : (256 * (256 * (256 * (256 * (256 * (256 * (256 * i + (g + i)) + (f + g + i)) + (e + f + g + i)) + (d + e + f + g)) + (c + d + e + f)) + (b + c + d + e)) + (a + b + c + d)) / 4294967296
        = 256 * (256 * (256 * i + (g + i)) + (f + g + i)) + (e + f + g + i) := by omega
    rw [q5]; clear q5
    have q6 : (256 * (256 * (256 * (256 * (256 * (256 * (256 * i + (g + i)) + (f + g + i)) + (e + f + g + i)) + (d + e + f + g)) + (c + d + e + f)) + (b + c + d + e)) + (a + b + c + d) + (256 * (256 * (256 * i + (g + i)) + (f + g + i)) + (e + f + g + i))) % 18446744073709551616
        = 256 * (256 * (256 * (256 * (256 * (256 * (256 * i + (g + i)) + (f + g + i)) + (e + f + g + i)) + (d + e + f + g + i)) + (c + d + e + f + g + i)) + (b + c + d + e + f + g + i)) + (a + b + c + d + e + f + g + i) := by omega
    rw [q6]; clear q6
    have q7 : ∀ T S : Nat, S ≤ 64 → (256 * T + S) % 128 = S := by intro T S hS; omega
    rw [q7 _ _ (by clear q7; omega)]
    clear q7; omega

/-- How many squares. -/
def cntB (b : BitVec 64) : Nat := (listB b).length
theorem cntB_swar (b : BitVec 64) : swarN b.toNat = cntB b := by
  rw [swar_count _ b.isLt]
  unfold cntN cntB listB
  rw [List.length_map]
  rfl

def swarV (b : BitVec 64) : BitVec 64 :=
  let x1 := ((b >>> 1) &&& 0x5555555555555555#64) + (b &&& 0x5555555555555555#64)
  let x2 := ((x1 >>> 2) &&& 0x3333333333333333#64) + (x1 &&& 0x3333333333333333#64)
  let x3 := ((x2 >>> 4) + x2) &&& 0x0f0f0f0f0f0f0f0f#64
  let x4 := x3 + x3 >>> 8
  let x5 := x4 + x4 >>> 16
  x5 + x5 >>> 32
theorem swarV_nat (b : BitVec 64) : (swarV b).toNat % 128 = cntB b := by
  rw [← cntB_swar]
  have e1 : ∀ x : BitVec 64, (((x >>> 1) &&& 0x5555555555555555#64) + (x &&& 0x5555555555555555#64)).toNat = sA x.toNat 0x5555555555555555 := by
    intro x
    have h1 : (x.toNat >>> 1) &&& 0x5555555555555555 ≤ 0x5555555555555555 := Nat.and_le_right
    have h2 : x.toNat &&& 0x5555555555555555 ≤ 0x5555555555555555 := Nat.and_le_right
    rw [BitVec.toNat_add, BitVec.toNat_and, BitVec.toNat_and, BitVec.toNat_ushiftRight, show (0x5555555555555555#64).toNat = 0x5555555555555555 from rfl]
    unfold sA
    exact Nat.mod_eq_of_lt (by omega)
  have e2 : ∀ x : BitVec 64, (((x >>> 2) &&& 0x3333333333333333#64) + (x &&& 0x3333333333333333#64)).toNat = sB x.toNat 0x3333333333333333 := by
    intro x
    have h1 : (x.toNat >>> 2) &&& 0x3333333333333333 ≤ 0x3333333333333333 := Nat.and_le_right
    have h2 : x.toNat &&& 0x3333333333333333 ≤ 0x3333333333333333 := Nat.and_le_right
    rw [BitVec.toNat_add, BitVec.toNat_and, BitVec.toNat_and, BitVec.toNat_ushiftRight, show (0x3333333333333333#64).toNat = 0x3333333333333333 from rfl]
    unfold sB
    exact Nat.mod_eq_of_lt (by omega)
  have e3 : ∀ x : BitVec 64, x.toNat ≤ 7378697629483820646 → (((x >>> 4) + x) &&& 0x0f0f0f0f0f0f0f0f#64).toNat = sC x.toNat 0x0f0f0f0f0f0f0f0f := by
    intro x hx
    rw [BitVec.toNat_and, BitVec.toNat_add, BitVec.toNat_ushiftRight]
    unfold sC
    have h1 : x.toNat >>> 4 ≤ x.toNat := by rw [Nat.shiftRight_eq_div_pow]; exact Nat.div_le_self _ _
    rw [Nat.mod_eq_of_lt (by omega)]
    rfl
  have h2 : ∀ n, sB n 0x3333333333333333 ≤ 7378697629483820646 := by
    intro n
    have h1 : (n >>> 2) &&& 0x3333333333333333 ≤ 0x3333333333333333 := Nat.and_le_right
    have h2 : n &&& 0x3333333333333333 ≤ 0x3333333333333333 := Nat.and_le_right
    unfold sB; omega
  have e8 : ∀ (x : BitVec 64), (x + x >>> 8).toNat = (x.toNat + x.toNat / 256) % 18446744073709551616 := by
    intro x; rw [BitVec.toNat_add, BitVec.toNat_ushiftRight, Nat.shiftRight_eq_div_pow]
  have e16 : ∀ (x : BitVec 64), (x + x >>> 16).toNat = (x.toNat + x.toNat / 65536) % 18446744073709551616 := by
    intro x; rw [BitVec.toNat_add, BitVec.toNat_ushiftRight, Nat.shiftRight_eq_div_pow]
  have e32 : ∀ (x : BitVec 64), (x + x >>> 32).toNat = (x.toNat + x.toNat / 4294967296) % 18446744073709551616 := by
    intro x; rw [BitVec.toNat_add, BitVec.toNat_ushiftRight, Nat.shiftRight_eq_div_pow]
  unfold swarV swarN
  simp only
  rw [e32, e16, e8, e3 _ (by rw [e2]; exact h2 _), e2, e1]

theorem and127 (x : BitVec 64) : bits .and .i64 (RowKit.wrap64 (u x)) 127 = ((x.toNat % 128 : Nat) : Int) := by
  have h : BitVec.ofInt 64 (RowKit.wrap64 (u x)) = x := by
    rw [← ofInt_u x]
    apply BitVec.eq_of_toInt_eq
    rw [BitVec.toInt_ofInt, BitVec.toInt_ofInt, ofInt_u]
    unfold RowKit.wrap64
    simp only [Int.bmod]
    omega
  show IntKind.i64.wrap ((BitVec.ofInt 64 (RowKit.wrap64 (u x)) &&& BitVec.ofInt 64 127).toNat : Int) = _
  rw [h, BitVec.toNat_and]
  have e : (BitVec.ofInt 64 127).toNat = 2 ^ 7 - 1 := by decide
  rw [e, Nat.and_two_pow_sub_one_eq_mod, IntKind.wrap_i64]
  omega

/-- The least square; -1: there is none. -/
def firstB (b : BitVec 64) : Int := (listB b).head?.getD (-1)
theorem listN_least (b : BitVec 64) (n : Nat) : (listN b n = [] ∧ ∀ j, j < n → b.getLsbD j = false) ∨ ∃ i r, i < n ∧ b.getLsbD i = true ∧ (∀ j, j < i → b.getLsbD j = false) ∧ listN b n = i :: r := by
  induction n with
  | zero => left; exact ⟨rfl, by intro j hj; omega⟩
  | succ n ih =>
    rcases ih with ⟨h1, h2⟩ | ⟨i, r, h1, h2, h3, h4⟩
    · cases hb : b.getLsbD n with
      | true => right; exact ⟨n, [], by omega, hb, h2, by rw [listN_succ_yes b n hb, h1]; rfl⟩
      | false =>
        left
        refine ⟨by rw [listN_succ_no b n hb, h1], ?_⟩
        intro j hj
        by_cases e : j = n
        · subst e; exact hb
        · exact h2 j (by omega)
    · right
      cases hb : b.getLsbD n with
      | true => exact ⟨i, r ++ [n], by omega, h2, h3, by rw [listN_succ_yes b n hb, h4]; rfl⟩
      | false => exact ⟨i, r, by omega, h2, h3, by rw [listN_succ_no b n hb, h4]⟩
theorem first_cases (b : BitVec 64) : (b = 0#64 ∧ firstB b = -1) ∨ ∃ i : Nat, i < 64 ∧ b.getLsbD i = true ∧ (∀ j, j < i → b.getLsbD j = false) ∧ firstB b = i := by
  rcases listN_least b 64 with ⟨h1, h2⟩ | ⟨i, r, h1, h2, h3, h4⟩
  · left
    refine ⟨?_, by unfold firstB listB; rw [h1]; rfl⟩
    apply BitVec.eq_of_getLsbD_eq; intro j hj; rw [h2 j hj]; simp
  · right
    exact ⟨i, h1, h2, h3, by unfold firstB listB; rw [h4]; rfl⟩

theorem low_bit (b : BitVec 64) (i : Nat) (hi : i < 64) (h1 : b.getLsbD i = true) (h2 : ∀ j, j < i → b.getLsbD j = false) : b &&& -b = 1#64 <<< i := by
  apply BitVec.eq_of_getLsbD_eq
  intro j hj
  rw [bit_one i j hi, BitVec.getLsbD_and, BitVec.getLsbD_neg]
  by_cases e : j = i
  · subst e
    have : ¬ ∃ k, k < j ∧ b.getLsbD k = true := by
      rintro ⟨k, hk, hb⟩; rw [h2 k hk] at hb; cases hb
    simp [h1, this]
  · by_cases e2 : j < i
    · rw [h2 j e2]; simp [e]
    · have : ∃ k, k < j ∧ b.getLsbD k = true := ⟨i, by omega, h1⟩
      simp [e, this, hj]

def tabL : List Int := [0, 1, 56, 2, 57, 49, 28, 3, 61, 58, 42, 50, 38, 29, 17, 4, 62, 47, 59, 36, 45, 43, 51, 22, 53, 39, 33, 30, 24, 18, 12, 5, 63, 55, 48, 27, 60, 41, 37, 16, 46, 35, 44, 21, 52, 32, 23, 11, 54, 26, 40, 15, 34, 20, 31, 10, 25, 14, 19, 9, 13, 8, 7, 6]
def mulC (b : BitVec 64) : BitVec 64 := b * 285870213051353865#64
def dbN (i : Nat) : Nat := ((mulC (1#64 <<< i)) >>> 58).toNat
theorem db_tab : ∀ i : Fin 64, dbN i.val < 64 ∧ tabL.getD (dbN i.val) 0 = (i.val : Int) := by decide +kernel

theorem neg_u (b : BitVec 64) : IntKind.u64.wrap (-u b) = u (-b) := by
  rw [IntKind.wrap_u64]; unfold u; rw [BitVec.toNat_neg]; have := b.isLt; omega
theorem db_raw (b : BitVec 64) (i : Nat) (h : b &&& -b = 1#64 <<< i) :
    IntKind.u64.wrap (bits BinOp.and IntKind.u64 (u b) (IntKind.u64.wrap (-u b)) * 285870213051353865) / 288230376151711744 = (dbN i : Int) := by
  rw [neg_u, bits_and_u, h, IntKind.wrap_u64]
  unfold dbN mulC u
  rw [BitVec.toNat_ushiftRight, Nat.shiftRight_eq_div_pow, BitVec.toNat_mul]
  generalize (1#64 <<< i).toNat = m
  have : (285870213051353865#64).toNat = 285870213051353865 := by decide
  rw [this]
  omega

/-- The set without its least square. -/
def restB (b : BitVec 64) : BitVec 64 := b &&& (b - 1#64)
theorem restB_bit (b : BitVec 64) (i j : Nat) (hj : j < 64) (h1 : b.getLsbD i = true) (h2 : ∀ j, j < i → b.getLsbD j = false) : (restB b).getLsbD j = (b.getLsbD j && decide (j ≠ i)) := by
  have e : b - 1#64 = ~~~(-b) := by
    rw [BitVec.not_neg]
  unfold restB
  rw [e, BitVec.getLsbD_and, BitVec.getLsbD_not, BitVec.getLsbD_neg]
  by_cases c1 : j < i
  · rw [h2 j c1]; simp
  · by_cases c2 : j = i
    · subst c2
      have : ¬ ∃ k, k < j ∧ b.getLsbD k = true := by
        rintro ⟨k, hk, hb⟩; rw [h2 k hk] at hb; cases hb
      simp [h1, this]
    · have : ∃ k, k < j ∧ b.getLsbD k = true := ⟨i, by omega, h1⟩
      cases b.getLsbD j <;> simp [hj, this, c2]
theorem listN_rest (b : BitVec 64) (i : Nat) (h1 : b.getLsbD i = true) (h2 : ∀ j, j < i → b.getLsbD j = false) (n : Nat) (hn : n ≤ 64) :
    (n ≤ i → listN b n = [] ∧ listN (restB b) n = []) ∧ (i < n → listN b n = i :: listN (restB b) n) := by
  induction n with
  | zero => exact ⟨fun _ => ⟨rfl, rfl⟩, fun h => by omega⟩
  | succ n ih =>
    have ih := ih (by omega)
    have hr := restB_bit b i n (by omega) h1 h2
    constructor
    · intro h
      have hb := h2 n (by omega)
      rw [hb] at hr
      rw [listN_succ_no b n hb, listN_succ_no _ n (by simpa using hr)]
      exact ih.1 (by omega)
    · intro h
      by_cases e : n = i
      · subst e
        have h0 := ih.1 (Nat.le_refl _)
        rw [listN_succ_yes b n h1, listN_succ_no _ n (by rw [hr]; simp), h0.1, h0.2]; rfl
      · have h0 := ih.2 (by omega)
        cases hb : b.getLsbD n with
        | true => rw [listN_succ_yes b n hb, listN_succ_yes _ n (by rw [hr, hb]; simp [e]), h0]; rfl
        | false => rw [listN_succ_no b n hb, listN_succ_no _ n (by rw [hr, hb]; rfl), h0]
theorem listB_rest (b : BitVec 64) (h : b ≠ 0#64) : listB b = firstB b :: listB (restB b) ∧ (restB b).toNat < b.toNat := by
  rcases first_cases b with ⟨h0, _⟩ | ⟨i, hi, h1, h2, hf⟩
  · exact absurd h0 h
  · constructor
    · have := (listN_rest b i h1 h2 64 (Nat.le_refl _)).2 hi
      rw [hf]; unfold listB; rw [this]; rfl
    · unfold restB
      rw [BitVec.toNat_and, BitVec.toNat_sub]
      have hz : b.toNat ≠ 0 := by intro e; exact h (BitVec.eq_of_toNat_eq e)
      have hl := b.isLt
      have e1 : (1#64).toNat = 1 := rfl
      have := Nat.and_le_right (n := b.toNat) (m := (2 ^ 64 - (1#64).toNat + b.toNat) % 2 ^ 64)
      rw [e1] at this ⊢
      omega
theorem listB_none : listB 0#64 = [] := by decide

end Go.Proofs.YtkkabacdiefabaaDoor
