/- Plain words on sets of squares as BitVec 64 and how the walk's integers spell them. No program here. -/
import Derived.WalkKit
import Derived.WalkSpells
import Derived.WalkLawsBesides
import Derived.Deep.QuietTactic
import Derived.BigQuiet
import Derived.Maps.AppendAt
namespace Go.Proofs.YtkkabacdiefabaaDoor
open Go

/-- A set of squares as the walk's integer. -/
def u (b : BitVec 64) : Int := (b.toNat : Int)

theorem u_nonneg (b : BitVec 64) : 0 ≤ u b := by unfold u; omega
theorem u_lt (b : BitVec 64) : u b < 18446744073709551616 := by unfold u; have := b.isLt; omega

theorem ofInt_u (b : BitVec 64) : BitVec.ofInt 64 (u b) = b := by
  unfold u
  rw [BitVec.ofInt_natCast]
  simp

theorem wrap_toNat (b : BitVec 64) : IntKind.u64.wrap (b.toNat : Int) = u b := by
  rw [IntKind.wrap_u64]; unfold u; have := b.isLt; omega

@[go_sem ↓] theorem bits_and_u (a b : BitVec 64) : bits .and .u64 (u a) (u b) = u (a &&& b) := by
  show IntKind.u64.wrap ((BitVec.ofInt 64 (u a) &&& BitVec.ofInt 64 (u b)).toNat : Int) = _
  rw [ofInt_u, ofInt_u, wrap_toNat]
@[go_sem ↓] theorem bits_or_u (a b : BitVec 64) : bits .or .u64 (u a) (u b) = u (a ||| b) := by
  show IntKind.u64.wrap ((BitVec.ofInt 64 (u a) ||| BitVec.ofInt 64 (u b)).toNat : Int) = _
  rw [ofInt_u, ofInt_u, wrap_toNat]
@[go_sem ↓] theorem bits_xor_u (a b : BitVec 64) : bits .xor .u64 (u a) (u b) = u (a ^^^ b) := by
  show IntKind.u64.wrap ((BitVec.ofInt 64 (u a) ^^^ BitVec.ofInt 64 (u b)).toNat : Int) = _
  rw [ofInt_u, ofInt_u, wrap_toNat]
@[go_sem ↓] theorem bits_andNot_u (a b : BitVec 64) : bits .andNot .u64 (u a) (u b) = u (a &&& ~~~b) := by
  show IntKind.u64.wrap ((BitVec.ofInt 64 (u a) &&& ~~~BitVec.ofInt 64 (u b)).toNat : Int) = _
  rw [ofInt_u, ofInt_u, wrap_toNat]

theorem u_inj {a b : BitVec 64} : u a = u b ↔ a = b := by
  unfold u
  constructor
  · intro h; exact BitVec.eq_of_toNat_eq (by omega)
  · intro h; rw [h]

/-- Is it none? -/
def nz (b : BitVec 64) : Bool := !(b == 0#64)

theorem u_zero : u 0#64 = 0 := rfl
theorem u_eq_zero (a : BitVec 64) : (u a == 0) = (a == 0#64) := by
  rw [Bool.eq_iff_iff, beq_iff_eq, beq_iff_eq, ← u_zero, u_inj]
theorem u_beq (a b : BitVec 64) : (u a == u b) = (a == b) := by
  rw [Bool.eq_iff_iff, beq_iff_eq, beq_iff_eq, u_inj]
theorem of_wf {a : Int} (h : (Lit.int .u64 a).wf = true) : ∃ b : BitVec 64, a = u b := by
  have h1 : 0 ≤ a ∧ a < 18446744073709551616 := by
    simp [Lit.wf] at h
    have e1 : IntKind.u64.min = 0 := by decide
    have e2 : IntKind.u64.max = 18446744073709551615 := by decide
    omega
  refine ⟨BitVec.ofNat 64 a.toNat, ?_⟩
  unfold u
  rw [BitVec.toNat_ofNat]
  omega

/-- The set of a square; none of a number that is no square. -/
def oneB (s : Int) : BitVec 64 := if 0 ≤ s ∧ s < 64 then 1#64 <<< s.toNat else 0#64
/-- Is a square in a set? -/
def hasB (b : BitVec 64) (s : Int) : Bool := !((b &&& oneB s) == 0#64)
def putB (b : BitVec 64) (s : Int) : BitVec 64 := b ||| oneB s
def clearB (b : BitVec 64) (s : Int) : BitVec 64 := b &&& ~~~oneB s

theorem oneB_in {s : Int} (h0 : 0 ≤ s) (h1 : s < 64) : oneB s = 1#64 <<< s.toNat := if_pos ⟨h0, h1⟩
theorem oneB_out {s : Int} (h : ¬ (0 ≤ s ∧ s < 64)) : oneB s = 0#64 := if_neg h
theorem oneB_nat (k : Nat) (h : k < 64) : oneB (k : Int) = 1#64 <<< k := by
  rw [oneB_in (by omega) (by omega), Int.toNat_natCast]

theorem bit_one (k i : Nat) (h : k < 64) : (1#64 <<< k).getLsbD i = decide (i = k) := by
  rw [BitVec.getLsbD_shiftLeft]
  by_cases e : i = k
  · subst e; simp [h]
  · by_cases e2 : i < k
    · simp [e2, e]
    · have : i - k ≠ 0 := by omega
      simp [e, e2, BitVec.getLsbD_one, this]

theorem oneB_bit (k i : Nat) (h : k < 64) : (oneB (k : Int)).getLsbD i = decide (i = k) := by
  rw [oneB_nat k h, bit_one k i h]

theorem hasB_nat (b : BitVec 64) (k : Nat) (h : k < 64) : hasB b (k : Int) = b.getLsbD k := by
  unfold hasB
  cases hb : b.getLsbD k with
  | false =>
    have e : b &&& oneB (k : Int) = 0#64 := by
      apply BitVec.eq_of_getLsbD_eq
      intro i hi
      rw [BitVec.getLsbD_and, oneB_bit k i h]
      by_cases ek : i = k
      · subst ek; simp [hb]
      · simp [ek]
    rw [e]; rfl
  | true =>
    have e : ¬ (b &&& oneB (k : Int) = 0#64) := by
      intro e
      have h1 := congrArg (fun x => x.getLsbD k) e
      simp only [BitVec.getLsbD_and, oneB_bit k k h, hb] at h1
      simp at h1
    simp [e]

theorem hasB_out (b : BitVec 64) {s : Int} (h : ¬ (0 ≤ s ∧ s < 64)) : hasB b s = false := by
  unfold hasB; rw [oneB_out h]; simp

theorem ext_has {a b : BitVec 64} (h : ∀ k : Nat, k < 64 → hasB a k = hasB b k) : a = b := by
  apply BitVec.eq_of_getLsbD_eq
  intro i hi
  rw [← hasB_nat a i hi, ← hasB_nat b i hi]
  exact h i hi

theorem has_and (a b : BitVec 64) (s : Int) : hasB (a &&& b) s = (hasB a s && hasB b s) := by
  by_cases h : 0 ≤ s ∧ s < 64
  · obtain ⟨k, rfl⟩ := Int.eq_ofNat_of_zero_le h.1
    rw [hasB_nat _ _ (by omega), hasB_nat _ _ (by omega), hasB_nat _ _ (by omega), BitVec.getLsbD_and]
  · rw [hasB_out _ h, hasB_out _ h]; rfl
theorem has_or (a b : BitVec 64) (s : Int) : hasB (a ||| b) s = (hasB a s || hasB b s) := by
  by_cases h : 0 ≤ s ∧ s < 64
  · obtain ⟨k, rfl⟩ := Int.eq_ofNat_of_zero_le h.1
    rw [hasB_nat _ _ (by omega), hasB_nat _ _ (by omega), hasB_nat _ _ (by omega), BitVec.getLsbD_or]
  · rw [hasB_out _ h, hasB_out _ h, hasB_out _ h]; rfl
theorem has_andNot (a b : BitVec 64) (s : Int) : hasB (a &&& ~~~b) s = (hasB a s && !hasB b s) := by
  by_cases h : 0 ≤ s ∧ s < 64
  · obtain ⟨k, rfl⟩ := Int.eq_ofNat_of_zero_le h.1
    rw [hasB_nat _ _ (by omega), hasB_nat _ _ (by omega), hasB_nat _ _ (by omega), BitVec.getLsbD_and, BitVec.getLsbD_not]
    have : k < 64 := by omega
    simp [this]
  · rw [hasB_out _ h, hasB_out _ h, hasB_out _ h]; rfl
theorem has_zero (s : Int) : hasB 0#64 s = false := by
  by_cases h : 0 ≤ s ∧ s < 64
  · obtain ⟨k, rfl⟩ := Int.eq_ofNat_of_zero_le h.1
    rw [hasB_nat _ _ (by omega)]; simp
  · rw [hasB_out _ h]
theorem has_one (t s : Int) : hasB (oneB t) s = decide (s = t ∧ 0 ≤ s ∧ s < 64) := by
  by_cases h : 0 ≤ s ∧ s < 64
  · obtain ⟨k, rfl⟩ := Int.eq_ofNat_of_zero_le h.1
    by_cases ht : 0 ≤ t ∧ t < 64
    · obtain ⟨j, rfl⟩ := Int.eq_ofNat_of_zero_le ht.1
      rw [hasB_nat _ _ (by omega), oneB_bit j k (by omega)]
      by_cases e : k = j
      · subst e; simp; omega
      · simp [e]; omega
    · rw [oneB_out ht, has_zero]
      symm; rw [decide_eq_false_iff_not]; omega
  · rw [hasB_out _ h]
    symm; rw [decide_eq_false_iff_not]; omega
theorem has_put (b : BitVec 64) (t s : Int) : hasB (putB b t) s = (hasB b s || decide (s = t ∧ 0 ≤ s ∧ s < 64)) := by
  unfold putB; rw [has_or, has_one]
theorem has_clear (b : BitVec 64) (t s : Int) : hasB (clearB b t) s = (hasB b s && !decide (s = t ∧ 0 ≤ s ∧ s < 64)) := by
  unfold clearB; rw [has_andNot, has_one]

theorem putB_out (b : BitVec 64) {s : Int} (h : ¬ (0 ≤ s ∧ s < 64)) : putB b s = b := by
  unfold putB; rw [oneB_out h]; simp

/-- The reference's way to put and to take out. -/
theorem put_plus (b : BitVec 64) (s : Int) : putB b s = if hasB b s = true then b else b + oneB s := by
  by_cases h : 0 ≤ s ∧ s < 64
  · split
    · rename_i hb
      apply ext_has; intro k hk
      rw [has_put]
      by_cases e : (k : Int) = s
      · subst e; rw [hb]; rfl
      · simp [e]
    · rename_i hb
      have e0 : b &&& oneB s = 0#64 := by
        apply ext_has; intro k hk
        rw [has_and, has_one, has_zero]
        by_cases e : (k : Int) = s
        · subst e; simp at hb; simp [hb]
        · simp [e]
      unfold putB
      exact (BitVec.add_eq_or_of_and_eq_zero _ _ e0).symm
  · rw [hasB_out _ h, putB_out _ h, oneB_out h]; simp
theorem clear_minus (b : BitVec 64) (s : Int) : clearB b s = if hasB b s = true then b - oneB s else b := by
  split
  · rename_i hb
    have e0 : clearB b s + oneB s = b := by
      have e1 : clearB b s &&& oneB s = 0#64 := by
        apply ext_has; intro k hk
        rw [has_and, has_clear, has_one, has_zero]
        cases decide ((k : Int) = s ∧ 0 ≤ (k : Int) ∧ (k : Int) < 64) <;> simp
      rw [BitVec.add_eq_or_of_and_eq_zero _ _ e1]
      apply ext_has; intro k hk
      rw [has_or, has_clear, has_one]
      by_cases e : (k : Int) = s
      · subst e; rw [hb]; simp
      · simp [e]
    calc clearB b s = clearB b s + oneB s - oneB s := by rw [BitVec.add_sub_cancel]
      _ = b - oneB s := by rw [e0]
  · rename_i hb
    apply ext_has; intro k hk
    rw [has_clear]
    by_cases e : (k : Int) = s
    · subst e; simp at hb; simp [hb]
    · simp [e]

theorem pow_oneB (s : Int) (h0 : 0 ≤ s) (h1 : s < 64) : IntKind.u64.wrap (2 ^ s.toNat) = u (oneB s) := by
  rw [IntKind.wrap_u64, oneB_in h0 h1]
  unfold u
  rw [BitVec.toNat_shiftLeft, BitVec.toNat_ofNat, Nat.shiftLeft_eq]
  have : s.toNat < 64 := by omega
  have h2 : 2 ^ s.toNat < 2 ^ 64 := Nat.pow_lt_pow_of_lt (by decide) this
  have h3 : ((2 : Int) ^ s.toNat) = ((2 ^ s.toNat : Nat) : Int) := by simp
  rw [h3]
  simp only [Nat.one_mod_two_pow_eq_one.mpr (by decide : 0 < 64), Nat.one_mul]
  rw [Nat.mod_eq_of_lt h2]
  generalize 2 ^ s.toNat = m at h2
  omega

theorem half_u (b : BitVec 64) (k : Nat) : u (b >>> k) / 2 = u (b >>> (k + 1)) := by
  unfold u
  rw [BitVec.toNat_ushiftRight, BitVec.toNat_ushiftRight, Nat.shiftRight_succ]
  omega
theorem odd_u (b : BitVec 64) (k : Nat) (h : k < 64) : (u (b >>> k) % 2 == 1) = hasB b (k : Int) := by
  rw [hasB_nat b k h]
  unfold u
  rw [BitVec.toNat_ushiftRight, ← BitVec.testBit_toNat, Nat.testBit]
  rw [Nat.one_and_eq_mod_two]
  have : (b.toNat >>> k) % 2 = 0 ∨ (b.toNat >>> k) % 2 = 1 := by omega
  rcases this with e | e
  · rw [e]
    have : ((b.toNat >>> k : Nat) : Int) % 2 = 0 := by omega
    rw [this]; rfl
  · rw [e]
    have : ((b.toNat >>> k : Nat) : Int) % 2 = 1 := by omega
    rw [this]; rfl
theorem dbl_u (k : Nat) (h : k < 63) : IntKind.u64.wrap (u (1#64 <<< k) * 2) = u (1#64 <<< (k + 1)) := by
  have e := pow_oneB ((k : Int) + 1) (by omega) (by omega)
  have e0 := pow_oneB (k : Int) (by omega) (by omega)
  have t1 : ((k : Int) + 1).toNat = k + 1 := by omega
  rw [oneB_in (by omega) (by omega), t1] at e
  rw [oneB_in (by omega) (by omega), Int.toNat_natCast] at e0
  rw [← e, ← e0, IntKind.wrap_u64, IntKind.wrap_u64, IntKind.wrap_u64, Int.pow_succ]
  omega
/-- A callee that leaves the world alone, inside a region that draws its order. -/
theorem quietEq {P : Program} {f : FuncId} {args : Array Value} {w : World} {n : Nat} {v : Value}
    (h : Calls P f args (w.drewN n) fun e w' => e = .returned v ∧ w.drewN n = w') : Calls P f args (w.drewN n) fun e w'' => e = .returned v ∧ ∃ m, w'' = w.drewN m :=
  h.mono fun _ _ ⟨he, hm⟩ => ⟨he, n, hm.symm⟩
theorem hideIt {p : Prop} (h : p) : RowKit.Hid p := h
theorem ret_u {a b : BitVec 64} (h : a = b) : Ending.returned (.int .u64 (u a)) = .returned (.int .u64 (u b)) := by rw [h]
theorem ret_int {k : IntKind} {a b : Int} (h : a = b) : Ending.returned (.int k a) = .returned (.int k b) := by rw [h]
theorem ret_pair {a b : Int} {p q : Bool} (h : a = b) (k : p = q) : Ending.returned (.tuple #[.int .i64 a, .bool p]) = .returned (.tuple #[.int .i64 b, .bool q]) := by rw [h, k]
theorem ret_val {a b : Value} (h : a = b) : Ending.returned a = .returned b := by rw [h]
theorem ret_bool {a b : Bool} (h : a = b) : Ending.returned (.bool a) = .returned (.bool b) := by rw [h]

end Go.Proofs.YtkkabacdiefabaaDoor
