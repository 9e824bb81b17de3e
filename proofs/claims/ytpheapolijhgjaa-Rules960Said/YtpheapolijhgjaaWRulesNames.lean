/- The walk of RulesNames; ByName. -/
import Derived.Test.YtpheapolijhgjaaVR
import Derived.Deep.QuietTactic
import Derived.BigQuiet
import Derived.WalkMore
import Derived.Deep.LoopGhost
namespace Go.Proofs.Ytpheapolijhgjaa
open Go Go.RowKit
set_option linter.unusedVariables false

/-- Which variant has the name; has one? -/
def byI (t : ByteArray) : Int := if t = nmB 0 then 0 else if t = nmB 1 then 1 else if t = nmB 2 then 2 else if t = nmB 3 then 3 else if t = nmB 4 then 4 else if t = nmB 5 then 5 else if t = nmB 6 then 6 else if t = nmB 7 then 7 else if t = nmB 8 then 8 else 0
def byB (t : ByteArray) : Bool := decide (∃ k : Fin 9, nmB k.val = t)
theorem nm_inj : ∀ a b : Fin 9, (nmB a.val).data = (nmB b.val).data → a = b := by decide +kernel
theorem nm_by : ∀ a : Fin 9, byI (nmB a.val) = (a.val : Int) := by decide +kernel
theorem by_yes (t : ByteArray) (k : Nat) (hk : k < 9) (h : nmB k = t) : (k : Int) = byI t ∧ true = byB t := by
  subst h
  exact ⟨(nm_by ⟨k, hk⟩).symm, (decide_eq_true ⟨⟨k, hk⟩, rfl⟩).symm⟩
theorem by_no (t : ByteArray) (h : ∀ k, k < 9 → nmB k ≠ t) : 0 = byI t ∧ false = byB t := by
  constructor
  · unfold byI
    have n : ∀ k, k < 9 → ¬ t = nmB k := fun k hk e => h k hk e.symm
    rw [if_neg (n 0 (by decide)), if_neg (n 1 (by decide)), if_neg (n 2 (by decide)), if_neg (n 3 (by decide)), if_neg (n 4 (by decide)), if_neg (n 5 (by decide)), if_neg (n 6 (by decide)), if_neg (n 7 (by decide)), if_neg (n 8 (by decide))]
  · symm; exact decide_eq_false (fun ⟨⟨k, hk⟩, e⟩ => h k hk e)
theorem str_eq (a b : ByteArray) (h : a = b) : (a.toList == b.toList) = true := by subst h; simp
theorem str_ne (a b : ByteArray) (h : a ≠ b) : (a.toList == b.toList) = false := by
  rw [beq_eq_false_iff_ne]
  intro e
  apply h
  apply ByteArray.ext
  apply Array.ext'
  rw [← ByteArray.toList_eq, ← ByteArray.toList_eq]; exact e

theorem ret_ub {a : Int} {b : Int} {c d : Bool} (h : a = b) (h' : c = d) : Ending.returned (.tuple #[.int .u8 a, .bool c]) = .returned (.tuple #[.int .u8 b, .bool d]) := by rw [h, h']

set_option maxHeartbeats 1600000 in
theorem byname_any (t : ByteArray) (w : World) : Calls Try.prog 20 #[.string t] w fun e w' => e = .returned (.tuple #[.int .u8 (byI t), .bool (byB t)]) ∧ Below w.heap.size w w' := by
  have K1 := hideIt (fun k hk h => by_yes t k hk h)
  have K2 := hideIt (by_no t)
  go_enter Try.func20, Try.ntmps20
  go_wp2
  go_step3
  go_wp2
  go_step3
  go_wp2
  go_loopw [4, 5, 7] (fun r f i wr => ∃ k : Nat, k ≤ 9 ∧ r = .int .u8 0 ∧ f = .bool false ∧ i = .int .u8 k ∧ Hid (∀ j : Nat, j < k → nmB j ≠ t) ∧ Below w.heap.size w wr) (fun _ _ i _ => 9 - (intOf i).toNat)
  case atStart => exact ⟨0, by omega, rfl, rfl, rfl, fun j hj => absurd hj (Nat.not_lt_zero j), Below.refl _ _⟩
  case round =>
    obtain ⟨k, hk, rfl, rfl, rfl, hn, hb⟩ := hrel
    by_cases hlt : k < 9
    · by_cases h : nmB k = t
      · have K := hideIt (K1.out k hlt h)
        have e1 := str_eq _ _ h
        clear h
        go_wp2_with fail
        refine (vname_any k (by omega) _).mono ?_
        rintro e w1 ⟨rfl, h1⟩
        have hb := hb.trans (h1.mono hb.size)
        clear h1
        go_wp2
        try rw [Exit.noGoto_ret]
        go_ret2
        exact ⟨ret_ub K.out.1 K.out.2, hb⟩
      · have e1 := str_ne _ _ h
        have HN : Hid (∀ j : Nat, j < k + 1 → nmB j ≠ t) := by
          intro j hj
          by_cases e : j = k
          · subst e; exact h
          · exact hn.out j (by omega)
        clear h
        go_wp2_with fail
        refine (vname_any k (by omega) _).mono ?_
        rintro e w1 ⟨rfl, h1⟩
        have hb := hb.trans (h1.mono hb.size)
        clear h1
        go_wp2
        go_roundw
        case rel => exact ⟨k + 1, by omega, rfl, rfl, by go_num, HN, hb⟩
        case measure => simp [intOf]; omega
    · obtain rfl : k = 9 := by omega
      go_wp2
      try rw [Exit.noGoto_ret]
      go_ret2
      exact ⟨ret_ub (K2.out hn.out).1 (K2.out hn.out).2, hb⟩

theorem byB_len (t : ByteArray) (h : 100 < t.size) : byB t = false := by
  refine decide_eq_false (fun ⟨k, e⟩ => ?_)
  have : ∀ k : Fin 9, (nmB k.val).size ≤ 100 := by decide +kernel
  have := this k
  rw [e] at this
  omega

/-- What the law's loop has found. -/
def Found (t : ByteArray) (k : Nat) (r : Int) (f : Bool) : Prop := ((∀ j : Nat, j < k → nmB j ≠ t) ∧ r = 0 ∧ f = false) ∨ ∃ j : Nat, j < k ∧ j < 9 ∧ nmB j = t ∧ r = j ∧ f = true
theorem Found.yes {t : ByteArray} {k : Nat} {r : Int} {f : Bool} (h : nmB k = t) (hk : k < 9) : Found t (k + 1) k true := .inr ⟨k, by omega, hk, h, rfl, rfl⟩
theorem Found.no {t : ByteArray} {k : Nat} {r : Int} {f : Bool} (hf : Found t k r f) (h : nmB k ≠ t) : Found t (k + 1) r f := by
  rcases hf with ⟨h1, h2, h3⟩ | ⟨j, h1, h2⟩
  · left
    refine ⟨fun j hj => ?_, h2, h3⟩
    by_cases e : j = k
    · subst e; exact h
    · exact h1 j (by omega)
  · exact .inr ⟨j, by omega, h2⟩
theorem Found.all {t : ByteArray} {r : Int} {f : Bool} (hf : Found t 9 r f) : r = byI t ∧ f = byB t := by
  rcases hf with ⟨h1, rfl, rfl⟩ | ⟨j, _, h2, h3, rfl, rfl⟩
  · exact by_no t h1
  · exact by_yes t j h2 h3

set_option maxHeartbeats 1600000 in
theorem names_rest (k0 : Nat) (hk0 : k0 ≤ 255) (t0 t : ByteArray) (b : Bool) (hb0 : b = false ∧ t0 = t ∨ b = true ∧ nmB k0 = t) (ht : t0.size ≤ 100) (w : World) :
    Calls Try.prog 4 #[.int .u8 (k0 : Int), .string t0, .bool b] w fun e w' => e = .returned (.bool true) ∧ Below w.heap.size w w' := by
  have hs : t.size ≤ 100 := by
    rcases hb0 with ⟨_, rfl⟩ | ⟨_, rfl⟩
    · exact ht
    · by_cases h : k0 < 9
      · have : ∀ k : Fin 9, (nmB k.val).size ≤ 100 := by decide +kernel
        exact this ⟨k0, h⟩
      · obtain ⟨j, rfl⟩ : ∃ j, k0 = j + 9 := ⟨k0 - 9, by omega⟩
        exact Nat.zero_le _
  have ee := str_eq (nmB k0) (nmB k0) rfl
  rcases hb0 with ⟨rfl, rfl⟩ | ⟨rfl, hn⟩
  · go_enter Try.func4, Try.ntmps4
    go_wp2
    go_loopw [7, 8, 9] (fun r f i wr => ∃ (k : Nat) (r' : Int) (f' : Bool), k ≤ 9 ∧ r = .int .u8 r' ∧ f = .bool f' ∧ i = .int .u8 k ∧ Hid (Found t0 k r' f') ∧ Below w.heap.size w wr) (fun _ _ i _ => 9 - (intOf i).toNat)
    case atStart => exact ⟨0, 0, false, by omega, rfl, rfl, rfl, .inl ⟨fun j hj => absurd hj (Nat.not_lt_zero j), rfl, rfl⟩, Below.refl _ _⟩
    case round =>
      obtain ⟨k, r, f, hk, rfl, rfl, rfl, hf, hb⟩ := hrel
      by_cases hlt : k < 9
      · by_cases h : nmB k = t0
        · have e1 := str_eq _ _ h
          have hf : Hid (Found t0 (k + 1) (k : Int) true) := Found.yes (r := 0) (f := true) h hlt
          clear h
          go_wp2_with fail
          refine (rvname_any k (by omega) _).mono ?_
          rintro e w1 ⟨rfl, h1⟩
          have hb := hb.trans (h1.mono hb.size)
          clear h1
          go_wp2
          go_roundw
          case rel => exact ⟨k + 1, _, _, by omega, rfl, rfl, by go_num, hf, hb⟩
          case measure => simp [intOf]; omega
        · have e1 := str_ne _ _ h
          have hf : Hid (Found t0 (k + 1) r f) := Found.no hf.out h
          clear h
          go_wp2_with fail
          refine (rvname_any k (by omega) _).mono ?_
          rintro e w1 ⟨rfl, h1⟩
          have hb := hb.trans (h1.mono hb.size)
          clear h1
          go_wp2
          go_roundw
          case rel => exact ⟨k + 1, _, _, by omega, rfl, rfl, by go_num, hf, hb⟩
          case measure => simp [intOf]; omega
      · obtain rfl : k = 9 := by omega
        obtain ⟨rfl, rfl⟩ := hf.out.all
        clear hf
        go_wp2_with fail
        refine (byname_any t0 _).mono ?_
        rintro e w2 ⟨rfl, h1⟩
        have hb := hb.trans (h1.mono hb.size)
        clear h1
        go_wp2_with fail
        refine (vname_any k0 hk0 _).mono ?_
        rintro e w3 ⟨rfl, h1⟩
        have hb := hb.trans (h1.mono hb.size)
        clear h1
        go_wp2_with fail
        refine (rvname_any k0 hk0 _).mono ?_
        rintro e w4 ⟨rfl, h1⟩
        have hb := hb.trans (h1.mono hb.size)
        clear h1
        go_wp2
        go_ret
        exact ⟨rfl, hb⟩
  · go_enter Try.func4, Try.ntmps4
    go_wp2_with fail
    refine (rvname_any k0 hk0 _).mono ?_
    rw [hn]
    rintro e w1 ⟨rfl, h1⟩
    go_wp2
    go_loopw [7, 8, 9] (fun r f i wr => ∃ (k : Nat) (r' : Int) (f' : Bool), k ≤ 9 ∧ r = .int .u8 r' ∧ f = .bool f' ∧ i = .int .u8 k ∧ Hid (Found t k r' f') ∧ Below w.heap.size w wr) (fun _ _ i _ => 9 - (intOf i).toNat)
    case atStart => exact ⟨0, 0, false, by omega, rfl, rfl, rfl, .inl ⟨fun j hj => absurd hj (Nat.not_lt_zero j), rfl, rfl⟩, h1⟩
    case round =>
      obtain ⟨k, r, f, hk, rfl, rfl, rfl, hf, hb⟩ := hrel
      by_cases hlt : k < 9
      · by_cases h : nmB k = t
        · have e1 := str_eq _ _ h
          have hf : Hid (Found t (k + 1) (k : Int) true) := Found.yes (r := 0) (f := true) h hlt
          clear h
          go_wp2_with fail
          refine (rvname_any k (by omega) _).mono ?_
          rintro e w1 ⟨rfl, h1⟩
          have hb := hb.trans (h1.mono hb.size)
          clear h1
          go_wp2
          go_roundw
          case rel => exact ⟨k + 1, _, _, by omega, rfl, rfl, by go_num, hf, hb⟩
          case measure => simp [intOf]; omega
        · have e1 := str_ne _ _ h
          have hf : Hid (Found t (k + 1) r f) := Found.no hf.out h
          clear h
          go_wp2_with fail
          refine (rvname_any k (by omega) _).mono ?_
          rintro e w1 ⟨rfl, h1⟩
          have hb := hb.trans (h1.mono hb.size)
          clear h1
          go_wp2
          go_roundw
          case rel => exact ⟨k + 1, _, _, by omega, rfl, rfl, by go_num, hf, hb⟩
          case measure => simp [intOf]; omega
      · obtain rfl : k = 9 := by omega
        obtain ⟨rfl, rfl⟩ := hf.out.all
        clear hf
        go_wp2_with fail
        refine (byname_any t _).mono ?_
        rintro e w2 ⟨rfl, h1⟩
        have hb := hb.trans (h1.mono hb.size)
        clear h1
        go_wp2_with fail
        refine (vname_any k0 hk0 _).mono ?_
        rintro e w3 ⟨rfl, h1⟩
        have hb := hb.trans (h1.mono hb.size)
        clear h1
        go_wp2_with fail
        refine (rvname_any k0 hk0 _).mono ?_
        rintro e w4 ⟨rfl, h1⟩
        have hb := hb.trans (h1.mono hb.size)
        clear h1
        go_wp2
        go_ret
        exact ⟨rfl, hb⟩

theorem rulesNames_walk (a0 : Int) (a1 : ByteArray) (a2 : Bool) (w0 : (Lit.int .u8 a0).wf = true) (_w1 : a1.size ≤ maxLen) (w : World) :
    Calls Try.prog 4 #[.int .u8 a0, .string a1, .bool a2] w fun e w' => e = .returned (.bool true) ∧ Below w.heap.size w w' := by
  obtain ⟨k, rfl, hk⟩ : ∃ k : Nat, a0 = k ∧ k ≤ 255 := by
    simp [Lit.wf] at w0
    have e1 : IntKind.u8.min = 0 := by decide
    have e2 : IntKind.u8.max = 255 := by decide
    exact ⟨a0.toNat, by omega, by omega⟩
  by_cases h : a1.size ≤ 100
  · cases a2 with
    | false => exact names_rest k hk a1 a1 false (.inl ⟨rfl, rfl⟩) h w
    | true => exact names_rest k hk a1 (nmB k) true (.inr ⟨rfl, rfl⟩) h w
  · go_enter Try.func4, Try.ntmps4
    go_wp2
    go_ret
    exact ⟨rfl, Below.refl _ _⟩

end Go.Proofs.Ytpheapolijhgjaa
