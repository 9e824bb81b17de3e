/- Walks of the reference of squares: Text, Parse. -/
import Derived.Test.YtonlfgldhnkcgaaSR
import Derived.Test.YtonlfgldhnkcgaaS2
namespace Go.Proofs.Ytonlfgldhnkcgaa
open Go Go.RowKit

theorem text_slices_nat : ∀ k : Fin 64, ((⟨#[97, 98, 99, 100, 101, 102, 103, 104]⟩ : ByteArray).extract (k.val % 8) (k.val % 8 + 1) ++ (⟨#[49, 50, 51, 52, 53, 54, 55, 56]⟩ : ByteArray).extract (k.val / 8) (k.val / 8 + 1)).data.toList = [UInt8.ofNat (97 + (k.val % 8)), UInt8.ofNat (49 + (k.val / 8))] := by decide +kernel
theorem text_slices (s : Int) (h0 : 0 ≤ s) (h1 : s < 64) : Value.string ((⟨#[97, 98, 99, 100, 101, 102, 103, 104]⟩ : ByteArray).extract (s % 8).toNat (s % 8 + 1).toNat ++ (⟨#[49, 50, 51, 52, 53, 54, 55, 56]⟩ : ByteArray).extract (s / 8).toNat (s / 8 + 1).toNat) = .string ⟨[UInt8.ofNat (97 + (s % 8).toNat), UInt8.ofNat (49 + (s / 8).toNat)].toArray⟩ := by
  obtain ⟨k, rfl⟩ : ∃ k : Nat, s = k := ⟨s.toNat, by omega⟩
  have e1 : ((k : Int) % 8).toNat = k % 8 := by omega
  have e2 : ((k : Int) % 8 + 1).toNat = k % 8 + 1 := by omega
  have e3 : ((k : Int) / 8).toNat = k / 8 := by omega
  have e4 : ((k : Int) / 8 + 1).toNat = k / 8 + 1 := by omega
  rw [e1, e2, e3, e4]
  congr 1
  have := text_slices_nat ⟨k, by omega⟩
  apply ByteArray.ext
  apply Array.ext'
  exact this

set_option maxHeartbeats 800000 in
theorem rText_any (s : Int) (w : World) :
    Calls Try.prog 23 #[.int .i64 s] w fun e w' => e = .returned (.string ⟨(textL s).toArray⟩) ∧ Below w.heap.size w w' := by
  have hc : s < 0 ∨ (0 ≤ s ∧ 63 < s) ∨ (0 ≤ s ∧ s < 64) := by omega
  rcases hc with h1 | ⟨h1, h2⟩ | ⟨h1, h2⟩
  · have H := hideIt (show textL s = _ from if_neg (by omega))
    go_enter Try.func23, Try.ntmps23
    go_wp2
    go_ret
    exact ⟨ret_val (by rw [H.out]; rfl), Below.refl _ _⟩
  · have H := hideIt (show textL s = _ from if_neg (by omega))
    go_enter Try.func23, Try.ntmps23
    go_wp2
    go_ret
    exact ⟨ret_val (by rw [H.out]; rfl), Below.refl _ _⟩
  · have H := hideIt (show textL s = _ from if_pos ⟨h1, h2⟩)
    have F1 : ∀ n, Calls Try.prog 13 #[.int .i64 s] (w.drewN n) fun e w' => e = .returned (.int .i64 (s % 8)) ∧ w.drewN n = w' := fun n => by
      have := rFile_any s (w.drewN n); rwa [show fileI s = s % 8 from if_pos ⟨h1, h2⟩] at this
    have R1 : ∀ n, Calls Try.prog 15 #[.int .i64 s] (w.drewN n) fun e w' => e = .returned (.int .i64 (s / 8)) ∧ w.drewN n = w' := fun n => by
      have := rRank_any s (w.drewN n); rwa [show rankI s = s / 8 from if_pos ⟨h1, h2⟩] at this
    go_enter Try.func23, Try.ntmps23
    go_wp2
    go_quiet ((first | (go_at_call 13; exact quietEq (F1 _)) | (go_at_call 15; exact quietEq (R1 _))))
    go_wp2
    go_ret
    exact ⟨ret_val (by rw [H.out]; exact text_slices s h1 h2), below_drewN (Below.refl _ _) _⟩

theorem text_eq (l : List UInt8) (t : ByteArray) (h : (⟨l.toArray⟩ : ByteArray) = t) : (l == t.toList) = true := by
  subst h; rw [ByteArray.toList_eq]; simp
theorem text_ne (l : List UInt8) (t : ByteArray) (h : (⟨l.toArray⟩ : ByteArray) ≠ t) : (l == t.toList) = false := by
  rw [beq_eq_false_iff_ne]
  rintro rfl
  apply h
  apply ByteArray.ext
  apply Array.ext'
  rw [ByteArray.toList_eq]

set_option maxHeartbeats 800000 in
theorem rParse_any (t : ByteArray) (w : World) :
    Calls Try.prog 21 #[.string t] w fun e w' => e = .returned (.tuple #[.int .i64 (readI t), .bool (readB t)]) ∧ Below w.heap.size w w' := by
  have K1 := hideIt (fun k hk (h : (⟨(textL (k : Nat)).toArray⟩ : ByteArray) = t) => read_yes t k hk h)
  have K2 := hideIt (read_no t)
  go_enter Try.func21, Try.ntmps21
  go_wp2
  go_loopw [4] (fun i wr => ∃ k : Nat, k ≤ 64 ∧ i = .int .i64 k ∧ Hid (∀ j : Nat, j < k → (⟨(textL j).toArray⟩ : ByteArray) ≠ t) ∧ Below w.heap.size w wr) (fun i _ => 64 - (intOf i).toNat)
  case atStart => exact ⟨0, by omega, rfl, fun j hj => absurd hj (Nat.not_lt_zero j), Below.refl _ _⟩
  case round =>
    obtain ⟨k, hk, rfl, hn, hb⟩ := hrel
    by_cases hlt : k < 64
    · by_cases h : (⟨(textL (k : Int)).toArray⟩ : ByteArray) = t
      · have e1 : (textL (k : Int) == t.toList) = true := text_eq _ _ h
        have K := hideIt (K1.out k hlt h)
        clear h
        go_wp2_with fail
        refine (rText_any _ _).mono ?_
        rintro e w1 ⟨rfl, h1⟩
        have hb := hb.trans (h1.mono hb.size)
        clear h1
        go_wp2
        go_ret2
        exact ⟨ret_pair K.out.1 K.out.2, hb⟩
      · have e1 : (textL (k : Int) == t.toList) = false := text_ne _ _ h
        have HN : Hid (∀ j : Nat, j < k + 1 → (⟨(textL j).toArray⟩ : ByteArray) ≠ t) := by
          intro j hj
          by_cases e : j = k
          · subst e; exact h
          · exact hn.out j (by omega)
        clear h
        go_wp2_with fail
        refine (rText_any _ _).mono ?_
        rintro e w1 ⟨rfl, h1⟩
        have hb := hb.trans (h1.mono hb.size)
        clear h1
        go_wp2
        go_roundw
        case rel => exact ⟨k + 1, by omega, by go_num, HN, hb⟩
        case measure => simp [intOf]; omega
    · obtain rfl : k = 64 := by omega
      go_wp2
      go_ret2
      exact ⟨ret_pair (K2.out hn.out).1 (K2.out hn.out).2, hb⟩

theorem byte_at (t : ByteArray) (h : t.size = 2) : ((t[0]'(by omega)).toNat : Int) = byteI t 0 ∧ ((t[1]'(by omega)).toNat : Int) = byteI t 1 := by
  obtain ⟨⟨l⟩⟩ := t
  have hl : l.length = 2 := h
  match l, hl with
  | [x, y], _ => exact ⟨rfl, rfl⟩

/-- Parse of the program, of any text. -/
theorem sParse_any (t : ByteArray) (ht : t.size ≤ 9223372036854775807) (w : World) :
    Calls Try.prog 20 #[.string t] w fun e w' => e = .returned (.tuple #[.int .i64 (readI t), .bool (readB t)]) ∧ Below w.heap.size w w' := by
  by_cases h : t.size = 2
  · have := sParse_two t h w
    obtain ⟨b0, b1⟩ := byte_at t h
    rw [b0, b1] at this
    rw [show readI t = _ from if_pos h, show readB t = _ from if_pos h]
    exact this
  · rw [show readI t = _ from if_neg h, show readB t = _ from if_neg h]
    exact sParse_none t h ht w

end Go.Proofs.Ytonlfgldhnkcgaa
