/- Walks of the reference of rules: Letter, Of. -/
import Derived.Test.YtpheapolijhgjaaV0
import Derived.Test.YtpheapolijhgjaaVR
namespace Go.Proofs.Ytpheapolijhgjaa
open Go Go.RowKit
set_option linter.unusedVariables false

def ltrI (c : Int) : Int := if c = 80 then 1 else if c = 78 then 2 else if c = 66 then 3 else if c = 82 then 4 else if c = 81 then 5 else if c = 75 then 6 else if c = 112 then 9 else if c = 110 then 10 else if c = 98 then 11 else if c = 114 then 12 else if c = 113 then 13 else if c = 107 then 14 else 0
def ltrS : ByteArray := ⟨#[46, 80, 78, 66, 82, 81, 75, 46, 46, 112, 110, 98, 114, 113, 107]⟩
def ltrT (k : Nat) : Int := (ltrS.data.toList.getD k 0).toNat
theorem ltr_size : ltrS.size = 15 := rfl
theorem ltr_at (k : Nat) (h : k < ltrS.size) : ((ltrS[k]'h).toNat : Int) = ltrT k := by
  unfold ltrT
  rw [List.getD_eq_getElem?_getD, List.getElem?_eq_getElem (by simpa using h)]
  rfl
theorem ltr_yes : ∀ k : Fin 15, ltrT k.val ≠ 46 → ltrI (ltrT k.val) = k.val := by decide +kernel
theorem ltr_no (c : Int) (h : ∀ j : Nat, 1 ≤ j → j < 15 → ¬ (ltrT j = c ∧ c ≠ 46)) : ltrI c = 0 := by
  have n : ∀ j : Nat, 1 ≤ j → j < 15 → ∀ x : Int, ltrT j = x → x ≠ 46 → ¬ c = x := fun j h1 h2 x hx hn e => h j h1 h2 ⟨by rw [hx, e], by rw [e]; exact hn⟩
  unfold ltrI
  rw [if_neg (n 1 (by decide) (by decide) 80 (by decide) (by decide)), if_neg (n 2 (by decide) (by decide) 78 (by decide) (by decide)), if_neg (n 3 (by decide) (by decide) 66 (by decide) (by decide)), if_neg (n 4 (by decide) (by decide) 82 (by decide) (by decide)),
    if_neg (n 5 (by decide) (by decide) 81 (by decide) (by decide)), if_neg (n 6 (by decide) (by decide) 75 (by decide) (by decide)), if_neg (n 9 (by decide) (by decide) 112 (by decide) (by decide)), if_neg (n 10 (by decide) (by decide) 110 (by decide) (by decide)),
    if_neg (n 11 (by decide) (by decide) 98 (by decide) (by decide)), if_neg (n 12 (by decide) (by decide) 114 (by decide) (by decide)), if_neg (n 13 (by decide) (by decide) 113 (by decide) (by decide)), if_neg (n 14 (by decide) (by decide) 107 (by decide) (by decide))]

set_option maxHeartbeats 1600000 in
theorem letter_any (c : Int) (h0 : 0 ≤ c) (h1 : c ≤ 255) (w : World) : Calls Try.prog 38 #[.int .u8 c] w fun e w' => e = .returned (.int .u8 (ltrI c)) ∧ w = w' := by
  obtain ⟨S, hS⟩ : ∃ S : ByteArray, ltrS = S := ⟨_, rfl⟩
  have hz : S.size = 15 := by rw [← hS]; rfl
  have hat : ∀ k (h : k < S.size), ((S[k]'h).toNat : Int) = ltrT k := by subst hS; exact ltr_at
  have HA := hideIt hat
  have HS := hideIt hS
  have NO := hideIt (ltr_no c)
  clear hat hS
  go_enter Try.func38, Try.ntmps38
  go_wp2_with fail
  rw [show (⟨#[46, 80, 78, 66, 82, 81, 75, 46, 46, 112, 110, 98, 114, 113, 107]⟩ : ByteArray) = S from HS.out]
  go_loop [4] (fun i => ∃ k : Nat, 1 ≤ k ∧ k ≤ 15 ∧ i = .int .i64 k ∧ Hid (∀ j : Nat, 1 ≤ j → j < k → ¬ (ltrT j = c ∧ c ≠ 46))) (fun i => 15 - (intOf i).toNat)
  case atStart => exact ⟨1, by omega, by omega, rfl, fun j h1 h2 => by omega⟩
  case round =>
    obtain ⟨k, hk0, hk1, rfl, hn⟩ := hrel
    by_cases hlt : k < 15
    · have hx := HA.out k (by omega)
      obtain ⟨x, hxx⟩ : ∃ x, ltrT k = x := ⟨_, rfl⟩
      rw [hxx] at hx
      by_cases e : x = c
      · by_cases e46 : c = 46
        · have e1 : (x == c) = true := beq_iff_eq.2 e
          have e2 : (c != 46) = false := by rw [e46]; rfl
          have HN : Hid (∀ j : Nat, 1 ≤ j → j < k + 1 → ¬ (ltrT j = c ∧ c ≠ 46)) := fun j _ _ h => h.2 e46
          clear e e46 hxx
          go_wp2
          go_round
          case rel => exact ⟨k + 1, by omega, by omega, by go_num, HN⟩
          case measure => simp [intOf]; omega
        · have e1 : (x == c) = true := beq_iff_eq.2 e
          have e2 : (c != 46) = true := by rw [bne, beq_eq_false_iff_ne.2 e46]; rfl
          have HK : Hid ((k : Int) = ltrI c) := by
            have := ltr_yes ⟨k, hlt⟩ (by show ltrT k ≠ 46; rw [hxx, e]; exact e46)
            rw [show ltrT (⟨k, hlt⟩ : Fin 15).val = c from hxx.trans e] at this
            exact this.symm
          clear e e46 hxx hn
          go_wp2
          go_ret
          exact ⟨ret_int HK.out, rfl⟩
      · have e1 : (x == c) = false := beq_eq_false_iff_ne.2 e
        have HN : Hid (∀ j : Nat, 1 ≤ j → j < k + 1 → ¬ (ltrT j = c ∧ c ≠ 46)) := by
          intro j h1 h2 h
          by_cases hj : j = k
          · subst hj; exact e (hxx.symm.trans h.1)
          · exact hn.out j h1 (by omega) h
        clear e hxx
        go_wp2
        go_round
        case rel => exact ⟨k + 1, by omega, by omega, by go_num, HN⟩
        case measure => simp [intOf]; omega
    · obtain rfl : k = 15 := by omega
      go_wp2
      go_ret
      exact ⟨ret_int (NO.out hn.out).symm, rfl⟩

/-- A position of rows of letters. -/
def chI (s : ByteArray) (f : Nat) : Int := ((s.data.toList.getD f 0).toNat : Int)
def ofRow (m : Nat → Int) (i : Nat) (s : ByteArray) : Nat → Nat → Int
  | 0 => m
  | f + 1 => upd (ofRow m i s f) (1 + (8 * (7 - i) + f)) (ltrI (chI s f))
def ofK (v : Int) (rows : Nat → ByteArray) : Nat → Nat → Int
  | 0 => noneN v
  | i + 1 => ofRow (ofK v rows i) i (rows i) (rows i).size
theorem ltrI_bd (c : Int) : 0 ≤ ltrI c ∧ ltrI c < 16 := by unfold ltrI; repeat (first | (exact ⟨by decide, by decide⟩) | split)

set_option maxRecDepth 100000 in
set_option maxHeartbeats 4000000 in
theorem rof_any (v : Int) (w : World) (B : Nat) (rows : Nat → ByteArray) (hB : B < w.heap.size) (hc : ∀ i, i < 8 → w.cell? ⟨B, i, none⟩ = some (.string (rows i))) (hr : ∀ i, i < 8 → (rows i).size ≤ 8) :
    Calls Try.prog 34 #[.int .u8 v, .slice (some ⟨B, 0, none⟩) 8 8] w fun e w' => e = .returned (.agg (posA (ofK v rows 8))) ∧ Below w.heap.size w w' := by
  have hzp := zeroPos
  have HC := hideIt hc
  have HR := hideIt hr
  obtain ⟨X, hX⟩ : ∃ X, w.alloc (.cells (posA zeroN) 40) = X := ⟨_, rfl⟩
  obtain ⟨pX, bX⟩ := box1 w zeroN X hX
  have HX := hideIt hX
  clear hX hc hr
  obtain ⟨n0, hn0⟩ : ∃ n0 : Nat → Int, n0 = (fun i => if i = 0 then v else if i = 83 then -1 else if i = 87 then 1 else 0) := ⟨_, rfl⟩
  obtain ⟨V0, hV0⟩ : ∃ V0, (X.alloc (.cells (posA zeroN) 40)).setRow X.heap.size (posA n0) = V0 := ⟨_, rfl⟩
  have hV2 : X.alloc (.cells (posA n0) 40) = V0 := by rw [← hV0, World.setRow_alloc_new]
  have hlt := pX.lt
  have bld : Bld w w.heap.size X.heap.size V0 n0 := by
    rw [← hV2]
    exact ⟨pX.alloc _, PosAt.new X _, by omega, ⟨by omega, by omega⟩, bX.alloc (by omega) _⟩
  obtain ⟨g, hg⟩ : ∃ g, X.heap.size = g := ⟨_, rfl⟩
  rw [hg] at bld
  have c79 : V0.cell? ⟨g, 79, none⟩ = some (.int .i8 (n0 79)) := bld.new.cell 79 (by decide)
  have c80 : V0.cell? ⟨g, 80, none⟩ = some (.int .i8 (n0 80)) := bld.new.cell 80 (by decide)
  have c81 : V0.cell? ⟨g, 81, none⟩ = some (.int .i8 (n0 81)) := bld.new.cell 81 (by decide)
  have c82 : V0.cell? ⟨g, 82, none⟩ = some (.int .i8 (n0 82)) := bld.new.cell 82 (by decide)
  have f79 := bld.new.free 79
  have f80 := bld.new.free 80
  have f81 := bld.new.free 81
  have f82 := bld.new.free 82
  have L0 := (((bld.set 79 (-1) (k := .i8) rfl).set 80 (-1) (k := .i8) rfl).set 81 (-1) (k := .i8) rfl).set 82 (-1) (k := .i8) rfl
  have hE : upd (upd (upd (upd n0 79 (-1)) 80 (-1)) 81 (-1)) 82 (-1) = noneN v := by
    rw [hn0]
    funext i
    unfold upd noneN
    by_cases h82 : i = 82
    · subst h82; rfl
    by_cases h81 : i = 81
    · subst h81; rfl
    by_cases h80 : i = 80
    · subst h80; rfl
    by_cases h79 : i = 79
    · subst h79; rfl
    simp only [h82, h81, h80, h79, if_false]
  rw [hE] at L0
  have HV := hideIt hV0
  have HG := hideIt hg
  have HN0 := hideIt hn0
  clear hV0 hV2 hg pX bX hlt bld hE hn0
  go_enter Try.func34, Try.ntmps34
  go_wp2_with (first | rw [HX.out] | rw [HV.out, HG.out] | (refine wpList_build rfl 40 _ rfl (by kernel_rfl) ?_; generalize hV : (Program.built Try.prog 40 _).getD #[] = V; obtain rfl : posA n0 = V := Eq.trans (by rw [HN0.out]; kernel_rfl) hV; clear hV))
  generalize World.setCell (World.setCell (World.setCell (World.setCell V0 _ _) _ _) _ _) _ _ = V1 at L0 ⊢
  have L1 : Bld w w.heap.size g V1 (ofK v rows 0) := L0
  clear c79 c80 c81 c82 f79 f80 f81 f82 HV HG HX HN0 L0
  go_loopg [6] 8 (fun gk i wr => ∃ k : Nat, k + gk = 8 ∧ i = .int .i64 k ∧ Bld w w.heap.size g wr (ofK v rows k))
  case atStart => exact ⟨0, rfl, rfl, L1⟩
  case round =>
    clear L1
    obtain ⟨k, hgk, rfl, B1⟩ := hrel
    by_cases hlt : k < 8
    · obtain ⟨S, hS⟩ : ∃ S, rows k = S := ⟨_, rfl⟩
      have hsz : S.size ≤ 8 := by rw [← hS]; exact HR.out k hlt
      have hcell : Hid (w.cell? ⟨B, k, none⟩ = some (.string S)) := by rw [← hS]; exact HC.out k hlt
      obtain ⟨m, hm⟩ : ∃ m, ofK v rows k = m := ⟨_, rfl⟩
      rw [hm] at B1
      have HK : Hid (ofK v rows (k + 1) = ofRow m k S S.size) := by
        show ofRow (ofK v rows k) k (rows k) (rows k).size = _
        rw [hm, hS]
      clear hm hS
      go_wp2
      go_loopg [7] S.size (fun g2 f wy => ∃ j : Nat, j + g2 = S.size ∧ f = .int .i64 j ∧ Bld w w.heap.size g wy (ofRow m k S j))
      case atStart => exact ⟨0, by omega, rfl, B1⟩
      case round =>
        clear B1
        obtain ⟨j, hgj, rfl, B2⟩ := hrel
        have cs := (B2.below.cell (p := ⟨B, k, none⟩) hB).trans hcell.out
        by_cases hj : j < S.size
        · have hx : ((S[j]'hj).toNat : Int) = chI S j := by
            unfold chI
            rw [List.getD_eq_getElem?_getD, List.getElem?_eq_getElem (by simpa using hj)]
            rfl
          have c0 : 0 ≤ chI S j ∧ chI S j ≤ 255 := by
            rw [← hx]
            have := (S[j]'hj).toNat_lt
            omega
          obtain ⟨x, hxx⟩ : ∃ x, chI S j = x := ⟨_, rfl⟩
          have BS := B2.setB (1 + (8 * (7 - k) + j)) (by omega) (ltrI x)
          have cc := B2.new.board (1 + (8 * (7 - k) + j)) (by omega)
          have cf := B2.new.free (1 + (8 * (7 - k) + j))
          have HE : Hid (ofRow m k S (j + 1) = upd (ofRow m k S j) (1 + (8 * (7 - k) + j)) (ltrI x)) := by rw [← hxx]; rfl
          rw [hxx] at hx c0
          clear hxx
          go_wp2_with fail
          refine (letter_any x c0.1 c0.2 _).mono ?_
          rintro e w2 ⟨rfl, rfl⟩
          go_wp2
          go_roundg (S.size - (j + 1))
          case measure => omega
          case rel => exact ⟨j + 1, by omega, by go_num, by rw [HE.out]; exact BS⟩
        · obtain rfl : j = S.size := by omega
          go_wp2
          go_roundg (8 - (k + 1))
          case measure => omega
          case rel => exact ⟨k + 1, by omega, by go_num, by rw [HK.out]; exact B2⟩
    · obtain rfl : k = 8 := by omega
      obtain ⟨i1, r1⟩ := B1.new.rules
      obtain ⟨i2, r2⟩ := B1.res.rules
      go_wp2
      refine bodyPost_ret (v := .agg (posA (ofK v rows 8))) (pos_result Try.results34 _ _ _ _ rfl (B1.res.setRow _)) rfl ⟨rfl, below_setRow B1.below B1.low.1 _⟩

end Go.Proofs.Ytpheapolijhgjaa
