/- The walk of EvalMore (written by gen_emore.py). -/
import Derived.Test.YtccdelpiflcipaaDoorAwE
import Derived.Test.YtccdelpiflcipaaDoorEH
import Derived.Deep.RegionHeld3
namespace Go.Proofs.YtccdelpiflcipaaDoor
open Go Go.RowKit
set_option linter.unusedVariables false

theorem keepM {X W : World} {g q : Nat} {n m : Nat → Int} (h : PosAt X g n) (k : PosAt X q m) (hT : Tab X) (hb : Below X.heap.size X W) :
    (IsPos W g ∧ rowOf W g = posA n) ∧ (IsPos W q ∧ rowOf W q = posA m) ∧ Tab W ∧ Below X.heap.size X W :=
  ⟨(h.below hb h.lt).rules, (k.below hb k.lt).rules, hT.below hb (Nat.le_refl _), hb⟩
theorem more_ok {n : Nat → Int} (hn : PosOk n) (s : Nat) (x : Int) (hs : s < 64) (h0 : 0 ≤ x) (h1 : x ≤ 255) : PosOk (upd n (1 + s) x) := by
  intro i hi
  by_cases e : i = 1 + s
  · subst e
    have hu : upd n (1 + s) x (1 + s) = x := if_pos rfl
    rw [hu, kind_board (by omega)]
    simp [Lit.wf]
    have e1 : IntKind.u8.min = 0 := by decide
    have e2 : IntKind.u8.max = 255 := by decide
    omega
  · have hu : upd n (1 + s) x i = n i := if_neg e
    rw [hu]; exact hn i hi

set_option maxHeartbeats 8000000 in
theorem evalMore_skip (n : Nat → Int) (s x : Int) (v : Nat) (hn : PosOk n) (hv : n 0 = v) (x0 : 0 ≤ x) (x1 : x ≤ 255) (h : 9 ≤ v ∨ v = 6 ∨ v = 8 ∨ s < 0 ∨ 63 < s ∨ atN n s ≠ 0 ∨ isB x = false) (w : World) (hT : Tab w) :
    Calls Tryd.prog 8 #[.agg (posA n), .int .i64 s, .int .u8 x] w fun e w' => e = .returned (.bool true) ∧ Below w.heap.size w w' := by
  have HA : Hid (∀ W, Calls Tryd.prog 18 #[.agg (posA n), .int .i64 s] W fun e w' => e = .returned (.int .u8 (atN n s)) ∧ Below W.heap.size W w') := fun W => at_any n hn s W
  obtain ⟨X, hX⟩ : ∃ X, w.alloc (.cells (posA n) 31) = X := ⟨_, rfl⟩
  obtain ⟨p0, hb⟩ := box1 w n X hX
  have HX := hideIt hX
  have HTX := hideIt (hT.below hb (Nat.le_refl _))
  have HV0 := hideIt hv
  clear hX hT hv
  obtain ⟨a, ha⟩ : ∃ a, atN n s = a := ⟨_, rfl⟩
  rw [ha] at HA h
  have HI : Hid (∀ W, Calls Tryd.prog 19 #[.int .u8 x] W fun e w' => e = .returned (.bool (isB x)) ∧ W = w') := fun W => is_any x x0 x1 W
  obtain ⟨b, hbb⟩ : ∃ b, isB x = b := ⟨_, rfl⟩
  rw [hbb] at HI h
  clear ha hbb
  have hc : 9 ≤ v ∨ v = 6 ∨ v = 8 ∨ (v < 9 ∧ v ≠ 6 ∧ v ≠ 8 ∧ s < 0) ∨ (v < 9 ∧ v ≠ 6 ∧ v ≠ 8 ∧ 0 ≤ s ∧ 63 < s) ∨ (v < 9 ∧ v ≠ 6 ∧ v ≠ 8 ∧ 0 ≤ s ∧ s ≤ 63 ∧ a ≠ 0) ∨ (v < 9 ∧ v ≠ 6 ∧ v ≠ 8 ∧ 0 ≤ s ∧ s ≤ 63 ∧ a = 0 ∧ b = false) := by
    by_cases h1 : 9 ≤ v
    · exact .inl h1
    by_cases h2 : v = 6
    · exact .inr (.inl h2)
    by_cases h3 : v = 8
    · exact .inr (.inr (.inl h3))
    by_cases h4 : s < 0
    · exact .inr (.inr (.inr (.inl ⟨by omega, h2, h3, h4⟩)))
    by_cases h5 : 63 < s
    · exact .inr (.inr (.inr (.inr (.inl ⟨by omega, h2, h3, by omega, h5⟩))))
    by_cases h6 : a = 0
    · exact .inr (.inr (.inr (.inr (.inr (.inr ⟨by omega, h2, h3, by omega, by omega, h6, by rcases h with h | h | h | h | h | h | h <;> first | omega | exact absurd h6 h | exact h⟩)))))
    · exact .inr (.inr (.inr (.inr (.inr (.inl ⟨by omega, h2, h3, by omega, by omega, h6⟩)))))
  clear h
  rcases hc with h | h | h | ⟨h1, h2, h3, h4⟩ | ⟨h1, h2, h3, h4, h5⟩ | ⟨h1, h2, h3, h4, h5, h6⟩ | ⟨h1, h2, h3, h4, h5, h6, h7⟩
  · have d9 : decide ((9 : Int) ≤ v) = true := decide_eq_true (by omega)
    clear h
    go_enter Tryd.func8, Tryd.ntmps8
    go_wp2_with (rw [HX.out])
    refine (awakeE_any _ HTX.out).mono ?_
    rintro e Y ⟨rfl, h1⟩
    have p1 := p0.below h1 p0.lt
    have hb1 := hb.trans (h1.mono hb.size)
    clear h1 p0 hb HTX
    have c0 : Y.cell? ⟨w.heap.size, 0, none⟩ = some (.int .u8 v) := by rw [p1.cell 0 (by decide), HV0.out]; rfl
    obtain ⟨i0, r0⟩ := p1.rules
    go_wp2
    go_ret
    exact ⟨rfl, hb1⟩

  · have d9 : decide ((9 : Int) ≤ v) = false := decide_eq_false (by omega)
    have d6 : ((v : Int) == 6) = true := beq_iff_eq.2 (by omega)
    clear h
    go_enter Tryd.func8, Tryd.ntmps8
    go_wp2_with (rw [HX.out])
    refine (awakeE_any _ HTX.out).mono ?_
    rintro e Y ⟨rfl, h1⟩
    have p1 := p0.below h1 p0.lt
    have hb1 := hb.trans (h1.mono hb.size)
    clear h1 p0 hb HTX
    have c0 : Y.cell? ⟨w.heap.size, 0, none⟩ = some (.int .u8 v) := by rw [p1.cell 0 (by decide), HV0.out]; rfl
    obtain ⟨i0, r0⟩ := p1.rules
    go_wp2
    go_ret
    exact ⟨rfl, hb1⟩

  · have d9 : decide ((9 : Int) ≤ v) = false := decide_eq_false (by omega)
    have d6 : ((v : Int) == 6) = false := beq_eq_false_iff_ne.2 (by omega)
    have d8 : ((v : Int) == 8) = true := beq_iff_eq.2 (by omega)
    clear h
    go_enter Tryd.func8, Tryd.ntmps8
    go_wp2_with (rw [HX.out])
    refine (awakeE_any _ HTX.out).mono ?_
    rintro e Y ⟨rfl, h1⟩
    have p1 := p0.below h1 p0.lt
    have hb1 := hb.trans (h1.mono hb.size)
    clear h1 p0 hb HTX
    have c0 : Y.cell? ⟨w.heap.size, 0, none⟩ = some (.int .u8 v) := by rw [p1.cell 0 (by decide), HV0.out]; rfl
    obtain ⟨i0, r0⟩ := p1.rules
    go_wp2
    go_ret
    exact ⟨rfl, hb1⟩

  · have d9 : decide ((9 : Int) ≤ v) = false := decide_eq_false (by omega)
    have d6 : ((v : Int) == 6) = false := beq_eq_false_iff_ne.2 (by omega)
    have d8 : ((v : Int) == 8) = false := beq_eq_false_iff_ne.2 (by omega)
    clear h1 h2 h3
    go_enter Tryd.func8, Tryd.ntmps8
    go_wp2_with (rw [HX.out])
    refine (awakeE_any _ HTX.out).mono ?_
    rintro e Y ⟨rfl, h1⟩
    have p1 := p0.below h1 p0.lt
    have hb1 := hb.trans (h1.mono hb.size)
    clear h1 p0 hb HTX
    have c0 : Y.cell? ⟨w.heap.size, 0, none⟩ = some (.int .u8 v) := by rw [p1.cell 0 (by decide), HV0.out]; rfl
    obtain ⟨i0, r0⟩ := p1.rules
    go_wp2
    go_ret
    exact ⟨rfl, hb1⟩

  · have d9 : decide ((9 : Int) ≤ v) = false := decide_eq_false (by omega)
    have d6 : ((v : Int) == 6) = false := beq_eq_false_iff_ne.2 (by omega)
    have d8 : ((v : Int) == 8) = false := beq_eq_false_iff_ne.2 (by omega)
    clear h1 h2 h3
    go_enter Tryd.func8, Tryd.ntmps8
    go_wp2_with (rw [HX.out])
    refine (awakeE_any _ HTX.out).mono ?_
    rintro e Y ⟨rfl, h1⟩
    have p1 := p0.below h1 p0.lt
    have hb1 := hb.trans (h1.mono hb.size)
    clear h1 p0 hb HTX
    have c0 : Y.cell? ⟨w.heap.size, 0, none⟩ = some (.int .u8 v) := by rw [p1.cell 0 (by decide), HV0.out]; rfl
    obtain ⟨i0, r0⟩ := p1.rules
    go_wp2
    go_ret
    exact ⟨rfl, hb1⟩

  · have d9 : decide ((9 : Int) ≤ v) = false := decide_eq_false (by omega)
    have d6 : ((v : Int) == 6) = false := beq_eq_false_iff_ne.2 (by omega)
    have d8 : ((v : Int) == 8) = false := beq_eq_false_iff_ne.2 (by omega)
    have da : (a != 0) = true := by rw [bne, beq_eq_false_iff_ne.2 h6]; rfl
    clear h1 h2 h3 h6
    go_enter Tryd.func8, Tryd.ntmps8
    go_wp2_with (rw [HX.out])
    refine (awakeE_any _ HTX.out).mono ?_
    rintro e Y ⟨rfl, h1⟩
    have p1 := p0.below h1 p0.lt
    have hb1 := hb.trans (h1.mono hb.size)
    clear h1 p0 hb HTX
    have c0 : Y.cell? ⟨w.heap.size, 0, none⟩ = some (.int .u8 v) := by rw [p1.cell 0 (by decide), HV0.out]; rfl
    obtain ⟨i0, r0⟩ := p1.rules
    go_wp2_with fail
    refine (HA.out _).mono ?_
    rintro e Z ⟨rfl, h1⟩
    have hb1 := hb1.trans (h1.mono hb1.size)
    clear h1 c0 i0 r0
    go_wp2
    go_ret
    exact ⟨rfl, hb1⟩

  · subst h6 h7
    have d9 : decide ((9 : Int) ≤ v) = false := decide_eq_false (by omega)
    have d6 : ((v : Int) == 6) = false := beq_eq_false_iff_ne.2 (by omega)
    have d8 : ((v : Int) == 8) = false := beq_eq_false_iff_ne.2 (by omega)
    clear h1 h2 h3
    go_enter Tryd.func8, Tryd.ntmps8
    go_wp2_with (rw [HX.out])
    refine (awakeE_any _ HTX.out).mono ?_
    rintro e Y ⟨rfl, h1⟩
    have p1 := p0.below h1 p0.lt
    have hb1 := hb.trans (h1.mono hb.size)
    clear h1 p0 hb HTX
    have c0 : Y.cell? ⟨w.heap.size, 0, none⟩ = some (.int .u8 v) := by rw [p1.cell 0 (by decide), HV0.out]; rfl
    obtain ⟨i0, r0⟩ := p1.rules
    go_wp2_with fail
    refine (HA.out _).mono ?_
    rintro e Z ⟨rfl, h1⟩
    have hb1 := hb1.trans (h1.mono hb1.size)
    clear h1 c0 i0 r0
    go_wp2_with fail
    refine (HI.out _).mono ?_
    rintro e Z2 ⟨rfl, rfl⟩
    go_wp2
    go_ret
    exact ⟨rfl, hb1⟩


set_option maxRecDepth 100000 in
set_option maxHeartbeats 8000000 in
theorem evalMore_0 (n : Nat → Int) (s : Nat) (x : Int) (v k : Nat) (hn : PosOk n) (hv : n 0 = v) (x0 : 0 ≤ x) (x1 : x ≤ 255) (hv9 : v < 9) (h6 : v ≠ 6) (h8 : v ≠ 8) (hs : s < 64) (hat : atN n s = 0) (hi : isB x = true) (hco : colI x = 0) (hkn : kndI x = k) (w : World) (hT : Tab w) :
    Calls Tryd.prog 8 #[.agg (posA n), .int .i64 s, .int .u8 x] w fun e w' => e = .returned (.bool true) ∧ Below w.heap.size w w' := by
  obtain ⟨k1, k2⟩ := knd_in hi
  have hwc := more_worth n v 0 s x hv9 h6 h8 (by decide) hs hi hat
  have hwd := more_worth n v 1 s x hv9 h6 h8 (by decide) hs hi hat
  rw [if_pos (by rw [hco]; rfl)] at hwc
  rw [if_neg (by rw [hco]; decide), Int.add_zero] at hwd
  have hx := more_ok hn s x hs x0 x1
  have hxv : upd n (1 + s) x 0 = v := by rw [← hv]; exact if_neg (by omega)
  have hput : putN n (s : Int) x = upd n (1 + s) x := by
    unfold putN
    rw [if_pos (by unfold putOk; rw [decide_eq_true (by omega), hi, Bool.or_true]; rfl), Int.toNat_natCast]
  obtain ⟨b0, b1⟩ := side_bd n hn v 0
  obtain ⟨b, hb⟩ : ∃ b, worthI n v 0 = b := ⟨_, rfl⟩
  obtain ⟨t, ht⟩ : ∃ t, worthI n v 1 = t := ⟨_, rfl⟩
  obtain ⟨m, hm⟩ : ∃ m, upd n (1 + s) x = m := ⟨_, rfl⟩
  rw [hm] at hx hxv hput
  rw [hm, hb] at hwc
  rw [hm, ht] at hwd
  rw [hb] at b0 b1
  have MI : moreI v x s = wortI k - 4 * sqI s + (if k = 1 then 6 * ((s : Int) / 8) else 0) + (if k = 6 ∧ v = 4 then 200 else 0) := by
    unfold moreI valI
    rw [hco, hkn, if_pos rfl]
    by_cases e1 : k = 1
    · subst e1; simp
    · rw [if_neg (show ¬ (k : Int) = 1 by omega), if_neg e1]
      by_cases e6 : k = 6 ∧ v = 4
      · rw [if_pos ⟨by omega, e6.2⟩, if_pos e6]
      · rw [if_neg (fun h => e6 ⟨by omega, h.2⟩), if_neg e6]
  obtain ⟨q0, q1⟩ : 0 ≤ sqI (s : Int) ∧ sqI (s : Int) ≤ 3 := sq_bd ⟨s, hs⟩
  obtain ⟨g0, g1⟩ := wort_bd (k : Int)
  obtain ⟨wo, hwo⟩ : ∃ wo, wortI (k : Int) = wo := ⟨_, rfl⟩
  obtain ⟨sq, hsq⟩ : ∃ sq, sqI (s : Int) = sq := ⟨_, rfl⟩
  rw [hwo, hsq] at MI
  rw [hwo] at g0 g1
  rw [hsq] at q0 q1
  rw [hkn] at k1 k2
  have HA : Hid (∀ W, Calls Tryd.prog 18 #[.agg (posA n), .int .i64 (s : Int)] W fun e w' => e = .returned (.int .u8 0) ∧ Below W.heap.size W w') := fun W => by
    have := at_any n hn s W
    rwa [hat] at this
  have HI : Hid (∀ W, Calls Tryd.prog 19 #[.int .u8 x] W fun e w' => e = .returned (.bool true) ∧ W = w') := fun W => by
    have := is_any x x0 x1 W
    rwa [hi] at this
  have HC : Hid (∀ W, Calls Tryd.prog 20 #[.int .u8 x] W fun e w' => e = .returned (.int .u8 0) ∧ W = w') := fun W => by
    have := color_any x x0 x1 W
    rwa [hco] at this
  have HK : Hid (∀ W, Calls Tryd.prog 21 #[.int .u8 x] W fun e w' => e = .returned (.int .u8 k) ∧ W = w') := fun W => by
    have := kind_any x x0 x1 W
    rwa [hkn] at this
  have HPc : Hid (∀ W, Calls Tryd.prog 9 #[.int .u8 (k : Int)] W fun e w' => e = .returned (.int .i64 wo) ∧ Below W.heap.size W w') := fun W => by
    have := piece_any k (by omega) W
    rwa [hwo] at this
  have HSq : Hid (∀ W, Calls Tryd.prog 11 #[.int .i64 (s : Int)] W fun e w' => e = .returned (.int .i64 sq) ∧ W = w') := fun W => by
    have := square_any s W
    rwa [hsq] at this
  have HPu : Hid (∀ W, Calls Tryd.prog 22 #[.agg (posA n), .int .i64 (s : Int), .int .u8 x] W fun e w' => e = .returned (.agg (posA m)) ∧ Below W.heap.size W w') := fun W => by
    have := bput_any n s x x0 x1 W
    rwa [hput] at this
  obtain ⟨mi, hmi⟩ : ∃ mi, moreI v x s = mi := ⟨_, rfl⟩
  rw [hmi] at MI hwc
  have SQ : Hid (∀ W, Tab W → Calls Tryd.prog 13 #[.agg (posA m), .int .u8 0] W fun e w' => e = .returned (.int .i64 (b + mi)) ∧ Below W.heap.size W w') := fun W hW => by
    have := side_any _ hx v 0 hxv (by omega) (by decide) W hW
    rwa [hwc] at this
  have SR : Hid (∀ W, Tab W → Calls Tryd.prog 13 #[.agg (posA m), .int .u8 1] W fun e w' => e = .returned (.int .i64 t) ∧ Below W.heap.size W w') := fun W hW => by
    have := side_any _ hx v 1 hxv (by omega) (by decide) W hW
    rwa [hwd] at this
  have SP : Hid (∀ W, Tab W → Calls Tryd.prog 13 #[.agg (posA n), .int .u8 0] W fun e w' => e = .returned (.int .i64 b) ∧ Below W.heap.size W w') := fun W hW => by
    have := side_any _ hn v 0 hv (by omega) (by decide) W hW
    rwa [hb] at this
  have SS : Hid (∀ W, Tab W → Calls Tryd.prog 13 #[.agg (posA n), .int .u8 1] W fun e w' => e = .returned (.int .i64 t) ∧ Below W.heap.size W w') := fun W hW => by
    have := side_any _ hn v 1 hv (by omega) (by decide) W hW
    rwa [ht] at this
  have HM := hideIt MI
  have HV0 := hideIt hv
  have HT0 := hideIt hT
  have d9 : decide ((9 : Int) ≤ v) = false := decide_eq_false (by omega)
  have d6 : ((v : Int) == 6) = false := beq_eq_false_iff_ne.2 (by omega)
  have d8 : ((v : Int) == 8) = false := beq_eq_false_iff_ne.2 (by omega)
  have W0 : IntKind.u8.wrap 1 = 1 := by decide
  clear hwc hwd hx hxv hput hb ht hm hmi hwo hsq MI hat hi hco hkn h6 h8 hv9
  obtain ⟨X, hX⟩ : ∃ X, w.alloc (.cells (posA n) 31) = X := ⟨_, rfl⟩
  obtain ⟨p0, hb⟩ := box1 w n X hX
  have HX := hideIt hX
  have HTX := hideIt (hT.below hb (Nat.le_refl _))
  clear hX hT hv
  go_enter Tryd.func8, Tryd.ntmps8
  go_wp2_with (rw [HX.out])
  refine (awakeE_any _ HTX.out).mono ?_
  rintro e Y ⟨rfl, h1⟩
  have p1 := p0.below h1 p0.lt
  have hb1 := hb.trans (h1.mono hb.size)
  clear h1 p0 hb HTX
  have c0 : Y.cell? ⟨w.heap.size, 0, none⟩ = some (.int .u8 v) := by rw [p1.cell 0 (by decide), HV0.out]; rfl
  obtain ⟨i0, r0⟩ := p1.rules
  go_wp2_with fail
  refine (HA.out _).mono ?_
  rintro e Z ⟨rfl, h1⟩
  have p2 := p1.below h1 p1.lt
  have hb2 := hb1.trans (h1.mono hb1.size)
  clear h1 c0 i0 r0 p1 hb1 HA
  go_wp2_with fail
  refine (HI.out _).mono ?_
  rintro e Z2 ⟨rfl, rfl⟩
  go_wp2_with fail
  refine (HC.out _).mono ?_
  rintro e Z2 ⟨rfl, rfl⟩
  go_wp2_with fail
  refine (HK.out _).mono ?_
  rintro e Z2 ⟨rfl, rfl⟩
  go_wp2_with fail
  refine (HPc.out _).mono ?_
  rintro e Z3 ⟨rfl, h1⟩
  have p3 := p2.below h1 p2.lt
  have hb3 := hb2.trans (h1.mono hb2.size)
  clear h1 p2 hb2 HI HC HK HPc
  go_wp2_with fail
  refine (HSq.out _).mono ?_
  rintro e Z4 ⟨rfl, rfl⟩
  clear HSq
  have c0 : Z3.cell? ⟨w.heap.size, 0, none⟩ = some (.int .u8 v) := by rw [p3.cell 0 (by decide), HV0.out]; rfl
  obtain ⟨i0, r0⟩ := p3.rules
  have hzp := zeroPos
  have hcase : (k = 1) ∨ (k = 6 ∧ v = 4) ∨ (k = 6 ∧ v ≠ 4) ∨ (k ≠ 1 ∧ k ≠ 6) := by omega
  rcases hcase with e1 | ⟨e1, e2⟩ | ⟨e1, e2⟩ | ⟨e1, e2⟩

  · have f1 : ((k : Int) == 1) = true := beq_iff_eq.2 (by omega)
    have f6 : ((k : Int) == 6) = false := beq_eq_false_iff_ne.2 (by omega)
    have hmi : mi = wo - 4 * sq + 6 * ((s : Int) / 8) := by rw [HM.out, if_pos e1, if_neg (show ¬ (k = 6 ∧ v = 4) by omega)]; omega
    rw [hmi] at SQ
    clear hmi HM e1
    have W9 : IntKind.i64.wrap (b + (wo - 4 * sq + 6 * ((s : Int) / 8))) = b + (wo - 4 * sq + 6 * ((s : Int) / 8)) := IntWalk.i64_in _ (by omega)
    go_wp2_with fail
    refine (HPu.out _).mono ?_
    rintro e U ⟨rfl, h1⟩
    have p4 := p3.below h1 p3.lt
    have hb4 := hb3.trans (h1.mono hb3.size)
    clear h1 i0 r0 c0 p3 hb3
    obtain ⟨V, hV⟩ : ∃ V, (U.alloc (.cells (posA zeroN) 31)).setRow U.heap.size (posA m) = V := ⟨_, rfl⟩
    have hV2 : U.alloc (.cells (posA m) 31) = V := by rw [← hV, World.setRow_alloc_new]
    have pV : PosAt V w.heap.size n := by rw [← hV2]; exact p4.alloc _
    have xV : PosAt V U.heap.size m := by rw [← hV2]; exact PosAt.new U _
    have hbV : Below w.heap.size w V := by rw [← hV2]; exact hb4.alloc hb4.size _
    have hTV : Tab V := HT0.out.below hbV (Nat.le_refl _)
    obtain ⟨g, hg⟩ : ∃ g, U.heap.size = g := ⟨_, rfl⟩
    rw [hg] at xV
    have HV := hideIt hV
    have HG := hideIt hg
    clear hV hV2 hg p4 hb4
    go_wp2_with (rw [HV.out, HG.out])
    go_region_held3 (fun W => (IsPos W g ∧ rowOf W g = posA m) ∧ (IsPos W w.heap.size ∧ rowOf W w.heap.size = posA n) ∧ Tab W ∧ Below V.heap.size V W) ((refine keepM xV pV hTV ?_; repeat (first | exact Below.refl _ _ | assumption | refine bl_drew ?_ | refine bl_new ?_ (Nat.le_refl _) | refine bl_then ?_ (by assumption)))) ((first | (go_at_call_of 13 (Value.agg (posA m)); go_at_call_of 13 (Value.int IntKind.u8 0); refine (SQ.out _ (And.left (And.right (And.right ‹(IsPos _ _ ∧ _) ∧ _ ∧ Tab _ ∧ _›)))).mono ?_; rintro e w31 ⟨rfl, h1⟩) | (go_at_call_of 13 (Value.agg (posA m)); refine (SR.out _ (And.left (And.right (And.right ‹(IsPos _ _ ∧ _) ∧ _ ∧ Tab _ ∧ _›)))).mono ?_; rintro e w31 ⟨rfl, h1⟩) | (go_at_call_of 13 (Value.int IntKind.u8 0); refine (SP.out _ (And.left (And.right (And.right ‹(IsPos _ _ ∧ _) ∧ _ ∧ Tab _ ∧ _›)))).mono ?_; rintro e w31 ⟨rfl, h1⟩) | (go_at_call 13; refine (SS.out _ (And.left (And.right (And.right ‹(IsPos _ _ ∧ _) ∧ _ ∧ Tab _ ∧ _›)))).mono ?_; rintro e w31 ⟨rfl, h1⟩)))
    all_goals
      have hq2 := And.right (And.right (And.right ‹(IsPos _ _ ∧ _) ∧ _ ∧ Tab _ ∧ Below V.heap.size V _›))
      go_wp2
      go_ret
      exact ⟨rfl, hbV.trans (hq2.mono hbV.size)⟩

  · have f1 : ((k : Int) == 1) = false := beq_eq_false_iff_ne.2 (by omega)
    have f6 : ((k : Int) == 6) = true := beq_iff_eq.2 (by omega)
    have f4 : ((v : Int) == 4) = true := beq_iff_eq.2 (by omega)
    have hmi : mi = wo - 4 * sq + 200 := by rw [HM.out, if_neg (show ¬ k = 1 by omega), if_pos ⟨e1, e2⟩]; omega
    rw [hmi] at SQ
    clear hmi HM e1 e2
    have W9 : IntKind.i64.wrap (b + (wo - 4 * sq + 200)) = b + (wo - 4 * sq + 200) := IntWalk.i64_in _ (by omega)
    go_wp2_with fail
    refine (HPu.out _).mono ?_
    rintro e U ⟨rfl, h1⟩
    have p4 := p3.below h1 p3.lt
    have hb4 := hb3.trans (h1.mono hb3.size)
    clear h1 i0 r0 c0 p3 hb3
    obtain ⟨V, hV⟩ : ∃ V, (U.alloc (.cells (posA zeroN) 31)).setRow U.heap.size (posA m) = V := ⟨_, rfl⟩
    have hV2 : U.alloc (.cells (posA m) 31) = V := by rw [← hV, World.setRow_alloc_new]
    have pV : PosAt V w.heap.size n := by rw [← hV2]; exact p4.alloc _
    have xV : PosAt V U.heap.size m := by rw [← hV2]; exact PosAt.new U _
    have hbV : Below w.heap.size w V := by rw [← hV2]; exact hb4.alloc hb4.size _
    have hTV : Tab V := HT0.out.below hbV (Nat.le_refl _)
    obtain ⟨g, hg⟩ : ∃ g, U.heap.size = g := ⟨_, rfl⟩
    rw [hg] at xV
    have HV := hideIt hV
    have HG := hideIt hg
    clear hV hV2 hg p4 hb4
    go_wp2_with (rw [HV.out, HG.out])
    go_region_held3 (fun W => (IsPos W g ∧ rowOf W g = posA m) ∧ (IsPos W w.heap.size ∧ rowOf W w.heap.size = posA n) ∧ Tab W ∧ Below V.heap.size V W) ((refine keepM xV pV hTV ?_; repeat (first | exact Below.refl _ _ | assumption | refine bl_drew ?_ | refine bl_new ?_ (Nat.le_refl _) | refine bl_then ?_ (by assumption)))) ((first | (go_at_call_of 13 (Value.agg (posA m)); go_at_call_of 13 (Value.int IntKind.u8 0); refine (SQ.out _ (And.left (And.right (And.right ‹(IsPos _ _ ∧ _) ∧ _ ∧ Tab _ ∧ _›)))).mono ?_; rintro e w31 ⟨rfl, h1⟩) | (go_at_call_of 13 (Value.agg (posA m)); refine (SR.out _ (And.left (And.right (And.right ‹(IsPos _ _ ∧ _) ∧ _ ∧ Tab _ ∧ _›)))).mono ?_; rintro e w31 ⟨rfl, h1⟩) | (go_at_call_of 13 (Value.int IntKind.u8 0); refine (SP.out _ (And.left (And.right (And.right ‹(IsPos _ _ ∧ _) ∧ _ ∧ Tab _ ∧ _›)))).mono ?_; rintro e w31 ⟨rfl, h1⟩) | (go_at_call 13; refine (SS.out _ (And.left (And.right (And.right ‹(IsPos _ _ ∧ _) ∧ _ ∧ Tab _ ∧ _›)))).mono ?_; rintro e w31 ⟨rfl, h1⟩)))
    all_goals
      have hq2 := And.right (And.right (And.right ‹(IsPos _ _ ∧ _) ∧ _ ∧ Tab _ ∧ Below V.heap.size V _›))
      go_wp2
      go_ret
      exact ⟨rfl, hbV.trans (hq2.mono hbV.size)⟩

  · have f1 : ((k : Int) == 1) = false := beq_eq_false_iff_ne.2 (by omega)
    have f6 : ((k : Int) == 6) = true := beq_iff_eq.2 (by omega)
    have f4 : ((v : Int) == 4) = false := beq_eq_false_iff_ne.2 (by omega)
    have hmi : mi = wo - 4 * sq := by rw [HM.out, if_neg (show ¬ k = 1 by omega), if_neg (show ¬ (k = 6 ∧ v = 4) by omega)]; omega
    rw [hmi] at SQ
    clear hmi HM e1 e2
    have W9 : IntKind.i64.wrap (b + (wo - 4 * sq)) = b + (wo - 4 * sq) := IntWalk.i64_in _ (by omega)
    go_wp2_with fail
    refine (HPu.out _).mono ?_
    rintro e U ⟨rfl, h1⟩
    have p4 := p3.below h1 p3.lt
    have hb4 := hb3.trans (h1.mono hb3.size)
    clear h1 i0 r0 c0 p3 hb3
    obtain ⟨V, hV⟩ : ∃ V, (U.alloc (.cells (posA zeroN) 31)).setRow U.heap.size (posA m) = V := ⟨_, rfl⟩
    have hV2 : U.alloc (.cells (posA m) 31) = V := by rw [← hV, World.setRow_alloc_new]
    have pV : PosAt V w.heap.size n := by rw [← hV2]; exact p4.alloc _
    have xV : PosAt V U.heap.size m := by rw [← hV2]; exact PosAt.new U _
    have hbV : Below w.heap.size w V := by rw [← hV2]; exact hb4.alloc hb4.size _
    have hTV : Tab V := HT0.out.below hbV (Nat.le_refl _)
    obtain ⟨g, hg⟩ : ∃ g, U.heap.size = g := ⟨_, rfl⟩
    rw [hg] at xV
    have HV := hideIt hV
    have HG := hideIt hg
    clear hV hV2 hg p4 hb4
    go_wp2_with (rw [HV.out, HG.out])
    go_region_held3 (fun W => (IsPos W g ∧ rowOf W g = posA m) ∧ (IsPos W w.heap.size ∧ rowOf W w.heap.size = posA n) ∧ Tab W ∧ Below V.heap.size V W) ((refine keepM xV pV hTV ?_; repeat (first | exact Below.refl _ _ | assumption | refine bl_drew ?_ | refine bl_new ?_ (Nat.le_refl _) | refine bl_then ?_ (by assumption)))) ((first | (go_at_call_of 13 (Value.agg (posA m)); go_at_call_of 13 (Value.int IntKind.u8 0); refine (SQ.out _ (And.left (And.right (And.right ‹(IsPos _ _ ∧ _) ∧ _ ∧ Tab _ ∧ _›)))).mono ?_; rintro e w31 ⟨rfl, h1⟩) | (go_at_call_of 13 (Value.agg (posA m)); refine (SR.out _ (And.left (And.right (And.right ‹(IsPos _ _ ∧ _) ∧ _ ∧ Tab _ ∧ _›)))).mono ?_; rintro e w31 ⟨rfl, h1⟩) | (go_at_call_of 13 (Value.int IntKind.u8 0); refine (SP.out _ (And.left (And.right (And.right ‹(IsPos _ _ ∧ _) ∧ _ ∧ Tab _ ∧ _›)))).mono ?_; rintro e w31 ⟨rfl, h1⟩) | (go_at_call 13; refine (SS.out _ (And.left (And.right (And.right ‹(IsPos _ _ ∧ _) ∧ _ ∧ Tab _ ∧ _›)))).mono ?_; rintro e w31 ⟨rfl, h1⟩)))
    all_goals
      have hq2 := And.right (And.right (And.right ‹(IsPos _ _ ∧ _) ∧ _ ∧ Tab _ ∧ Below V.heap.size V _›))
      go_wp2
      go_ret
      exact ⟨rfl, hbV.trans (hq2.mono hbV.size)⟩

  · have f1 : ((k : Int) == 1) = false := beq_eq_false_iff_ne.2 (by omega)
    have f6 : ((k : Int) == 6) = false := beq_eq_false_iff_ne.2 (by omega)
    have hmi : mi = wo - 4 * sq := by rw [HM.out, if_neg (show ¬ k = 1 by omega), if_neg (show ¬ (k = 6 ∧ v = 4) by omega)]; omega
    rw [hmi] at SQ
    clear hmi HM e1 e2
    have W9 : IntKind.i64.wrap (b + (wo - 4 * sq)) = b + (wo - 4 * sq) := IntWalk.i64_in _ (by omega)
    go_wp2_with fail
    refine (HPu.out _).mono ?_
    rintro e U ⟨rfl, h1⟩
    have p4 := p3.below h1 p3.lt
    have hb4 := hb3.trans (h1.mono hb3.size)
    clear h1 i0 r0 c0 p3 hb3
    obtain ⟨V, hV⟩ : ∃ V, (U.alloc (.cells (posA zeroN) 31)).setRow U.heap.size (posA m) = V := ⟨_, rfl⟩
    have hV2 : U.alloc (.cells (posA m) 31) = V := by rw [← hV, World.setRow_alloc_new]
    have pV : PosAt V w.heap.size n := by rw [← hV2]; exact p4.alloc _
    have xV : PosAt V U.heap.size m := by rw [← hV2]; exact PosAt.new U _
    have hbV : Below w.heap.size w V := by rw [← hV2]; exact hb4.alloc hb4.size _
    have hTV : Tab V := HT0.out.below hbV (Nat.le_refl _)
    obtain ⟨g, hg⟩ : ∃ g, U.heap.size = g := ⟨_, rfl⟩
    rw [hg] at xV
    have HV := hideIt hV
    have HG := hideIt hg
    clear hV hV2 hg p4 hb4
    go_wp2_with (rw [HV.out, HG.out])
    go_region_held3 (fun W => (IsPos W g ∧ rowOf W g = posA m) ∧ (IsPos W w.heap.size ∧ rowOf W w.heap.size = posA n) ∧ Tab W ∧ Below V.heap.size V W) ((refine keepM xV pV hTV ?_; repeat (first | exact Below.refl _ _ | assumption | refine bl_drew ?_ | refine bl_new ?_ (Nat.le_refl _) | refine bl_then ?_ (by assumption)))) ((first | (go_at_call_of 13 (Value.agg (posA m)); go_at_call_of 13 (Value.int IntKind.u8 0); refine (SQ.out _ (And.left (And.right (And.right ‹(IsPos _ _ ∧ _) ∧ _ ∧ Tab _ ∧ _›)))).mono ?_; rintro e w31 ⟨rfl, h1⟩) | (go_at_call_of 13 (Value.agg (posA m)); refine (SR.out _ (And.left (And.right (And.right ‹(IsPos _ _ ∧ _) ∧ _ ∧ Tab _ ∧ _›)))).mono ?_; rintro e w31 ⟨rfl, h1⟩) | (go_at_call_of 13 (Value.int IntKind.u8 0); refine (SP.out _ (And.left (And.right (And.right ‹(IsPos _ _ ∧ _) ∧ _ ∧ Tab _ ∧ _›)))).mono ?_; rintro e w31 ⟨rfl, h1⟩) | (go_at_call 13; refine (SS.out _ (And.left (And.right (And.right ‹(IsPos _ _ ∧ _) ∧ _ ∧ Tab _ ∧ _›)))).mono ?_; rintro e w31 ⟨rfl, h1⟩)))
    all_goals
      have hq2 := And.right (And.right (And.right ‹(IsPos _ _ ∧ _) ∧ _ ∧ Tab _ ∧ Below V.heap.size V _›))
      go_wp2
      go_ret
      exact ⟨rfl, hbV.trans (hq2.mono hbV.size)⟩


set_option maxRecDepth 100000 in
set_option maxHeartbeats 8000000 in
theorem evalMore_1 (n : Nat → Int) (s : Nat) (x : Int) (v k : Nat) (hn : PosOk n) (hv : n 0 = v) (x0 : 0 ≤ x) (x1 : x ≤ 255) (hv9 : v < 9) (h6 : v ≠ 6) (h8 : v ≠ 8) (hs : s < 64) (hat : atN n s = 0) (hi : isB x = true) (hco : colI x = 1) (hkn : kndI x = k) (w : World) (hT : Tab w) :
    Calls Tryd.prog 8 #[.agg (posA n), .int .i64 s, .int .u8 x] w fun e w' => e = .returned (.bool true) ∧ Below w.heap.size w w' := by
  obtain ⟨k1, k2⟩ := knd_in hi
  have hwc := more_worth n v 1 s x hv9 h6 h8 (by decide) hs hi hat
  have hwd := more_worth n v 0 s x hv9 h6 h8 (by decide) hs hi hat
  rw [if_pos (by rw [hco]; rfl)] at hwc
  rw [if_neg (by rw [hco]; decide), Int.add_zero] at hwd
  have hx := more_ok hn s x hs x0 x1
  have hxv : upd n (1 + s) x 0 = v := by rw [← hv]; exact if_neg (by omega)
  have hput : putN n (s : Int) x = upd n (1 + s) x := by
    unfold putN
    rw [if_pos (by unfold putOk; rw [decide_eq_true (by omega), hi, Bool.or_true]; rfl), Int.toNat_natCast]
  obtain ⟨b0, b1⟩ := side_bd n hn v 1
  obtain ⟨b, hb⟩ : ∃ b, worthI n v 1 = b := ⟨_, rfl⟩
  obtain ⟨t, ht⟩ : ∃ t, worthI n v 0 = t := ⟨_, rfl⟩
  obtain ⟨m, hm⟩ : ∃ m, upd n (1 + s) x = m := ⟨_, rfl⟩
  rw [hm] at hx hxv hput
  rw [hm, hb] at hwc
  rw [hm, ht] at hwd
  rw [hb] at b0 b1
  have MI : moreI v x s = wortI k - 4 * sqI s + (if k = 1 then 6 * (7 - (s : Int) / 8) else 0) + (if k = 6 ∧ v = 4 then 200 else 0) := by
    unfold moreI valI
    rw [hco, hkn, if_neg (show ¬ (1 : Int) = 0 by decide)]
    by_cases e1 : k = 1
    · subst e1; simp
    · rw [if_neg (show ¬ (k : Int) = 1 by omega), if_neg e1]
      by_cases e6 : k = 6 ∧ v = 4
      · rw [if_pos ⟨by omega, e6.2⟩, if_pos e6]
      · rw [if_neg (fun h => e6 ⟨by omega, h.2⟩), if_neg e6]
  obtain ⟨q0, q1⟩ : 0 ≤ sqI (s : Int) ∧ sqI (s : Int) ≤ 3 := sq_bd ⟨s, hs⟩
  obtain ⟨g0, g1⟩ := wort_bd (k : Int)
  obtain ⟨wo, hwo⟩ : ∃ wo, wortI (k : Int) = wo := ⟨_, rfl⟩
  obtain ⟨sq, hsq⟩ : ∃ sq, sqI (s : Int) = sq := ⟨_, rfl⟩
  rw [hwo, hsq] at MI
  rw [hwo] at g0 g1
  rw [hsq] at q0 q1
  rw [hkn] at k1 k2
  have HA : Hid (∀ W, Calls Tryd.prog 18 #[.agg (posA n), .int .i64 (s : Int)] W fun e w' => e = .returned (.int .u8 0) ∧ Below W.heap.size W w') := fun W => by
    have := at_any n hn s W
    rwa [hat] at this
  have HI : Hid (∀ W, Calls Tryd.prog 19 #[.int .u8 x] W fun e w' => e = .returned (.bool true) ∧ W = w') := fun W => by
    have := is_any x x0 x1 W
    rwa [hi] at this
  have HC : Hid (∀ W, Calls Tryd.prog 20 #[.int .u8 x] W fun e w' => e = .returned (.int .u8 1) ∧ W = w') := fun W => by
    have := color_any x x0 x1 W
    rwa [hco] at this
  have HK : Hid (∀ W, Calls Tryd.prog 21 #[.int .u8 x] W fun e w' => e = .returned (.int .u8 k) ∧ W = w') := fun W => by
    have := kind_any x x0 x1 W
    rwa [hkn] at this
  have HPc : Hid (∀ W, Calls Tryd.prog 9 #[.int .u8 (k : Int)] W fun e w' => e = .returned (.int .i64 wo) ∧ Below W.heap.size W w') := fun W => by
    have := piece_any k (by omega) W
    rwa [hwo] at this
  have HSq : Hid (∀ W, Calls Tryd.prog 11 #[.int .i64 (s : Int)] W fun e w' => e = .returned (.int .i64 sq) ∧ W = w') := fun W => by
    have := square_any s W
    rwa [hsq] at this
  have HPu : Hid (∀ W, Calls Tryd.prog 22 #[.agg (posA n), .int .i64 (s : Int), .int .u8 x] W fun e w' => e = .returned (.agg (posA m)) ∧ Below W.heap.size W w') := fun W => by
    have := bput_any n s x x0 x1 W
    rwa [hput] at this
  obtain ⟨mi, hmi⟩ : ∃ mi, moreI v x s = mi := ⟨_, rfl⟩
  rw [hmi] at MI hwc
  have SQ : Hid (∀ W, Tab W → Calls Tryd.prog 13 #[.agg (posA m), .int .u8 1] W fun e w' => e = .returned (.int .i64 (b + mi)) ∧ Below W.heap.size W w') := fun W hW => by
    have := side_any _ hx v 1 hxv (by omega) (by decide) W hW
    rwa [hwc] at this
  have SR : Hid (∀ W, Tab W → Calls Tryd.prog 13 #[.agg (posA m), .int .u8 0] W fun e w' => e = .returned (.int .i64 t) ∧ Below W.heap.size W w') := fun W hW => by
    have := side_any _ hx v 0 hxv (by omega) (by decide) W hW
    rwa [hwd] at this
  have SP : Hid (∀ W, Tab W → Calls Tryd.prog 13 #[.agg (posA n), .int .u8 1] W fun e w' => e = .returned (.int .i64 b) ∧ Below W.heap.size W w') := fun W hW => by
    have := side_any _ hn v 1 hv (by omega) (by decide) W hW
    rwa [hb] at this
  have SS : Hid (∀ W, Tab W → Calls Tryd.prog 13 #[.agg (posA n), .int .u8 0] W fun e w' => e = .returned (.int .i64 t) ∧ Below W.heap.size W w') := fun W hW => by
    have := side_any _ hn v 0 hv (by omega) (by decide) W hW
    rwa [ht] at this
  have HM := hideIt MI
  have HV0 := hideIt hv
  have HT0 := hideIt hT
  have d9 : decide ((9 : Int) ≤ v) = false := decide_eq_false (by omega)
  have d6 : ((v : Int) == 6) = false := beq_eq_false_iff_ne.2 (by omega)
  have d8 : ((v : Int) == 8) = false := beq_eq_false_iff_ne.2 (by omega)
  have W0 : IntKind.u8.wrap 0 = 0 := by decide
  clear hwc hwd hx hxv hput hb ht hm hmi hwo hsq MI hat hi hco hkn h6 h8 hv9
  obtain ⟨X, hX⟩ : ∃ X, w.alloc (.cells (posA n) 31) = X := ⟨_, rfl⟩
  obtain ⟨p0, hb⟩ := box1 w n X hX
  have HX := hideIt hX
  have HTX := hideIt (hT.below hb (Nat.le_refl _))
  clear hX hT hv
  go_enter Tryd.func8, Tryd.ntmps8
  go_wp2_with (rw [HX.out])
  refine (awakeE_any _ HTX.out).mono ?_
  rintro e Y ⟨rfl, h1⟩
  have p1 := p0.below h1 p0.lt
  have hb1 := hb.trans (h1.mono hb.size)
  clear h1 p0 hb HTX
  have c0 : Y.cell? ⟨w.heap.size, 0, none⟩ = some (.int .u8 v) := by rw [p1.cell 0 (by decide), HV0.out]; rfl
  obtain ⟨i0, r0⟩ := p1.rules
  go_wp2_with fail
  refine (HA.out _).mono ?_
  rintro e Z ⟨rfl, h1⟩
  have p2 := p1.below h1 p1.lt
  have hb2 := hb1.trans (h1.mono hb1.size)
  clear h1 c0 i0 r0 p1 hb1 HA
  go_wp2_with fail
  refine (HI.out _).mono ?_
  rintro e Z2 ⟨rfl, rfl⟩
  go_wp2_with fail
  refine (HC.out _).mono ?_
  rintro e Z2 ⟨rfl, rfl⟩
  go_wp2_with fail
  refine (HK.out _).mono ?_
  rintro e Z2 ⟨rfl, rfl⟩
  go_wp2_with fail
  refine (HPc.out _).mono ?_
  rintro e Z3 ⟨rfl, h1⟩
  have p3 := p2.below h1 p2.lt
  have hb3 := hb2.trans (h1.mono hb2.size)
  clear h1 p2 hb2 HI HC HK HPc
  go_wp2_with fail
  refine (HSq.out _).mono ?_
  rintro e Z4 ⟨rfl, rfl⟩
  clear HSq
  have c0 : Z3.cell? ⟨w.heap.size, 0, none⟩ = some (.int .u8 v) := by rw [p3.cell 0 (by decide), HV0.out]; rfl
  obtain ⟨i0, r0⟩ := p3.rules
  have hzp := zeroPos
  have hcase : (k = 1) ∨ (k = 6 ∧ v = 4) ∨ (k = 6 ∧ v ≠ 4) ∨ (k ≠ 1 ∧ k ≠ 6) := by omega
  rcases hcase with e1 | ⟨e1, e2⟩ | ⟨e1, e2⟩ | ⟨e1, e2⟩

  · have f1 : ((k : Int) == 1) = true := beq_iff_eq.2 (by omega)
    have f6 : ((k : Int) == 6) = false := beq_eq_false_iff_ne.2 (by omega)
    have hmi : mi = wo - 4 * sq + 6 * (7 - (s : Int) / 8) := by rw [HM.out, if_pos e1, if_neg (show ¬ (k = 6 ∧ v = 4) by omega)]; omega
    rw [hmi] at SQ
    clear hmi HM e1
    have W9 : IntKind.i64.wrap (b + (wo - 4 * sq + 6 * (7 - (s : Int) / 8))) = b + (wo - 4 * sq + 6 * (7 - (s : Int) / 8)) := IntWalk.i64_in _ (by omega)
    go_wp2_with fail
    refine (HPu.out _).mono ?_
    rintro e U ⟨rfl, h1⟩
    have p4 := p3.below h1 p3.lt
    have hb4 := hb3.trans (h1.mono hb3.size)
    clear h1 i0 r0 c0 p3 hb3
    obtain ⟨V, hV⟩ : ∃ V, (U.alloc (.cells (posA zeroN) 31)).setRow U.heap.size (posA m) = V := ⟨_, rfl⟩
    have hV2 : U.alloc (.cells (posA m) 31) = V := by rw [← hV, World.setRow_alloc_new]
    have pV : PosAt V w.heap.size n := by rw [← hV2]; exact p4.alloc _
    have xV : PosAt V U.heap.size m := by rw [← hV2]; exact PosAt.new U _
    have hbV : Below w.heap.size w V := by rw [← hV2]; exact hb4.alloc hb4.size _
    have hTV : Tab V := HT0.out.below hbV (Nat.le_refl _)
    obtain ⟨g, hg⟩ : ∃ g, U.heap.size = g := ⟨_, rfl⟩
    rw [hg] at xV
    have HV := hideIt hV
    have HG := hideIt hg
    clear hV hV2 hg p4 hb4
    go_wp2_with (rw [HV.out, HG.out])
    go_region_held3 (fun W => (IsPos W g ∧ rowOf W g = posA m) ∧ (IsPos W w.heap.size ∧ rowOf W w.heap.size = posA n) ∧ Tab W ∧ Below V.heap.size V W) ((refine keepM xV pV hTV ?_; repeat (first | exact Below.refl _ _ | assumption | refine bl_drew ?_ | refine bl_new ?_ (Nat.le_refl _) | refine bl_then ?_ (by assumption)))) ((first | (go_at_call_of 13 (Value.agg (posA m)); go_at_call_of 13 (Value.int IntKind.u8 1); refine (SQ.out _ (And.left (And.right (And.right ‹(IsPos _ _ ∧ _) ∧ _ ∧ Tab _ ∧ _›)))).mono ?_; rintro e w31 ⟨rfl, h1⟩) | (go_at_call_of 13 (Value.agg (posA m)); refine (SR.out _ (And.left (And.right (And.right ‹(IsPos _ _ ∧ _) ∧ _ ∧ Tab _ ∧ _›)))).mono ?_; rintro e w31 ⟨rfl, h1⟩) | (go_at_call_of 13 (Value.int IntKind.u8 1); refine (SP.out _ (And.left (And.right (And.right ‹(IsPos _ _ ∧ _) ∧ _ ∧ Tab _ ∧ _›)))).mono ?_; rintro e w31 ⟨rfl, h1⟩) | (go_at_call 13; refine (SS.out _ (And.left (And.right (And.right ‹(IsPos _ _ ∧ _) ∧ _ ∧ Tab _ ∧ _›)))).mono ?_; rintro e w31 ⟨rfl, h1⟩)))
    all_goals
      have hq2 := And.right (And.right (And.right ‹(IsPos _ _ ∧ _) ∧ _ ∧ Tab _ ∧ Below V.heap.size V _›))
      go_wp2
      go_ret
      exact ⟨rfl, hbV.trans (hq2.mono hbV.size)⟩

  · have f1 : ((k : Int) == 1) = false := beq_eq_false_iff_ne.2 (by omega)
    have f6 : ((k : Int) == 6) = true := beq_iff_eq.2 (by omega)
    have f4 : ((v : Int) == 4) = true := beq_iff_eq.2 (by omega)
    have hmi : mi = wo - 4 * sq + 200 := by rw [HM.out, if_neg (show ¬ k = 1 by omega), if_pos ⟨e1, e2⟩]; omega
    rw [hmi] at SQ
    clear hmi HM e1 e2
    have W9 : IntKind.i64.wrap (b + (wo - 4 * sq + 200)) = b + (wo - 4 * sq + 200) := IntWalk.i64_in _ (by omega)
    go_wp2_with fail
    refine (HPu.out _).mono ?_
    rintro e U ⟨rfl, h1⟩
    have p4 := p3.below h1 p3.lt
    have hb4 := hb3.trans (h1.mono hb3.size)
    clear h1 i0 r0 c0 p3 hb3
    obtain ⟨V, hV⟩ : ∃ V, (U.alloc (.cells (posA zeroN) 31)).setRow U.heap.size (posA m) = V := ⟨_, rfl⟩
    have hV2 : U.alloc (.cells (posA m) 31) = V := by rw [← hV, World.setRow_alloc_new]
    have pV : PosAt V w.heap.size n := by rw [← hV2]; exact p4.alloc _
    have xV : PosAt V U.heap.size m := by rw [← hV2]; exact PosAt.new U _
    have hbV : Below w.heap.size w V := by rw [← hV2]; exact hb4.alloc hb4.size _
    have hTV : Tab V := HT0.out.below hbV (Nat.le_refl _)
    obtain ⟨g, hg⟩ : ∃ g, U.heap.size = g := ⟨_, rfl⟩
    rw [hg] at xV
    have HV := hideIt hV
    have HG := hideIt hg
    clear hV hV2 hg p4 hb4
    go_wp2_with (rw [HV.out, HG.out])
    go_region_held3 (fun W => (IsPos W g ∧ rowOf W g = posA m) ∧ (IsPos W w.heap.size ∧ rowOf W w.heap.size = posA n) ∧ Tab W ∧ Below V.heap.size V W) ((refine keepM xV pV hTV ?_; repeat (first | exact Below.refl _ _ | assumption | refine bl_drew ?_ | refine bl_new ?_ (Nat.le_refl _) | refine bl_then ?_ (by assumption)))) ((first | (go_at_call_of 13 (Value.agg (posA m)); go_at_call_of 13 (Value.int IntKind.u8 1); refine (SQ.out _ (And.left (And.right (And.right ‹(IsPos _ _ ∧ _) ∧ _ ∧ Tab _ ∧ _›)))).mono ?_; rintro e w31 ⟨rfl, h1⟩) | (go_at_call_of 13 (Value.agg (posA m)); refine (SR.out _ (And.left (And.right (And.right ‹(IsPos _ _ ∧ _) ∧ _ ∧ Tab _ ∧ _›)))).mono ?_; rintro e w31 ⟨rfl, h1⟩) | (go_at_call_of 13 (Value.int IntKind.u8 1); refine (SP.out _ (And.left (And.right (And.right ‹(IsPos _ _ ∧ _) ∧ _ ∧ Tab _ ∧ _›)))).mono ?_; rintro e w31 ⟨rfl, h1⟩) | (go_at_call 13; refine (SS.out _ (And.left (And.right (And.right ‹(IsPos _ _ ∧ _) ∧ _ ∧ Tab _ ∧ _›)))).mono ?_; rintro e w31 ⟨rfl, h1⟩)))
    all_goals
      have hq2 := And.right (And.right (And.right ‹(IsPos _ _ ∧ _) ∧ _ ∧ Tab _ ∧ Below V.heap.size V _›))
      go_wp2
      go_ret
      exact ⟨rfl, hbV.trans (hq2.mono hbV.size)⟩

  · have f1 : ((k : Int) == 1) = false := beq_eq_false_iff_ne.2 (by omega)
    have f6 : ((k : Int) == 6) = true := beq_iff_eq.2 (by omega)
    have f4 : ((v : Int) == 4) = false := beq_eq_false_iff_ne.2 (by omega)
    have hmi : mi = wo - 4 * sq := by rw [HM.out, if_neg (show ¬ k = 1 by omega), if_neg (show ¬ (k = 6 ∧ v = 4) by omega)]; omega
    rw [hmi] at SQ
    clear hmi HM e1 e2
    have W9 : IntKind.i64.wrap (b + (wo - 4 * sq)) = b + (wo - 4 * sq) := IntWalk.i64_in _ (by omega)
    go_wp2_with fail
    refine (HPu.out _).mono ?_
    rintro e U ⟨rfl, h1⟩
    have p4 := p3.below h1 p3.lt
    have hb4 := hb3.trans (h1.mono hb3.size)
    clear h1 i0 r0 c0 p3 hb3
    obtain ⟨V, hV⟩ : ∃ V, (U.alloc (.cells (posA zeroN) 31)).setRow U.heap.size (posA m) = V := ⟨_, rfl⟩
    have hV2 : U.alloc (.cells (posA m) 31) = V := by rw [← hV, World.setRow_alloc_new]
    have pV : PosAt V w.heap.size n := by rw [← hV2]; exact p4.alloc _
    have xV : PosAt V U.heap.size m := by rw [← hV2]; exact PosAt.new U _
    have hbV : Below w.heap.size w V := by rw [← hV2]; exact hb4.alloc hb4.size _
    have hTV : Tab V := HT0.out.below hbV (Nat.le_refl _)
    obtain ⟨g, hg⟩ : ∃ g, U.heap.size = g := ⟨_, rfl⟩
    rw [hg] at xV
    have HV := hideIt hV
    have HG := hideIt hg
    clear hV hV2 hg p4 hb4
    go_wp2_with (rw [HV.out, HG.out])
    go_region_held3 (fun W => (IsPos W g ∧ rowOf W g = posA m) ∧ (IsPos W w.heap.size ∧ rowOf W w.heap.size = posA n) ∧ Tab W ∧ Below V.heap.size V W) ((refine keepM xV pV hTV ?_; repeat (first | exact Below.refl _ _ | assumption | refine bl_drew ?_ | refine bl_new ?_ (Nat.le_refl _) | refine bl_then ?_ (by assumption)))) ((first | (go_at_call_of 13 (Value.agg (posA m)); go_at_call_of 13 (Value.int IntKind.u8 1); refine (SQ.out _ (And.left (And.right (And.right ‹(IsPos _ _ ∧ _) ∧ _ ∧ Tab _ ∧ _›)))).mono ?_; rintro e w31 ⟨rfl, h1⟩) | (go_at_call_of 13 (Value.agg (posA m)); refine (SR.out _ (And.left (And.right (And.right ‹(IsPos _ _ ∧ _) ∧ _ ∧ Tab _ ∧ _›)))).mono ?_; rintro e w31 ⟨rfl, h1⟩) | (go_at_call_of 13 (Value.int IntKind.u8 1); refine (SP.out _ (And.left (And.right (And.right ‹(IsPos _ _ ∧ _) ∧ _ ∧ Tab _ ∧ _›)))).mono ?_; rintro e w31 ⟨rfl, h1⟩) | (go_at_call 13; refine (SS.out _ (And.left (And.right (And.right ‹(IsPos _ _ ∧ _) ∧ _ ∧ Tab _ ∧ _›)))).mono ?_; rintro e w31 ⟨rfl, h1⟩)))
    all_goals
      have hq2 := And.right (And.right (And.right ‹(IsPos _ _ ∧ _) ∧ _ ∧ Tab _ ∧ Below V.heap.size V _›))
      go_wp2
      go_ret
      exact ⟨rfl, hbV.trans (hq2.mono hbV.size)⟩

  · have f1 : ((k : Int) == 1) = false := beq_eq_false_iff_ne.2 (by omega)
    have f6 : ((k : Int) == 6) = false := beq_eq_false_iff_ne.2 (by omega)
    have hmi : mi = wo - 4 * sq := by rw [HM.out, if_neg (show ¬ k = 1 by omega), if_neg (show ¬ (k = 6 ∧ v = 4) by omega)]; omega
    rw [hmi] at SQ
    clear hmi HM e1 e2
    have W9 : IntKind.i64.wrap (b + (wo - 4 * sq)) = b + (wo - 4 * sq) := IntWalk.i64_in _ (by omega)
    go_wp2_with fail
    refine (HPu.out _).mono ?_
    rintro e U ⟨rfl, h1⟩
    have p4 := p3.below h1 p3.lt
    have hb4 := hb3.trans (h1.mono hb3.size)
    clear h1 i0 r0 c0 p3 hb3
    obtain ⟨V, hV⟩ : ∃ V, (U.alloc (.cells (posA zeroN) 31)).setRow U.heap.size (posA m) = V := ⟨_, rfl⟩
    have hV2 : U.alloc (.cells (posA m) 31) = V := by rw [← hV, World.setRow_alloc_new]
    have pV : PosAt V w.heap.size n := by rw [← hV2]; exact p4.alloc _
    have xV : PosAt V U.heap.size m := by rw [← hV2]; exact PosAt.new U _
    have hbV : Below w.heap.size w V := by rw [← hV2]; exact hb4.alloc hb4.size _
    have hTV : Tab V := HT0.out.below hbV (Nat.le_refl _)
    obtain ⟨g, hg⟩ : ∃ g, U.heap.size = g := ⟨_, rfl⟩
    rw [hg] at xV
    have HV := hideIt hV
    have HG := hideIt hg
    clear hV hV2 hg p4 hb4
    go_wp2_with (rw [HV.out, HG.out])
    go_region_held3 (fun W => (IsPos W g ∧ rowOf W g = posA m) ∧ (IsPos W w.heap.size ∧ rowOf W w.heap.size = posA n) ∧ Tab W ∧ Below V.heap.size V W) ((refine keepM xV pV hTV ?_; repeat (first | exact Below.refl _ _ | assumption | refine bl_drew ?_ | refine bl_new ?_ (Nat.le_refl _) | refine bl_then ?_ (by assumption)))) ((first | (go_at_call_of 13 (Value.agg (posA m)); go_at_call_of 13 (Value.int IntKind.u8 1); refine (SQ.out _ (And.left (And.right (And.right ‹(IsPos _ _ ∧ _) ∧ _ ∧ Tab _ ∧ _›)))).mono ?_; rintro e w31 ⟨rfl, h1⟩) | (go_at_call_of 13 (Value.agg (posA m)); refine (SR.out _ (And.left (And.right (And.right ‹(IsPos _ _ ∧ _) ∧ _ ∧ Tab _ ∧ _›)))).mono ?_; rintro e w31 ⟨rfl, h1⟩) | (go_at_call_of 13 (Value.int IntKind.u8 1); refine (SP.out _ (And.left (And.right (And.right ‹(IsPos _ _ ∧ _) ∧ _ ∧ Tab _ ∧ _›)))).mono ?_; rintro e w31 ⟨rfl, h1⟩) | (go_at_call 13; refine (SS.out _ (And.left (And.right (And.right ‹(IsPos _ _ ∧ _) ∧ _ ∧ Tab _ ∧ _›)))).mono ?_; rintro e w31 ⟨rfl, h1⟩)))
    all_goals
      have hq2 := And.right (And.right (And.right ‹(IsPos _ _ ∧ _) ∧ _ ∧ Tab _ ∧ Below V.heap.size V _›))
      go_wp2
      go_ret
      exact ⟨rfl, hbV.trans (hq2.mono hbV.size)⟩


theorem evalMore_walk (n : Nat → Int) (a1 a2 : Int) (w0 : PosOk n) (_w1 : (Lit.int .i64 a1).wf = true) (w2 : (Lit.int .u8 a2).wf = true) (w : World) (hT : Tab w) :
    Calls Tryd.prog 8 #[.agg (posA n), .int .i64 a1, .int .u8 a2] w fun e w' => e = .returned (.bool true) ∧ Below w.heap.size w w' := by
  obtain ⟨x0, x1⟩ := wf_u8 w2
  obtain ⟨z0, z1⟩ := w0.u8 0 (by decide) rfl
  obtain ⟨v, hv⟩ : ∃ v : Nat, n 0 = v := ⟨(n 0).toNat, by omega⟩
  by_cases h : 9 ≤ v ∨ v = 6 ∨ v = 8 ∨ a1 < 0 ∨ 63 < a1 ∨ atN n a1 ≠ 0 ∨ isB a2 = false
  · exact evalMore_skip n a1 a2 v w0 hv x0 x1 h w hT
  · have hi : isB a2 = true := by
      cases hh : isB a2 with
      | true => rfl
      | false => exact absurd (.inr (.inr (.inr (.inr (.inr (.inr hh)))))) h
    have hat : atN n a1 = 0 := by
      by_cases e : atN n a1 = 0
      · exact e
      · exact absurd (.inr (.inr (.inr (.inr (.inr (.inl e)))))) h
    obtain ⟨s, rfl⟩ : ∃ s : Nat, a1 = s := ⟨a1.toNat, by omega⟩
    obtain ⟨k1, k2⟩ := knd_in hi
    obtain ⟨k, hk⟩ : ∃ k : Nat, kndI a2 = k := ⟨(kndI a2).toNat, by omega⟩
    have hc : colI a2 = 0 ∨ colI a2 = 1 := by
      rw [isB_iff] at hi
      unfold colI
      rcases hi with h | h
      · left; rw [if_pos h]
      · right; rw [if_neg (by omega), if_pos h]
    rcases hc with hc | hc
    · exact evalMore_0 n s a2 v k w0 hv x0 x1 (by omega) (by omega) (by omega) (by omega) hat hi hc hk w hT
    · exact evalMore_1 n s a2 v k w0 hv x0 x1 (by omega) (by omega) (by omega) (by omega) hat hi hc hk w hT

end Go.Proofs.YtccdelpiflcipaaDoor
