/- Walks of the reference of rules: Start. -/
import Derived.Test.YtpheapolijhgjaaVU
import Derived.Great.Walk
namespace Go.Proofs.Ytpheapolijhgjaa
open Go Go.RowKit
set_option linter.unusedVariables false

def rowsH : Nat → ByteArray
  | 0 => ⟨#[114, 110, 98, 113, 107, 98, 110, 114]⟩
  | 1 => ⟨#[112, 112, 112, 112, 112, 112, 112, 112]⟩
  | 2 => ⟨#[46, 46, 46, 46, 46, 46, 46, 46]⟩
  | 3 => ⟨#[46, 80, 80, 46, 46, 80, 80, 46]⟩
  | _ => ⟨#[80, 80, 80, 80, 80, 80, 80, 80]⟩
def rowsR : Nat → ByteArray
  | 6 => ⟨#[107, 114, 98, 110, 78, 66, 82, 75]⟩
  | 7 => ⟨#[113, 114, 98, 110, 78, 66, 82, 81]⟩
  | _ => ⟨#[]⟩
def rowsS : Nat → ByteArray
  | 0 => ⟨#[114, 110, 98, 113, 107, 98, 110, 114]⟩
  | 1 => ⟨#[112, 112, 112, 112, 112, 112, 112, 112]⟩
  | 6 => ⟨#[80, 80, 80, 80, 80, 80, 80, 80]⟩
  | 7 => ⟨#[82, 78, 66, 81, 75, 66, 78, 82]⟩
  | _ => ⟨#[]⟩
def strA (rows : Nat → ByteArray) : Array Value := ((List.range 8).map fun i => Value.string (rows i)).toArray
theorem str_cell (w : World) (rows : Nat → ByteArray) (i : Nat) (h : i < 8) : (w.alloc (.cells (strA rows) 9)).cell? ⟨w.heap.size, i, none⟩ = some (.string (rows i)) := by
  rw [World.cell?_alloc_new]
  unfold strA
  rw [List.getElem?_toArray, List.getElem?_map, List.getElem?_range h]; rfl
theorem rows_H : ∀ i, i < 8 → (rowsH i).size ≤ 8 := by
  have : ∀ i : Fin 8, (rowsH i.val).size ≤ 8 := by decide
  exact fun i hi => this ⟨i, hi⟩
theorem rows_R : ∀ i, i < 8 → (rowsR i).size ≤ 8 := by
  have : ∀ i : Fin 8, (rowsR i.val).size ≤ 8 := by decide
  exact fun i hi => this ⟨i, hi⟩
theorem rows_S : ∀ i, i < 8 → (rowsS i).size ≤ 8 := by
  have : ∀ i : Fin 8, (rowsS i.val).size ≤ 8 := by decide
  exact fun i hi => this ⟨i, hi⟩

def rstartN (v : Nat) : Nat → Int :=
  if v = 7 then upd (upd (ofK 7 rowsH 8) 81 7) 82 0 else if v = 8 then ofK 8 rowsR 8
  else if casB v then upd (upd (upd (upd (ofK v rowsS 8) 79 7) 80 0) 81 7) 82 0 else ofK v rowsS 8
theorem rstart_eq : ∀ v : Fin 9, ∀ i : Fin 88, rstartN v.val i.val = startN v.val i.val := by decide +kernel
theorem pos_congr {n m : Nat → Int} (h : ∀ i, i < 88 → n i = m i) : posA n = posA m := by
  apply Array.ext_getElem?
  intro i
  by_cases hi : i < 88
  · rw [posA_get _ i hi, posA_get _ i hi]; unfold cellP; rw [h i hi]
  · rw [Array.getElem?_eq_none_iff.2 (by rw [posA_size]; omega), Array.getElem?_eq_none_iff.2 (by rw [posA_size]; omega)]
theorem rstart_pos {v : Nat} (h : v < 9) : posA (rstartN v) = posA (startN v) := pos_congr fun i hi => rstart_eq ⟨v, h⟩ ⟨i, hi⟩

set_option maxHeartbeats 4000000 in
theorem rstart_any (v : Nat) (hv : v < 9) (w : World) : Calls Try.prog 26 #[.int .u8 (v : Int)] w fun e w' => e = .returned (.agg (posA (startN v))) ∧ Below w.heap.size w w' := by
  have hzp := zeroPos
  have HE := hideIt (rstart_pos hv)
  obtain ⟨X, hX⟩ : ∃ X, w.alloc (.cells (posA zeroN) 40) = X := ⟨_, rfl⟩
  obtain ⟨pX, bX⟩ := box1 w zeroN X hX
  have HX := hideIt hX
  clear hX
  have hc : v = 7 ∨ v = 8 ∨ (v ≠ 7 ∧ v ≠ 8) := by omega
  rcases hc with rfl | rfl | ⟨h7, h8⟩
  · go_enter Try.func26, Try.ntmps26
    go_wp2_with (first | rw [HX.out] | (refine Go.Great.wpList_buildSliceTo rfl 55 9 8 _ rfl _ rfl _ rfl Try.underlying55 (strA rowsH) (by kernel_rfl) ?_))
    refine (rof_any 7 _ X.heap.size rowsH (by simp) (fun i hi => str_cell X rowsH i hi) rows_H).mono ?_
    rintro e Y ⟨rfl, h1⟩
    have pX := (pX.alloc _).below h1 (pX.alloc _).lt
    have bX := (bX.alloc bX.size _).trans (h1.mono (bX.alloc bX.size _).size)
    clear h1 HX
    obtain ⟨V, hV⟩ : ∃ V, (Y.alloc (.cells (posA zeroN) 40)).setRow Y.heap.size (posA (ofK 7 rowsH 8)) = V := ⟨_, rfl⟩
    have hV2 : Y.alloc (.cells (posA (ofK 7 rowsH 8)) 40) = V := by rw [← hV, World.setRow_alloc_new]
    have hlt := pX.lt
    have bld : Bld w w.heap.size Y.heap.size V (ofK 7 rowsH 8) := by
      rw [← hV2]
      exact ⟨pX.alloc _, PosAt.new Y _, by omega, ⟨by omega, by omega⟩, bX.alloc (by omega) _⟩
    obtain ⟨g, hg⟩ : ∃ g, Y.heap.size = g := ⟨_, rfl⟩
    rw [hg] at bld
    have HV := hideIt hV
    have HG := hideIt hg
    have c81 : V.cell? ⟨g, 81, none⟩ = some (.int .i8 (ofK 7 rowsH 8 81)) := bld.new.cell 81 (by decide)
    have c82 : V.cell? ⟨g, 82, none⟩ = some (.int .i8 (ofK 7 rowsH 8 82)) := bld.new.cell 82 (by decide)
    have f81 := bld.new.free 81
    have f82 := bld.new.free 82
    have L := (bld.set 81 7 (k := .i8) rfl).set 82 0 (k := .i8) rfl
    obtain ⟨V3, hV3⟩ : ∃ V3, (V.setCell ⟨g, 81, none⟩ (.int .i8 7)).setCell ⟨g, 82, none⟩ (.int .i8 0) = V3 := ⟨_, rfl⟩
    rw [hV3] at L
    obtain ⟨i1, r1⟩ := L.new.rules
    obtain ⟨i2, r2⟩ := L.res.rules
    have HV3 := hideIt hV3
    clear hV hV2 hg pX bX hlt bld hV3
    go_wp2_with (first | rw [HV.out, HG.out] | rw [HV3.out])
    refine bodyPost_ret (v := .agg (posA (startN 7))) (pos_result Try.results26 _ _ _ _ rfl (by rw [show upd (upd (ofK 7 rowsH 8) 81 7) 82 0 = rstartN 7 from rfl, HE.out]; exact L.res.setRow _)) rfl ⟨rfl, by rw [show upd (upd (ofK 7 rowsH 8) 81 7) 82 0 = rstartN 7 from rfl, HE.out]; exact below_setRow L.below (Nat.le_refl _) _⟩
  · go_enter Try.func26, Try.ntmps26
    go_wp2_with (first | rw [HX.out] | (refine Go.Great.wpList_buildSliceTo rfl 55 9 8 _ rfl _ rfl _ rfl Try.underlying55 (strA rowsR) (by kernel_rfl) ?_))
    refine (rof_any 8 _ X.heap.size rowsR (by simp) (fun i hi => str_cell X rowsR i hi) rows_R).mono ?_
    rintro e Y ⟨rfl, h1⟩
    have pX := (pX.alloc _).below h1 (pX.alloc _).lt
    have bX := (bX.alloc bX.size _).trans (h1.mono (bX.alloc bX.size _).size)
    clear h1 HX
    obtain ⟨i1, r1⟩ := pX.rules
    go_wp2
    refine bodyPost_ret (v := .agg (posA (startN 8))) (pos_result Try.results26 _ _ _ _ rfl (by rw [show ofK 8 rowsR 8 = rstartN 8 from rfl, HE.out]; exact pX.setRow _)) rfl ⟨rfl, by rw [show ofK 8 rowsR 8 = rstartN 8 from rfl, HE.out]; exact below_setRow bX (Nat.le_refl _) _⟩
  · have e7 : ((v : Int) == 7) = false := beq_eq_false_iff_ne.2 (by omega)
    have e8 : ((v : Int) == 8) = false := beq_eq_false_iff_ne.2 (by omega)
    have hR := show rstartN v = if casB v then upd (upd (upd (upd (ofK v rowsS 8) 79 7) 80 0) 81 7) 82 0 else ofK v rowsS 8 by unfold rstartN; rw [if_neg h7, if_neg h8]
    have HR := hideIt hR
    clear h7 h8 hR
    go_enter Try.func26, Try.ntmps26
    go_wp2_with (first | rw [HX.out] | (refine Go.Great.wpList_buildSliceTo rfl 55 9 8 _ rfl _ rfl _ rfl Try.underlying55 (strA rowsS) (by kernel_rfl) ?_))
    refine (rof_any v _ X.heap.size rowsS (by simp) (fun i hi => str_cell X rowsS i hi) rows_S).mono ?_
    rintro e Y ⟨rfl, h1⟩
    have pX := (pX.alloc _).below h1 (pX.alloc _).lt
    have bX := (bX.alloc bX.size _).trans (h1.mono (bX.alloc bX.size _).size)
    clear h1 HX
    obtain ⟨m, hm⟩ : ∃ m, ofK v rowsS 8 = m := ⟨_, rfl⟩
    rw [hm] at HR ⊢
    clear hm
    obtain ⟨V, hV⟩ : ∃ V, (Y.alloc (.cells (posA zeroN) 40)).setRow Y.heap.size (posA m) = V := ⟨_, rfl⟩
    have hV2 : Y.alloc (.cells (posA m) 40) = V := by rw [← hV, World.setRow_alloc_new]
    have hlt := pX.lt
    have bld : Bld w w.heap.size Y.heap.size V m := by
      rw [← hV2]
      exact ⟨pX.alloc _, PosAt.new Y _, by omega, ⟨by omega, by omega⟩, bX.alloc (by omega) _⟩
    obtain ⟨g, hg⟩ : ∃ g, Y.heap.size = g := ⟨_, rfl⟩
    rw [hg] at bld
    have HV := hideIt hV
    have HG := hideIt hg
    clear hV hV2 hg pX bX hlt
    cases hb : casB v with
    | false =>
      have HR := hideIt (HR.out.trans (if_neg (by rw [hb]; decide)))
      have HB := hideIt hb
      obtain ⟨i1, r1⟩ := bld.new.rules
      obtain ⟨i2, r2⟩ := bld.res.rules
      clear hb
      go_wp2_with (first | rw [HV.out, HG.out])
      refine (rcastles_any v (by omega) _).mono ?_
      rw [HB.out]
      rintro e w2 ⟨rfl, rfl⟩
      go_wp2
      refine bodyPost_ret (v := .agg (posA (startN v))) (pos_result Try.results26 _ _ _ _ rfl (by rw [← HR.out, HE.out]; exact bld.res.setRow _)) rfl ⟨rfl, by rw [← HR.out, HE.out]; exact below_setRow bld.below (Nat.le_refl _) _⟩
    | true =>
      have HR := hideIt (HR.out.trans (if_pos hb))
      have HB := hideIt hb
      have c79 : V.cell? ⟨g, 79, none⟩ = some (.int .i8 (m 79)) := bld.new.cell 79 (by decide)
      have c80 : V.cell? ⟨g, 80, none⟩ = some (.int .i8 (m 80)) := bld.new.cell 80 (by decide)
      have c81 : V.cell? ⟨g, 81, none⟩ = some (.int .i8 (m 81)) := bld.new.cell 81 (by decide)
      have c82 : V.cell? ⟨g, 82, none⟩ = some (.int .i8 (m 82)) := bld.new.cell 82 (by decide)
      have f79 := bld.new.free 79
      have f80 := bld.new.free 80
      have f81 := bld.new.free 81
      have f82 := bld.new.free 82
      have L := (((bld.set 79 7 (k := .i8) rfl).set 80 0 (k := .i8) rfl).set 81 7 (k := .i8) rfl).set 82 0 (k := .i8) rfl
      obtain ⟨V3, hV3⟩ : ∃ V3, (((V.setCell ⟨g, 79, none⟩ (.int .i8 7)).setCell ⟨g, 80, none⟩ (.int .i8 0)).setCell ⟨g, 81, none⟩ (.int .i8 7)).setCell ⟨g, 82, none⟩ (.int .i8 0) = V3 := ⟨_, rfl⟩
      rw [hV3] at L
      obtain ⟨i1, r1⟩ := L.new.rules
      obtain ⟨i2, r2⟩ := L.res.rules
      have HV3 := hideIt hV3
      clear hb bld hV3
      go_wp2_with (first | rw [HV.out, HG.out])
      refine (rcastles_any v (by omega) _).mono ?_
      rw [HB.out]
      rintro e w2 ⟨rfl, rfl⟩
      go_wp2_with (rw [HV3.out])
      refine bodyPost_ret (v := .agg (posA (startN v))) (pos_result Try.results26 _ _ _ _ rfl (by rw [← HR.out, HE.out]; exact L.res.setRow _)) rfl ⟨rfl, by rw [← HR.out, HE.out]; exact below_setRow L.below (Nat.le_refl _) _⟩

end Go.Proofs.Ytpheapolijhgjaa
