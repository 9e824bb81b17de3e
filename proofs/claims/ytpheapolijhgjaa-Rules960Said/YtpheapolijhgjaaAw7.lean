/- The walk of awake of law 7. -/
import Derived.Test.YtpheapolijhgjaaWRulesNames
import Derived.Test.YtpheapolijhgjaaV9
namespace Go.Proofs.Ytpheapolijhgjaa
open Go Go.RowKit
set_option linter.unusedVariables false

theorem by_horde : byI ⟨#[104, 111, 114, 100, 101]⟩ = 7 ∧ byB ⟨#[104, 111, 114, 100, 101]⟩ = true := by
  obtain ⟨h1, h2⟩ := by_yes ⟨#[104, 111, 114, 100, 101]⟩ 7 (by decide) rfl
  exact ⟨h1.symm, h2.symm⟩
theorem nm_chess : ∀ k : Fin 9, (nmB k.val).data ≠ #[99, 104, 101, 115, 115] := by decide +kernel
theorem by_chess : byI ⟨#[99, 104, 101, 115, 115]⟩ = 0 ∧ byB ⟨#[99, 104, 101, 115, 115]⟩ = false := by
  obtain ⟨h1, h2⟩ := by_no ⟨#[99, 104, 101, 115, 115]⟩ (fun k hk h => nm_chess ⟨k, hk⟩ (by rw [h]))
  exact ⟨h1.symm, h2.symm⟩
theorem first960 : start960N 0 1 = 3 ∧ start960N 0 2 = 3 ∧ start960N 0 3 = 5 ∧ start960N 0 4 = 2 ∧ start960N 0 6 = 4 ∧ start960N 0 7 = 6 := by decide +kernel

set_option maxRecDepth 100000 in
set_option maxHeartbeats 4000000 in
theorem awake_any (w : World) :
    Calls Try.prog 22 #[] w fun e w' => e = .returned (.bool true) ∧ Below w.heap.size w w' := by
  have hzp := zeroPos
  obtain ⟨q1, q2, q3, q4, q6, q7⟩ := first960
  have n8 : ((nmB 8).toList == [114, 97, 99, 105, 110, 103]) = true := by rw [ByteArray.toList_eq]; rfl
  have n9 : (nmB 9).toList.isEmpty = true := by rw [ByteArray.toList_eq]; rfl
  go_enter Try.func22, Try.ntmps22
  go_wp2_with fail
  refine (byname_any _ _).mono ?_
  rw [by_horde.1, by_horde.2]
  rintro e w1 ⟨rfl, hb⟩
  go_wp2_with fail
  refine (byname_any _ _).mono ?_
  rw [by_chess.1, by_chess.2]
  rintro e w2 ⟨rfl, h1⟩
  have hb := hb.trans (h1.mono hb.size)
  clear h1
  go_wp2_with fail
  refine (start960_yes 0 (by decide) _).mono ?_
  rintro e Y ⟨rfl, h1⟩
  have hb := hb.trans (h1.mono hb.size)
  clear h1
  obtain ⟨V, hV⟩ : ∃ V, (Y.alloc (.cells (posA zeroN) 40)).setRow Y.heap.size (posA (start960N 0)) = V := ⟨_, rfl⟩
  have hV2 : Y.alloc (.cells (posA (start960N 0)) 40) = V := by rw [← hV, World.setRow_alloc_new]
  have p0 : PosAt V Y.heap.size (start960N 0) := by rw [← hV2]; exact PosAt.new Y _
  have hb : Below w.heap.size w V := by rw [← hV2]; exact hb.alloc hb.size _
  obtain ⟨g, hg⟩ : ∃ g, Y.heap.size = g := ⟨_, rfl⟩
  rw [hg] at p0
  have HV := hideIt hV
  have HG := hideIt hg
  clear hV hV2 hg
  go_wp2_with (rw [HV.out, HG.out])
  refine (vpromotes_any 4 (by decide) _).mono ?_
  rw [show promL 4 = [2, 3, 4, 5, 6] from rfl]
  rintro e w3 ⟨v, rfl, ow, h1⟩
  have hb := hb.trans (h1.mono hb.size)
  have p0 := p0.below h1 p0.lt
  clear h1 HV HG
  rcases ow.form with ⟨h0, _⟩ | ⟨gl, cl, rfl, hgl, hsl, _, hcell, _⟩
  · cases h0
  have c4 : w3.cell? ⟨gl, 4, none⟩ = some (.int .u8 6) := hcell 4 (by decide)
  clear hcell ow
  go_wp2_with fail
  refine (vname_any 8 (by decide) _).mono ?_
  rintro e w4 ⟨rfl, h1⟩
  have c4 := (h1.cell (p := ⟨gl, 4, none⟩) hsl).trans c4
  have hb := hb.trans (h1.mono hb.size)
  have p0 := p0.below h1 p0.lt
  have hsl := Nat.lt_of_lt_of_le hsl h1.size
  clear h1
  go_wp2_with fail
  refine (vname_any 9 (by decide) _).mono ?_
  rintro e w5 ⟨rfl, h1⟩
  have c4 := (h1.cell (p := ⟨gl, 4, none⟩) hsl).trans c4
  have hb := hb.trans (h1.mono hb.size)
  have p0 := p0.below h1 p0.lt
  have hsl := Nat.lt_of_lt_of_le hsl h1.size
  clear h1
  go_wp2_with fail
  refine (vroyal_any 7 0 (by decide) (by decide) _).mono ?_
  rintro e w6 ⟨rfl, h1⟩
  have c4 := (h1.cell (p := ⟨gl, 4, none⟩) hsl).trans c4
  have hb := hb.trans (h1.mono hb.size)
  have p0 := p0.below h1 p0.lt
  have hsl := Nat.lt_of_lt_of_le hsl h1.size
  clear h1
  rw [show royI 7 0 = false by decide]
  go_wp2_with fail
  refine (vroyal_any 7 1 (by decide) (by decide) _).mono ?_
  rintro e w7 ⟨rfl, h1⟩
  have c4 := (h1.cell (p := ⟨gl, 4, none⟩) hsl).trans c4
  have hb := hb.trans (h1.mono hb.size)
  have p0 := p0.below h1 p0.lt
  clear h1
  rw [show royI 7 1 = true by decide]
  have b1 := p0.board 1 (by decide)
  have b2 := p0.board 2 (by decide)
  have b3 := p0.board 3 (by decide)
  have b4 := p0.board 4 (by decide)
  have b6 := p0.board 6 (by decide)
  have b7 := p0.board 7 (by decide)
  rw [q1] at b1
  rw [q2] at b2
  rw [q3] at b3
  rw [q4] at b4
  rw [q6] at b6
  rw [q7] at b7
  clear q1 q2 q3 q4 q6 q7
  go_wp2
  go_ret
  exact ⟨rfl, hb⟩

end Go.Proofs.Ytpheapolijhgjaa
