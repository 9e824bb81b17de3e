/- Walks of rules: empty, Start960. -/
import Derived.Test.YtpheapolijhgjaaVT
namespace Go.Proofs.Ytpheapolijhgjaa
open Go Go.RowKit
set_option linter.unusedVariables false

def empF (l : Nat → Int) : Nat → Int → Int
  | 0, _ => 0
  | f + 1, n => if l (7 - f) = 0 then (if n = 0 then ((7 - f : Nat) : Int) else empF l f (n - 1)) else empF l f n
/-- The empty file of a number. -/
def emp (l : Nat → Int) (n : Int) : Int := empF l 8 n
theorem empF_bd (l : Nat → Int) : ∀ (f : Nat) (n : Int), 0 ≤ empF l f n ∧ empF l f n < 8
  | 0, n => ⟨by show (0 : Int) ≤ 0; omega, by show (0 : Int) < 8; omega⟩
  | f + 1, n => by
    unfold empF
    split
    · split
      · omega
      · exact empF_bd l f _
    · exact empF_bd l f _
theorem emp_bd (l : Nat → Int) (n : Int) : 0 ≤ emp l n ∧ emp l n < 8 := empF_bd l 8 n

set_option maxHeartbeats 800000 in
theorem empty_any (l : Nat → Int) (n : Int) (h0 : 0 ≤ n) (h1 : n < 1000) (w : World) : Calls Try.prog 32 #[.agg (r8 l), .int .i64 n] w fun e w' => e = .returned (.int .i64 (emp l n)) ∧ Below w.heap.size w w' := by
  have hE : Hid (emp l n = empF l (8 - 0) n) := rfl
  have hb := (Below.refl w.heap.size w).alloc (Nat.le_refl _) (.cells (r8 l) 58)
  go_enter Try.func32, Try.ntmps32
  go_wp2
  go_loopw [1, 8] (fun m i wr => ∃ (k : Nat) (m' : Int), k ≤ 8 ∧ i = .int .i64 k ∧ m = .int .i64 m' ∧ 0 ≤ m' ∧ m' < 1000 ∧ Hid (emp l n = empF l (8 - k) m') ∧ Below w.heap.size w wr) (fun _ i _ => 8 - (intOf i).toNat)
  case atStart => exact ⟨0, n, by omega, rfl, rfl, h0, h1, hE, hb⟩
  case round =>
    clear h0 h1 hE hb
    obtain ⟨k, m, hk, rfl, rfl, h0, h1, hE, hb⟩ := hrel
    by_cases hlt : k < 8
    · have hix := index_r8 l k hlt
      obtain ⟨f, hf⟩ : ∃ f, 8 - k = f + 1 := ⟨7 - k, by omega⟩
      have e7 : 7 - f = k := by omega
      have hE2 : emp l n = if l k = 0 then (if m = 0 then (k : Int) else empF l (8 - (k + 1)) (m - 1)) else empF l (8 - (k + 1)) m := by
        rw [hE.out, hf, show 8 - (k + 1) = f by omega]
        show (if l (7 - f) = 0 then (if m = 0 then ((7 - f : Nat) : Int) else _) else _) = _
        rw [e7]
      have HE := hideIt hE2
      clear hE hE2 hf e7
      by_cases hl : l k = 0
      · have e0 : (l k != 0) = false := by rw [hl]; rfl
        by_cases hm : m = 0
        · have em : (m == 0) = true := beq_iff_eq.2 hm
          have HE := hideIt (HE.out.trans ((if_pos hl).trans (if_pos hm)))
          clear hl hm
          go_wp2
          go_ret
          exact ⟨ret_int HE.out.symm, hb⟩
        · have em : (m == 0) = false := beq_eq_false_iff_ne.2 hm
          have HE := hideIt (HE.out.trans ((if_pos hl).trans (if_neg hm)))
          have hm1 : 1 ≤ m := by omega
          clear hl hm
          go_wp2
          go_roundw
          case rel => exact ⟨k + 1, m - 1, by omega, by go_num, rfl, by omega, by omega, HE, hb⟩
          case measure => simp [intOf]; omega
      · have e0 : (l k != 0) = true := by rw [bne, beq_eq_false_iff_ne.2 hl]; rfl
        have HE := hideIt (HE.out.trans (if_neg hl))
        clear hl
        go_wp2
        go_roundw
        case rel => exact ⟨k + 1, m, by omega, by go_num, rfl, h0, h1, HE, hb⟩
        case measure => simp [intOf]; omega
    · obtain rfl : k = 8 := by omega
      go_wp2
      go_ret
      exact ⟨ret_int (by rw [hE.out]; rfl), hb⟩

def row1 (n : Nat) : Nat → Int := upd zeroN (2 * (n % 4) + 1) 3
def row2 (n : Nat) : Nat → Int := upd (row1 n) (2 * (n / 4 % 4)) 3
def row3 (n : Nat) : Nat → Int := upd (row2 n) (emp (row2 n) ((n / 4 / 4 % 6 : Nat) : Int)).toNat 5
def pairL : List Int := [0, 1, 0, 2, 0, 3, 0, 4, 1, 2, 1, 3, 1, 4, 2, 3, 2, 4, 3, 4]
def pairI (k : Nat) : Int := pairL.getD k 0
def pairA : Array Value := (pairL.map (Value.int .i64)).toArray
theorem pair_bd : ∀ k : Fin 20, 0 ≤ pairI k.val ∧ pairI k.val < 5 := by decide +kernel
theorem pair_get (k : Nat) (hk : k < 20) : pairA[k]? = some (.int .i64 (pairI k)) := by
  have : ∀ k : Fin 20, pairL[k.val]? = some (pairI k.val) := by decide +kernel
  unfold pairA
  rw [List.getElem?_toArray, List.getElem?_map, this ⟨k, hk⟩]; rfl
theorem pair_one : pairA.all (·.oneCell') = true := by kernel_rfl
theorem infoPair : (Try.prog.info? 61).map (fun i => (i.zero, i.size)) = some (some (.agg ((List.replicate 20 (Value.int .i64 0)).toArray)), 20) := by kernel_rfl
def row4 (n : Nat) : Nat → Int := upd (upd (row3 n) (emp (row3 n) (pairI (n / 4 / 4 / 6 * 2))).toNat 2) (emp (row3 n) (pairI (n / 4 / 4 / 6 * 2 + 1))).toNat 2
def row5 (n : Nat) : Nat → Int := upd (row4 n) (emp (row4 n) 0).toNat 4
def row6 (n : Nat) : Nat → Int := upd (row5 n) (emp (row5 n) 0).toNat 6
def row7 (n : Nat) : Nat → Int := upd (row6 n) (emp (row6 n) 0).toNat 4
def start960N (n : Nat) : Nat → Int := bothN 1 (row7 n)

/-- The answer's block, and the row that is being filled. -/
structure RowB (w0 W : World) (l : Nat → Int) : Prop where
  res : PosAt W w0.heap.size zeroN
  row : R8At W (w0.heap.size + 1) l
  below : Below w0.heap.size w0 W
theorem RowB.set {w0 W : World} {l : Nat → Int} (h : RowB w0 W l) (i : Nat) (x : Int) : RowB w0 (W.setCell ⟨w0.heap.size + 1, i, none⟩ (.int .u8 x)) (upd l i x) :=
  ⟨h.res.other (by omega) _, h.row.set i x, h.below.setCell (by show w0.heap.size ≤ w0.heap.size + 1; omega) _⟩
theorem RowB.then {w0 W W' : World} {l : Nat → Int} (h : RowB w0 W l) (hb : Below W.heap.size W W') : RowB w0 W' l :=
  ⟨h.res.below hb h.res.lt, h.row.below hb h.row.lt, h.below.trans (hb.mono h.below.size)⟩

/-- A slice of three pieces: rook, king, rook. -/
def Tri (W : World) (s : Nat) : Prop := s < W.heap.size ∧ W.cell? ⟨s, 0, none⟩ = some (.int .u8 4) ∧ W.cell? ⟨s, 1, none⟩ = some (.int .u8 6) ∧ W.cell? ⟨s, 2, none⟩ = some (.int .u8 4)
theorem Tri.then {U W : World} {s : Nat} (h : Tri U s) (hb : Below U.heap.size U W) : Tri W s :=
  ⟨Nat.lt_of_lt_of_le h.1 hb.size, (hb.cell (p := ⟨s, 0, none⟩) h.1).trans h.2.1, (hb.cell (p := ⟨s, 1, none⟩) h.1).trans h.2.2.1, (hb.cell (p := ⟨s, 2, none⟩) h.1).trans h.2.2.2⟩
theorem Tri.set {U : World} {s b i : Nat} (h : Tri U s) (hb : b ≠ s) (v : Value) : Tri (U.setCell ⟨b, i, none⟩ v) s := by
  have e : ∀ j, (U.setCell ⟨b, i, none⟩ v).cell? ⟨s, j, none⟩ = U.cell? ⟨s, j, none⟩ := fun j => World.cell?_setCell_other U ⟨b, i, none⟩ ⟨s, j, none⟩ v (fun h => hb (by cases h; rfl))
  exact ⟨by have := h.1; simpa using this, (e 0).trans h.2.1, (e 1).trans h.2.2.1, (e 2).trans h.2.2.2⟩
theorem upd_bd {l : Nat → Int} (h : ∀ k, 0 ≤ l k ∧ l k < 200) (i : Nat) (x : Int) (h0 : 0 ≤ x) (h1 : x < 200) : ∀ k, 0 ≤ upd l i x k ∧ upd l i x k < 200 := by
  intro k
  unfold upd
  split
  · exact ⟨h0, h1⟩
  · exact h k
theorem row7_bd (n : Nat) : ∀ k, 0 ≤ row7 n k ∧ row7 n k < 200 :=
  upd_bd (upd_bd (upd_bd (upd_bd (upd_bd (upd_bd (upd_bd (upd_bd (fun _ => ⟨Int.le_refl 0, (by show (0 : Int) < 200; decide)⟩) _ 3 (by decide) (by decide)) _ 3 (by decide) (by decide)) _ 5 (by decide) (by decide)) _ 2 (by decide) (by decide)) _ 2 (by decide) (by decide)) _ 4 (by decide) (by decide)) _ 6 (by decide) (by decide)) _ 4 (by decide) (by decide)

theorem keep9 {X W : World} {a g i j : Nat} {l : Nat → Int} {u v : Value} (h : R8At X a l) (h1 : X.cell? ⟨g, i, none⟩ = some u) (h2 : X.cell? ⟨g, j, none⟩ = some v) (hg : g < X.heap.size) (hb : Below X.heap.size X W) :
    (IsR8 W a ∧ r8Of W a = r8 l) ∧ (W.cell? ⟨g, i, none⟩ = some u ∧ W.cell? ⟨g, j, none⟩ = some v) ∧ Below X.heap.size X W :=
  ⟨(h.below hb h.lt).rules, ⟨(hb.cell (p := ⟨g, i, none⟩) hg).trans h1, (hb.cell (p := ⟨g, j, none⟩) hg).trans h2⟩, hb⟩

set_option maxRecDepth 100000 in
set_option maxHeartbeats 4000000 in
theorem start960_yes (n : Nat) (hn : n < 960) (w : World) : Calls Try.prog 24 #[.int .i64 (n : Int)] w fun e w' => e = .returned (.tuple #[.agg (posA (start960N n)), .bool true]) ∧ Below w.heap.size w w' := by
  have hzp := zeroPos
  have hz8 := zero8
  obtain ⟨X, hX⟩ : ∃ X, (w.alloc (.cells (posA zeroN) 40)).alloc (.cells (r8 zeroN) 58) = X := ⟨_, rfl⟩
  have B : RowB w X zeroN := by
    rw [← hX]
    refine ⟨(PosAt.new w zeroN).alloc _, ?_, ((Below.refl _ _).alloc (Nat.le_refl _) _).alloc (by simp) _⟩
    have := R8At.new (w.alloc (.cells (posA zeroN) 40)) zeroN
    simpa using this
  have HX := hideIt hX
  clear hX
  have B1 := B.set (2 * (n % 4) + 1) 3
  have B2 := B1.set (2 * (n / 4 % 4)) 3
  have c1 := B.row.cell (2 * (n % 4) + 1) (by omega)
  have f1 := B.row.free (2 * (n % 4) + 1)
  have c2 := B1.row.cell (2 * (n / 4 % 4)) (by omega)
  have f2 := B1.row.free (2 * (n / 4 % 4))
  go_enter Try.func24, Try.ntmps24
  go_upto_region 8 with (first | rw [HX.out])
  generalize World.setCell (World.setCell X _ _) _ _ = V2 at B2 ⊢
  have B2 : RowB w V2 (row2 n) := B2
  clear c1 f1 c2 f2 B B1 HX
  obtain ⟨i2, r2⟩ := B2.row.rules
  go_wp2_with fail
  refine (empty_any (row2 n) _ (by omega) (by omega) _).mono ?_
  rintro e Y ⟨rfl, h1⟩
  have B2 := B2.then h1
  clear h1 i2 r2
  obtain ⟨j, hj⟩ : ∃ j : Nat, emp (row2 n) ((n : Int) / 4 / 4 % 6) = j := ⟨_, (Int.toNat_of_nonneg (emp_bd _ _).1).symm⟩
  have hj8 : j < 8 := by have := (emp_bd (row2 n) ((n : Int) / 4 / 4 % 6)).2; omega
  have B3 := B2.set j 5
  have c3 := B2.row.cell j hj8
  have f3 := B2.row.free j
  have e3 : upd (row2 n) j 5 = row3 n := by
    unfold row3
    rw [show ((n / 4 / 4 % 6 : Nat) : Int) = (n : Int) / 4 / 4 % 6 by omega, hj, Int.toNat_natCast]
  rw [e3] at B3
  rw [hj]
  clear e3 hj
  go_upto_region 10 with fail
  generalize World.setCell Y _ _ = V3 at B3 ⊢
  clear c3 f3 B2
  obtain ⟨g, hg⟩ : ∃ g, V3.heap.size = g := ⟨_, rfl⟩
  have hg1 := B3.row.lt
  obtain ⟨V4, hV4⟩ : ∃ V4, V3.alloc (.cells pairA 61) = V4 := ⟨_, rfl⟩
  have B4 : RowB w V4 (row3 n) := by rw [← hV4]; exact ⟨B3.res.alloc _, B3.row.alloc _, B3.below.alloc B3.below.size _⟩
  have hq : n / 4 / 4 / 6 < 10 := by omega
  have p0 : V4.cell? ⟨g, n / 4 / 4 / 6 * 2, none⟩ = some (.int .i64 (pairI (n / 4 / 4 / 6 * 2))) := by rw [← hV4, ← hg, World.cell?_alloc_new]; exact pair_get _ (by omega)
  have p1 : V4.cell? ⟨g, n / 4 / 4 / 6 * 2 + 1, none⟩ = some (.int .i64 (pairI (n / 4 / 4 / 6 * 2 + 1))) := by rw [← hV4, ← hg, World.cell?_alloc_new]; exact pair_get _ (by omega)
  have hsz : g < V4.heap.size := by rw [← hV4, ← hg]; simp
  have HV := hideIt hV4
  have HG := hideIt hg
  clear hV4 hg B3
  have hzp := (zero_of_info infoPair).1
  go_upto_region 11 with (first | (refine wpList_build rfl 61 _ rfl (by kernel_rfl) ?_; generalize hV : (Program.built Try.prog 61 _).getD #[] = V; obtain rfl : pairA = V := Eq.trans (by kernel_rfl) hV; clear hV) | (refine wpList_store_row rfl 61 _ _ rfl V3.heap.size pairA rfl rfl 61 ((List.replicate 20 (Value.int .i64 0)).toArray) (heap_alloc_last _ _) (by rw [show pairA.size = 20 by kernel_rfl]; exact (zero_of_info infoPair).2) (by kernel_rfl) pair_one ?_))
  rw [World.setRow_alloc_new, HV.out, HG.out]
  obtain ⟨i4, r4⟩ := B4.row.rules
  obtain ⟨a0, a1⟩ := pair_bd ⟨n / 4 / 4 / 6 * 2, by omega⟩
  obtain ⟨b0, b1⟩ := pair_bd ⟨n / 4 / 4 / 6 * 2 + 1, by omega⟩
  simp only at a0 a1 b0 b1
  have a2 : pairI (n / 4 / 4 / 6 * 2) < 1000 := by omega
  have b2 : pairI (n / 4 / 4 / 6 * 2 + 1) < 1000 := by omega
  have s1 : ((n : Int) / 4 / 4 / 6).toNat = n / 4 / 4 / 6 := by omega
  have s2 : (0 : Int) ≤ (n : Int) / 4 / 4 / 6 := by omega
  have s3 : (n : Int) / 4 / 4 / 6 < 10 := by omega
  go_region_held3 (fun W => (IsR8 W (w.heap.size + 1) ∧ r8Of W (w.heap.size + 1) = r8 (row3 n)) ∧ (W.cell? ⟨g, n / 4 / 4 / 6 * 2, none⟩ = some (.int .i64 (pairI (n / 4 / 4 / 6 * 2))) ∧ W.cell? ⟨g, n / 4 / 4 / 6 * 2 + 1, none⟩ = some (.int .i64 (pairI (n / 4 / 4 / 6 * 2 + 1)))) ∧ Below V4.heap.size V4 W) ((refine keep9 B4.row p0 p1 hsz ?_; repeat (first | exact Below.refl _ _ | assumption | refine bl_drew ?_ | refine bl_new ?_ (Nat.le_refl _) | refine bl_then ?_ (by assumption)))) ((go_at_call 32; refine (empty_any (row3 n) _ (by assumption) (by assumption) _).mono ?_; rintro e w31 ⟨rfl, h1⟩))
  have hq := And.right (And.right ‹(IsR8 _ _ ∧ _) ∧ (_ ∧ _) ∧ Below V4.heap.size V4 _›)
  have B4 := B4.then hq
  obtain ⟨ja, ha⟩ : ∃ j : Nat, emp (row3 n) (pairI (n / 4 / 4 / 6 * 2)) = j := ⟨_, (Int.toNat_of_nonneg (emp_bd _ _).1).symm⟩
  obtain ⟨jb, hb⟩ : ∃ j : Nat, emp (row3 n) (pairI (n / 4 / 4 / 6 * 2 + 1)) = j := ⟨_, (Int.toNat_of_nonneg (emp_bd _ _).1).symm⟩
  have ha8 : ja < 8 := by have := (emp_bd (row3 n) (pairI (n / 4 / 4 / 6 * 2))).2; omega
  have hb8 : jb < 8 := by have := (emp_bd (row3 n) (pairI (n / 4 / 4 / 6 * 2 + 1))).2; omega
  have e3 : upd (upd (row3 n) ja 2) jb 2 = row4 n := by unfold row4; rw [ha, hb, Int.toNat_natCast, Int.toNat_natCast]
  rw [ha, hb]
  have ca := B4.row.cell ja ha8
  have fa := B4.row.free ja
  have cb := (B4.set ja 2).row.cell jb hb8
  have fb := (B4.set ja 2).row.free jb
  have B5 := (B4.set ja 2).set jb 2
  rw [e3] at B5
  rename_i W4 _ _
  clear ha hb e3 hq p0 p1 hsz HV HG hzp a0 a1 a2 b0 b1 b2 s1 s2 s3 i4 r4
  go_upto_region 13 with fail
  generalize World.setCell (World.setCell _ _ _) _ _ = U at B5 ⊢
  clear ca fa cb fb B4
  have hu := B5.row.lt
  obtain ⟨s, hs⟩ : ∃ s, U.heap.size = s := ⟨_, rfl⟩
  obtain ⟨V5, hV⟩ : ∃ V, U.alloc (.cells #[.int .u8 4, .int .u8 6, .int .u8 4] 5) = V := ⟨_, rfl⟩
  have hsn : w.heap.size + 1 ≠ s := by omega
  have hns : ¬ s = w.heap.size + 1 := by omega
  have B5 : RowB w V5 (row4 n) := by rw [← hV]; exact ⟨B5.res.alloc _, B5.row.alloc _, B5.below.alloc B5.below.size _⟩
  have D5 : Hid (Tri V5 s) := by
    refine ⟨by rw [← hV, ← hs]; simp, ?_, ?_, ?_⟩ <;> rw [← hV, ← hs, World.cell?_alloc_new] <;> rfl
  have HV := hideIt hV
  have HS := hideIt hs
  clear hV hs
  go_wp2_with (rw [HV.out, HS.out])
  refine wp_loop_rounds 4 ?_
  rw [rounds_succ]
  obtain ⟨i5, r5⟩ := B5.row.rules
  have d5 : V5.cell? ⟨s, 0, none⟩ = some (.int .u8 4) := D5.out.2.1
  go_wp2_with fail
  refine (empty_any (row4 n) 0 (by decide) (by decide) _).mono ?_
  rintro e Y5 ⟨rfl, h1⟩
  have B5 := B5.then h1
  have D5 := hideIt (D5.out.then h1)
  clear h1 i5 r5 d5
  obtain ⟨j5, hj⟩ : ∃ j : Nat, emp (row4 n) 0 = j := ⟨_, (Int.toNat_of_nonneg (emp_bd _ _).1).symm⟩
  have hj8 : j5 < 8 := by have := (emp_bd (row4 n) 0).2; omega
  have e3 : upd (row4 n) j5 4 = row5 n := by unfold row5; rw [hj, Int.toNat_natCast]
  have c3 := B5.row.cell j5 hj8
  have f3 := B5.row.free j5
  have B6 := B5.set j5 4
  have D6 := hideIt (D5.out.set (b := w.heap.size + 1) (i := j5) hsn (.int .u8 4))
  obtain ⟨V6, hV⟩ : ∃ V, Y5.setCell ⟨w.heap.size + 1, j5, none⟩ (.int .u8 4) = V := ⟨_, rfl⟩
  rw [e3, hV] at B6
  rw [hV] at D6
  rw [hj]
  have HV := hideIt hV
  clear e3 hj hV B5 D5
  go_wp2_with (rw [HV.out])
  rw [rounds_succ]
  clear c3 f3 HV
  obtain ⟨i6, r6⟩ := B6.row.rules
  have d6 : V6.cell? ⟨s, 1, none⟩ = some (.int .u8 6) := D6.out.2.2.1
  go_wp2_with fail
  refine (empty_any (row5 n) 0 (by decide) (by decide) _).mono ?_
  rintro e Y6 ⟨rfl, h1⟩
  have B6 := B6.then h1
  have D6 := hideIt (D6.out.then h1)
  clear h1 i6 r6 d6
  obtain ⟨j6, hj⟩ : ∃ j : Nat, emp (row5 n) 0 = j := ⟨_, (Int.toNat_of_nonneg (emp_bd _ _).1).symm⟩
  have hj8 : j6 < 8 := by have := (emp_bd (row5 n) 0).2; omega
  have e3 : upd (row5 n) j6 6 = row6 n := by unfold row6; rw [hj, Int.toNat_natCast]
  have c3 := B6.row.cell j6 hj8
  have f3 := B6.row.free j6
  have B7 := B6.set j6 6
  have D7 := hideIt (D6.out.set (b := w.heap.size + 1) (i := j6) hsn (.int .u8 6))
  obtain ⟨V7, hV⟩ : ∃ V, Y6.setCell ⟨w.heap.size + 1, j6, none⟩ (.int .u8 6) = V := ⟨_, rfl⟩
  rw [e3, hV] at B7
  rw [hV] at D7
  rw [hj]
  have HV := hideIt hV
  clear e3 hj hV B6 D6
  go_wp2_with (rw [HV.out])
  rw [rounds_succ]
  clear c3 f3 HV
  obtain ⟨i7, r7⟩ := B7.row.rules
  have d7 : V7.cell? ⟨s, 2, none⟩ = some (.int .u8 4) := D7.out.2.2.2
  go_wp2_with fail
  refine (empty_any (row6 n) 0 (by decide) (by decide) _).mono ?_
  rintro e Y7 ⟨rfl, h1⟩
  have B7 := B7.then h1
  have D7 := hideIt (D7.out.then h1)
  clear h1 i7 r7 d7
  obtain ⟨j7, hj⟩ : ∃ j : Nat, emp (row6 n) 0 = j := ⟨_, (Int.toNat_of_nonneg (emp_bd _ _).1).symm⟩
  have hj8 : j7 < 8 := by have := (emp_bd (row6 n) 0).2; omega
  have e3 : upd (row6 n) j7 4 = row7 n := by unfold row7; rw [hj, Int.toNat_natCast]
  have c3 := B7.row.cell j7 hj8
  have f3 := B7.row.free j7
  have B8 := B7.set j7 4
  have D8 := hideIt (D7.out.set (b := w.heap.size + 1) (i := j7) hsn (.int .u8 4))
  obtain ⟨V8, hV⟩ : ∃ V, Y7.setCell ⟨w.heap.size + 1, j7, none⟩ (.int .u8 4) = V := ⟨_, rfl⟩
  rw [e3, hV] at B8
  rw [hV] at D8
  rw [hj]
  have HV := hideIt hV
  clear e3 hj hV B7 D7
  go_wp2_with (rw [HV.out])
  rw [rounds_succ]
  clear c3 f3 HV
  obtain ⟨i8, r8⟩ := B8.row.rules
  go_wp2_with fail
  refine (both_any 1 (by decide) (row7 n) (row7_bd n) _).mono ?_
  rintro e Z ⟨rfl, h1⟩
  have B8 := B8.then h1
  clear h1 i8 r8
  obtain ⟨i1, r1⟩ := B8.res.rules
  go_wp2
  refine bodyPost_ret (v := .tuple #[.agg (posA (start960N n)), .bool true]) (pos_result2 Try.results24 _ _ _ _ _ rfl rfl (B8.res.setRow _)) rfl ⟨rfl, below_setRow B8.below (Nat.le_refl _) _⟩

set_option maxHeartbeats 1600000 in
theorem start960_no (n : Int) (hn : n < 0 ∨ 960 ≤ n) (w : World) : Calls Try.prog 24 #[.int .i64 n] w fun e w' => e = .returned (.tuple #[.agg (posA zeroN), .bool false]) ∧ Below w.heap.size w w' := by
  have hzp := zeroPos
  obtain ⟨X, hX⟩ : ∃ X, w.alloc (.cells (posA zeroN) 40) = X := ⟨_, rfl⟩
  obtain ⟨pX, bX⟩ := box1 w zeroN X hX
  obtain ⟨i1, r1⟩ := pX.rules
  have HX := hideIt hX
  clear hX
  have hc : n < 0 ∨ (0 ≤ n ∧ 960 ≤ n) := by omega
  clear hn
  rcases hc with h | ⟨h, h'⟩
  all_goals
    go_enter Try.func24, Try.ntmps24
    go_wp2_with (first | rw [HX.out] | (refine wpList_build rfl 40 _ rfl (by kernel_rfl) ?_; generalize hV : (Program.built Try.prog 40 _).getD #[] = V; obtain rfl : posA zeroN = V := Eq.trans (by kernel_rfl) hV; clear hV))
    refine bodyPost_ret (v := .tuple #[.agg (posA zeroN), .bool false]) (pos_result2 Try.results24 _ _ _ _ _ rfl rfl (pX.setRow _)) rfl ⟨rfl, below_setRow bX (Nat.le_refl _) _⟩

end Go.Proofs.Ytpheapolijhgjaa
