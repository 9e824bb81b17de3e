/- The walk of Rules960. -/
import Derived.Test.YtpheapolijhgjaaAw7
import Derived.Test.YtpheapolijhgjaaKI
import Derived.Test.YtpheapolijhgjaaV0
import Derived.Test.YtpheapolijhgjaaOwn
import Derived.BigRegion
import Derived.Deep.QuietTactic
import Derived.BigQuiet
namespace Go.Proofs.Ytpheapolijhgjaa
open Go Go.RowKit
set_option linter.unusedVariables false

theorem mod960 (a : Int) : ∃ n : Nat, wrap64 ((IntKind.u64.wrap a).tmod 960) = (n : Int) ∧ n < 960 := by
  rw [IntKind.wrap_u64]
  have h0 : 0 ≤ a % 18446744073709551616 := by omega
  have h1 : a % 18446744073709551616 < 18446744073709551616 := by omega
  generalize a % 18446744073709551616 = b at h0 h1
  have e : b.tmod 960 = b % 960 := Int.tmod_eq_emod_of_nonneg h0
  rw [e]
  refine ⟨(b % 960).toNat, ?_, by omega⟩
  have e2 : wrap64 (b % 960) = b % 960 := IntWalk.wrap64_in _ ⟨by omega, by omega⟩
  rw [e2]; omega

theorem noneOk : ∀ v : Fin 9, ∀ i : Fin 88, (Lit.int (kindAt i.val) (noneN v.val i.val)).wf = true := by decide +kernel
theorem men_ok {l n : Nat → Int} (h : PosOk n) (hl : ∀ k, 0 ≤ l k ∧ l k < 200) (k : Nat) (hk : k < 8) : PosOk (menK l n k) := by
  have := hl k
  unfold menK
  exact (((h.upd (by rw [kind_board (by omega)]; exact wf_u8_mk this.1 (by omega))).upd (by rw [kind_board (by omega)]; exact wf_u8_mk (by decide) (by decide))).upd (by rw [kind_board (by omega)]; exact wf_u8_mk (by omega) (by omega))).upd (by rw [kind_board (by omega)]; exact wf_u8_mk (by decide) (by decide))
theorem rook_ok {n : Nat → Int} (h : PosOk n) (k : Nat) (hk : k < 8) : PosOk (rookK n k) := by
  unfold rookK sideI
  split
  · exact PosOk.upd (i := 81 + 1) (PosOk.upd (i := 79 + 1) h (show (Lit.int .i8 (k : Int)).wf = true from wf_i8_mk (by omega) (by omega))) (show (Lit.int .i8 (k : Int)).wf = true from wf_i8_mk (by omega) (by omega))
  · exact PosOk.upd (i := 81 + 0) (PosOk.upd (i := 79 + 0) h (show (Lit.int .i8 (k : Int)).wf = true from wf_i8_mk (by omega) (by omega))) (show (Lit.int .i8 (k : Int)).wf = true from wf_i8_mk (by omega) (by omega))
theorem both_ok (v : Nat) (hv : v < 9) (l : Nat → Int) (hl : ∀ k, 0 ≤ l k ∧ l k < 200) : ∀ k, k ≤ 8 → PosOk (bothK v l k)
  | 0, _ => fun i hi => noneOk ⟨v, hv⟩ ⟨i, hi⟩
  | k + 1, hk => by
    have ih := both_ok v hv l hl k (by omega)
    unfold bothK
    split
    · exact rook_ok (men_ok ih hl k (by omega)) k (by omega)
    · exact men_ok ih hl k (by omega)
theorem ok_960 (n : Nat) : PosOk (start960N n) := both_ok 1 (by decide) (row7 n) (row7_bd n) 8 (Nat.le_refl 8)
theorem chess_bd (k : Nat) : 0 ≤ chessL k ∧ chessL k < 200 := by unfold chessL; repeat (first | (exact ⟨by decide, by decide⟩) | split)

/-- Two slices with unlike first numbers lie in two blocks. -/
theorem own_ne {w : World} {B : Nat} {v v' : Value} {l l' : List Int} (h : OwnsI w B v l) (h' : OwnsI w B v' l') (h1 : l = [] → v = .slice none 0 0) (h2 : l' = [] → v' = .slice none 0 0) (hd : ∀ x, l[0]? = some x → l'[0]? ≠ some x) :
    v'.ownBlock = none ∨ v'.ownBlock ≠ v.ownBlock := by
  rcases h'.form with ⟨e', _⟩ | ⟨g', c', rfl, _, _, hne', hc', _⟩
  · left; rw [h2 e']; rfl
  · right
    rcases h.form with ⟨e, _⟩ | ⟨g, c, rfl, _, _, hne, hc, _⟩
    · rw [h1 e]; intro h; cases h
    · intro hh
      have hg : g' = g := by injection hh
      subst hg
      have p0 : 0 < l.length := by cases l with | nil => exact absurd rfl hne | cons _ _ => simp
      have p1 : 0 < l'.length := by cases l' with | nil => exact absurd rfl hne' | cons _ _ => simp
      have a := hc 0 p0
      have b := hc' 0 p1
      rw [a] at b
      have e : l[0] = l'[0] := by injection b with b; injection b
      exact hd l[0] (List.getElem?_eq_getElem p0) (by rw [e]; exact List.getElem?_eq_getElem p1)
theorem files_head (l : Nat → Int) (v : Int) : ∀ k x, (filesL l v k)[0]? = some x → l x.toNat = v
  | 0, x, h => by cases h
  | k + 1, x, h => by
    unfold filesL at h
    split at h
    · rename_i hl
      rw [List.getElem?_append] at h
      split at h
      · exact files_head l v k x h
      · have : (0 - (filesL l v k).length) = 0 := by omega
        rw [this] at h
        cases h
        rw [Int.toNat_natCast]; exact hl
    · exact files_head l v k x h
theorem files_apart (l : Nat → Int) (v v' : Int) (hv : v ≠ v') (k : Nat) : ∀ x, (filesL l v k)[0]? = some x → (filesL l v' k)[0]? ≠ some x :=
  fun x h h' => hv ((files_head l v k x h).symm.trans (files_head l v' k x h'))
theorem files_yes {l : Nat → Int} {v : Int} {k : Nat} (h : l k = v) : filesL l v (k + 1) = filesL l v k ++ [(k : Int)] := if_pos h
theorem files_no {l : Nat → Int} {v : Int} {k : Nat} (h : l k ≠ v) : filesL l v (k + 1) = filesL l v k := if_neg h
theorem files_len (l : Nat → Int) (v : Int) : ∀ k, (filesL l v k).length ≤ k
  | 0 => Nat.le_refl 0
  | k + 1 => by
    have := files_len l v k
    unfold filesL
    split
    · rw [List.length_append, List.length_singleton]; omega
    · omega
theorem cntR_le (l : Nat → Int) (v : Int) : ∀ k, cntR l v k ≤ k
  | 0 => Nat.le_refl 0
  | k + 1 => by
    have := cntR_le l v k
    unfold cntR
    split <;> omega
theorem cntL_2 {l : Nat → Int} {k : Nat} (h : l k = 2) : cntL l (k + 1) = (cntL l k).set 2 (((cntR l 2 k : Nat) : Int) + 1) := by
  unfold cntL
  simp [cntR, h]
theorem cntG_2 (l : Nat → Int) (k : Nat) : (cntL l k)[2]? = some ((cntR l 2 k : Nat) : Int) := rfl
theorem cntL_3 {l : Nat → Int} {k : Nat} (h : l k = 3) : cntL l (k + 1) = (cntL l k).set 3 (((cntR l 3 k : Nat) : Int) + 1) := by
  unfold cntL
  simp [cntR, h]
theorem cntG_3 (l : Nat → Int) (k : Nat) : (cntL l k)[3]? = some ((cntR l 3 k : Nat) : Int) := rfl
theorem cntL_4 {l : Nat → Int} {k : Nat} (h : l k = 4) : cntL l (k + 1) = (cntL l k).set 4 (((cntR l 4 k : Nat) : Int) + 1) := by
  unfold cntL
  simp [cntR, h]
theorem cntG_4 (l : Nat → Int) (k : Nat) : (cntL l k)[4]? = some ((cntR l 4 k : Nat) : Int) := rfl
theorem cntL_5 {l : Nat → Int} {k : Nat} (h : l k = 5) : cntL l (k + 1) = (cntL l k).set 5 (((cntR l 5 k : Nat) : Int) + 1) := by
  unfold cntL
  simp [cntR, h]
theorem cntG_5 (l : Nat → Int) (k : Nat) : (cntL l k)[5]? = some ((cntR l 5 k : Nat) : Int) := rfl
theorem cntL_6 {l : Nat → Int} {k : Nat} (h : l k = 6) : cntL l (k + 1) = (cntL l k).set 6 (((cntR l 6 k : Nat) : Int) + 1) := by
  unfold cntL
  simp [cntR, h]
theorem cntG_6 (l : Nat → Int) (k : Nat) : (cntL l k)[6]? = some ((cntR l 6 k : Nat) : Int) := rfl

theorem eq36 (a b : Int) (a0 : -128 ≤ a) (a1 : a ≤ 127) (b0 : -128 ≤ b) (b1 : b ≤ 127) (w : World) : (Op.equalIn 10000 36 (.agg #[.int .i8 a, .int .i8 b]) (.agg #[.int .i8 a, .int .i8 b])).run Try.prog w = .ok true w := by
  have hn : PosOk (upd (upd zeroN 79 a) 80 b) := PosOk.upd (i := 80) (PosOk.upd (i := 79) (fun i hi => by
    have : ∀ i : Fin 88, (Lit.int (kindAt i.val) 0).wf = true := by decide
    exact this ⟨i, hi⟩) (show (Lit.int .i8 a).wf = true from wf_i8_mk a0 a1)) (show (Lit.int .i8 b).wf = true from wf_i8_mk b0 b1)
  have E : EqAt Try.prog (9998 + 2) 36 := run_equalIn_deep 9998 2 36 (by kernel_rfl)
  have f : (Value.agg #[.int .i8 a, .int .i8 b]).formed Try.prog 36 = true := by
    simp only [Value.formed, Try.underlying36, show Try.prog.cellsOf 36 = 2 by kernel_rfl]; rfl
  have ki : ∀ i, i < 2 → Try.prog.underlying 35 = some (.int (kindAt (79 + i))) := by
    intro i hi
    have : kindAt (79 + i) = .i8 := by
      unfold kindAt
      repeat (first | rfl | omega | split)
    rw [this]; exact Try.underlying35
  have K := keys_row _ hn 36 35 79 2 0 (by decide) Try.underlying36 (by kernel_rfl) (by kernel_rfl) ki
  obtain ⟨r, h1, h2⟩ := E w (0 + 2) (0 + 2) (.agg #[.int .i8 a, .int .i8 b]) (.agg #[.int .i8 a, .int .i8 b]) _ _ f f K K
  have : r = true := h2.2 rfl
  rw [this] at h1; exact h1
theorem eq47 : ∀ w, (Op.equalIn 10000 47 (.agg #[.int .i64 0, .int .i64 0, .int .i64 2, .int .i64 2, .int .i64 2, .int .i64 1, .int .i64 1]) (.agg #[.int .i64 0, .int .i64 0, .int .i64 2, .int .i64 2, .int .i64 2, .int .i64 1, .int .i64 1])).run Try.prog w = .ok true w := fun w => by kernel_rfl

theorem two_new (W : World) (t : TypeId) (a b : Value) :
    (W.alloc (.cells #[a, b] t)).drew.cell? ⟨W.heap.size, 0, none⟩ = some a ∧ (W.alloc (.cells #[a, b] t)).drew.cell? ⟨W.heap.size, 1, none⟩ = some b ∧ Below W.heap.size W (W.alloc (.cells #[a, b] t)).drew := by
  have h : (W.alloc (.cells #[a, b] t)).drew.heap[W.heap.size]? = some (.cells #[a, b] t (0, 0)) := heap_alloc_last _ _
  refine ⟨by rw [cell_of_row _ _ _ _ _ _ h]; rfl, by rw [cell_of_row _ _ _ _ _ _ h]; rfl, bl_drew (bl_new (Below.refl _ _) (Nat.le_refl _))⟩

/-- What the law holds while it looks at the home rank. -/
structure St (w0 : World) (g gc : Nat) (P l : Nat → Int) (k : Nat) (r b : Value) (W : World) : Prop where
  pos : PosAt W g P
  cnt : RowI W gc 47 (cntL l k)
  ro : OwnsI W (gc + 1) r (filesL l 4 k)
  bi : OwnsI W (gc + 1) b (filesL l 3 k)
  rn : filesL l 4 k = [] → r = .slice none 0 0
  bn : filesL l 3 k = [] → b = .slice none 0 0
  low : g < gc ∧ w0.heap.size ≤ gc
  below : Below w0.heap.size w0 W
/-- The same, when a piece has been counted. -/
structure St1 (w0 : World) (g gc : Nat) (P l : Nat → Int) (k : Nat) (r b : Value) (W : World) : Prop where
  pos : PosAt W g P
  cnt : RowI W gc 47 (cntL l (k + 1))
  ro : OwnsI W (gc + 1) r (filesL l 4 k)
  bi : OwnsI W (gc + 1) b (filesL l 3 k)
  rn : filesL l 4 k = [] → r = .slice none 0 0
  bn : filesL l 3 k = [] → b = .slice none 0 0
  low : g < gc ∧ w0.heap.size ≤ gc
  below : Below w0.heap.size w0 W
theorem St.count {w0 W : World} {g gc k : Nat} {P l : Nat → Int} {r b : Value} (h : St w0 g gc P l k r b W) (x : Nat) (v : Int) (e : cntL l (k + 1) = (cntL l k).set x v) : St1 w0 g gc P l k r b (W.setCell ⟨gc, x, none⟩ (.int .i64 v)) :=
  ⟨h.pos.other (by have := h.low.1; omega) _, by rw [e]; exact h.cnt.set x v, ownsRow_setCell_below h.ro (by show gc < gc + 1; omega) _, ownsRow_setCell_below h.bi (by show gc < gc + 1; omega) _, h.rn, h.bn, h.low, h.below.setCell h.low.2 _⟩
theorem St1.plain {w0 W : World} {g gc k : Nat} {P l : Nat → Int} {r b : Value} (h : St1 w0 g gc P l k r b W) (h4 : l k ≠ 4) (h3 : l k ≠ 3) : St w0 g gc P l (k + 1) r b W :=
  ⟨h.pos, h.cnt, by rw [files_no h4]; exact h.ro, by rw [files_no h3]; exact h.bi, by rw [files_no h4]; exact h.rn, by rw [files_no h3]; exact h.bn, h.low, h.below⟩
theorem St1.rook {w0 W W' : World} {g gc k : Nat} {P l : Nat → Int} {r b v : Value} {o : Obj} (h : St1 w0 g gc P l k r b W) (h4 : l k = 4)
    (hown : W'.ownsRow (gc + 1) 3 1 v ((filesL l 4 k).length + 1) ((filesL l 4 k).map (Value.int .i64) ++ [.int .i64 (k : Int)])) (hg : (W.alloc o).grownBy W' r.ownBlock) (hnil : v = .slice none 0 0 ↔ r = .slice none 0 0 ∧ (1 : Nat) = 0) : St w0 g gc P l (k + 1) v b W' := by
  have hlt := World.ownsRow.lt h.ro
  have low := h.low
  have hp := h.pos.lt
  have hc := h.cnt.lt
  refine ⟨?_, ?_, ?_, ?_, ?_, ?_, h.low, ?_⟩
  · exact (hg.block g (by simp; omega) (fun e => by have := (hlt g e.symm).1; omega)).trans (h.pos.alloc o)
  · exact (hg.block gc (by simp; omega) (fun e => by have := (hlt gc e.symm).1; omega)).trans (h.cnt.alloc o)
  · rw [files_yes h4]; exact OwnsI.app hown
  · rw [files_no (by omega)]
    exact World.ownsRow.kept (World.ownsRow.alloc h.bi o) hg (own_ne h.ro h.bi h.rn h.bn (files_apart l 4 3 (by decide) k))
  · rw [files_yes h4]; intro e; simp at e
  · rw [files_no (by omega)]; exact h.bn
  · exact (h.below.alloc h.below.size o).grown hg (by have := h.below.size; simp; omega) (fun j hj => by have := (hlt j hj).1; omega)
theorem St1.bishop {w0 W W' : World} {g gc k : Nat} {P l : Nat → Int} {r b v : Value} {o : Obj} (h : St1 w0 g gc P l k r b W) (h3 : l k = 3)
    (hown : W'.ownsRow (gc + 1) 3 1 v ((filesL l 3 k).length + 1) ((filesL l 3 k).map (Value.int .i64) ++ [.int .i64 (k : Int)])) (hg : (W.alloc o).grownBy W' b.ownBlock) (hnil : v = .slice none 0 0 ↔ b = .slice none 0 0 ∧ (1 : Nat) = 0) : St w0 g gc P l (k + 1) r v W' := by
  have hlt := World.ownsRow.lt h.bi
  have low := h.low
  have hp := h.pos.lt
  have hc := h.cnt.lt
  refine ⟨?_, ?_, ?_, ?_, ?_, ?_, h.low, ?_⟩
  · exact (hg.block g (by simp; omega) (fun e => by have := (hlt g e.symm).1; omega)).trans (h.pos.alloc o)
  · exact (hg.block gc (by simp; omega) (fun e => by have := (hlt gc e.symm).1; omega)).trans (h.cnt.alloc o)
  · rw [files_no (by omega)]
    exact World.ownsRow.kept (World.ownsRow.alloc h.ro o) hg (own_ne h.bi h.ro h.bn h.rn (files_apart l 3 4 (by decide) k))
  · rw [files_yes h3]; exact OwnsI.app hown
  · rw [files_no (by omega)]; exact h.rn
  · rw [files_yes h3]; intro e; simp at e
  · exact (h.below.alloc h.below.size o).grown hg (by have := h.below.size; simp; omega) (fun j hj => by have := (hlt j hj).1; omega)

set_option maxRecDepth 100000 in
set_option maxHeartbeats 8000000 in
theorem rules960_walk (a0 a1 : Int) (w0 : (Lit.int .i64 a0).wf = true) (w1 : (Lit.int .i64 a1).wf = true) (w : World) :
    Calls Try.prog 7 #[.int .i64 a0, .int .i64 a1] w fun e w' => e = .returned (.bool true) ∧ Below w.heap.size w w' := by
  have hzp := zeroPos
  obtain ⟨na, hna, hna9⟩ := mod960 a0
  obtain ⟨nb, hnb, hnb9⟩ := mod960 a1
  have HNA := hideIt hna
  have HNB := hideIt hnb
  have EQ := eq960 hna9 hnb9
  have OA := ok_960 na
  have OB := ok_960 nb
  clear hna hnb
  go_enter Try.func7, Try.ntmps7
  go_wp2_with fail
  rw [HNA.out, HNB.out]
  refine (start960_yes na hna9 _).mono ?_
  rintro e Y ⟨rfl, hb⟩
  obtain ⟨P, hP⟩ : ∃ P, start960N na = P := ⟨_, rfl⟩
  obtain ⟨Q, hQ⟩ : ∃ Q, start960N nb = Q := ⟨_, rfl⟩
  rw [hP] at EQ OA ⊢
  rw [hQ] at EQ OB
  have HP := hideIt hP
  have HQ := hideIt hQ
  clear hP hQ
  obtain ⟨V, hV⟩ : ∃ V, (Y.alloc (.cells (posA zeroN) 40)).setRow Y.heap.size (posA P) = V := ⟨_, rfl⟩
  have hV2 : Y.alloc (.cells (posA P) 40) = V := by rw [← hV, World.setRow_alloc_new]
  have p0 : PosAt V Y.heap.size P := by rw [← hV2]; exact PosAt.new Y _
  have hb : Below w.heap.size w V := by rw [← hV2]; exact hb.alloc hb.size _
  obtain ⟨g, hg⟩ : ∃ g, Y.heap.size = g := ⟨_, rfl⟩
  have hwg : w.heap.size ≤ g := by rw [← hg]; exact ‹Below w.heap.size w Y›.size
  rw [hg] at p0
  have HV := hideIt hV
  have HG := hideIt hg
  clear hV hV2 hg
  go_wp2_with (rw [HV.out, HG.out])
  refine (start960_yes nb hnb9 _).mono ?_
  rw [HQ.out]
  rintro e Y2 ⟨rfl, h1⟩
  have p0 := p0.below h1 p0.lt
  have hb := hb.trans (h1.mono hb.size)
  clear h1
  obtain ⟨V2, hV⟩ : ∃ V, (Y2.alloc (.cells (posA zeroN) 40)).setRow Y2.heap.size (posA Q) = V := ⟨_, rfl⟩
  have hV2 : Y2.alloc (.cells (posA Q) 40) = V2 := by rw [← hV, World.setRow_alloc_new]
  have q0 : PosAt V2 Y2.heap.size Q := by rw [← hV2]; exact PosAt.new Y2 _
  have p0 : PosAt V2 g P := by rw [← hV2]; exact p0.alloc _
  have hb : Below w.heap.size w V2 := by rw [← hV2]; exact hb.alloc hb.size _
  obtain ⟨gq, hg⟩ : ∃ g, Y2.heap.size = g := ⟨_, rfl⟩
  rw [hg] at q0
  have HV := hideIt hV
  have HG := hideIt hg
  clear hV hV2 hg
  obtain ⟨i1, r1⟩ := p0.rules
  obtain ⟨i2, r2⟩ := q0.rules
  go_wp2_with (rw [HV.out, HG.out])
  obtain ⟨gc, hgc⟩ : ∃ gc, V2.heap.size = gc := ⟨_, rfl⟩
  obtain ⟨l, hl⟩ : ∃ l, row7 na = l := ⟨_, rfl⟩
  have hbl : ∀ i, 1 ≤ i → i ≤ 64 → P i = bdN l 8 i := fun i h1 h2 => by rw [← HP.out, ← hl]; exact both_bd 1 (row7 na) i h1 h2
  have hli : ∀ f : Fin 8, 2 ≤ l f.val ∧ l f.val ≤ 6 := by rw [← hl]; exact row7_in ⟨na, hna9⟩
  have hct : cntL l 8 = [0, 0, 2, 2, 2, 1, 1] := by rw [← hl]; exact counts960 ⟨na, hna9⟩
  have hok : okL (filesL l 4 8) (filesL l 3 8) (kingF l 8) (P 79) (P 80) (P 81) (P 82) = true := by rw [← hl, ← HP.out]; exact ok960 ⟨na, hna9⟩
  have S0 : St w g gc P l 0 (.slice none 0 0) (.slice none 0 0) (V2.alloc (.cells #[.int .i64 0, .int .i64 0, .int .i64 0, .int .i64 0, .int .i64 0, .int .i64 0, .int .i64 0] 47)) := by
    rw [← hgc]
    exact ⟨p0.alloc _, RowI.new V2 _ [0, 0, 0, 0, 0, 0, 0], World.ownsRow_nil _ _ _ _, World.ownsRow_nil _ _ _ _, fun _ => rfl, fun _ => rfl, ⟨p0.lt, hb.size⟩, hb.alloc hb.size _⟩
  rw [hgc]
  generalize World.alloc V2 _ = V3 at S0 ⊢
  have HBL := hideIt hbl
  have HLI := hideIt hli
  have HCT := hideIt hct
  have HOK := hideIt hok
  clear hbl hli hct hok hl hgc i1 r1 i2 r2 p0 q0 hb EQ OB HV HG
  go_loopw [10, 11, 12, 13] (fun r b kg f wr => ∃ k : Nat, k ≤ 8 ∧ f = .int .i64 k ∧ kg = .int .i64 (kingF l k) ∧ St w g gc P l k r b wr) (fun _ _ _ f _ => 8 - (intOf f).toNat)
  case atStart => exact ⟨0, by omega, rfl, rfl, S0⟩
  case round =>
    clear S0
    obtain ⟨k, hk, rfl, rfl, S⟩ := hrel
    by_cases hlt : k < 8
    · have cx : wr.cell? ⟨g, 1 + k, none⟩ = some (.int .u8 (l k)) := by
        rw [S.pos.board (1 + k) (by omega), HBL.out (1 + k) (by omega) (by omega)]
        unfold bdN
        rw [if_pos (by omega), show 1 + k - 1 = k by omega]
      have cx8 : wr.cell? ⟨g, 1 + (8 + k), none⟩ = some (.int .u8 1) := by
        rw [S.pos.board (1 + (8 + k)) (by omega), HBL.out (1 + (8 + k)) (by omega) (by omega)]
        unfold bdN
        rw [if_neg (by omega), if_pos (by omega)]
      have cx48 : wr.cell? ⟨g, 1 + (48 + k), none⟩ = some (.int .u8 9) := by
        rw [S.pos.board (1 + (48 + k)) (by omega), HBL.out (1 + (48 + k)) (by omega) (by omega)]
        unfold bdN
        rw [if_neg (by omega), if_neg (by omega), if_pos (by omega)]
      have cx56 : wr.cell? ⟨g, 1 + (56 + k), none⟩ = some (.int .u8 (8 + l k)) := by
        rw [S.pos.board (1 + (56 + k)) (by omega), HBL.out (1 + (56 + k)) (by omega) (by omega)]
        unfold bdN
        rw [if_neg (by omega), if_neg (by omega), if_neg (by omega), if_pos (by omega), show 1 + (56 + k) - 57 = k by omega]
      obtain ⟨y0, y1⟩ := HLI.out ⟨k, hlt⟩
      simp only at y0 y1
      have hx : l k = 2 ∨ l k = 3 ∨ l k = 4 ∨ l k = 5 ∨ l k = 6 := by omega
      rcases hx with hx | hx | hx | hx | hx
      · have hl2 := hx
        have Hc := hideIt (cntL_2 hx)
        obtain ⟨c, hc⟩ : ∃ c : Nat, cntR l 2 k = c := ⟨_, rfl⟩
        have lc : c ≤ 8 := by have := cntR_le l 2 k; omega
        have cc := S.cnt.cell 2 _ (cntG_2 l k)
        rw [hc] at cc Hc
        have cf := S.cnt.free 2
        have S1 := S.count 2 ((c : Int) + 1) Hc.out
        have HX := hideIt hx
        rw [hx] at cx cx56
        clear hx hl2 hc y0 y1 S
        have S2 := hideIt (S1.plain (by rw [HX.out]; decide) (by rw [HX.out]; decide))
        have HK := hideIt (show kingF l (k + 1) = kingF l k from if_neg (by rw [HX.out]; decide))
        clear S1
        go_wp2
        go_roundw
        case rel => exact ⟨k + 1, by omega, by go_num, by rw [HK.out], S2.out⟩
        case measure => simp [intOf]; omega
      · have hl3 := hx
        have Hc := hideIt (cntL_3 hx)
        obtain ⟨c, hc⟩ : ∃ c : Nat, cntR l 3 k = c := ⟨_, rfl⟩
        have lc : c ≤ 8 := by have := cntR_le l 3 k; omega
        have cc := S.cnt.cell 3 _ (cntG_3 l k)
        rw [hc] at cc Hc
        have cf := S.cnt.free 3
        have S1 := S.count 3 ((c : Int) + 1) Hc.out
        have HX := hideIt hx
        rw [hx] at cx cx56
        clear hx hl3 hc y0 y1 S
        have HK := hideIt (show kingF l (k + 1) = kingF l k from if_neg (by rw [HX.out]; decide))
        obtain ⟨W1, hW1⟩ : ∃ W1, wr.setCell ⟨gc, 3, none⟩ (.int .i64 ((c : Int) + 1)) = W1 := ⟨_, rfl⟩
        rw [hW1] at S1
        have HW1 := hideIt hW1
        have hown := S1.bi
        have hll : (filesL l 3 k).length ≤ 8 := by have := files_len l 3 k; omega
        have hbs : gc + 1 ≤ W1.heap.size := by have := S1.cnt.lt; omega
        have HS1 := hideIt S1
        obtain ⟨i0, hi, hz0, hz1, hz2⟩ := info_parts Try.infoI
        clear hW1 S1
        go_wp2_with (first | rw [HW1.out] | (at_builtin; refine wpList_append_own _ rfl _ _ 48 rfl (gc + 1) 3 i0 (.int .i64 0) 1 8 Try.underlying48 hi hz0 hz1 hz2 rfl (by decide) _ _ _ rfl (World.ownsRow.alloc hown _) ⟨W1.heap.size, 0, none⟩ 1 1 [.int .i64 (k : Int)] rfl rfl (cell_one_new _ _ _) (fun x hx => by simp at hx; subst hx; rfl) (by unfold maxLen; omega) (by omega) (by simp; omega) ?_; intro v' w3 hown' hgrow3 hnil3; have S2 := hideIt (HS1.out.bishop HX.out hown' hgrow3 hnil3); clear hown' hgrow3 hnil3))
        go_roundw
        case rel => exact ⟨k + 1, by omega, by go_num, by rw [HK.out], S2.out⟩
        case measure => simp [intOf]; omega
      · have hl4 := hx
        have Hc := hideIt (cntL_4 hx)
        obtain ⟨c, hc⟩ : ∃ c : Nat, cntR l 4 k = c := ⟨_, rfl⟩
        have lc : c ≤ 8 := by have := cntR_le l 4 k; omega
        have cc := S.cnt.cell 4 _ (cntG_4 l k)
        rw [hc] at cc Hc
        have cf := S.cnt.free 4
        have S1 := S.count 4 ((c : Int) + 1) Hc.out
        have HX := hideIt hx
        rw [hx] at cx cx56
        clear hx hl4 hc y0 y1 S
        have HK := hideIt (show kingF l (k + 1) = kingF l k from if_neg (by rw [HX.out]; decide))
        obtain ⟨W1, hW1⟩ : ∃ W1, wr.setCell ⟨gc, 4, none⟩ (.int .i64 ((c : Int) + 1)) = W1 := ⟨_, rfl⟩
        rw [hW1] at S1
        have HW1 := hideIt hW1
        have hown := S1.ro
        have hll : (filesL l 4 k).length ≤ 8 := by have := files_len l 4 k; omega
        have hbs : gc + 1 ≤ W1.heap.size := by have := S1.cnt.lt; omega
        have HS1 := hideIt S1
        obtain ⟨i0, hi, hz0, hz1, hz2⟩ := info_parts Try.infoI
        clear hW1 S1
        go_wp2_with (first | rw [HW1.out] | (at_builtin; refine wpList_append_own _ rfl _ _ 48 rfl (gc + 1) 3 i0 (.int .i64 0) 1 8 Try.underlying48 hi hz0 hz1 hz2 rfl (by decide) _ _ _ rfl (World.ownsRow.alloc hown _) ⟨W1.heap.size, 0, none⟩ 1 1 [.int .i64 (k : Int)] rfl rfl (cell_one_new _ _ _) (fun x hx => by simp at hx; subst hx; rfl) (by unfold maxLen; omega) (by omega) (by simp; omega) ?_; intro v' w3 hown' hgrow3 hnil3; have S2 := hideIt (HS1.out.rook HX.out hown' hgrow3 hnil3); clear hown' hgrow3 hnil3))
        go_roundw
        case rel => exact ⟨k + 1, by omega, by go_num, by rw [HK.out], S2.out⟩
        case measure => simp [intOf]; omega
      · have hl5 := hx
        have Hc := hideIt (cntL_5 hx)
        obtain ⟨c, hc⟩ : ∃ c : Nat, cntR l 5 k = c := ⟨_, rfl⟩
        have lc : c ≤ 8 := by have := cntR_le l 5 k; omega
        have cc := S.cnt.cell 5 _ (cntG_5 l k)
        rw [hc] at cc Hc
        have cf := S.cnt.free 5
        have S1 := S.count 5 ((c : Int) + 1) Hc.out
        have HX := hideIt hx
        rw [hx] at cx cx56
        clear hx hl5 hc y0 y1 S
        have S2 := hideIt (S1.plain (by rw [HX.out]; decide) (by rw [HX.out]; decide))
        have HK := hideIt (show kingF l (k + 1) = kingF l k from if_neg (by rw [HX.out]; decide))
        clear S1
        go_wp2
        go_roundw
        case rel => exact ⟨k + 1, by omega, by go_num, by rw [HK.out], S2.out⟩
        case measure => simp [intOf]; omega
      · have hl6 := hx
        have Hc := hideIt (cntL_6 hx)
        obtain ⟨c, hc⟩ : ∃ c : Nat, cntR l 6 k = c := ⟨_, rfl⟩
        have lc : c ≤ 8 := by have := cntR_le l 6 k; omega
        have cc := S.cnt.cell 6 _ (cntG_6 l k)
        rw [hc] at cc Hc
        have cf := S.cnt.free 6
        have S1 := S.count 6 ((c : Int) + 1) Hc.out
        have HX := hideIt hx
        rw [hx] at cx cx56
        clear hx hl6 hc y0 y1 S
        have S2 := hideIt (S1.plain (by rw [HX.out]; decide) (by rw [HX.out]; decide))
        have HK := hideIt (show kingF l (k + 1) = (k : Int) from if_pos HX.out)
        clear S1
        go_wp2
        go_roundw
        case rel => exact ⟨k + 1, by omega, by go_num, by rw [HK.out], S2.out⟩
        case measure => simp [intOf]; omega
    · obtain rfl : k = 8 := by omega
      obtain ⟨r0, r1, b0, b1, hR, hB, o1, o2, o3, o4, o5, o6, o7, o8, o9, q1, q2, q3, q4⟩ := ok_out HOK.out
      have hcn := S.cnt
      rw [HCT.out] at hcn
      have hro := S.ro
      have hbi := S.bi
      have hpos := S.pos
      have hbel := S.below
      rw [hR] at hro
      rw [hB] at hbi
      have hz : ∀ j : Nat, 16 ≤ j → j < 48 → P (1 + j) = 0 := by
        intro j h1 h2
        rw [HBL.out (1 + j) (by omega) (by omega)]
        unfold bdN
        rw [if_neg (by omega), if_neg (by omega), if_neg (by omega), if_neg (by omega)]
      have HZ := hideIt hz
      generalize kingF l 8 = kg at o2 o3
      rcases hro.form with ⟨h0, _⟩ | ⟨gr, cr, rfl, _, _, _, hcr, _⟩
      · cases h0
      rcases hbi.form with ⟨h0, _⟩ | ⟨gb, cb, rfl, _, _, _, hcb, _⟩
      · cases h0
      have d0 : wr.cell? ⟨gr, 0, none⟩ = some (.int .i64 r0) := hcr 0 (by decide : 0 < 2)
      have d1 : wr.cell? ⟨gr, 1, none⟩ = some (.int .i64 r1) := hcr 1 (by decide : 1 < 2)
      have d2 : wr.cell? ⟨gb, 0, none⟩ = some (.int .i64 b0) := hcb 0 (by decide : 0 < 2)
      have d3 : wr.cell? ⟨gb, 1, none⟩ = some (.int .i64 b1) := hcb 1 (by decide : 1 < 2)
      have n0 := hcn.cell 0 0 rfl
      have n1 := hcn.cell 1 0 rfl
      have n2 := hcn.cell 2 2 rfl
      have n3 := hcn.cell 3 2 rfl
      have n4 := hcn.cell 4 2 rfl
      have n5 := hcn.cell 5 1 rfl
      have n6 := hcn.cell 6 1 rfl
      have p79 : wr.cell? ⟨g, 79, none⟩ = some (.int .i8 r1) := by rw [hpos.cell 79 (by decide), q1]; rfl
      have p80 : wr.cell? ⟨g, 80, none⟩ = some (.int .i8 r0) := by rw [hpos.cell 80 (by decide), q2]; rfl
      have p81 : wr.cell? ⟨g, 81, none⟩ = some (.int .i8 r1) := by rw [hpos.cell 81 (by decide), q3]; rfl
      have p82 : wr.cell? ⟨g, 82, none⟩ = some (.int .i8 r0) := by rw [hpos.cell 82 (by decide), q4]; rfl
      clear S hR hB hcn hro hbi hz hcr hcb q1 q2 q3 q4 HBL HLI HCT HOK
      have HP79 := hideIt p79
      go_wp2
      go_loop [15] (fun i => ∃ j : Nat, 16 ≤ j ∧ j ≤ 48 ∧ i = .int .i64 j) (fun i => 48 - (intOf i).toNat)
      case atStart => exact ⟨16, by omega, by omega, rfl⟩
      case round =>
        obtain ⟨j, hj0, hj1, rfl⟩ := hrel
        by_cases hj : j < 48
        · have cj : wr.cell? ⟨g, 1 + j, none⟩ = some (.int .u8 0) := by rw [hpos.board (1 + j) (by omega), HZ.out j hj0 hj]
          go_wp2
          go_round
          case rel => exact ⟨j + 1, by omega, by omega, by go_num⟩
          case measure => simp [intOf]; omega
        · have E1 := eq47
          have E2 := eq36 r1 r0 (by omega) (by omega) (by omega) (by omega)
          have w1 : IntKind.i64.wrap (b0 + b1) = b0 + b1 := IntWalk.i64_in _ (by omega)
          have w2 : (b0 + b1).tmod 2 = (b0 + b1) % 2 := Int.tmod_eq_emod_of_nonneg (by omega)
          have w3 : ((b0 + b1) % 2 == 0) = false := beq_eq_false_iff_ne.2 (by omega)
          have w4 : decide (kg < r0) = false := decide_eq_false (by omega)
          have w5 : decide (r1 < kg) = false := decide_eq_false (by omega)
          have w6 : IntKind.i8.wrap r1 = r1 := by
            obtain ⟨m, rfl⟩ : ∃ m : Nat, r1 = m := ⟨r1.toNat, by omega⟩
            exact i8_small ⟨m, by omega⟩
          have w7 : IntKind.i8.wrap r0 = r0 := by
            obtain ⟨m, rfl⟩ : ∃ m : Nat, r0 = m := ⟨r0.toNat, by omega⟩
            exact i8_small ⟨m, by omega⟩
          go_wp2
          go_quiet (fail)
          clear HZ hj0 hj1 hj w1 w2 w3 w4 w5 E1 n0 n1 n2 n3 n4 n5 n6 d2 d3
          go_upto_region 31 with fail
          generalize hW : World.drewN wr _ = W
          have d0 : W.cell? ⟨gr, 0, none⟩ = some (.int .i64 r0) := by rw [← hW]; exact d0
          have d1 : W.cell? ⟨gr, 1, none⟩ = some (.int .i64 r1) := by rw [← hW]; exact d1
          have p79 : W.cell? ⟨g, 79, none⟩ = some (.int .i8 r1) := by rw [← hW]; exact p79
          have p80 : W.cell? ⟨g, 80, none⟩ = some (.int .i8 r0) := by rw [← hW]; exact p80
          have p81 : W.cell? ⟨g, 81, none⟩ = some (.int .i8 r1) := by rw [← hW]; exact p81
          have p82 : W.cell? ⟨g, 82, none⟩ = some (.int .i8 r0) := by rw [← hW]; exact p82
          have hbel : Below w.heap.size w W := by rw [← hW]; exact hbel.trans ⟨rfl, rfl, rfl, Nat.le_refl _, fun _ _ => rfl⟩
          clear hW HP79 hpos
          have d0a : ∀ o, (W.drew.alloc o).cell? ⟨gr, 0, none⟩ = some (.int .i64 r0) := fun o => by rw [World.cell?_alloc_some W.drew _ o (by rw [show W.drew.cell? _ = _ from d0]; rfl)]; exact d0
          have d1a : ∀ o, (W.drew.alloc o).cell? ⟨gr, 1, none⟩ = some (.int .i64 r1) := fun o => by rw [World.cell?_alloc_some W.drew _ o (by rw [show W.drew.cell? _ = _ from d1]; rfl)]; exact d1
          have d0b : ∀ o, (W.alloc o).cell? ⟨gr, 0, none⟩ = some (.int .i64 r0) := fun o => by rw [World.cell?_alloc_some W _ o (by rw [d0]; rfl)]; exact d0
          have d1b : ∀ o, (W.alloc o).cell? ⟨gr, 1, none⟩ = some (.int .i64 r1) := fun o => by rw [World.cell?_alloc_some W _ o (by rw [d1]; rfl)]; exact d1
          go_cut [16] (fun s16 wx => ∃ gw : Nat, s16 = .pointer (some { block := gw, off := 0 }) ∧ wx.cell? ⟨gw, 0, none⟩ = some (.int .i8 r1) ∧ wx.cell? ⟨gw, 1, none⟩ = some (.int .i8 r0) ∧ Below W.heap.size W wx)
          case first =>
            go_region_with (fail)
            all_goals
              go_wp2_with fail
              go_meet
              exact ⟨_, rfl, (two_new W _ _ _).1, (two_new W _ _ _).2.1, (two_new W _ _ _).2.2⟩
          case rest =>
            obtain ⟨gw, rfl, x0, x1, hq⟩ := hcut
            have hgl := World.block_lt_of_cell? _ _ p79
            have p79 := (hq.cell (p := ⟨g, 79, none⟩) hgl).trans p79
            have p80 := (hq.cell (p := ⟨g, 80, none⟩) hgl).trans p80
            have p81 := (hq.cell (p := ⟨g, 81, none⟩) hgl).trans p81
            have p82 := (hq.cell (p := ⟨g, 82, none⟩) hgl).trans p82
            have hb := hbel.trans (hq.mono hbel.size)
            clear d0 d1 d0a d1a d0b d1b hq hbel
            go_wp2_with fail
            refine (start_any 0 (by decide) _).mono ?_
            rw [show startN 0 = bothN 0 chessL from rfl]
            rintro e Y3 ⟨rfl, h1⟩
            have hb := hb.trans (h1.mono hb.size)
            clear h1 x0 x1 p79 p80 p81 p82 hgl
            obtain ⟨V5, hV⟩ : ∃ V, (Y3.alloc (.cells (posA zeroN) 40)).setRow Y3.heap.size (posA (bothN 0 chessL)) = V := ⟨_, rfl⟩
            have hV2 : Y3.alloc (.cells (posA (bothN 0 chessL)) 40) = V5 := by rw [← hV, World.setRow_alloc_new]
            have px : PosAt V5 Y3.heap.size (bothN 0 chessL) := by rw [← hV2]; exact PosAt.new Y3 _
            have hb : Below w.heap.size w V5 := by rw [← hV2]; exact hb.alloc hb.size _
            obtain ⟨gx, hg⟩ : ∃ g, Y3.heap.size = g := ⟨_, rfl⟩
            rw [hg] at px
            have HV := hideIt hV
            have HG := hideIt hg
            clear hV hV2 hg
            go_wp2_with (rw [HV.out, HG.out])
            refine (start960_yes 518 (by decide) _).mono ?_
            rintro e Y4 ⟨rfl, h1⟩
            have px := px.below h1 px.lt
            have hb := hb.trans (h1.mono hb.size)
            clear h1 HV HG
            obtain ⟨V6, hV⟩ : ∃ V, (Y4.alloc (.cells (posA zeroN) 40)).setRow Y4.heap.size (posA (start960N 518)) = V := ⟨_, rfl⟩
            have hV2 : Y4.alloc (.cells (posA (start960N 518)) 40) = V6 := by rw [← hV, World.setRow_alloc_new]
            have py : PosAt V6 Y4.heap.size (start960N 518) := by rw [← hV2]; exact PosAt.new Y4 _
            have px : PosAt V6 gx (bothN 0 chessL) := by rw [← hV2]; exact px.alloc _
            have hn : gx ≠ Y4.heap.size := by
              intro e
              have h1 := px.cell 0 (by decide)
              rw [e, py.cell 0 (by decide)] at h1
              have : (start960N 518 0) = bothN 0 chessL 0 := by injection h1 with h1; injection h1
              revert this; decide +kernel
            have hs := hb.size
            have hb : Below w.heap.size w V6 := by rw [← hV2]; exact hb.alloc hb.size _
            obtain ⟨gy, hg⟩ : ∃ g, Y4.heap.size = g := ⟨_, rfl⟩
            rw [hg] at py hn hs
            have c0 := py.cell 0 (by decide)
            rw [show kindAt 0 = IntKind.u8 from rfl] at c0
            have f0 := py.free 0
            have py2 := py.setB 0 (by decide) 0
            have px2 := px.other (i := 0) (fun e => hn e.symm) (.int .u8 0)
            have hb2 := hb.setCell (p := ⟨gy, 0, none⟩) hs (.int .u8 0)
            obtain ⟨i5, r5⟩ := px2.rules
            obtain ⟨i6, r6⟩ := py2.rules
            have HV := hideIt hV
            have HG := hideIt hg
            have EE : eqP (bothN 0 chessL) (upd (start960N 518) 0 0) = true := (eqP_iff _ _).2 fun i hi => std518 ⟨i, hi⟩
            have O1 : PosOk (bothN 0 chessL) := both_ok 0 (by decide) chessL chess_bd 8 (Nat.le_refl 8)
            have O2 : PosOk (upd (start960N 518) 0 0) := (ok_960 518).upd (i := 0) (by decide)
            clear hV hV2 hg hn hs px py
            go_wp2_with (rw [HV.out, HG.out])
            refine (awake_any _).mono ?_
            rintro e w9 ⟨rfl, h1⟩
            have hb3 := hb2.trans (h1.mono hb2.size)
            clear h1
            go_wp2
            go_ret
            exact ⟨rfl, hb3⟩

end Go.Proofs.Ytpheapolijhgjaa
