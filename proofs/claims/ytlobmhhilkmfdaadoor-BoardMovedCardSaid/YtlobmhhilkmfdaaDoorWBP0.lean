/- The walk of BoardPut. -/
import Derived.Test.YtlobmhhilkmfdaaDoorWBoardAt
import Derived.Deep.RegionHeld3
import Derived.Deep.DeepCutAuto
namespace Go.Proofs.YtlobmhhilkmfdaaDoor
open Go Go.RowKit

theorem at_upd (n : Nat → Int) (s x : Int) (h0 : 0 ≤ s) (h1 : s < 64) (hz : x = 0 ∨ isB x = true) : atN (upd n (1 + s.toNat) x) s = x := by
  unfold atN
  have e : upd n (1 + s.toNat) x (1 + s.toNat) = x := if_pos rfl
  rw [e]
  rcases hz with rfl | h
  · split <;> rfl
  · rw [if_pos ⟨h0, h1, h⟩]
theorem at_other (n : Nat → Int) (s t x : Int) (h0 : 0 ≤ s) (ht : t ≠ s) : atN (upd n (1 + s.toNat) x) t = atN n t := by
  unfold atN
  by_cases h : 0 ≤ t ∧ t < 64
  · have e : upd n (1 + s.toNat) x (1 + t.toNat) = n (1 + t.toNat) := if_neg (by omega)
    rw [e]
  · rw [if_neg (fun hh => h ⟨hh.1, hh.2.1⟩), if_neg (fun hh => h ⟨hh.1, hh.2.1⟩)]
theorem put_eq (n : Nat → Int) (s x : Int) (h0 : 0 ≤ s) (h1 : s < 64) (hz : x = 0 ∨ isB x = true) : putN n s x = upd n (1 + s.toNat) x := by
  unfold putN putOk
  rw [decide_eq_true ⟨h0, h1⟩]
  rcases hz with rfl | h
  · rfl
  · rw [h, Bool.or_true]; rfl
theorem at_ok (n : Nat → Int) (s : Int) : atN n s = 0 ∨ isB (atN n s) = true := by
  unfold atN
  split
  · rename_i h; exact .inr h.2.2
  · exact .inl rfl
theorem put_back (n : Nat → Int) (s x : Int) (h0 : 0 ≤ s) (h1 : s < 64) : upd (putN (upd n (1 + s.toNat) x) s (atN n s)) (1 + s.toNat) (n (1 + s.toNat)) = n := by
  rw [put_eq _ s _ h0 h1 (at_ok n s)]
  funext i
  unfold upd
  by_cases e : i = 1 + s.toNat
  · rw [if_pos e, e]
  · rw [if_neg e, if_neg e, if_neg e]
theorem put_none (n : Nat → Int) (s x : Int) (h : ¬ (0 ≤ s ∧ s < 64) ∨ (x ≠ 0 ∧ isB x = false)) : putN n s x = n := by
  unfold putN putOk
  rcases h with h | ⟨h1, h2⟩
  · rw [decide_eq_false h]; rfl
  · rw [beq_eq_false_iff_ne.2 h1, h2, Bool.or_false, Bool.and_false]; rfl

set_option maxHeartbeats 4000000 in
theorem boardPut_no (n : Nat → Int) (a1 a2 a3 : Int) (w0 : PosOk n) (x0 : 0 ≤ a3) (x1 : a3 ≤ 255) (h : a1 < 0 ∨ (0 ≤ a1 ∧ 63 < a1) ∨ (0 ≤ a1 ∧ a1 ≤ 63 ∧ a3 ≠ 0 ∧ isB a3 = false)) (w : World) (hT : Tab w) :
    Calls Tryd.prog 7 #[.agg (posA n), .int .i64 a1, .int .i64 a2, .int .u8 a3] w fun e w' => e = .returned (.bool true) ∧ Below w.heap.size w w' := by
  have hno : ¬ (0 ≤ a1 ∧ a1 < 64) ∨ (a3 ≠ 0 ∧ isB a3 = false) := by
    rcases h with h | h | h
    · exact .inl (by omega)
    · exact .inl (by omega)
    · exact .inr h.2.2
  have E := hideIt (put_none n a1 a3 hno)
  clear hno
  have E1 := eqP_self n
  obtain ⟨X, hX⟩ : ∃ X, w.alloc (.cells (posA n) 31) = X := ⟨_, rfl⟩
  obtain ⟨p0, hb⟩ := box1 w n X hX
  have HX := hideIt hX
  have hT := hT.below hb (Nat.le_refl _)
  have hzp := zeroPos
  clear hX
  rcases h with h | ⟨h, h'⟩ | ⟨h, h', hz, hi⟩
  · go_enter Tryd.func7, Tryd.ntmps7
    go_wp2_with (first | rw [HX.out])
    refine (awake_any _ hT).mono ?_
    rintro e w1 ⟨rfl, h1⟩
    have p0 := p0.below h1 p0.lt
    have hb := hb.trans (h1.mono hb.size)
    clear h1 hT
    obtain ⟨i0, r0⟩ := p0.rules
    go_wp2_with fail
    refine (bput_any n a1 a3 x0 x1 _).mono ?_
    rw [E.out]
    rintro e Z ⟨rfl, h1⟩
    have p0 := p0.below h1 p0.lt
    have hb := hb.trans (h1.mono hb.size)
    clear h1 i0 r0
    obtain ⟨V, hV⟩ : ∃ V, (Z.alloc (.cells (posA zeroN) 31)).setRow Z.heap.size (posA n) = V := ⟨_, rfl⟩
    have hV2 : Z.alloc (.cells (posA n) 31) = V := by rw [← hV, World.setRow_alloc_new]
    have pa : PosAt V w.heap.size n := by rw [← hV2]; exact p0.alloc _
    have pq : PosAt V Z.heap.size n := by rw [← hV2]; exact PosAt.new Z n
    have hb : Below w.heap.size w V := by rw [← hV2]; exact hb.alloc hb.size _
    obtain ⟨i0, r0⟩ := pa.rules
    obtain ⟨i1, r1⟩ := pq.rules
    have HV := hideIt hV
    clear hV hV2
    go_wp2_with (first | rw [HV.out])
    go_ret
    exact ⟨rfl, hb⟩
  · go_enter Tryd.func7, Tryd.ntmps7
    go_wp2_with (first | rw [HX.out])
    refine (awake_any _ hT).mono ?_
    rintro e w1 ⟨rfl, h1⟩
    have p0 := p0.below h1 p0.lt
    have hb := hb.trans (h1.mono hb.size)
    clear h1 hT
    obtain ⟨i0, r0⟩ := p0.rules
    go_wp2_with fail
    refine (bput_any n a1 a3 x0 x1 _).mono ?_
    rw [E.out]
    rintro e Z ⟨rfl, h1⟩
    have p0 := p0.below h1 p0.lt
    have hb := hb.trans (h1.mono hb.size)
    clear h1 i0 r0
    obtain ⟨V, hV⟩ : ∃ V, (Z.alloc (.cells (posA zeroN) 31)).setRow Z.heap.size (posA n) = V := ⟨_, rfl⟩
    have hV2 : Z.alloc (.cells (posA n) 31) = V := by rw [← hV, World.setRow_alloc_new]
    have pa : PosAt V w.heap.size n := by rw [← hV2]; exact p0.alloc _
    have pq : PosAt V Z.heap.size n := by rw [← hV2]; exact PosAt.new Z n
    have hb : Below w.heap.size w V := by rw [← hV2]; exact hb.alloc hb.size _
    obtain ⟨i0, r0⟩ := pa.rules
    obtain ⟨i1, r1⟩ := pq.rules
    have HV := hideIt hV
    clear hV hV2
    go_wp2_with (first | rw [HV.out])
    go_ret
    exact ⟨rfl, hb⟩
  · have z : (a3 != 0) = true := by rw [bne, beq_eq_false_iff_ne.2 hz]; rfl
    have HI := hideIt hi
    clear hz hi
    go_enter Tryd.func7, Tryd.ntmps7
    go_wp2_with (first | rw [HX.out])
    refine (awake_any _ hT).mono ?_
    rintro e w1 ⟨rfl, h1⟩
    have p0 := p0.below h1 p0.lt
    have hb := hb.trans (h1.mono hb.size)
    clear h1 hT
    obtain ⟨i0, r0⟩ := p0.rules
    go_wp2_with fail
    refine (bput_any n a1 a3 x0 x1 _).mono ?_
    rw [E.out]
    rintro e Z ⟨rfl, h1⟩
    have p0 := p0.below h1 p0.lt
    have hb := hb.trans (h1.mono hb.size)
    clear h1 i0 r0
    obtain ⟨V, hV⟩ : ∃ V, (Z.alloc (.cells (posA zeroN) 31)).setRow Z.heap.size (posA n) = V := ⟨_, rfl⟩
    have hV2 : Z.alloc (.cells (posA n) 31) = V := by rw [← hV, World.setRow_alloc_new]
    have pa : PosAt V w.heap.size n := by rw [← hV2]; exact p0.alloc _
    have pq : PosAt V Z.heap.size n := by rw [← hV2]; exact PosAt.new Z n
    have hb : Below w.heap.size w V := by rw [← hV2]; exact hb.alloc hb.size _
    obtain ⟨i0, r0⟩ := pa.rules
    obtain ⟨i1, r1⟩ := pq.rules
    have HV := hideIt hV
    clear hV hV2
    go_wp2_with (first | rw [HV.out] | (go_at_call 23; refine (is_any a3 x0 x1 _).mono ?_; rintro e w2 ⟨rfl, rfl⟩; rw [HI.out]))
    go_ret
    exact ⟨rfl, hb⟩

@[go_sem] theorem isPos_drew (w : World) (g : Nat) : IsPos w.drew g = IsPos w g := rfl
@[go_sem] theorem rowOf_drew (w : World) (g : Nat) : rowOf w.drew g = rowOf w g := rfl
@[go_sem] theorem isPos_keep {w : World} {g : Nat} (o : Obj) (h : IsPos w g) : IsPos (w.alloc o) g := by
  obtain ⟨n, hn⟩ := h
  exact ⟨n, hn.alloc o⟩
@[go_sem] theorem rowOf_keep {w : World} {g : Nat} (o : Obj) (h : IsPos w g) : rowOf (w.alloc o) g = rowOf w g := by
  obtain ⟨n, hn⟩ := h
  exact (hn.alloc o).row.trans hn.row.symm
theorem below_or {U W : World} {g : Nat} {n : Nat → Int} (h : PosAt U g n) (hb : Below U.heap.size U W) : PosAt W g n := h.below hb h.lt
theorem below_orD {U W : World} {g : Nat} {n : Nat → Int} (h : PosAt U g n) (hb : Below U.drew.heap.size U.drew W) : PosAt W g n := PosAt.below (w := U.drew) h hb h.lt
theorem below_orA {U W : World} {o : Obj} {g : Nat} {n : Nat → Int} (h : PosAt U g n) (hb : Below (U.alloc o).heap.size (U.alloc o) W) : PosAt W g n := below_or (h.alloc o) hb
theorem below_orAD {U W : World} {o : Obj} {g : Nat} {n : Nat → Int} (h : PosAt U g n) (hb : Below (U.alloc o).drew.heap.size (U.alloc o).drew W) : PosAt W g n := below_orD (h.alloc o) hb
theorem below_newA {U W : World} {n : Nat → Int} (hb : Below (U.alloc (.cells (posA n) 31)).heap.size (U.alloc (.cells (posA n) 31)) W) : PosAt W U.heap.size n := below_or (PosAt.new U n) hb
theorem below_newAD {U W : World} {n : Nat → Int} (hb : Below (U.alloc (.cells (posA n) 31)).drew.heap.size (U.alloc (.cells (posA n) 31)).drew W) : PosAt W U.heap.size n := below_orD (PosAt.new U n) hb
theorem keep2 {X W : World} {g q : Nat} {n m : Nat → Int} (h : PosAt X g n) (k : PosAt X q m) (hb : Below X.heap.size X W) : (IsPos W g ∧ rowOf W g = posA n) ∧ (IsPos W q ∧ rowOf W q = posA m) ∧ Below X.heap.size X W := ⟨(h.below hb h.lt).rules, (k.below hb k.lt).rules, hb⟩
theorem want_put {x : Int} (h : isB x = true) : wantB x (colI x) (kndI x) = true := by
  unfold wantB
  rw [isB_pos h, beq_self_eq_true, beq_self_eq_true, Bool.or_true]; rfl

end Go.Proofs.YtlobmhhilkmfdaaDoor
