/- The walk of RulesCounts. -/
import Derived.Test.YtpheapolijhgjaaAw7
import Derived.Test.YtpheapolijhgjaaKI
namespace Go.Proofs.Ytpheapolijhgjaa
open Go Go.RowKit
set_option linter.unusedVariables false

/-- How many of the first k squares hold something of which p is true. -/
def cntK (p : Int → Bool) (n : Nat → Int) : Nat → Nat
  | 0 => 0
  | k + 1 => if p (n (1 + k)) = true then cntK p n k + 1 else cntK p n k
theorem cntK_le (p : Int → Bool) (n : Nat → Int) : ∀ k, cntK p n k ≤ k
  | 0 => Nat.le_refl 0
  | k + 1 => by
    have := cntK_le p n k
    unfold cntK
    split <;> omega
def manP (c : Int) (x : Int) : Bool := x != 0 && x / 8 == c
def kingP (c : Int) (x : Int) : Bool := x != 0 && x / 8 == c && x % 8 == 6
theorem start_facts : ∀ v : Fin 9, startN v.val 0 = v.val ∧ startN v.val 78 = 0 ∧ startN v.val 83 = -1 ∧ startN v.val 86 = 0 ∧ startN v.val 87 = 1 ∧ startN v.val 65 = 0 ∧ startN v.val 84 = 0 ∧ startN v.val 85 = 0 := by decide +kernel
theorem start_pockets : ∀ v : Fin 9, ∀ i : Fin 12, startN v.val (66 + i.val) = 0 := by decide +kernel
theorem start_board : ∀ v : Fin 9, ∀ s : Fin 64, 0 ≤ startN v.val (1 + s.val) ∧ startN v.val (1 + s.val) < 16 := by decide +kernel
theorem start_counts : ∀ v : Fin 9, cntK (manP 0) (startN v.val) 64 = (if v.val = 7 then 36 else if v.val = 8 then 8 else 16) ∧ cntK (manP 1) (startN v.val) 64 = (if v.val = 8 then 8 else 16) ∧ cntK (kingP 1) (startN v.val) 64 = 1 ∧ cntK (kingP 0) (startN v.val) 64 = (if v.val = 7 then 0 else 1) := by decide +kernel

theorem eq38 : ∀ w, (Op.equalIn 10000 38 (.agg #[.int .u8 0, .int .u8 0]) (.agg #[.int .u8 0, .int .u8 0])).run Try.prog w = .ok true w := fun w => by kernel_rfl
theorem eq34 : ∀ w, (Op.equalIn 10000 34 (.agg #[.int .u8 0, .int .u8 0, .int .u8 0, .int .u8 0, .int .u8 0, .int .u8 0, .int .u8 0, .int .u8 0, .int .u8 0, .int .u8 0, .int .u8 0, .int .u8 0]) (.agg #[.int .u8 0, .int .u8 0, .int .u8 0, .int .u8 0, .int .u8 0, .int .u8 0, .int .u8 0, .int .u8 0, .int .u8 0, .int .u8 0, .int .u8 0, .int .u8 0])).run Try.prog w = .ok true w := fun w => by kernel_rfl

theorem eq50 : (∀ w, (Op.equalIn 10000 50 (.agg #[.int .i64 36, .int .i64 16]) (.agg #[.int .i64 36, .int .i64 16])).run Try.prog w = .ok true w) ∧ (∀ w, (Op.equalIn 10000 50 (.agg #[.int .i64 8, .int .i64 8]) (.agg #[.int .i64 8, .int .i64 8])).run Try.prog w = .ok true w) ∧ (∀ w, (Op.equalIn 10000 50 (.agg #[.int .i64 16, .int .i64 16]) (.agg #[.int .i64 16, .int .i64 16])).run Try.prog w = .ok true w) := ⟨fun w => by kernel_rfl, fun w => by kernel_rfl, fun w => by kernel_rfl⟩

theorem cnt_yes {p : Int → Bool} {n : Nat → Int} {k a : Nat} (ha : cntK p n k = a) (h : p (n (1 + k)) = true) : ((cntK p n (k + 1) : Nat) : Int) = a + 1 := by
  show (((if p (n (1 + k)) = true then _ else _ : Nat)) : Int) = _
  rw [if_pos h, ha]; omega
theorem cnt_no {p : Int → Bool} {n : Nat → Int} {k a : Nat} (ha : cntK p n k = a) (h : p (n (1 + k)) = false) : ((cntK p n (k + 1) : Nat) : Int) = a := by
  show (((if p (n (1 + k)) = true then _ else _ : Nat)) : Int) = _
  rw [if_neg (by rw [h]; decide), ha]

set_option maxRecDepth 100000 in
set_option maxHeartbeats 4000000 in
theorem rulesCounts_walk (a0 : Int) (w0 : (Lit.int .u8 a0).wf = true) (w : World) :
    Calls Try.prog 8 #[.int .u8 a0] w fun e w' => e = .returned (.bool true) ∧ Below w.heap.size w w' := by
  obtain ⟨x0, x1⟩ := wf_u8 w0
  obtain ⟨v, hv, hv9⟩ : ∃ v : Nat, a0 % 9 = v ∧ v < 9 := ⟨(a0 % 9).toNat, by omega, by omega⟩
  obtain ⟨q0, q78, q83, q86, q87, q65, q84, q85⟩ := start_facts ⟨v, hv9⟩
  have qp := start_pockets ⟨v, hv9⟩
  simp only at q0 q78 q83 q86 q87 q65 q84 q85 qp
  obtain ⟨n, hn⟩ : ∃ n, startN v = n := ⟨_, rfl⟩
  rw [hn] at q0 q78 q83 q86 q87 q65 q84 q85 qp
  have HN := hideIt hn
  clear hn
  have hzp := zeroPos
  go_enter Try.func8, Try.ntmps8
  go_wp2_with fail
  rw [hv]
  refine (start_any v (by omega) _).mono ?_
  rw [HN.out, decide_eq_true hv9]
  rintro e Y ⟨rfl, hb⟩
  obtain ⟨V, hV⟩ : ∃ V, (Y.alloc (.cells (posA zeroN) 40)).setRow Y.heap.size (posA n) = V := ⟨_, rfl⟩
  have hV2 : Y.alloc (.cells (posA n) 40) = V := by rw [← hV, World.setRow_alloc_new]
  have p0 : PosAt V Y.heap.size n := by rw [← hV2]; exact PosAt.new Y _
  have hb : Below w.heap.size w V := by rw [← hV2]; exact hb.alloc hb.size _
  obtain ⟨g, hg⟩ : ∃ g, Y.heap.size = g := ⟨_, rfl⟩
  rw [hg] at p0
  have HV := hideIt hV
  have HG := hideIt hg
  have c0 : V.cell? ⟨g, 0, none⟩ = some (.int .u8 v) := by rw [p0.cell 0 (by decide), q0]; rfl
  have c78 : V.cell? ⟨g, 78, none⟩ = some (.int .u8 0) := by rw [p0.cell 78 (by decide), q78]; rfl
  have c83 : V.cell? ⟨g, 83, none⟩ = some (.int .i8 (-1)) := by rw [p0.cell 83 (by decide), q83]; rfl
  have c86 : V.cell? ⟨g, 86, none⟩ = some (.int .i64 0) := by rw [p0.cell 86 (by decide), q86]; rfl
  have c87 : V.cell? ⟨g, 87, none⟩ = some (.int .i64 1) := by rw [p0.cell 87 (by decide), q87]; rfl
  have c65 : V.cell? ⟨g, 65, none⟩ = some (.int .u64 0) := by rw [p0.cell 65 (by decide), q65]; rfl
  have c84 : V.cell? ⟨g, 84, none⟩ = some (.int .u8 0) := by rw [p0.cell 84 (by decide), q84]; rfl
  have c85 : V.cell? ⟨g, 85, none⟩ = some (.int .u8 0) := by rw [p0.cell 85 (by decide), q85]; rfl
  have cp : ∀ i : Fin 12, V.cell? ⟨g, 66 + i.val, none⟩ = some (.int .u8 0) := by
    intro i
    rw [p0.cell (66 + i.val) (by omega), qp i]
    have : ∀ i : Fin 12, kindAt (66 + i.val) = .u8 := by decide
    rw [this i]
  have d0 : V.cell? ⟨g, 66, none⟩ = some (.int .u8 0) := cp 0
  have d1 : V.cell? ⟨g, 67, none⟩ = some (.int .u8 0) := cp 1
  have d2 : V.cell? ⟨g, 68, none⟩ = some (.int .u8 0) := cp 2
  have d3 : V.cell? ⟨g, 69, none⟩ = some (.int .u8 0) := cp 3
  have d4 : V.cell? ⟨g, 70, none⟩ = some (.int .u8 0) := cp 4
  have d5 : V.cell? ⟨g, 71, none⟩ = some (.int .u8 0) := cp 5
  have d6 : V.cell? ⟨g, 72, none⟩ = some (.int .u8 0) := cp 6
  have d7 : V.cell? ⟨g, 73, none⟩ = some (.int .u8 0) := cp 7
  have d8 : V.cell? ⟨g, 74, none⟩ = some (.int .u8 0) := cp 8
  have d9 : V.cell? ⟨g, 75, none⟩ = some (.int .u8 0) := cp 9
  have d10 : V.cell? ⟨g, 76, none⟩ = some (.int .u8 0) := cp 10
  have d11 : V.cell? ⟨g, 77, none⟩ = some (.int .u8 0) := cp 11
  clear hV hV2 hg cp qp q0 q78 q83 q86 q87 q65 q84 q85 hv
  have e1 := eq38
  have e2 := eq34
  go_wp2_with (rw [HV.out, HG.out])
  clear c0 c78 c83 c86 c87 c65 c84 c85 d0 d1 d2 d3 d4 d5 d6 d7 d8 d9 d10 d11 e1 e2 HV HG
  have qb := start_board ⟨v, hv9⟩
  obtain ⟨t0, t1, t2, t3⟩ := start_counts ⟨v, hv9⟩
  simp only at qb t0 t1 t2 t3
  rw [HN.out] at qb t0 t1 t2 t3
  have HQ := hideIt qb
  have T0 := hideIt t0
  have T1 := hideIt t1
  have T2 := hideIt t2
  have T3 := hideIt t3
  obtain ⟨s, hs⟩ : ∃ s, V.heap.size = s := ⟨_, rfl⟩
  have hgs : g < s := by rw [← hs]; exact p0.lt
  have hws : w.heap.size ≤ s := by rw [← hs]; exact hb.size
  have hws1 : w.heap.size ≤ s + 1 := by omega
  have RM0 : RowI ((V.alloc (Obj.cells #[Value.int .i64 0, Value.int .i64 0] 50)).alloc (Obj.cells #[Value.int .i64 0, Value.int .i64 0] 50)) s 50 [0, 0] := by
    rw [← hs]; exact (RowI.new V _ [0, 0]).alloc _
  have RK0 : RowI ((V.alloc (Obj.cells #[Value.int .i64 0, Value.int .i64 0] 50)).alloc (Obj.cells #[Value.int .i64 0, Value.int .i64 0] 50)) (s + 1) 50 [0, 0] := by
    have := RowI.new (V.alloc (Obj.cells #[Value.int .i64 0, Value.int .i64 0] 50)) 50 [0, 0]
    rw [← hs]; simpa using this
  have P0 := (p0.alloc (Obj.cells #[Value.int .i64 0, Value.int .i64 0] 50)).alloc (Obj.cells #[Value.int .i64 0, Value.int .i64 0] 50)
  have hb0 := (hb.alloc hb.size (Obj.cells #[Value.int .i64 0, Value.int .i64 0] 50)).alloc (by have := hb.size; simp; omega) (Obj.cells #[Value.int .i64 0, Value.int .i64 0] 50)
  rw [hs]
  generalize World.alloc (World.alloc V _) _ = V2 at RM0 RK0 P0 hb0 ⊢
  clear hs hb p0 t0 t1 t2 t3 qb
  go_loopw [7] (fun i wr => ∃ k : Nat, k ≤ 64 ∧ i = .int .i64 k ∧ PosAt wr g n ∧ RowI wr s 50 [(cntK (manP 0) n k : Nat), (cntK (manP 1) n k : Nat)] ∧ RowI wr (s + 1) 50 [(cntK (kingP 0) n k : Nat), (cntK (kingP 1) n k : Nat)] ∧ Below w.heap.size w wr) (fun i _ => 64 - (intOf i).toNat)
  case atStart => exact ⟨0, by omega, rfl, P0, RM0, RK0, hb0⟩
  case round =>
    clear P0 RM0 RK0 hb0
    obtain ⟨k, hk, rfl, P, RM, RK, hb⟩ := hrel
    by_cases hlt : k < 64
    · obtain ⟨a, ha⟩ : ∃ a, cntK (manP 0) n k = a := ⟨_, rfl⟩
      obtain ⟨b, hb'⟩ : ∃ b, cntK (manP 1) n k = b := ⟨_, rfl⟩
      obtain ⟨c, hc⟩ : ∃ c, cntK (kingP 0) n k = c := ⟨_, rfl⟩
      obtain ⟨d, hd⟩ : ∃ d, cntK (kingP 1) n k = d := ⟨_, rfl⟩
      have la : a ≤ 64 := by have := cntK_le (manP 0) n k; omega
      have lb : b ≤ 64 := by have := cntK_le (manP 1) n k; omega
      have lc : c ≤ 64 := by have := cntK_le (kingP 0) n k; omega
      have ld : d ≤ 64 := by have := cntK_le (kingP 1) n k; omega
      rw [ha, hb'] at RM
      rw [hc, hd] at RK
      have cm0 := RM.cell 0 a rfl
      have cm1 := RM.cell 1 b rfl
      have ck0 := RK.cell 0 c rfl
      have ck1 := RK.cell 1 d rfl
      have fm0 := RM.free 0
      have fm1 := RM.free 1
      have fk0 := RK.free 0
      have fk1 := RK.free 1
      have cx := P.board (1 + k) (by omega)
      obtain ⟨y0, y1⟩ := HQ.out ⟨k, hlt⟩
      simp only at y0 y1
      obtain ⟨x, hx⟩ : ∃ x, n (1 + k) = x := ⟨_, rfl⟩
      rw [hx] at cx y0 y1
      by_cases hx0 : x = 0
      · have e0 : (x == 0) = true := beq_iff_eq.2 hx0
        have e0' : (x != 0) = false := by rw [bne, e0]; rfl
        have Ha := hideIt (cnt_no ha (by rw [hx]; unfold manP; rw [e0']; rfl))
        have Hb := hideIt (cnt_no hb' (by rw [hx]; unfold manP; rw [e0']; rfl))
        have Hc := hideIt (cnt_no hc (by rw [hx]; unfold kingP; rw [e0']; rfl))
        have Hd := hideIt (cnt_no hd (by rw [hx]; unfold kingP; rw [e0']; rfl))
        clear ha hb' hc hd hx0 hx e0'
        go_wp2
        go_roundw
        case rel => exact ⟨k + 1, by omega, by go_num, P, by rw [Ha.out, Hb.out]; exact RM, by rw [Hc.out, Hd.out]; exact RK, hb⟩
        case measure => simp [intOf]; omega
      · have e0 : (x == 0) = false := beq_eq_false_iff_ne.2 hx0
        have e0' : (x != 0) = true := by rw [bne, e0]; rfl
        clear hx0
        by_cases h8 : x < 8
        · by_cases h6 : x % 8 = 6
          · have e8 : x / 8 = 0 := by omega
            have e6 : (x % 8 == 6) = true := beq_iff_eq.2 h6
            have Ha := hideIt (cnt_yes ha (by rw [hx]; unfold manP; rw [e0', e8]; rfl))
            have Hb := hideIt (cnt_no hb' (by rw [hx]; unfold manP; rw [e0', e8]; rfl))
            have Hc := hideIt (cnt_yes hc (by rw [hx]; unfold kingP; rw [e0', e8, e6]; rfl))
            have Hd := hideIt (cnt_no hd (by rw [hx]; unfold kingP; rw [e0', e8, e6]; rfl))
            have S1 := hideIt ((RM.set 0 ((a : Int) + 1)).other (b := s + 1) (i := 0) (by omega) (.int .i64 ((c : Int) + 1)))
            have S2 := hideIt ((RK.other (b := s) (i := 0) (by omega) (.int .i64 ((a : Int) + 1))).set 0 ((c : Int) + 1))
            have S3 := hideIt ((P.other (b := s) (i := 0) (by omega) (.int .i64 ((a : Int) + 1))).other (b := s + 1) (i := 0) (by omega) (.int .i64 ((c : Int) + 1)))
            have S4 := hideIt ((hb.setCell (p := ⟨s, 0, none⟩) hws (.int .i64 ((a : Int) + 1))).setCell (p := ⟨s + 1, 0, none⟩) hws1 (.int .i64 ((c : Int) + 1)))
            clear ha hb' hc hd RM RK P hb h6 e0' hx
            go_wp2
            go_roundw
            case rel => exact ⟨k + 1, by omega, by go_num, S3.out, by rw [Ha.out, Hb.out]; exact S1.out, by rw [Hc.out, Hd.out]; exact S2.out, S4.out⟩
            case measure => simp [intOf]; omega
          · have e8 : x / 8 = 0 := by omega
            have e6 : (x % 8 == 6) = false := beq_eq_false_iff_ne.2 h6
            have Ha := hideIt (cnt_yes ha (by rw [hx]; unfold manP; rw [e0', e8]; rfl))
            have Hb := hideIt (cnt_no hb' (by rw [hx]; unfold manP; rw [e0', e8]; rfl))
            have Hc := hideIt (cnt_no hc (by rw [hx]; unfold kingP; rw [e0', e8, e6]; rfl))
            have Hd := hideIt (cnt_no hd (by rw [hx]; unfold kingP; rw [e0', e8, e6]; rfl))
            have S1 := hideIt (RM.set 0 ((a : Int) + 1))
            have S2 := hideIt (RK.other (b := s) (i := 0) (by omega) (.int .i64 ((a : Int) + 1)))
            have S3 := hideIt (P.other (b := s) (i := 0) (by omega) (.int .i64 ((a : Int) + 1)))
            have S4 := hideIt (hb.setCell (p := ⟨s, 0, none⟩) hws (.int .i64 ((a : Int) + 1)))
            clear ha hb' hc hd RM RK P hb h6 e0' hx
            go_wp2
            go_roundw
            case rel => exact ⟨k + 1, by omega, by go_num, S3.out, by rw [Ha.out, Hb.out]; exact S1.out, by rw [Hc.out, Hd.out]; exact S2.out, S4.out⟩
            case measure => simp [intOf]; omega
        · by_cases h6 : x % 8 = 6
          · have e8 : x / 8 = 1 := by omega
            have e6 : (x % 8 == 6) = true := beq_iff_eq.2 h6
            have Ha := hideIt (cnt_no ha (by rw [hx]; unfold manP; rw [e0', e8]; rfl))
            have Hb := hideIt (cnt_yes hb' (by rw [hx]; unfold manP; rw [e0', e8]; rfl))
            have Hc := hideIt (cnt_no hc (by rw [hx]; unfold kingP; rw [e0', e8, e6]; rfl))
            have Hd := hideIt (cnt_yes hd (by rw [hx]; unfold kingP; rw [e0', e8, e6]; rfl))
            have S1 := hideIt ((RM.set 1 ((b : Int) + 1)).other (b := s + 1) (i := 1) (by omega) (.int .i64 ((d : Int) + 1)))
            have S2 := hideIt ((RK.other (b := s) (i := 1) (by omega) (.int .i64 ((b : Int) + 1))).set 1 ((d : Int) + 1))
            have S3 := hideIt ((P.other (b := s) (i := 1) (by omega) (.int .i64 ((b : Int) + 1))).other (b := s + 1) (i := 1) (by omega) (.int .i64 ((d : Int) + 1)))
            have S4 := hideIt ((hb.setCell (p := ⟨s, 1, none⟩) hws (.int .i64 ((b : Int) + 1))).setCell (p := ⟨s + 1, 1, none⟩) hws1 (.int .i64 ((d : Int) + 1)))
            clear ha hb' hc hd RM RK P hb h6 e0' hx
            go_wp2
            go_roundw
            case rel => exact ⟨k + 1, by omega, by go_num, S3.out, by rw [Ha.out, Hb.out]; exact S1.out, by rw [Hc.out, Hd.out]; exact S2.out, S4.out⟩
            case measure => simp [intOf]; omega
          · have e8 : x / 8 = 1 := by omega
            have e6 : (x % 8 == 6) = false := beq_eq_false_iff_ne.2 h6
            have Ha := hideIt (cnt_no ha (by rw [hx]; unfold manP; rw [e0', e8]; rfl))
            have Hb := hideIt (cnt_yes hb' (by rw [hx]; unfold manP; rw [e0', e8]; rfl))
            have Hc := hideIt (cnt_no hc (by rw [hx]; unfold kingP; rw [e0', e8, e6]; rfl))
            have Hd := hideIt (cnt_no hd (by rw [hx]; unfold kingP; rw [e0', e8, e6]; rfl))
            have S1 := hideIt (RM.set 1 ((b : Int) + 1))
            have S2 := hideIt (RK.other (b := s) (i := 1) (by omega) (.int .i64 ((b : Int) + 1)))
            have S3 := hideIt (P.other (b := s) (i := 1) (by omega) (.int .i64 ((b : Int) + 1)))
            have S4 := hideIt (hb.setCell (p := ⟨s, 1, none⟩) hws (.int .i64 ((b : Int) + 1)))
            clear ha hb' hc hd RM RK P hb h6 e0' hx
            go_wp2
            go_roundw
            case rel => exact ⟨k + 1, by omega, by go_num, S3.out, by rw [Ha.out, Hb.out]; exact S1.out, by rw [Hc.out, Hd.out]; exact S2.out, S4.out⟩
            case measure => simp [intOf]; omega
    · obtain rfl : k = 64 := by omega
      rw [T0.out, T1.out] at RM
      rw [T3.out, T2.out] at RK
      obtain ⟨E1, E2, E3⟩ := eq50
      by_cases h7 : v = 7
      · subst h7
        rw [if_pos rfl, if_neg (by decide)] at RM
        rw [if_pos rfl] at RK
        have cm0 := RM.cell 0 36 rfl
        have cm1 := RM.cell 1 16 rfl
        have ck0 := RK.cell 0 0 rfl
        have ck1 := RK.cell 1 1 rfl
        have hsz := RM.lt
        have hs1 := RK.lt
        clear RM RK P HQ T0 T1 T2 T3
        go_wp2_with fail
        refine (awake_any _).mono ?_
        rintro e w5 ⟨rfl, h1⟩
        have hbF := (hb.alloc hb.size _).trans (h1.mono (hb.alloc hb.size _).size)
        clear h1
        go_wp2
        go_ret
        exact ⟨rfl, hbF⟩
      · by_cases h8 : v = 8
        · subst h8
          rw [if_neg (by decide), if_pos rfl] at RM
          rw [if_neg (by decide)] at RK
          have cm0 := RM.cell 0 8 rfl
          have cm1 := RM.cell 1 8 rfl
          have ck0 := RK.cell 0 1 rfl
          have ck1 := RK.cell 1 1 rfl
          have hsz := RM.lt
          have hs1 := RK.lt
          clear RM RK P HQ T0 T1 T2 T3
          go_wp2_with fail
          refine (awake_any _).mono ?_
          rintro e w5 ⟨rfl, h1⟩
          have hbF := (hb.alloc hb.size _).trans (h1.mono (hb.alloc hb.size _).size)
          clear h1
          go_wp2
          go_ret
          exact ⟨rfl, hbF⟩
        · rw [if_neg h7, if_neg h8] at RM
          rw [if_neg h7] at RK
          have e7 : ((v : Int) == 7) = false := beq_eq_false_iff_ne.2 (by omega)
          have e8 : ((v : Int) == 8) = false := beq_eq_false_iff_ne.2 (by omega)
          have e7' : ((v : Int) != 7) = true := by rw [bne, e7]; rfl
          clear h7 h8
          have cm0 := RM.cell 0 16 rfl
          have cm1 := RM.cell 1 16 rfl
          have ck0 := RK.cell 0 1 rfl
          have ck1 := RK.cell 1 1 rfl
          have hsz := RM.lt
          have hs1 := RK.lt
          clear RM RK P HQ T0 T1 T2 T3
          go_wp2_with fail
          refine (awake_any _).mono ?_
          rintro e w5 ⟨rfl, h1⟩
          have hbF := (hb.alloc hb.size _).trans (h1.mono (hb.alloc hb.size _).size)
          clear h1
          go_wp2
          go_ret
          exact ⟨rfl, hbF⟩

end Go.Proofs.Ytpheapolijhgjaa
