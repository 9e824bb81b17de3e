/- Walks of eval: king with its two closures, the extras of Crazyhouse, Racing, KingHill. -/
import Derived.Test.YtccdelpiflcipaaDoorE2
import Derived.IntWalk
namespace Go.Proofs.YtccdelpiflcipaaDoor
open Go Go.RowKit
set_option linter.unusedVariables false

def kingI (n : Nat → Int) (c : Int) (f : Int → Int) : Int := if firstB (ofN n c 6) < 0 then 0 else f (firstB (ofN n c 6))
theorem first_bd (b : BitVec 64) : -1 ≤ firstB b ∧ firstB b < 64 := by
  unfold firstB
  cases h : listB b with
  | nil => exact ⟨by decide, by decide⟩
  | cons x l =>
    have hm := (mem_listB b x).1 (by rw [h]; exact List.mem_cons_self ..)
    have : 0 ≤ x ∧ x < 64 := by
      by_cases hx : 0 ≤ x ∧ x < 64
      · exact hx
      · rw [hasB_out b hx] at hm; cases hm
    show -1 ≤ x ∧ x < 64
    omega

set_option maxHeartbeats 800000 in
theorem king_R (n : Nat → Int) (hn : PosOk n) (c : Int) (w : World) (hT : Tab w) :
    Calls Tryd.prog 46 #[.agg (posA n), .int .u8 c, .func (.func 47) #[] #[]] w fun e w' => e = .returned (.int .i64 (kingI n c (fun s => 60 * (s / 8)))) ∧ Below w.heap.size w w' := by
  obtain ⟨b0, b1⟩ := first_bd (ofN n c 6)
  have hK := show kingI n c (fun s => 60 * (s / 8)) = if firstB (ofN n c 6) < 0 then 0 else 60 * (firstB (ofN n c 6) / 8) from rfl
  obtain ⟨s, hs⟩ : ∃ s, firstB (ofN n c 6) = s := ⟨_, rfl⟩
  rw [hs] at hK b0 b1
  have HS := hideIt hs
  have HK := hideIt hK
  obtain ⟨X, hX⟩ : ∃ X, w.alloc (.cells (posA n) 31) = X := ⟨_, rfl⟩
  obtain ⟨p0, hb⟩ := box1 w n X hX
  have hT := hT.below hb (Nat.le_refl _)
  obtain ⟨i0, r0⟩ := p0.rules
  have HX := hideIt hX
  clear hX hs hK
  go_enter Tryd.func46, Tryd.ntmps46
  go_wp2_with (rw [HX.out])
  refine (bfind_any n hn c 6 _ hT).mono ?_
  rw [HS.out]
  rintro e w1 ⟨rfl, h1⟩
  have hb := hb.trans (h1.mono hb.size)
  clear h1 hT i0 r0
  by_cases h : s < 0
  · have E := hideIt (HK.out.trans (if_pos h))
    go_wp2
    go_ret
    exact ⟨ret_int E.out.symm, hb⟩
  · have E := hideIt (HK.out.trans (if_neg h))
    have h0 : 0 ≤ s := by omega
    go_wp2_with fail
    refine (kingR_any s h0 b1 _).mono ?_
    rintro e w2 ⟨rfl, rfl⟩
    go_wp2
    go_ret
    exact ⟨ret_int E.out.symm, hb⟩

set_option maxHeartbeats 800000 in
theorem extra2_any (n : Nat → Int) (hn : PosOk n) (c : Int) (w : World) (hT : Tab w) : Calls Tryd.prog 45 #[.agg (posA n), .int .u8 c] w fun e w' => e = .returned (.int .i64 (kingI n c (fun s => 60 * (s / 8)))) ∧ Below w.heap.size w w' := by
  obtain ⟨X, hX⟩ : ∃ X, w.alloc (.cells (posA n) 31) = X := ⟨_, rfl⟩
  obtain ⟨p0, hb⟩ := box1 w n X hX
  have hT := hT.below hb (Nat.le_refl _)
  obtain ⟨i0, r0⟩ := p0.rules
  have HX := hideIt hX
  clear hX
  go_enter Tryd.func45, Tryd.ntmps45
  go_wp2_with (rw [HX.out])
  refine (king_R n hn c _ hT).mono ?_
  rintro e w1 ⟨rfl, h1⟩
  have hb := hb.trans (h1.mono hb.size)
  clear h1
  go_wp2
  go_ret
  exact ⟨rfl, hb⟩

set_option maxHeartbeats 800000 in
theorem king_H (n : Nat → Int) (hn : PosOk n) (c : Int) (w : World) (hT : Tab w) :
    Calls Tryd.prog 46 #[.agg (posA n), .int .u8 c, .func (.func 49) #[] #[]] w fun e w' => e = .returned (.int .i64 (kingI n c (fun s => -30 * sqI s))) ∧ Below w.heap.size w w' := by
  obtain ⟨b0, b1⟩ := first_bd (ofN n c 6)
  have hK := show kingI n c (fun s => -30 * sqI s) = if firstB (ofN n c 6) < 0 then 0 else -30 * sqI (firstB (ofN n c 6)) from rfl
  obtain ⟨s, hs⟩ : ∃ s, firstB (ofN n c 6) = s := ⟨_, rfl⟩
  rw [hs] at hK b0 b1
  have HS := hideIt hs
  have HK := hideIt hK
  obtain ⟨X, hX⟩ : ∃ X, w.alloc (.cells (posA n) 31) = X := ⟨_, rfl⟩
  obtain ⟨p0, hb⟩ := box1 w n X hX
  have hT := hT.below hb (Nat.le_refl _)
  obtain ⟨i0, r0⟩ := p0.rules
  have HX := hideIt hX
  clear hX hs hK
  go_enter Tryd.func46, Tryd.ntmps46
  go_wp2_with (rw [HX.out])
  refine (bfind_any n hn c 6 _ hT).mono ?_
  rw [HS.out]
  rintro e w1 ⟨rfl, h1⟩
  have hb := hb.trans (h1.mono hb.size)
  clear h1 hT i0 r0
  by_cases h : s < 0
  · have E := hideIt (HK.out.trans (if_pos h))
    go_wp2
    go_ret
    exact ⟨ret_int E.out.symm, hb⟩
  · have E := hideIt (HK.out.trans (if_neg h))
    have h0 : 0 ≤ s := by omega
    go_wp2_with fail
    refine (kingH_any s h0 b1 _).mono ?_
    rintro e w2 ⟨rfl, rfl⟩
    go_wp2
    go_ret
    exact ⟨ret_int E.out.symm, hb⟩

set_option maxHeartbeats 800000 in
theorem extra3_any (n : Nat → Int) (hn : PosOk n) (c : Int) (w : World) (hT : Tab w) : Calls Tryd.prog 48 #[.agg (posA n), .int .u8 c] w fun e w' => e = .returned (.int .i64 (kingI n c (fun s => -30 * sqI s))) ∧ Below w.heap.size w w' := by
  obtain ⟨X, hX⟩ : ∃ X, w.alloc (.cells (posA n) 31) = X := ⟨_, rfl⟩
  obtain ⟨p0, hb⟩ := box1 w n X hX
  have hT := hT.below hb (Nat.le_refl _)
  obtain ⟨i0, r0⟩ := p0.rules
  have HX := hideIt hX
  clear hX
  go_enter Tryd.func48, Tryd.ntmps48
  go_wp2_with (rw [HX.out])
  refine (king_H n hn c _ hT).mono ?_
  rintro e w1 ⟨rfl, h1⟩
  have hb := hb.trans (h1.mono hb.size)
  clear h1
  go_wp2
  go_ret
  exact ⟨rfl, hb⟩

/-- The pockets' row of a color. -/
theorem held_bd (n : Nat → Int) (hn : PosOk n) (c : Nat) (hc : c ≤ 1) : ∀ k, k ≤ 6 → 0 ≤ heldI n c k ∧ heldI n c k ≤ 229500 * k
  | 0, _ => ⟨Int.le_refl 0, by show (0 : Int) ≤ 229500 * ((0 : Nat) : Int); omega⟩
  | k + 1, hk => by
    obtain ⟨h1, h2⟩ := held_bd n hn c hc k (by omega)
    obtain ⟨w1, w2⟩ := wort_bd k
    have hk8 : kindAt (66 + 6 * c + k) = .u8 := by
      unfold kindAt
      rw [if_neg (by omega), if_neg (by omega), if_pos (by omega)]
    obtain ⟨y0, y1⟩ := hn.u8 (66 + 6 * c + k) (by omega) hk8
    show 0 ≤ heldI n c k + wortI k * n (66 + 6 * c + k) ∧ heldI n c k + wortI k * n (66 + 6 * c + k) ≤ 229500 * ((k + 1 : Nat) : Int)
    have m1 : 0 ≤ wortI k * n (66 + 6 * c + k) := Int.mul_nonneg w1 y0
    have m2 : wortI k * n (66 + 6 * c + k) ≤ 900 * 255 := Int.mul_le_mul w2 y1 y0 (by decide)
    omega
theorem size_pock (n : Nat → Int) (o : Nat) : (Tryd.prog.info? 24).map (·.size) = some (rowN n o 6).length := by
  unfold rowN
  rw [List.length_map, List.length_range]; kernel_rfl
theorem index_pock (n : Nat → Int) (o k : Nat) (hk : k < 6) (h8 : kindAt (o + k) = .u8) (w : World) : (Instr.index 24 (.agg (rowN n o 6).toArray) (.int .i64 (k : Int))).run Tryd.prog w = .ok (.int .u8 (n (o + k))) w := by
  have hc : (rowN n o 6)[k]? = some (.int .u8 (n (o + k))) := by
    unfold rowN
    rw [List.getElem?_map, List.getElem?_range hk]
    show some (cellP n (o + k)) = _
    unfold cellP
    rw [h8]
  have hs : (rowN n o 6).length = 6 := by unfold rowN; rw [List.length_map, List.length_range]
  generalize rowN n o 6 = A at hc hs
  simp [Instr.index, part, go_sem, hc]
  intro h; omega
set_option maxHeartbeats 1600000 in
theorem extra1_0 (n : Nat → Int) (hn : PosOk n) (w : World) : Calls Tryd.prog 44 #[.agg (posA n), .int .u8 0] w fun e w' => e = .returned (.int .i64 (heldI n 0 6)) ∧ Below w.heap.size w w' := by
  have HB := hideIt (held_bd n hn 0 (by decide))
  have H8 : Hid (∀ k, k < 6 → kindAt (66 + k) = .u8) := fun k hk => by
    unfold kindAt
    rw [if_neg (by omega), if_neg (by omega), if_pos (by omega)]
  obtain ⟨X, hX⟩ : ∃ X, w.alloc (.cells (posA n) 31) = X := ⟨_, rfl⟩
  obtain ⟨p0, hb⟩ := box1 w n X hX
  have HX := hideIt hX
  have pr := p0.range 66 6 (by decide)
  clear hX
  go_enter Tryd.func44, Tryd.ntmps44
  go_wp2_with (first | rw [HX.out] | (refine wpList_load_mid (by rfl) 24 _ rfl w.heap.size 66 rfl (rowN n 66 6) _ pr Tryd.underlying24 rfl (size_pock n 66) ?_))
  clear pr p0
  go_loopw [5, 12] (fun v i wr => ∃ k : Nat, k ≤ 6 ∧ i = .int .i64 k ∧ v = .int .i64 (heldI n 0 k) ∧ Below w.heap.size w wr) (fun _ i _ => 6 - (intOf i).toNat)
  case atStart => exact ⟨0, by omega, rfl, rfl, hb⟩
  case round =>
    clear hb
    obtain ⟨k, hk, rfl, rfl, hb⟩ := hrel
    by_cases hlt : k < 6
    · have ix := index_pock n 66 k hlt (H8.out k hlt)
      obtain ⟨h0, h1⟩ := HB.out k hk
      obtain ⟨g0, g1⟩ := wort_bd (k : Int)
      obtain ⟨y0, y1⟩ := hn.u8 (66 + k) (by omega) (H8.out k hlt)
      have HE := hideIt (show heldI n 0 (k + 1) = heldI n 0 k + wortI k * n (66 + k) from rfl)
      obtain ⟨x, hx⟩ : ∃ x, n (66 + k) = x := ⟨_, rfl⟩
      obtain ⟨v, hv⟩ : ∃ v, wortI (k : Int) = v := ⟨_, rfl⟩
      have m1 : 0 ≤ v * x := by rw [← hx, ← hv]; exact Int.mul_nonneg g0 y0
      have m2 : v * x ≤ 900 * 255 := by rw [← hx, ← hv]; exact Int.mul_le_mul g1 y1 y0 (by decide)
      generalize heldI n 0 k = hd at HE h0 h1
      rw [hx, hv] at HE
      rw [hx] at ix
      have HV := hideIt hv
      rw [hx] at y0 y1
      have W1 := hideIt (IntWalk.wrap64_in x ⟨by omega, by omega⟩)
      have W2 := hideIt (IntWalk.wrap64_in (v * x) ⟨by omega, by omega⟩)
      have W3 := hideIt (IntWalk.wrap64_in (hd + v * x) ⟨by omega, by omega⟩)
      clear hx hv g0 g1 y0 y1
      go_wp2_with fail
      refine (piece_any k (by omega) _).mono ?_
      rw [HV.out]
      rintro e w1 ⟨rfl, hq⟩
      have hb := hb.trans (hq.mono hb.size)
      clear hq
      go_wp2
      go_roundw
      case rel => exact ⟨k + 1, by omega, by go_num, by rw [HE.out, W1.out, W2.out, W3.out], hb⟩
      case measure => simp [intOf]; omega
    · obtain rfl : k = 6 := by omega
      go_wp2
      go_ret
      exact ⟨rfl, hb⟩
set_option maxHeartbeats 1600000 in
theorem extra1_1 (n : Nat → Int) (hn : PosOk n) (w : World) : Calls Tryd.prog 44 #[.agg (posA n), .int .u8 1] w fun e w' => e = .returned (.int .i64 (heldI n 1 6)) ∧ Below w.heap.size w w' := by
  have HB := hideIt (held_bd n hn 1 (by decide))
  have H8 : Hid (∀ k, k < 6 → kindAt (72 + k) = .u8) := fun k hk => by
    unfold kindAt
    rw [if_neg (by omega), if_neg (by omega), if_pos (by omega)]
  obtain ⟨X, hX⟩ : ∃ X, w.alloc (.cells (posA n) 31) = X := ⟨_, rfl⟩
  obtain ⟨p0, hb⟩ := box1 w n X hX
  have HX := hideIt hX
  have pr := p0.range 72 6 (by decide)
  clear hX
  go_enter Tryd.func44, Tryd.ntmps44
  go_wp2_with (first | rw [HX.out] | (refine wpList_load_mid (by rfl) 24 _ rfl w.heap.size 72 rfl (rowN n 72 6) _ pr Tryd.underlying24 rfl (size_pock n 72) ?_))
  clear pr p0
  go_loopw [5, 12] (fun v i wr => ∃ k : Nat, k ≤ 6 ∧ i = .int .i64 k ∧ v = .int .i64 (heldI n 1 k) ∧ Below w.heap.size w wr) (fun _ i _ => 6 - (intOf i).toNat)
  case atStart => exact ⟨0, by omega, rfl, rfl, hb⟩
  case round =>
    clear hb
    obtain ⟨k, hk, rfl, rfl, hb⟩ := hrel
    by_cases hlt : k < 6
    · have ix := index_pock n 72 k hlt (H8.out k hlt)
      obtain ⟨h0, h1⟩ := HB.out k hk
      obtain ⟨g0, g1⟩ := wort_bd (k : Int)
      obtain ⟨y0, y1⟩ := hn.u8 (72 + k) (by omega) (H8.out k hlt)
      have HE := hideIt (show heldI n 1 (k + 1) = heldI n 1 k + wortI k * n (72 + k) from rfl)
      obtain ⟨x, hx⟩ : ∃ x, n (72 + k) = x := ⟨_, rfl⟩
      obtain ⟨v, hv⟩ : ∃ v, wortI (k : Int) = v := ⟨_, rfl⟩
      have m1 : 0 ≤ v * x := by rw [← hx, ← hv]; exact Int.mul_nonneg g0 y0
      have m2 : v * x ≤ 900 * 255 := by rw [← hx, ← hv]; exact Int.mul_le_mul g1 y1 y0 (by decide)
      generalize heldI n 1 k = hd at HE h0 h1
      rw [hx, hv] at HE
      rw [hx] at ix
      have HV := hideIt hv
      rw [hx] at y0 y1
      have W1 := hideIt (IntWalk.wrap64_in x ⟨by omega, by omega⟩)
      have W2 := hideIt (IntWalk.wrap64_in (v * x) ⟨by omega, by omega⟩)
      have W3 := hideIt (IntWalk.wrap64_in (hd + v * x) ⟨by omega, by omega⟩)
      clear hx hv g0 g1 y0 y1
      go_wp2_with fail
      refine (piece_any k (by omega) _).mono ?_
      rw [HV.out]
      rintro e w1 ⟨rfl, hq⟩
      have hb := hb.trans (hq.mono hb.size)
      clear hq
      go_wp2
      go_roundw
      case rel => exact ⟨k + 1, by omega, by go_num, by rw [HE.out, W1.out, W2.out, W3.out], hb⟩
      case measure => simp [intOf]; omega
    · obtain rfl : k = 6 := by omega
      go_wp2
      go_ret
      exact ⟨rfl, hb⟩

end Go.Proofs.YtccdelpiflcipaaDoor
