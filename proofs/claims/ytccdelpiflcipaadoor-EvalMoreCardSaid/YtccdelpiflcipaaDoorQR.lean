/- Walks of the reference of pieces. -/
import Derived.Test.YtccdelpiflcipaaDoorQ
import Derived.Great.Walk
import Derived.Laws.Tables
import Derived.Laws.Rows
namespace Go.Proofs.YtccdelpiflcipaaDoor
open Go Go.RowKit

def numL : List Int := [1, 2, 3, 4, 5, 6, 9, 10, 11, 12, 13, 14]
def letL : List UInt8 := [80, 78, 66, 82, 81, 75, 112, 110, 98, 114, 113, 107]
def numAt (k : Nat) : Int := numL.getD k 0
def allCells : Array Value := #[.int .u8 1, .int .u8 0, .int .u8 1, .string ⟨#[80]⟩, .int .u8 2, .int .u8 0, .int .u8 2, .string ⟨#[78]⟩, .int .u8 3, .int .u8 0, .int .u8 3, .string ⟨#[66]⟩, .int .u8 4, .int .u8 0, .int .u8 4, .string ⟨#[82]⟩, .int .u8 5, .int .u8 0, .int .u8 5, .string ⟨#[81]⟩, .int .u8 6, .int .u8 0, .int .u8 6, .string ⟨#[75]⟩, .int .u8 9, .int .u8 1, .int .u8 1, .string ⟨#[112]⟩, .int .u8 10, .int .u8 1, .int .u8 2, .string ⟨#[110]⟩, .int .u8 11, .int .u8 1, .int .u8 3, .string ⟨#[98]⟩, .int .u8 12, .int .u8 1, .int .u8 4, .string ⟨#[114]⟩, .int .u8 13, .int .u8 1, .int .u8 5, .string ⟨#[113]⟩, .int .u8 14, .int .u8 1, .int .u8 6, .string ⟨#[107]⟩]

set_option maxHeartbeats 800000 in
theorem rall_any (w : World) :
    Calls Tryd.prog 67 #[] w fun e w' => e = .returned (.slice (some ⟨w.heap.size, 0, none⟩) 12 12) ∧ w.alloc (.cells allCells 70) = w' := by
  go_enter Tryd.func67, Tryd.ntmps67
  go_wp2_with (first | (refine wpList_build rfl 70 _ rfl (by kernel_rfl) ?_) | (refine Go.Great.wpList_buildSliceTo rfl 83 70 12 _ rfl _ rfl _ rfl Tryd.underlying83 allCells (by kernel_rfl) ?_))
  go_ret
  exact ⟨rfl, rfl⟩

theorem all_len : numL.length = 12 := rfl
def letS (k : Nat) : ByteArray := ⟨#[letL.getD k 0]⟩
theorem all_cells (w : World) (k : Nat) (hk : k < 12) (c : Int) (hc : c = colI (numAt k)) :
    (w.alloc (.cells allCells 70)).cell? ⟨w.heap.size, k * 4, none⟩ = some (.int .u8 (numAt k)) ∧
    (w.alloc (.cells allCells 70)).cell? ⟨w.heap.size, k * 4 + 1, none⟩ = some (.int .u8 c) ∧
    (w.alloc (.cells allCells 70)).cell? ⟨w.heap.size, k * 4 + 2, none⟩ = some (.int .u8 (kndI (numAt k))) ∧
    (w.alloc (.cells allCells 70)).cell? ⟨w.heap.size, k * 4 + 3, none⟩ = some (.string (letS k)) := by
  subst hc
  have h : ∀ i, (w.alloc (.cells allCells 70)).cell? ⟨w.heap.size, i, none⟩ = allCells[i]? := fun i => by rw [World.cell?_alloc_new]
  rw [h, h, h, h]
  have : k = 0 ∨ k = 1 ∨ k = 2 ∨ k = 3 ∨ k = 4 ∨ k = 5 ∨ k = 6 ∨ k = 7 ∨ k = 8 ∨ k = 9 ∨ k = 10 ∨ k = 11 := by omega
  rcases this with rfl | rfl | rfl | rfl | rfl | rfl | rfl | rfl | rfl | rfl | rfl | rfl <;> exact ⟨rfl, rfl, rfl, rfl⟩

def entS (x : Int) : ByteArray := if isB x = true then letS (numL.idxOf x) else ⟨#[]⟩
def entV (x : Int) : Value := .agg #[.int .u8 (if isB x = true then x else 0), .int .u8 (colI x), .int .u8 (kndI x), .string (entS x)]
theorem num_facts : ∀ k : Fin 12, isB (numAt k.val) = true ∧ numL.idxOf (numAt k.val) = k.val := by decide +kernel
theorem ent_yes (k : Nat) (hk : k < 12) : Value.agg #[.int .u8 (numAt k), .int .u8 (colI (numAt k)), .int .u8 (kndI (numAt k)), .string (letS k)] = entV (numAt k) ∧ true = isB (numAt k) := by
  obtain ⟨h1, h2⟩ := num_facts ⟨k, hk⟩
  unfold entV entS
  rw [if_pos h1, if_pos h1, h2]
  exact ⟨rfl, h1.symm⟩
theorem ent_no {x : Int} (h : ∀ j, j < 12 → numAt j ≠ x) : isB x = false := by
  rw [isB_no]
  intro hx
  have a0 := h 0 (by decide); have a1 := h 1 (by decide); have a2 := h 2 (by decide); have a3 := h 3 (by decide); have a4 := h 4 (by decide); have a5 := h 5 (by decide)
  have a6 := h 6 (by decide); have a7 := h 7 (by decide); have a8 := h 8 (by decide); have a9 := h 9 (by decide); have a10 := h 10 (by decide); have a11 := h 11 (by decide)
  simp [numAt, numL] at a0 a1 a2 a3 a4 a5 a6 a7 a8 a9 a10 a11
  omega
theorem ent_none {x : Int} (h : isB x = false) : Value.agg #[.int .u8 0, .int .u8 2, .int .u8 0, .string ⟨#[]⟩] = entV x := by
  have hh := (isB_no x).1 h
  unfold entV entS colI kndI
  rw [if_neg (by rw [h]; decide), if_neg (by omega), if_neg (by omega), if_neg (by omega), if_neg (by omega), if_neg (by rw [h]; decide)]

theorem find_world (w : World) (A : Array Value) (t : TypeId) (w1 : World) (h : (w.alloc (.cells #[.int .u8 0, .int .u8 0, .int .u8 0, .string ⟨#[]⟩] t)).alloc (.cells A t) = w1) :
    (w1.cell? ⟨w.heap.size, 0, none⟩ = some (.int .u8 0) ∧ w1.cell? ⟨w.heap.size, 1, none⟩ = some (.int .u8 0) ∧ w1.cell? ⟨w.heap.size, 2, none⟩ = some (.int .u8 0) ∧ w1.cell? ⟨w.heap.size, 3, none⟩ = some (.string ⟨#[]⟩)) ∧
    (∀ i, w1.frozen? ⟨w.heap.size, i, none⟩ = false) ∧ Below w.heap.size w w1 := by
  subst h
  have e : ((w.alloc (.cells #[.int .u8 0, .int .u8 0, .int .u8 0, .string ⟨#[]⟩] t)).alloc (.cells A t)).heap[w.heap.size]? = some (.cells #[.int .u8 0, .int .u8 0, .int .u8 0, .string ⟨#[]⟩] t (0, 0)) := heap_alloc2_old w _ _
  refine ⟨⟨?_, ?_, ?_, ?_⟩, fun i => ?_, ((Below.refl _ _).alloc (Nat.le_refl _) _).alloc (by simp) _⟩
  · rw [cell_of_row _ _ _ _ _ _ e]; rfl
  · rw [cell_of_row _ _ _ _ _ _ e]; rfl
  · rw [cell_of_row _ _ _ _ _ _ e]; rfl
  · rw [cell_of_row _ _ _ _ _ _ e]; rfl
  · simp [World.frozen?, e]

set_option maxHeartbeats 1600000 in
theorem rfind_any (x : Int) (w : World) :
    Calls Tryd.prog 54 #[.int .u8 x] w fun e w' => e = .returned (.tuple #[entV x, .bool (isB x)]) ∧ Below w.heap.size w w' := by
  go_enter Tryd.func54, Tryd.ntmps54
  go_wp2_with fail
  refine (rall_any _).mono ?_
  rintro e w1 ⟨rfl, hw⟩
  have AC := hideIt (fun k hk => all_cells (w.alloc (.cells #[.int .u8 0, .int .u8 0, .int .u8 0, .string ⟨#[]⟩] 70)) k hk _ rfl)
  have AC : Hid (∀ k, k < 12 → w1.cell? ⟨w.heap.size + 1, k * 4, none⟩ = some (.int .u8 (numAt k)) ∧ w1.cell? ⟨w.heap.size + 1, k * 4 + 1, none⟩ = some (.int .u8 (colI (numAt k))) ∧ w1.cell? ⟨w.heap.size + 1, k * 4 + 2, none⟩ = some (.int .u8 (kndI (numAt k))) ∧ w1.cell? ⟨w.heap.size + 1, k * 4 + 3, none⟩ = some (.string (letS k))) := by
    intro k hk
    have := AC.out k hk
    rw [hw] at this
    simpa using this
  obtain ⟨⟨r0, r1, r2, r3⟩, hf, hb⟩ := find_world w _ _ _ hw
  clear hw
  have f0 := hf 0
  have f1 := hf 1
  have f2 := hf 2
  have f3 := hf 3
  clear hf
  go_wp2
  go_loop [5] (fun i => ∃ k : Nat, k ≤ 12 ∧ i = .int .i64 k ∧ Hid (∀ j, j < k → numAt j ≠ x)) (fun i => 12 - (intOf i).toNat)
  case atStart => exact ⟨0, by omega, rfl, fun j hj => absurd hj (Nat.not_lt_zero j)⟩
  case round =>
    obtain ⟨k, hk, rfl, hn⟩ := hrel
    by_cases hlt : k < 12
    · obtain ⟨c0, c1, c2, c3⟩ := AC.out k hlt
      by_cases he : numAt k = x
      · have z : (numAt k == x) = true := by rw [he]; exact beq_self_eq_true x
        have HE := hideIt (ent_yes k hlt)
        have HX := hideIt he
        clear he AC hn
        go_wp2
        refine bodyPost_ret (v := .tuple #[.agg #[.int .u8 (numAt k), .int .u8 (colI (numAt k)), .int .u8 (kndI (numAt k)), .string (letS k)], .bool true]) (by simp [results, Tryd.results54, go_sem, r0, r1, r2, r3]) rfl ⟨?_, ?_⟩
        · rw [← HX.out, ← HE.out.1, ← HE.out.2]
        · exact (((hb.setCell (Nat.le_refl _) _).setCell (Nat.le_refl _) _).setCell (Nat.le_refl _) _).setCell (Nat.le_refl _) _
      · have z : (numAt k == x) = false := by rw [beq_eq_false_iff_ne]; exact he
        have HN : Hid (∀ j, j < k + 1 → numAt j ≠ x) := by
          intro j hj
          by_cases e : j = k
          · subst e; exact he
          · exact hn.out j (by omega)
        clear he AC hn c1 c2 c3 r0 r1 r2 r3 f0 f1 f2 f3
        go_wp2
        go_round
        case rel => exact ⟨k + 1, by omega, by go_num, HN⟩
        case measure => simp [intOf]; omega
    · obtain rfl : k = 12 := by omega
      have HX := hideIt (ent_no hn.out)
      have HE := hideIt (ent_none HX.out)
      clear AC hn
      have b : ∀ w, (Instr.build 70 #[(1, .int .u8 2)]).run Tryd.prog w = .ok (.agg #[.int .u8 0, .int .u8 2, .int .u8 0, .string ⟨#[]⟩]) w := fun _ => by kernel_rfl
      go_wp2
      refine bodyPost_ret (v := .tuple #[.agg #[.int .u8 0, .int .u8 2, .int .u8 0, .string ⟨#[]⟩], .bool false]) (by simp [results, Tryd.results54, go_sem, r0, r1, r2, r3]) rfl ⟨?_, ?_⟩
      · rw [← HE.out, HX.out]
      · exact (((hb.setCell (Nat.le_refl _) _).setCell (Nat.le_refl _) _).setCell (Nat.le_refl _) _).setCell (Nat.le_refl _) _

set_option maxHeartbeats 800000 in
theorem ris_any (x : Int) (w : World) :
    Calls Tryd.prog 53 #[.int .u8 x] w fun e w' => e = .returned ((.bool (isB x))) ∧ Below w.heap.size w w' := by
  obtain ⟨p, c, k, t, hp⟩ : ∃ p c k t, entV x = .agg #[.int .u8 p, .int .u8 c, .int .u8 k, .string t] ∧ c = colI x ∧ k = kndI x := ⟨_, _, _, _, rfl, rfl, rfl⟩
  obtain ⟨hp, rfl, rfl⟩ := hp
  have HP := hideIt hp
  clear hp
  go_enter Tryd.func53, Tryd.ntmps53
  go_wp2_with fail
  refine (rfind_any x _).mono ?_
  rintro e w1 ⟨rfl, hb⟩
  rw [HP.out]
  go_wp2
  go_ret
  refine ⟨rfl, ?_⟩
  repeat (first | exact hb | refine Below.setCell ?_ (by simp; omega) _ | refine Below.alloc ?_ (by have := hb.size; simp; omega) _)

set_option maxHeartbeats 800000 in
theorem rcolor_any (x : Int) (w : World) :
    Calls Tryd.prog 31 #[.int .u8 x] w fun e w' => e = .returned ((.int .u8 (colI x))) ∧ Below w.heap.size w w' := by
  obtain ⟨p, c, k, t, hp⟩ : ∃ p c k t, entV x = .agg #[.int .u8 p, .int .u8 c, .int .u8 k, .string t] ∧ c = colI x ∧ k = kndI x := ⟨_, _, _, _, rfl, rfl, rfl⟩
  obtain ⟨hp, rfl, rfl⟩ := hp
  have HP := hideIt hp
  clear hp
  go_enter Tryd.func31, Tryd.ntmps31
  go_wp2_with fail
  refine (rfind_any x _).mono ?_
  rintro e w1 ⟨rfl, hb⟩
  rw [HP.out]
  go_wp2
  go_ret
  refine ⟨rfl, ?_⟩
  repeat (first | exact hb | refine Below.setCell ?_ (by simp; omega) _ | refine Below.alloc ?_ (by have := hb.size; simp; omega) _)

set_option maxHeartbeats 800000 in
theorem rkind_any (x : Int) (w : World) :
    Calls Tryd.prog 32 #[.int .u8 x] w fun e w' => e = .returned ((.int .u8 (kndI x))) ∧ Below w.heap.size w w' := by
  obtain ⟨p, c, k, t, hp⟩ : ∃ p c k t, entV x = .agg #[.int .u8 p, .int .u8 c, .int .u8 k, .string t] ∧ c = colI x ∧ k = kndI x := ⟨_, _, _, _, rfl, rfl, rfl⟩
  obtain ⟨hp, rfl, rfl⟩ := hp
  have HP := hideIt hp
  clear hp
  go_enter Tryd.func32, Tryd.ntmps32
  go_wp2_with fail
  refine (rfind_any x _).mono ?_
  rintro e w1 ⟨rfl, hb⟩
  rw [HP.out]
  go_wp2
  go_ret
  refine ⟨rfl, ?_⟩
  repeat (first | exact hb | refine Below.setCell ?_ (by simp; omega) _ | refine Below.alloc ?_ (by have := hb.size; simp; omega) _)



end Go.Proofs.YtccdelpiflcipaaDoor
