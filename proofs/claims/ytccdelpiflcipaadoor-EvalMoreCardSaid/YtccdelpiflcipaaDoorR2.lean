/- Walks of the reference of bits: List, Step. -/
import Derived.Test.YtccdelpiflcipaaDoorR1
import Derived.Test.YtccdelpiflcipaaDoorOwn
import Derived.Test.YtccdelpiflcipaaDoorU2
namespace Go.Proofs.YtccdelpiflcipaaDoor
open Go Go.RowKit

def natI (l : List Nat) : List Int := l.map (fun k : Nat => (k : Int))

set_option maxHeartbeats 800000 in
theorem rlist_any (b : BitVec 64) {a : Int} (ha : a = u b) (w : World) :
    Calls Tryd.prog 55 #[.int .u64 a] w fun e w' => ∃ v, e = .returned v ∧ OwnsI w' w.heap.size v (listB b) ∧ Below w.heap.size w w' := by
  subst ha
  obtain ⟨i0, hi, hz0, hz1, hz2⟩ := info_parts Tryd.infoI
  go_enter Tryd.func55, Tryd.ntmps55
  go_wp2
  go_loopw [3, 4] (fun v i wr => ∃ k : Nat, k ≤ 64 ∧ i = .int .i64 k ∧ OwnsI wr w.heap.size v (natI (listN b k)) ∧ Below w.heap.size w wr) (fun _ i _ => 64 - (intOf i).toNat)
  case atStart => exact ⟨0, by omega, rfl, World.ownsRow_nil _ _ _ _, Below.refl _ _⟩
  case round =>
    obtain ⟨k, hk, rfl, hown, hbel⟩ := hrel
    by_cases hlt : k < 64
    · cases hb : b.getLsbD k with
      | true =>
        have hh : hasB b (k : Int) = true := by rw [hasB_nat b k hlt]; exact hb
        go_wp2_with fail
        refine (rhas_any b rfl _ _).mono ?_
        rintro e w1 ⟨rfl, rfl⟩
        have hle := hbel.size
        have hll : (natI (listN b k)).length ≤ k := by unfold natI; rw [List.length_map]; exact listN_le b k
        go_wp2_with (at_builtin; refine wpList_append_own _ rfl _ _ 49 rfl w.heap.size 3 i0 (.int .i64 0) 1 8 Tryd.underlying49 hi hz0 hz1 hz2 rfl (by decide) _ _ _ rfl (World.ownsRow.alloc hown _) ⟨wr.heap.size, 0, none⟩ 1 1 [.int .i64 (k : Int)] rfl rfl (cell_one_new _ _ _) (fun x hx => by simp at hx; subst hx; rfl) (by unfold maxLen; omega) (by omega) (by simp; omega) ?_; intro v' w3 hown' hgrow3 _)
        go_roundw
        case rel => exact ⟨k + 1, by omega, by go_num, by rw [listN_succ_yes b k hb]; unfold natI; rw [List.map_append]; exact OwnsI.app hown', OwnsI.grown hown hbel hle _ hgrow3⟩
        case measure => simp [intOf]; omega
      | false =>
        have hh : hasB b (k : Int) = false := by rw [hasB_nat b k hlt]; exact hb
        go_wp2_with fail
        refine (rhas_any b rfl _ _).mono ?_
        rintro e w1 ⟨rfl, rfl⟩
        go_wp2
        go_roundw
        case rel => exact ⟨k + 1, by omega, by go_num, by rw [listN_succ_no b k hb]; exact hown, hbel⟩
        case measure => simp [intOf]; omega
    · go_wp2
      go_ret
      obtain rfl : k = 64 := by omega
      exact ⟨_, rfl, hown, hbel⟩

end Go.Proofs.YtccdelpiflcipaaDoor
