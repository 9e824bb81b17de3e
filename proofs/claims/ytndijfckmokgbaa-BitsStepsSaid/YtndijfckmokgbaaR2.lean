/- Walks of the reference of bits: List, Step. -/
import Derived.Test.YtndijfckmokgbaaR1
import Derived.Test.YtndijfckmokgbaaU2
import Derived.Deep.QuietTactic
import Derived.BigQuiet
import Derived.Maps.AppendAt
namespace Go.Proofs.Ytndijfckmokgbaa
open Go Go.RowKit

theorem Try.infoI : (Try.prog.info? 3).map (fun i => (i.zero, i.size, i.bytes)) = some (some (.int .i64 0), 1, 8) := by kernel_rfl

/-- A slice of ints that the call owns from a base on. -/
def OwnsI (w : World) (base : Nat) (v : Value) (l : List Int) : Prop := w.ownsRow base 3 1 v l.length (l.map (Value.int .i64))

theorem OwnsI.app {w : World} {base : Nat} {v : Value} {l : List Int} {x : Int} (h : w.ownsRow base 3 1 v (l.length + 1) (l.map (Value.int .i64) ++ [.int .i64 x])) : OwnsI w base v (l ++ [x]) := by
  simpa [OwnsI] using h
theorem OwnsI.grown {w w1 w2 : World} {B : Nat} {v : Value} {l : List Int} (hown : OwnsI w1 B v l) (hbel : Below B w w1) (hB : B ≤ w1.heap.size) (o : Obj) (hg : (w1.alloc o).grownBy w2 v.ownBlock) : Below B w w2 :=
  (hbel.alloc hB o).grown hg (by simp; omega) (fun j hj => (World.ownsRow.lt hown j hj).1)
/-- What one may do with such a slice. -/
theorem OwnsI.form {w : World} {base : Nat} {v : Value} {l : List Int} (h : OwnsI w base v l) :
    (l = [] ∧ ∃ a c, v = .slice a 0 c) ∨ (∃ g c, v = .slice (some ⟨g, 0, none⟩) l.length c ∧ base ≤ g ∧ g < w.heap.size ∧ l ≠ [] ∧ (∀ k (hk : k < l.length), w.cell? ⟨g, k, none⟩ = some (.int .i64 (l[k]))) ∧ ∀ k, w.frozen? ⟨g, k, none⟩ = false) := by
  have hlt := World.ownsRow.lt h
  obtain ⟨h1, h2⟩ := id h
  rcases h2 with ⟨hv, hx⟩ | ⟨g, cap, cur, hv, rest⟩
  · left
    refine ⟨by simpa using hx, none, 0, hv⟩
  · subst hv
    by_cases hl : l = []
    · left; subst hl; exact ⟨rfl, _, _, rfl⟩
    · right
      have hlt := hlt g rfl
      refine ⟨g, cap, rfl, hlt.1, hlt.2, hl, ?_, ?_⟩
      · intro k hk
        have e := World.ownsRow.cellAt h k (by omega)
        rw [e]; simp [hk]
      · intro k; exact World.ownsRow.frozenAt h k

def natI (l : List Nat) : List Int := l.map (fun k : Nat => (k : Int))

set_option maxHeartbeats 800000 in
theorem rlist_any (b : BitVec 64) {a : Int} (ha : a = u b) (w : World) :
    Calls Try.prog 18 #[.int .u64 a] w fun e w' => ∃ v, e = .returned v ∧ OwnsI w' w.heap.size v (listB b) ∧ Below w.heap.size w w' := by
  subst ha
  obtain ⟨i0, hi, hz0, hz1, hz2⟩ := info_parts Try.infoI
  go_enter Try.func18, Try.ntmps18
  go_wp2
  go_loopw [3, 4] (fun v i wr => ∃ k : Nat, k ≤ 64 ∧ i = .int .i64 k ∧ OwnsI wr w.heap.size v (natI (listN b k)) ∧ Below w.heap.size w wr) (fun _ i _ => 64 - (intOf i).toNat)
  case atStart => exact ⟨0, by omega, rfl, World.ownsRow_nil _ _ _ _, Below.refl _ _⟩
  case round =>
    obtain ⟨k, hk, rfl, hown, hbel⟩ := hrel
    by_cases hlt : k < 64
    · cases hb : b.getLsbD k with
      | true =>
        have hh : hasB b (k : Int) = true := by rw [hasB_nat b k hlt]; exact hb
        go_wp2_with fail
        refine (rhas_any b rfl _ _).mono ?_
        rintro e w1 ⟨rfl, rfl⟩
        have hle := hbel.size
        have hll : (natI (listN b k)).length ≤ k := by unfold natI; rw [List.length_map]; exact listN_le b k
        go_wp2_with (at_builtin; refine wpList_append_own _ rfl _ _ 31 rfl w.heap.size 3 i0 (.int .i64 0) 1 8 Try.underlying31 hi hz0 hz1 hz2 rfl (by decide) _ _ _ rfl (World.ownsRow.alloc hown _) ⟨wr.heap.size, 0, none⟩ 1 1 [.int .i64 (k : Int)] rfl rfl (cell_one_new _ _ _) (fun x hx => by simp at hx; subst hx; rfl) (by unfold maxLen; omega) (by omega) (by simp; omega) ?_; intro v' w3 hown' hgrow3 _)
        go_roundw
        case rel => exact ⟨k + 1, by omega, by go_num, by rw [listN_succ_yes b k hb]; unfold natI; rw [List.map_append]; exact OwnsI.app hown', OwnsI.grown hown hbel hle _ hgrow3⟩
        case measure => simp [intOf]; omega
      | false =>
        have hh : hasB b (k : Int) = false := by rw [hasB_nat b k hlt]; exact hb
        go_wp2_with fail
        refine (rhas_any b rfl _ _).mono ?_
        rintro e w1 ⟨rfl, rfl⟩
        go_wp2
        go_roundw
        case rel => exact ⟨k + 1, by omega, by go_num, by rw [listN_succ_no b k hb]; exact hown, hbel⟩
        case measure => simp [intOf]; omega
    · go_wp2
      go_ret
      obtain rfl : k = 64 := by omega
      exact ⟨_, rfl, hown, hbel⟩

end Go.Proofs.Ytndijfckmokgbaa
