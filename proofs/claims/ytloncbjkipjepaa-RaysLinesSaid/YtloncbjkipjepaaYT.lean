/- Walks of the reference of rays: Between, Line. -/
import Derived.Test.YtloncbjkipjepaaYR
namespace Go.Proofs.Ytloncbjkipjepaa
open Go Go.RowKit

theorem owns_cap {w : World} {B : Nat} {v : Value} {l : List Int} (h : OwnsI w B v l) {a : Option Addr} {n c : Nat} (hv : v = .slice a n c) : n ≤ c := by
  obtain ⟨h1, h2⟩ := h
  rcases h2 with ⟨e, e0⟩ | ⟨g, cap, cur, e, hb, hg, hc, _⟩
  · rw [hv] at e
    injection e with e1 e2 e3
    omega
  · rw [hv] at e
    injection e with e1 e2 e3
    omega
theorem rof_take (g c k : Nat) (l : List Int) (w : World) (hk : k ≤ l.length) (hl : l.length ≤ 1000000) (h : ∀ k (hk : k < l.length), w.cell? ⟨g, k, none⟩ = some (.int .i64 (l[k]))) :
    Calls Try.prog 33 #[.slice (some ⟨g, 0, none⟩) k c] w fun e w' => e = .returned (.int .u64 (u (foldPut (fun x => x) (l.take k)))) ∧ w = w' := by
  have e : (l.take k).length = k := by rw [List.length_take]; omega
  have := rof_any (some ⟨g, 0, none⟩) c (l.take k) w (by omega) (.inr ⟨g, rfl, fun j hj => by rw [List.getElem_take]; exact h j (by omega)⟩)
  rw [e] at this
  exact this

set_option maxHeartbeats 1600000 in
theorem rbetween_any (a b : Int) (w : World) :
    Calls Try.prog 20 #[.int .i64 a, .int .i64 b] w fun e w' => e = .returned (.int .u64 (u (betB a b))) ∧ Below w.heap.size w w' := by
  go_enter Try.func20, Try.ntmps20
  go_wp2
  go_loopw [5] (fun i wr => ∃ k : Nat, k ≤ 8 ∧ i = .int .i64 k ∧ Hid (∀ j : Nat, j < k → b ∉ walkL a j) ∧ Below w.heap.size w wr) (fun i _ => 8 - (intOf i).toNat)
  case atStart => exact ⟨0, by omega, rfl, fun j hj => absurd hj (Nat.not_lt_zero j), Below.refl _ _⟩
  case round =>
    obtain ⟨k, hk, rfl, hn, hb⟩ := hrel
    by_cases hlt : k < 8
    · have W7 := walk_len a k
      go_wp2_with fail
      refine (rwalk_any a k _).mono ?_
      rintro e w1 ⟨v, rfl, hown, h1⟩
      have hb := hb.trans (h1.mono hb.size)
      clear h1
      obtain ⟨x, c, rfl, hc⟩ := owns_cells hown
      have hcap := owns_cap hown rfl
      clear hown
      obtain ⟨l, hl⟩ : ∃ l, walkL a k = l := ⟨_, rfl⟩
      rw [hl] at hc hcap W7 ⊢
      have HL := hideIt hl
      clear hl
      rcases hc with hnil | ⟨g, hx, hc⟩
      · have HN : Hid (∀ j : Nat, j < k + 1 → b ∉ walkL a j) := by
          intro j hj
          by_cases e : j = k
          · subst e; rw [HL.out, hnil]; exact List.not_mem_nil
          · exact hn.out j (by omega)
        subst hnil
        go_wp2
        refine wp_loop_rounds 1 ?_
        rw [rounds_succ]
        go_wp2
        go_roundw
        case rel => exact ⟨k + 1, by omega, by go_num, HN, hb⟩
        case measure => simp [intOf]; omega
      · subst hx
        have HC := hideIt hc
        clear hc
        obtain ⟨n, hn2⟩ : ∃ n, l.length = n := ⟨_, rfl⟩
        rw [hn2] at hcap W7 ⊢
        have HLn := hideIt hn2
        clear hn2
        obtain ⟨wo, hwo⟩ : ∃ wo : World, wo = w1 := ⟨_, rfl⟩
        subst hwo
        go_wp2
        go_loop [7] (fun i => ∃ m : Nat, m ≤ n ∧ i = .int .i64 m ∧ Hid (∀ j (hj : j < l.length), j < m → l[j] ≠ b)) (fun i => n - (intOf i).toNat)
        case atStart => exact ⟨0, by omega, rfl, fun j hj h => absurd h (Nat.not_lt_zero j)⟩
        case round =>
          obtain ⟨m, hm, rfl, hq⟩ := hrel
          by_cases hmn : m < n
          · have hml : m < l.length := by rw [HLn.out]; exact hmn
            have hc := HC.out m hml
            by_cases hy : l[m] = b
            · have HR : Hid (foldPut (fun x => x) (l.take m) = betB a b) := by
                have hmem : b ∈ walkL a k := by rw [HL.out, ← hy]; exact List.getElem_mem hml
                have := (ref_of hlt hmem).1
                rw [HL.out, idx_at m hml b hy hq.out] at this
                exact this
              rw [hy] at hc
              clear hy
              go_wp2_with fail
              refine (rof_take g c m l _ (by omega) (by have := HLn.out; omega) HC.out).mono ?_
              rintro e w3 ⟨rfl, rfl⟩
              rw [HR.out]
              go_wp2
              go_ret
              exact ⟨rfl, hb⟩
            · have HQ : Hid (∀ j (hj : j < l.length), j < m + 1 → l[j] ≠ b) := by
                intro j hj h
                by_cases e : j = m
                · subst e; exact hy
                · exact hq.out j hj (by omega)
              have hz : (l[m] == b) = false := by rw [beq_eq_false_iff_ne]; exact hy
              generalize l[m] = y at *
              clear hy
              go_wp2
              go_round
              case rel => exact ⟨m + 1, by omega, by go_num, HQ⟩
              case measure => simp [intOf]; omega
          · obtain rfl : m = n := by omega
            have HN : Hid (∀ j : Nat, j < k + 1 → b ∉ walkL a j) := by
              intro j hj
              by_cases e : j = k
              · subst e
                rw [HL.out]
                intro hmem
                obtain ⟨j, hj2, e2⟩ := List.getElem_of_mem hmem
                exact hq.out j hj2 (by have := HLn.out; omega) e2
              · exact hn.out j (by omega)
            go_wp2
            go_roundw
            case rel => exact ⟨k + 1, by omega, by go_num, HN, hb⟩
            case measure => simp [intOf]; omega
    · obtain rfl : k = 8 := by omega
      have K := hideIt (ref_no (fun d hd => hn.out d hd)).1
      go_wp2
      go_ret
      exact ⟨ret_u K.out.symm, hb⟩

set_option maxHeartbeats 1600000 in
theorem rline_any (a b : Int) (w : World) :
    Calls Try.prog 22 #[.int .i64 a, .int .i64 b] w fun e w' => e = .returned (.int .u64 (u (lineB a b))) ∧ Below w.heap.size w w' := by
  go_enter Try.func22, Try.ntmps22
  go_wp2
  go_loopw [5] (fun i wr => ∃ k : Nat, k ≤ 8 ∧ i = .int .i64 k ∧ Hid (∀ j : Nat, j < k → b ∉ walkL a j) ∧ Below w.heap.size w wr) (fun i _ => 8 - (intOf i).toNat)
  case atStart => exact ⟨0, by omega, rfl, fun j hj => absurd hj (Nat.not_lt_zero j), Below.refl _ _⟩
  case round =>
    obtain ⟨k, hk, rfl, hn, hb⟩ := hrel
    by_cases hlt : k < 8
    · cases hh : hasB (rayB a k) b with
      | true =>
        have K := hideIt (ref_of hlt (mem_ray.2 hh)).2
        have HH := hideIt hh
        clear hh
        go_wp2_with fail
        refine (rray_any a k _).mono ?_
        rintro e w2 ⟨rfl, h1⟩
        have hb := hb.trans (h1.mono hb.size)
        clear h1
        go_wp2_with fail
        refine (rhas_any (rayB a k) rfl b _).mono ?_
        rintro e w3 ⟨rfl, rfl⟩
        rw [HH.out]
        go_wp2_with fail
        refine (rray_any a k _).mono ?_
        rintro e w4 ⟨rfl, h1⟩
        have hb := hb.trans (h1.mono hb.size)
        clear h1
        go_wp2_with fail
        refine (rray_any a _ _).mono ?_
        rintro e w5 ⟨rfl, h1⟩
        have hb := hb.trans (h1.mono hb.size)
        clear h1
        go_wp2_with fail
        refine (rray_any b k _).mono ?_
        rintro e w6 ⟨rfl, h1⟩
        have hb := hb.trans (h1.mono hb.size)
        clear h1
        go_wp2_with fail
        refine (rray_any b _ _).mono ?_
        rintro e w7 ⟨rfl, h1⟩
        have hb := hb.trans (h1.mono hb.size)
        clear h1
        go_wp2_with fail
        refine (rput_any _ rfl a _).mono ?_
        rintro e w8 ⟨rfl, rfl⟩
        rw [K.out]
        go_wp2
        go_ret
        exact ⟨rfl, hb⟩
      | false =>
        have HN : Hid (∀ j : Nat, j < k + 1 → b ∉ walkL a j) := by
          intro j hj
          by_cases e : j = k
          · subst e; intro hm; rw [mem_ray.1 hm] at hh; cases hh
          · exact hn.out j (by omega)
        have HH := hideIt hh
        clear hh
        go_wp2_with fail
        refine (rray_any a k _).mono ?_
        rintro e w2 ⟨rfl, h1⟩
        have hb := hb.trans (h1.mono hb.size)
        clear h1
        go_wp2_with fail
        refine (rhas_any (rayB a k) rfl b _).mono ?_
        rintro e w3 ⟨rfl, rfl⟩
        rw [HH.out]
        go_wp2
        go_roundw
        case rel => exact ⟨k + 1, by omega, by go_num, HN, hb⟩
        case measure => simp [intOf]; omega
    · obtain rfl : k = 8 := by omega
      have K := hideIt (ref_no (fun d hd => hn.out d hd)).2
      go_wp2
      go_ret
      exact ⟨ret_u K.out.symm, hb⟩

end Go.Proofs.Ytloncbjkipjepaa
