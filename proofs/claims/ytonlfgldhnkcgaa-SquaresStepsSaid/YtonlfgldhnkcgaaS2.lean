/- Walks of squares: Text, Parse. -/
import Derived.Test.YtonlfgldhnkcgaaS1
namespace Go.Proofs.Ytonlfgldhnkcgaa
open Go Go.RowKit

set_option maxHeartbeats 400000 in
theorem sText_any (s : Int) (w : World) :
    Calls Try.prog 22 #[.int .i64 s] w fun e w' => e = .returned (.string ⟨(textL s).toArray⟩) ∧ Below w.heap.size w w' := by
  by_cases h : 0 ≤ s ∧ s < 64
  · have H := hideIt (show textL s = _ from if_pos h)
    have F1 := hideIt (show fileI s = s % 8 from if_pos h)
    have R1 := hideIt (show rankI s = s / 8 from if_pos h)
    have h0 := h.1
    have h1 := h.2
    have hcv : ∀ (w : World) (x y : Int), (convert 36 9 (.slice (some ⟨w.heap.size, 0, none⟩) 2 2)).run Try.prog (w.alloc (.cells #[.int .u8 x, .int .u8 y] 5)) = .ok (.string (strOfNums [x, y])) (w.alloc (.cells #[.int .u8 x, .int .u8 y] 5)) := fun w x y =>
      run_convert_bytes_arg _ 36 5 Try.underlying36 Try.underlying5 w.heap.size 0 2 2 [x, y] rfl (fun i hi => by
        rw [World.cell?_alloc_at _ _ _ _ rfl]
        have : i = 0 ∨ i = 1 := by omega
        rcases this with rfl | rfl <;> rfl) _ Try.underlying9
    go_enter Try.func22, Try.ntmps22
    go_wp2_with fail
    refine (squares_1 _ _ s true (decide_eq_true h) _ (new_cell1 _ _ _)).mono ?_
    rintro e w' ⟨rfl, rfl⟩
    have hb := (Below.refl w.heap.size w).alloc (Nat.le_refl _) (.cells #[.int .i64 s] 3)
    clear h
    go_wp2_with fail
    refine (sFile_any s _).mono ?_
    rintro e w1 ⟨rfl, h1⟩
    rw [F1.out]
    have hb := hb.trans (h1.mono hb.size)
    clear h1
    go_wp2_with fail
    refine (sRank_any s _).mono ?_
    rintro e w3 ⟨rfl, h1⟩
    rw [R1.out]
    have hb := hb.trans (h1.mono hb.size)
    clear h1
    go_wp2
    go_ret
    exact ⟨ret_val (by rw [H.out]; exact text_nums s h0 h1), hb.alloc hb.size _⟩
  · have H := hideIt (show textL s = _ from if_neg h)
    go_enter Try.func22, Try.ntmps22
    go_wp2_with fail
    refine (squares_1 _ _ s false (decide_eq_false h) _ (new_cell1 _ _ _)).mono ?_
    rintro e w' ⟨rfl, rfl⟩
    go_wp2
    go_ret
    exact ⟨ret_val (by rw [H.out]; rfl), (Below.refl _ _).alloc (Nat.le_refl _) _⟩

attribute [local go_sem] World.iter
set_option maxHeartbeats 800000 in
theorem sParse_long (t : ByteArray) (ht : t.size = 2) (c d m : Nat) (h0 : Utf8.decode t 0 = (c, 1)) (h1 : Utf8.decode t 1 = (d, m)) (hm : 1 ≤ m) (hc : c ≤ 2147483647) (hd : d ≤ 2147483647) (w : World) :
    Calls Try.prog 20 #[.string t] w fun e w' => e = .returned (.tuple #[.int .i64 (ofFR ((c : Int) - 97) ((d : Int) - 49)), .bool (okI ((c : Int) - 97) ((d : Int) - 49))]) ∧ Below w.heap.size w w' := by
  have i0 : ∀ w, (Instr.index 35 (.agg #[.int .i64 97, .int .i64 49]) (.int .i64 0)).run Try.prog w = .ok (.int .i64 97) w := fun _ => by kernel_rfl
  have i1 : ∀ w, (Instr.index 35 (.agg #[.int .i64 97, .int .i64 49]) (.int .i64 1)).run Try.prog w = .ok (.int .i64 49) w := fun _ => by kernel_rfl
  have n0 : ∀ (ty : TypeId) (C : Array Value), (Instr.next (.pointer (some ⟨w.heap.size + 1, 0, none⟩)) true ty).run Try.prog ((w.alloc (.cells C 35)).alloc (.stringIter t 0)) = .ok (.tuple #[.bool true, .int .i64 0, .int .i32 c]) ((w.alloc (.cells C 35)).alloc (.stringIter t 1)) := fun ty C => by
    have := run_next_any (P := Try.prog) (w.alloc (.cells C 35)) t 0 ty (by omega)
    rw [h0] at this; simpa [World.iter] using this
  have n1 : ∀ (ty : TypeId) (C : Array Value), (Instr.next (.pointer (some ⟨w.heap.size + 1, 0, none⟩)) true ty).run Try.prog ((w.alloc (.cells C 35)).alloc (.stringIter t 1)) = .ok (.tuple #[.bool true, .int .i64 1, .int .i32 d]) ((w.alloc (.cells C 35)).alloc (.stringIter t (1 + m))) := fun ty C => by
    have := run_next_any (P := Try.prog) (w.alloc (.cells C 35)) t 1 ty (by omega)
    rw [h1] at this; simpa [World.iter] using this
  have n2 : ∀ (ty : TypeId) (C : Array Value), (Instr.next (.pointer (some ⟨w.heap.size + 1, 0, none⟩)) true ty).run Try.prog ((w.alloc (.cells C 35)).alloc (.stringIter t (1 + m))) = .ok (.tuple #[.bool false]) ((w.alloc (.cells C 35)).alloc (.stringIter t (1 + m))) := fun ty C => by
    have := run_next_end (P := Try.prog) (w.alloc (.cells C 35)) t (1 + m) ty (by omega)
    simpa [World.iter] using this
  clear h0 h1
  go_enter Try.func20, Try.ntmps20
  go_wp2
  refine wp_loop_rounds 3 ?_
  rw [rounds_succ]
  go_wp2
  rw [rounds_succ]
  go_wp2
  rw [rounds_succ]
  go_wp2_with fail
  refine (sOf_any _ _ _).mono ?_
  rintro e w' ⟨rfl, rfl⟩
  go_wp2
  go_ret2
  exact ⟨rfl, ((Below.refl _ _).alloc (Nat.le_refl _) _).alloc (by simp) _⟩

set_option maxHeartbeats 800000 in
theorem sParse_short (t : ByteArray) (ht : t.size = 2) (c k : Nat) (h0 : Utf8.decode t 0 = (c, k)) (hk : 2 ≤ k) (hc : c ≤ 2147483647) (w : World) :
    Calls Try.prog 20 #[.string t] w fun e w' => e = .returned (.tuple #[.int .i64 (ofFR ((c : Int) - 97) 0), .bool (okI ((c : Int) - 97) 0)]) ∧ Below w.heap.size w w' := by
  have i0 : ∀ w, (Instr.index 35 (.agg #[.int .i64 97, .int .i64 49]) (.int .i64 0)).run Try.prog w = .ok (.int .i64 97) w := fun _ => by kernel_rfl
  have i1 : ∀ w, (Instr.index 35 (.agg #[.int .i64 97, .int .i64 49]) (.int .i64 1)).run Try.prog w = .ok (.int .i64 49) w := fun _ => by kernel_rfl
  have n0 : ∀ (ty : TypeId) (C : Array Value), (Instr.next (.pointer (some ⟨w.heap.size + 1, 0, none⟩)) true ty).run Try.prog ((w.alloc (.cells C 35)).alloc (.stringIter t 0)) = .ok (.tuple #[.bool true, .int .i64 0, .int .i32 c]) ((w.alloc (.cells C 35)).alloc (.stringIter t k)) := fun ty C => by
    have := run_next_any (P := Try.prog) (w.alloc (.cells C 35)) t 0 ty (by omega)
    rw [h0] at this; simpa [World.iter] using this
  have n2 : ∀ (ty : TypeId) (C : Array Value), (Instr.next (.pointer (some ⟨w.heap.size + 1, 0, none⟩)) true ty).run Try.prog ((w.alloc (.cells C 35)).alloc (.stringIter t k)) = .ok (.tuple #[.bool false]) ((w.alloc (.cells C 35)).alloc (.stringIter t k)) := fun ty C => by
    have := run_next_end (P := Try.prog) (w.alloc (.cells C 35)) t k ty (by omega)
    simpa [World.iter] using this
  clear h0
  go_enter Try.func20, Try.ntmps20
  go_wp2
  refine wp_loop_rounds 2 ?_
  rw [rounds_succ]
  go_wp2
  rw [rounds_succ]
  go_wp2_with fail
  refine (sOf_any _ _ _).mono ?_
  rintro e w' ⟨rfl, rfl⟩
  go_wp2
  go_ret2
  exact ⟨rfl, ((Below.refl _ _).alloc (Nat.le_refl _) _).alloc (by simp) _⟩

theorem sParse_none (t : ByteArray) (ht : t.size ≠ 2) (_hs : t.size ≤ 9223372036854775807) (w : World) :
    Calls Try.prog 20 #[.string t] w fun e w' => e = .returned (.tuple #[.int .i64 0, .bool false]) ∧ Below w.heap.size w w' := by
  have hn : ((t.size : Int) != 2) = true := by rw [bne_iff_ne]; omega
  go_enter Try.func20, Try.ntmps20
  go_wp2
  go_ret2
  exact ⟨rfl, Below.refl _ _⟩

/-- The two bytes of a text of two, and what it decodes as. -/
theorem sParse_two (t : ByteArray) (ht : t.size = 2) (w : World) :
    Calls Try.prog 20 #[.string t] w fun e w' => (e = .returned (.tuple #[.int .i64 (ofFR (((t[0]'(by omega)).toNat : Int) - 97) (((t[1]'(by omega)).toNat : Int) - 49)), .bool (okI (((t[0]'(by omega)).toNat : Int) - 97) (((t[1]'(by omega)).toNat : Int) - 49))])) ∧ Below w.heap.size w w' := by
  have no : ∀ c r r' : Int, 8 ≤ c → ofFR c r = 0 ∧ okI c r = false := by
    intro c r r' h
    exact ⟨if_neg (by omega), decide_eq_false (by omega)⟩
  have no' : ∀ c r : Int, 8 ≤ r → ofFR c r = 0 ∧ okI c r = false := by
    intro c r h
    exact ⟨if_neg (by omega), decide_eq_false (by omega)⟩
  by_cases h0 : (t[0]'(by omega)).toNat < 128
  · have d0 := decode_ascii t 0 (by omega) h0
    by_cases h1 : (t[1]'(by omega)).toNat < 128
    · have d1 := decode_ascii t 1 (by omega) h1
      exact sParse_long t ht _ _ _ d0 d1 (Nat.le_refl _) (by omega) (by omega) w
    · obtain ⟨g1, g2⟩ := decode_high t 1 (by omega) (by omega)
      have g3 := decode_le t 1
      obtain ⟨x, y, hxy⟩ : ∃ x y, Utf8.decode t 1 = (x, y) := ⟨_, _, rfl⟩
      rw [hxy] at g1 g2 g3
      simp only at g1 g2 g3
      have hn := sParse_long t ht _ _ _ d0 hxy g2 (by omega) g3 w
      rw [(no' _ _ (by omega)).1, (no' _ _ (by omega)).2] at hn
      rw [(no' _ _ (by omega)).1, (no' _ _ (by omega)).2]
      exact hn
  · obtain ⟨g1, g2⟩ := decode_high t 0 (by omega) (by omega)
    have g3 := decode_le t 0
    obtain ⟨c, k, hck⟩ : ∃ x y, Utf8.decode t 0 = (x, y) := ⟨_, _, rfl⟩
    rw [hck] at g1 g2 g3
    simp only at g1 g2 g3
    rw [(no _ _ 0 (by omega)).1, (no _ _ 0 (by omega)).2]
    by_cases hk : 2 ≤ k
    · have hn := sParse_short t ht _ _ hck hk g3 w
      rw [(no _ _ 0 (by omega)).1, (no _ _ 0 (by omega)).2] at hn
      exact hn
    · obtain rfl : k = 1 := by omega
      have gm : 1 ≤ (Utf8.decode t 1).2 := by
        by_cases h1 : (t[1]'(by omega)).toNat < 128
        · rw [decode_ascii t 1 (by omega) h1]; exact Nat.le_refl _
        · exact (decode_high t 1 (by omega) (by omega)).2
      have gd := decode_le t 1
      obtain ⟨x, y, hxy⟩ : ∃ x y, Utf8.decode t 1 = (x, y) := ⟨_, _, rfl⟩
      rw [hxy] at gm gd
      simp only at gm gd
      have hn := sParse_long t ht _ _ _ hck hxy gm g3 gd w
      rw [(no _ _ 0 (by omega)).1, (no _ _ 0 (by omega)).2] at hn
      exact hn

end Go.Proofs.Ytonlfgldhnkcgaa
