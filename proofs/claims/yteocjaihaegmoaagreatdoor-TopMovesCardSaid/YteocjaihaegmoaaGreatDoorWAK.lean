/- Parts of the proof: Y2. -/
import Derived.Test.YteocjaihaegmoaaGreatDoorWAG
import Derived.Deep.RegionHeld3
set_option maxHeartbeats 800000
namespace Go.Proofs.YteocjaihaegmoaaGreatDoor
open Go Go.RowKit
theorem drew_cell {w:World} {a:Addr} {v:Value} (h:w.cell? a=some v):w.drew.cell? a=some v:=h
theorem below_drew {n:Nat} {w w' : World} (h:Below n w w'):Below n w w'.drew:=below_drewN h 1
theorem below_new {n:Nat} {w w' : World} {o:Obj} (h:Below n w w') (hn:n≤w.heap.size):Below n w (w'.alloc o):=h.alloc (Nat.le_trans hn h.size) o
theorem below_then {w w' w2:World} (h:Below w.heap.size w w') (h2:Below w'.heap.size w' w2):Below w.heap.size w w2:=h.trans (h2.mono h.size)
theorem far_cell {w:World} {a:Addr} {v:Value} {o:Obj} (h:w.cell? a=some v):(w.alloc o).cell? a=some v:=by rw [World.cell?_alloc_some w a o (by rw [h];rfl)];exact h
theorem then_cell {w w' : World} {a:Addr} {v:Value} (h2:Below w.heap.size w w') (h:w.cell? a=some v):w'.cell? a=some v:=(h2.cell (World.block_lt_of_cell? _ _ h)).trans h
theorem new_c0 (w:World) (a b:Value) (t:TypeId) (g:Nat) (h:g=w.heap.size):(w.alloc (.cells #[a,b] t)).cell? ⟨g,0,none⟩=some a:=by subst h;exact (new_cell2 _ _ _ _).1
theorem new_c1 (w:World) (a b:Value) (t:TypeId) (g:Nat) (h:g=w.heap.size):(w.alloc (.cells #[a,b] t)).cell? ⟨g,1,none⟩=some b:=by subst h;exact (new_cell2 _ _ _ _).2
theorem keepS {B:Nat} {w w' : World} {v:Value} (hs:B<w.heap.size) (hc:w.cell? ⟨B,0,none⟩=some v) (h:Below w.heap.size w w'):w'.cell? ⟨B,0,none⟩=some v∧Below w.heap.size w w' := ⟨(h.cell (p:=⟨B,0,none⟩) hs).trans hc,h⟩
theorem knight_at0 (s:Int) (B:Nat) (w:World) (hc:w.cell? ⟨B,0,none⟩=some (.int .i64 s)) :
 Calls Tryz.prog 218 #[.int .i64 0,.pointer (some ⟨B,0,none⟩)] w fun e w' => e = .returned (.int .u64 (u (knightO s 0)))∧Below w.heap.size w w' := by
 have hs:B<w.heap.size:=World.block_lt_of_cell? _ _ hc
 have H:=hI (show shiftB (shiftB (oneB s) 0) 1 ||| shiftB (shiftB (oneB s) 0) 7=knightO s 0 from rfl)
 go_enter Tryz.func218,Tryz.ntmps218
 go_wp2
 go_region_held3 (fun W=>W.cell? ⟨B,0,none⟩=some (.int .i64 s)∧Below w.heap.size w W) ((refine keepS hs hc ?_;repeat (first | exact Below.refl _ _ | assumption | refine below_drew ?_ | refine below_new ?_ lR | refine below_then ?_ (by assumption)))) ((go_at_call 156;refine (steps_2 s _ _ _ _ _ (by repeat (first | (with_reducible refine new_c0 _ _ _ _ _ ?_;(first | rfl | (simp;done))) | with_reducible refine drew_cell ?_ | with_reducible refine far_cell ?_ | with_reducible refine then_cell (by assumption) ?_)) (by repeat (first | (with_reducible refine new_c1 _ _ _ _ _ ?_;(first | rfl | (simp;done))) | with_reducible refine drew_cell ?_ | with_reducible refine far_cell ?_ | with_reducible refine then_cell (by assumption) ?_))).mono ?_;rintro e w1 ⟨rfl,h1⟩))
 all_goals
  go_wp2
  go_ret
  refine ⟨ret_u H.out,?_⟩
  repeat (first | exact Below.refl _ _ | assumption | refine below_drew ?_ | refine below_new ?_ lR | refine below_then ?_ (by assumption))
theorem knight_at2 (s:Int) (B:Nat) (w:World) (hc:w.cell? ⟨B,0,none⟩=some (.int .i64 s)) :
 Calls Tryz.prog 218 #[.int .i64 2,.pointer (some ⟨B,0,none⟩)] w fun e w' => e = .returned (.int .u64 (u (knightO s 2)))∧Below w.heap.size w w' := by
 have hs:B<w.heap.size:=World.block_lt_of_cell? _ _ hc
 have H:=hI (show shiftB (shiftB (oneB s) 2) 3 ||| shiftB (shiftB (oneB s) 2) 1=knightO s 2 from rfl)
 go_enter Tryz.func218,Tryz.ntmps218
 go_wp2
 go_region_held3 (fun W=>W.cell? ⟨B,0,none⟩=some (.int .i64 s)∧Below w.heap.size w W) ((refine keepS hs hc ?_;repeat (first | exact Below.refl _ _ | assumption | refine below_drew ?_ | refine below_new ?_ lR | refine below_then ?_ (by assumption)))) ((go_at_call 156;refine (steps_2 s _ _ _ _ _ (by repeat (first | (with_reducible refine new_c0 _ _ _ _ _ ?_;(first | rfl | (simp;done))) | with_reducible refine drew_cell ?_ | with_reducible refine far_cell ?_ | with_reducible refine then_cell (by assumption) ?_)) (by repeat (first | (with_reducible refine new_c1 _ _ _ _ _ ?_;(first | rfl | (simp;done))) | with_reducible refine drew_cell ?_ | with_reducible refine far_cell ?_ | with_reducible refine then_cell (by assumption) ?_))).mono ?_;rintro e w1 ⟨rfl,h1⟩))
 all_goals
  go_wp2
  go_ret
  refine ⟨ret_u H.out,?_⟩
  repeat (first | exact Below.refl _ _ | assumption | refine below_drew ?_ | refine below_new ?_ lR | refine below_then ?_ (by assumption))
theorem knight_at4 (s:Int) (B:Nat) (w:World) (hc:w.cell? ⟨B,0,none⟩=some (.int .i64 s)) :
 Calls Tryz.prog 218 #[.int .i64 4,.pointer (some ⟨B,0,none⟩)] w fun e w' => e = .returned (.int .u64 (u (knightO s 4)))∧Below w.heap.size w w' := by
 have hs:B<w.heap.size:=World.block_lt_of_cell? _ _ hc
 have H:=hI (show shiftB (shiftB (oneB s) 4) 5 ||| shiftB (shiftB (oneB s) 4) 3=knightO s 4 from rfl)
 go_enter Tryz.func218,Tryz.ntmps218
 go_wp2
 go_region_held3 (fun W=>W.cell? ⟨B,0,none⟩=some (.int .i64 s)∧Below w.heap.size w W) ((refine keepS hs hc ?_;repeat (first | exact Below.refl _ _ | assumption | refine below_drew ?_ | refine below_new ?_ lR | refine below_then ?_ (by assumption)))) ((go_at_call 156;refine (steps_2 s _ _ _ _ _ (by repeat (first | (with_reducible refine new_c0 _ _ _ _ _ ?_;(first | rfl | (simp;done))) | with_reducible refine drew_cell ?_ | with_reducible refine far_cell ?_ | with_reducible refine then_cell (by assumption) ?_)) (by repeat (first | (with_reducible refine new_c1 _ _ _ _ _ ?_;(first | rfl | (simp;done))) | with_reducible refine drew_cell ?_ | with_reducible refine far_cell ?_ | with_reducible refine then_cell (by assumption) ?_))).mono ?_;rintro e w1 ⟨rfl,h1⟩))
 all_goals
  go_wp2
  go_ret
  refine ⟨ret_u H.out,?_⟩
  repeat (first | exact Below.refl _ _ | assumption | refine below_drew ?_ | refine below_new ?_ lR | refine below_then ?_ (by assumption))
theorem knight_at6 (s:Int) (B:Nat) (w:World) (hc:w.cell? ⟨B,0,none⟩=some (.int .i64 s)) :
 Calls Tryz.prog 218 #[.int .i64 6,.pointer (some ⟨B,0,none⟩)] w fun e w' => e = .returned (.int .u64 (u (knightO s 6)))∧Below w.heap.size w w' := by
 have hs:B<w.heap.size:=World.block_lt_of_cell? _ _ hc
 have H:=hI (show shiftB (shiftB (oneB s) 6) 7 ||| shiftB (shiftB (oneB s) 6) 5=knightO s 6 from rfl)
 go_enter Tryz.func218,Tryz.ntmps218
 go_wp2
 go_region_held3 (fun W=>W.cell? ⟨B,0,none⟩=some (.int .i64 s)∧Below w.heap.size w W) ((refine keepS hs hc ?_;repeat (first | exact Below.refl _ _ | assumption | refine below_drew ?_ | refine below_new ?_ lR | refine below_then ?_ (by assumption)))) ((go_at_call 156;refine (steps_2 s _ _ _ _ _ (by repeat (first | (with_reducible refine new_c0 _ _ _ _ _ ?_;(first | rfl | (simp;done))) | with_reducible refine drew_cell ?_ | with_reducible refine far_cell ?_ | with_reducible refine then_cell (by assumption) ?_)) (by repeat (first | (with_reducible refine new_c1 _ _ _ _ _ ?_;(first | rfl | (simp;done))) | with_reducible refine drew_cell ?_ | with_reducible refine far_cell ?_ | with_reducible refine then_cell (by assumption) ?_))).mono ?_;rintro e w1 ⟨rfl,h1⟩))
 all_goals
  go_wp2
  go_ret
  refine ⟨ret_u H.out,?_⟩
  repeat (first | exact Below.refl _ _ | assumption | refine below_drew ?_ | refine below_new ?_ lR | refine below_then ?_ (by assumption))
theorem knight_odd (s:Int) (d:Int) (hd:d % 2=1) (hd0:0≤d) (hd1:d<8) (B:Nat) (w:World) :
 Calls Tryz.prog 218 #[.int .i64 d,.pointer (some ⟨B,0,none⟩)] w fun e w' => e = .returned (.int .u64 (u (knightO s d)))∧Below w.heap.size w w' := by
 have e2:(d % 2==0)=false:=by rw [hd];rfl
 have HO:=hI (show knightO s d=0#64 from if_neg (by omega))
 clear hd
 go_enter Tryz.func218,Tryz.ntmps218
 go_wp2
 go_ret
 exact ⟨ret_u HO.out.symm,Below.refl _ _⟩
theorem knight_1 (s:Int) (k:Nat) (hk:k<8) (B:Nat) (w:World) (hc:w.cell? ⟨B,0,none⟩=some (.int .i64 s)) :
 Calls Tryz.prog 218 #[.int .i64 k,.pointer (some ⟨B,0,none⟩)] w fun e w' => e = .returned (.int .u64 (u (knightO s k)))∧Below w.heap.size w w' := by
 have:k=0∨k=2∨k=4∨k=6∨(k:Int) % 2=1:=by omega
 rcases this with rfl | rfl | rfl | rfl | h
 · exact knight_at0 s B w hc
 · exact knight_at2 s B w hc
 · exact knight_at4 s B w hc
 · exact knight_at6 s B w hc
 · exact knight_odd s k h (by omega) (by omega) B w
theorem each_knight (s:Int) (B:Nat) (w:World) (hc:w.cell? ⟨B,0,none⟩=some (.int .i64 s)) :
 Calls Tryz.prog 169 #[.func (.func 218) #[] #[.pointer (some ⟨B,0,none⟩)]] w fun e w' => e = .returned (.int .u64 (u (knightB s)))∧Below w.heap.size w w' := by
 have hs:B<w.heap.size:=World.block_lt_of_cell? _ _ hc
 go_enter Tryz.func169,Tryz.ntmps169
 go_wp2
 go_loopw [3,5] (fun b i wr=>∃ k:Nat,k≤8∧i=.int .i64 k∧b=.int .u64 (u (knightA s k))∧Below w.heap.size w wr) (fun _ i _=>8 - (intOf i).toNat)
 case atStart=>exact ⟨0,by omega,rfl,rfl,Below.refl _ _⟩
 case round =>
  obtain ⟨k,hk,rfl,rfl,hb⟩:=hrel
  by_cases hlt:k<8
  · have hc' := (hb.cell (p := ⟨B, 0, none⟩) hs).trans hc
    go_wp2_with fail
    refine (knight_1 s k hlt B _ hc').mono ?_
    rintro e w1 ⟨rfl,h1⟩
    have hb:=hb.trans (h1.mono hb.size)
    clear h1 hc'
    go_wp2
    go_roundw
    case rel=>exact ⟨k+1,by omega,by go_num,rfl,hb⟩
    case measure=>simp [intOf];omega
  · obtain rfl : k = 8 := by omega
    go_wp2
    go_ret
    exact ⟨rfl,hb⟩
theorem knight_any (s:Int) (w:World) :
 Calls Tryz.prog 205 #[.int .i64 s] w fun e w' => e = .returned (.int .u64 (u (knightB s)))∧Below w.heap.size w w' := by
 go_enter Tryz.func205,Tryz.ntmps205
 go_wp2_with fail
 refine (each_knight s _ _ (new_cell1 _ _ _)).mono ?_
 rintro e w1 ⟨rfl,h1⟩
 have hb:=(Below.refl w.heap.size w).alloc lR (.cells #[.int .i64 s] 3)
 have hb:=hb.trans (h1.mono hb.size)
 clear h1
 go_wp2
 go_ret
 exact ⟨rfl,hb⟩
end Go.Proofs.YteocjaihaegmoaaGreatDoor
