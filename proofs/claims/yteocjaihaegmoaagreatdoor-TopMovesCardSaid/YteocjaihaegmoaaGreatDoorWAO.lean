/- Parts of the proof: D1, D3. -/
import Derived.Test.YteocjaihaegmoaaGreatDoorWAA
import Derived.Test.YteocjaihaegmoaaGreatDoorWAC
import Derived.Test.YteocjaihaegmoaaGreatDoorWAD
import Derived.ChangeAlike
import Derived.Deep.RegionHeld3
import Derived.IntWalk
import Derived.Laws.ResultCell
import Derived.RegionTactic
set_option linter.unusedVariables false
namespace Go.Proofs.YteocjaihaegmoaaGreatDoor
open Go Go.RowKit
def fitsB (c k:Int):Bool:=decide (c≤1)&&(decide (1≤k)&&decide (k≤5))
theorem fits_any (c k:Int) (c0:0≤c) (c1:c≤255) (k0:0≤k) (k1:k≤255) (w:World):Calls Tryz.prog 153 #[.int .u8 c,.int .u8 k] w fun e w' => e = .returned (.bool (fitsB c k))∧w=w' := by
 by_cases h1:c≤1
 · by_cases h2 : 1 ≤ k
   · by_cases h3 : k ≤ 5
     · have E := hideIt (show fitsB c k = true by unfold fitsB; rw [decide_eq_true h1, decide_eq_true h2, decide_eq_true h3]; rfl)
       go_enter Tryz.func153,Tryz.ntmps153
       go_wp2
       go_ret
       exact ⟨rB E.out.symm,rfl⟩
     · have E := hideIt (show fitsB c k = false by unfold fitsB; rw [decide_eq_false h3, Bool.and_false, Bool.and_false])
       have d3:decide (k≤5)=false:=decide_eq_false h3
       go_enter Tryz.func153,Tryz.ntmps153
       go_wp2
       go_ret
       exact ⟨rB E.out.symm,rfl⟩
   · have E := hideIt (show fitsB c k = false by unfold fitsB; rw [decide_eq_false h2, Bool.false_and, Bool.and_false])
     have d2:decide (1≤k)=false:=decide_eq_false h2
     go_enter Tryz.func153,Tryz.ntmps153
     go_wp2
     go_ret
     exact ⟨rB E.out.symm,rfl⟩
 · have E := hideIt (show fitsB c k = false by unfold fitsB; rw [decide_eq_false h1, Bool.false_and])
   have d1:decide (c≤1)=false:=decide_eq_false h1
   go_enter Tryz.func153,Tryz.ntmps153
   go_wp2
   go_ret
   exact ⟨rB E.out.symm,rfl⟩
theorem kind_pock (c j:Nat) (hc:c≤1) (hj:j<6):kindAt (66+6*c+j)=.u8:=by
 unfold kindAt
 rw [if_neg (by omega),if_neg (by omega),if_pos (by omega)]
theorem k8_any (x:Int) (x0:0≤x) (x1:x≤255) (w:World):Calls Tryz.prog 63 #[.int .u8 x] w fun e w' => e = .returned (.int .u8 (kndI x))∧w=w' := by
 have hc:15<x∨(x≤15∧x % 8<1)∨(x≤15∧¬ x % 8<1∧6<x % 8)∨(x≤15∧¬ x % 8<1∧¬ 6<x % 8):=by omega
 rcases hc with h | ⟨h1,h2⟩ | ⟨h1,h2,h3⟩ | ⟨h1,h2,h3⟩
 · have E := hideIt (show kndI x = 0 by unfold kndI; rw [if_neg (by omega), if_neg (by omega)])
   go_enter Tryz.func63,Tryz.ntmps63
   go_wp2
   go_ret
   exact ⟨ret_int E.out.symm,rfl⟩
 · have E := hideIt (show kndI x = 0 by unfold kndI; rw [if_neg (by omega), if_neg (by omega)])
   have d1:decide (15<x)=false:=decide_eq_false (by omega)
   have d2:decide (x % 8<1)=true:=decide_eq_true h2
   go_enter Tryz.func63,Tryz.ntmps63
   go_wp2
   go_ret
   exact ⟨ret_int E.out.symm,rfl⟩
 · have E := hideIt (show kndI x = 0 by unfold kndI; rw [if_neg (by omega), if_neg (by omega)])
   have d1:decide (15<x)=false:=decide_eq_false (by omega)
   have d2:decide (x % 8<1)=false:=decide_eq_false h2
   have d3:decide (6<x % 8)=true:=decide_eq_true h3
   go_enter Tryz.func63,Tryz.ntmps63
   go_wp2
   go_ret
   exact ⟨ret_int E.out.symm,rfl⟩
 · have E := hideIt (show kndI x = x % 8 by unfold kndI; repeat (first | omega | split))
   have d1:decide (15<x)=false:=decide_eq_false (by omega)
   have d2:decide (x % 8<1)=false:=decide_eq_false h2
   have d3:decide (6<x % 8)=false:=decide_eq_false h3
   go_enter Tryz.func63,Tryz.ntmps63
   go_wp2
   go_ret
   exact ⟨ret_int E.out.symm,rfl⟩
theorem all_bit (n:Nat→Int) (j:Nat) (hj:j<64):(allN n).getLsbD j=isB (n (1+j)):=by
 rw [← hasB_nat (allN n) j hj]
 unfold allN
 rw [has_set,decide_eq_true (by omega),Bool.true_and,Bool.and_true,Int.toNat_natCast]
theorem knd_zero (x:Int):(kndI x != 0)=isB x:=by
 cases h:isB x with
 | true =>
   rw [isB_iff] at h
   unfold kndI
   rw [bne,beq_eq_false_iff_ne.2 (by repeat (first | omega | split))];rfl
 | false =>
   rw [isB_no] at h
   unfold kndI
   rw [if_neg (by omega),if_neg (by omega)];rfl
end Go.Proofs.YteocjaihaegmoaaGreatDoor
