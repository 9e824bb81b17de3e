/- Parts of the proof: IB, ID. -/
import Derived.Test.YteocjaihaegmoaaGreatDoorWAZ
import Derived.Test.YteocjaihaegmoaaGreatDoorWBO
set_option linter.unusedVariables false
set_option maxHeartbeats 16000000
set_option maxRecDepth 100000
namespace Go.Proofs.YteocjaihaegmoaaGreatDoor
open Go Go.RowKit
def valB (n:Nat→Int):Bool:=(validE n==0)&&(List.range 88).all fun i=>(Lit.int (kindAt i) (n i)).wf
theorem valB_val {n:Nat→Int} (h:valB n=true):Val n:=by
 unfold valB at h
 rw [Bool.and_eq_true,beq_iff_eq] at h
 exact E_val (fun i hi=>List.all_eq_true.1 h.2 i (List.mem_range.2 hi)) h.1
theorem var_val:∀ v:Fin 9,valB (startN v.val)=true:=by decide +kernel
theorem v960_0:∀ k:Fin 120,valB (start960N k.val)=true:=by decide +kernel
theorem v960_1:∀ k:Fin 120,valB (start960N (k.val+120))=true:=by decide +kernel
theorem v960_2:∀ k:Fin 120,valB (start960N (k.val+240))=true:=by decide +kernel
theorem v960_3:∀ k:Fin 120,valB (start960N (k.val+360))=true:=by decide +kernel
theorem v960_4:∀ k:Fin 120,valB (start960N (k.val+480))=true:=by decide +kernel
theorem v960_5:∀ k:Fin 120,valB (start960N (k.val+600))=true:=by decide +kernel
theorem v960_6:∀ k:Fin 120,valB (start960N (k.val+720))=true:=by decide +kernel
theorem v960_7:∀ k:Fin 120,valB (start960N (k.val+840))=true:=by decide +kernel
theorem start_val (v:Nat) (hv:v<9):Val (startN v):=valB_val (var_val ⟨v,hv⟩)
theorem start960_val (k:Nat) (hk:k<960):Val (start960N k):=by
 refine valB_val ?_
 rcases (show k<120∨(120≤k∧k<240)∨(240≤k∧k<360)∨(360≤k∧k<480)∨(480≤k∧k<600)∨(600≤k∧k<720)∨(720≤k∧k<840)∨840≤k by omega) with h | h | h | h | h | h | h | h
 · exact v960_0 ⟨k,h⟩
 · have:=v960_1 ⟨k - 120,by omega⟩;rwa [show k - 120+120=k by omega] at this
 · have:=v960_2 ⟨k - 240,by omega⟩;rwa [show k - 240+240=k by omega] at this
 · have:=v960_3 ⟨k - 360,by omega⟩;rwa [show k - 360+360=k by omega] at this
 · have:=v960_4 ⟨k - 480,by omega⟩;rwa [show k - 480+480=k by omega] at this
 · have:=v960_5 ⟨k - 600,by omega⟩;rwa [show k - 600+600=k by omega] at this
 · have:=v960_6 ⟨k - 720,by omega⟩;rwa [show k - 720+720=k by omega] at this
 · have:=v960_7 ⟨k - 840,by omega⟩;rwa [show k - 840+840=k by omega] at this
theorem mod960t (a:Int):∃ n:Nat,wrap64 ((IntKind.u64.wrap a).tmod 960)=(n:Int)∧n<960:=by
 rw [IntKind.wrap_u64]
 have h0:0≤a % 18446744073709551616:=by omega
 have h1:a % 18446744073709551616<18446744073709551616:=by omega
 generalize a % 18446744073709551616=b at h0 h1
 have e:b.tmod 960=b % 960:=Int.tmod_eq_emod_of_nonneg h0
 rw [e]
 refine ⟨(b % 960).toNat,?_,by omega⟩
 have e2:wrap64 (b % 960)=b % 960:=IntWalk.wrap64_in _ ⟨by omega,by omega⟩
 rw [e2];omega
theorem firstP_any (a b:Int) (a0:0≤a) (a1:a≤255) (w:World):Calls Tryz.prog 11 #[.int .u8 a,.int .i64 b] w fun e w' => ∃ n,e=.returned (.tuple #[.agg (posA n),.bool true])∧Val n∧Below w.heap.size w w' := by
 obtain ⟨X,hX⟩:∃ X,w.alloc (.cells (posA zeroN) 31)=X:=⟨_,rfl⟩
 obtain ⟨p0,hb⟩:=box1 w zeroN X hX
 obtain ⟨v,hv,hv9⟩:∃ v:Nat,a.tmod 9=v∧v<9:=⟨(a % 9).toNat,by rw [Int.tmod_eq_emod_of_nonneg a0];omega,by omega⟩
 obtain ⟨k,hk,hk9⟩:=mod960t b
 have HST:=hI (fun V=>start_any v (by omega) V)
 rw [decide_eq_true hv9] at HST
 have HS9:=hI (fun V=>start960_yes k hk9 V)
 have HV1:=hI (start_val v hv9)
 have HV2:=hI (start960_val k hk9)
 generalize startN v=q1 at *
 generalize start960N k=q2 at *
 obtain ⟨i1,r1⟩:=p0.rules
 have HX:=hI hX
 have HP:=hI p0
 have HB:=hI hb
 have hzp:=zeroPos
 have hw:IntKind.u8.wrap (v:Int)=v:=IntWalk.u8_in _ (by omega)
 clear hX p0 hb
 by_cases h1:v=1
 · have e1 : ((v : Int) == 1) = true := beq_iff_eq.2 (by omega)
   clear h1
   go_enter Tryz.func11,Tryz.ntmps11
   go_wp2_with (first | rw [HX.out] | rw [hv])
   try rw [hk]
   refine (HS9.out X).mono ?_
   rintro e U ⟨rfl,h1⟩
   have HPU:=hI (HP.out.below h1 HP.out.lt)
   have HBU:=hI (HB.out.trans (h1.mono HB.out.size))
   clear h1 i1 r1
   obtain ⟨i1,r1⟩:=HPU.out.rules
   go_wp2_with (rw [HX.out])
   refine bodyPost_ret (v:=.tuple #[.agg (posA q2),.bool true]) (pos_result2 Tryz.results11 _ _ _ _ _ rfl rfl (HPU.out.setRow _)) rfl ⟨_,rfl,HV2.out,below_setRow HBU.out lR _⟩
 · have e1 : ((v : Int) == 1) = false := beq_eq_false_iff_ne.2 (by omega)
   clear h1
   go_enter Tryz.func11,Tryz.ntmps11
   go_wp2_with (first | rw [HX.out] | rw [hv])
   try rw [hk]
   refine (HST.out X).mono ?_
   rintro e U ⟨rfl,h1⟩
   have HPU:=hI (HP.out.below h1 HP.out.lt)
   have HBU:=hI (HB.out.trans (h1.mono HB.out.size))
   clear h1 i1 r1
   obtain ⟨i1,r1⟩:=HPU.out.rules
   go_wp2_with (rw [HX.out])
   refine bodyPost_ret (v:=.tuple #[.agg (posA q1),.bool true]) (pos_result2 Tryz.results11 _ _ _ _ _ rfl rfl (HPU.out.setRow _)) rfl ⟨_,rfl,HV1.out,below_setRow HBU.out lR _⟩
end Go.Proofs.YteocjaihaegmoaaGreatDoor
