/- Parts of the proof: IE, WTopMoves. -/
import Derived.Test.YteocjaihaegmoaaGreatDoorWAT
import Derived.Test.YteocjaihaegmoaaGreatDoorWBM
import Derived.Test.YteocjaihaegmoaaGreatDoorWBO
import Derived.Test.YteocjaihaegmoaaGreatDoorWBP
import Derived.Test.YteocjaihaegmoaaGreatDoorWBR
import Derived.Test.YteocjaihaegmoaaGreatDoorWBT
import Derived.Test.YteocjaihaegmoaaGreatDoorWBU
set_option linter.unusedVariables false
set_option maxHeartbeats 16000000
set_option maxRecDepth 100000
namespace Go.Proofs.YteocjaihaegmoaaGreatDoor
open Go Go.RowKit
abbrev oMa0:Oper:={ dst:=some 78,op:=Op.move (Operand.tmp 9),type:=36,pos := "top22.go:66",after:=#[],guard:=none }
abbrev oMa1:Oper:={ dst:=some 79,op:=Op.move (Operand.tmp 10),type:=3,pos := "top22.go:66",after:=#[],guard:=none }
abbrev oMa2:Oper:={ dst:=some 80,op:=Op.indexAddr 36 (Operand.tmp 78) (Operand.tmp 79),type:=0,pos := "top22.go:66",after:=#[{ on:=0,ground:=Ground.data },{ on:=1,ground:=Ground.data }],guard:=none }
abbrev oMa3:Oper:={ dst:=some 81,op:=Op.load 31 (Operand.tmp 80),type:=31,pos := "top22.go:66",after:=#[{ on:=2,ground:=Ground.data }],guard:=none }
abbrev oMa4:Oper:={ dst:=some 82,op:=Op.move (Operand.tmp 11),type:=41,pos := "top22.go:66",after:=#[],guard:=none }
abbrev oMa5:Oper:={ dst:=some 83,op:=Op.move (Operand.tmp 12),type:=3,pos := "top22.go:66",after:=#[],guard:=none }
abbrev oMa6:Oper:={ dst:=some 84,op:=Op.indexAddr 41 (Operand.tmp 82) (Operand.tmp 83),type:=0,pos := "top22.go:66",after:=#[{ on:=4,ground:=Ground.data },{ on:=5,ground:=Ground.data }],guard:=none }
abbrev oMa7:Oper:={ dst:=some 85,op:=Op.load 49 (Operand.tmp 84),type:=49,pos := "top22.go:66",after:=#[{ on:=6,ground:=Ground.data }],guard:=none }
abbrev oMa8:Oper:={ dst:=some 86,op:=Op.call { callee:=Callee.value (Operand.func 14),args:=#[Operand.tmp 81,Operand.tmp 85],argTypes:=#[31,49] },type:=44,pos := "top22.go:66",after:=#[{ on:=3,ground:=Ground.data },{ on:=7,ground:=Ground.data }],guard:=none }
abbrev oMa9:Oper:={ dst:=some 77,op:=Op.move (Operand.tmp 86),type:=44,pos := "top22.go:66",after:=#[{ on:=8,ground:=Ground.data }],guard:=none }
abbrev oMa10:Oper:={ dst:=some 87,op:=Op.extract (Operand.tmp 77) 0,type:=31,pos := "top22.go:66",after:=#[{ on:=9,ground:=Ground.data }],guard:=none }
abbrev oMa11:Oper:={ dst:=some 88,op:=Op.extract (Operand.tmp 77) 1,type:=4,pos := "top22.go:66",after:=#[{ on:=9,ground:=Ground.data },{ on:=13,ground:=Ground.gcOnly Departure.lateStores }],guard:=none }
abbrev oMa12:Oper:={ dst:=some 13,op:=Op.alloc 31,type:=0,pos := "top22.go:66",after:=#[],guard:=none }
abbrev oMa13:Oper:={ dst:=none,op:=Op.store 31 (Operand.tmp 13) (Operand.tmp 87),type:=0,pos := "top22.go:66",after:=#[{ on:=12,ground:=Ground.data },{ on:=10,ground:=Ground.data },{ on:=8,ground:=Ground.chain },{ on:=0,ground:=Ground.phase },{ on:=1,ground:=Ground.phase },{ on:=2,ground:=Ground.phase },{ on:=3,ground:=Ground.phase },{ on:=4,ground:=Ground.phase },{ on:=5,ground:=Ground.phase },{ on:=6,ground:=Ground.phase },{ on:=7,ground:=Ground.phase },{ on:=8,ground:=Ground.phase },{ on:=9,ground:=Ground.phase },{ on:=10,ground:=Ground.phase },{ on:=11,ground:=Ground.textOnly Departure.lateStores },{ on:=12,ground:=Ground.phase }],guard:=none }
abbrev oMa14:Oper:={ dst:=some 14,op:=Op.assign (Operand.tmp 88),type:=4,pos := "top22.go:66",after:=#[{ on:=11,ground:=Ground.data },{ on:=13,ground:=Ground.chain },{ on:=0,ground:=Ground.phase },{ on:=1,ground:=Ground.phase },{ on:=2,ground:=Ground.phase },{ on:=3,ground:=Ground.phase },{ on:=4,ground:=Ground.phase },{ on:=5,ground:=Ground.phase },{ on:=6,ground:=Ground.phase },{ on:=7,ground:=Ground.phase },{ on:=8,ground:=Ground.phase },{ on:=9,ground:=Ground.phase },{ on:=10,ground:=Ground.phase },{ on:=11,ground:=Ground.phase },{ on:=12,ground:=Ground.phase },{ on:=13,ground:=Ground.phase }],guard:=none }
abbrev oMb0:Oper:={ dst:=some 90,op:=Op.move (Operand.tmp 9),type:=36,pos := "top22.go:67",after:=#[],guard:=none }
abbrev oMb1:Oper:={ dst:=some 91,op:=Op.move (Operand.tmp 10),type:=3,pos := "top22.go:67",after:=#[],guard:=none }
abbrev oMb2:Oper:={ dst:=some 92,op:=Op.indexAddr 36 (Operand.tmp 90) (Operand.tmp 91),type:=0,pos := "top22.go:67",after:=#[{ on:=0,ground:=Ground.data },{ on:=1,ground:=Ground.data }],guard:=none }
abbrev oMb3:Oper:={ dst:=some 93,op:=Op.load 31 (Operand.tmp 92),type:=31,pos := "top22.go:67",after:=#[{ on:=2,ground:=Ground.data }],guard:=none }
abbrev oMb4:Oper:={ dst:=some 94,op:=Op.move (Operand.tmp 11),type:=41,pos := "top22.go:67",after:=#[],guard:=none }
abbrev oMb5:Oper:={ dst:=some 95,op:=Op.move (Operand.tmp 12),type:=3,pos := "top22.go:67",after:=#[],guard:=none }
abbrev oMb6:Oper:={ dst:=some 96,op:=Op.indexAddr 41 (Operand.tmp 94) (Operand.tmp 95),type:=0,pos := "top22.go:67",after:=#[{ on:=4,ground:=Ground.data },{ on:=5,ground:=Ground.data }],guard:=none }
abbrev oMb7:Oper:={ dst:=some 97,op:=Op.load 49 (Operand.tmp 96),type:=49,pos := "top22.go:67",after:=#[{ on:=6,ground:=Ground.data }],guard:=none }
abbrev oMb8:Oper:={ dst:=some 98,op:=Op.call { callee:=Callee.value (Operand.func 15),args:=#[Operand.tmp 93,Operand.tmp 97],argTypes:=#[31,49] },type:=44,pos := "top22.go:67",after:=#[{ on:=3,ground:=Ground.data },{ on:=7,ground:=Ground.data }],guard:=none }
abbrev oMb9:Oper:={ dst:=some 89,op:=Op.move (Operand.tmp 98),type:=44,pos := "top22.go:67",after:=#[{ on:=8,ground:=Ground.data }],guard:=none }
abbrev oMb10:Oper:={ dst:=some 99,op:=Op.extract (Operand.tmp 89) 0,type:=31,pos := "top22.go:67",after:=#[{ on:=9,ground:=Ground.data }],guard:=none }
abbrev oMb11:Oper:={ dst:=some 100,op:=Op.extract (Operand.tmp 89) 1,type:=4,pos := "top22.go:67",after:=#[{ on:=9,ground:=Ground.data },{ on:=13,ground:=Ground.gcOnly Departure.lateStores }],guard:=none }
abbrev oMb12:Oper:={ dst:=some 15,op:=Op.alloc 31,type:=0,pos := "top22.go:67",after:=#[],guard:=none }
abbrev oMb13:Oper:={ dst:=none,op:=Op.store 31 (Operand.tmp 15) (Operand.tmp 99),type:=0,pos := "top22.go:67",after:=#[{ on:=12,ground:=Ground.data },{ on:=10,ground:=Ground.data },{ on:=8,ground:=Ground.chain },{ on:=0,ground:=Ground.phase },{ on:=1,ground:=Ground.phase },{ on:=2,ground:=Ground.phase },{ on:=3,ground:=Ground.phase },{ on:=4,ground:=Ground.phase },{ on:=5,ground:=Ground.phase },{ on:=6,ground:=Ground.phase },{ on:=7,ground:=Ground.phase },{ on:=8,ground:=Ground.phase },{ on:=9,ground:=Ground.phase },{ on:=10,ground:=Ground.phase },{ on:=11,ground:=Ground.textOnly Departure.lateStores },{ on:=12,ground:=Ground.phase }],guard:=none }
abbrev oMb14:Oper:={ dst:=some 16,op:=Op.assign (Operand.tmp 100),type:=4,pos := "top22.go:67",after:=#[{ on:=11,ground:=Ground.data },{ on:=13,ground:=Ground.chain },{ on:=0,ground:=Ground.phase },{ on:=1,ground:=Ground.phase },{ on:=2,ground:=Ground.phase },{ on:=3,ground:=Ground.phase },{ on:=4,ground:=Ground.phase },{ on:=5,ground:=Ground.phase },{ on:=6,ground:=Ground.phase },{ on:=7,ground:=Ground.phase },{ on:=8,ground:=Ground.phase },{ on:=9,ground:=Ground.phase },{ on:=10,ground:=Ground.phase },{ on:=11,ground:=Ground.phase },{ on:=12,ground:=Ground.phase },{ on:=13,ground:=Ground.phase }],guard:=none }
theorem listL_len5 {n:Nat→Int}:(listL n).length≤50000:=by
 unfold listL
 split
 · exact wouldL_len
 · exact Nat.zero_le _
theorem eqP_refl {n:Nat→Int} (hn:PosOk n) (w:World):(posNeq (.agg (posA n)) (.agg (posA n))).run Tryz.prog w=.ok (.bool false) w:=by
 have h:=neq_pos n n hn hn w
 have e:eqP n n=true:=by simp [eqP]
 rw [e] at h
 exact h
theorem Val.good {n:Nat→Int} (h:Val n):Good n:=⟨h.ok,(plain_facts h.ok h.plain).2.1,(plain_facts h.ok h.plain).1⟩
theorem topMoves_of (hst:∀ V,Tab V→Calls Tryz.prog 6 #[] V fun e w' => e = .returned (.bool true)∧Below V.heap.size V w') (a b:Int) (a0:0≤a) (a1:a≤255) (wl:List Int) (hw0:∀ i,0≤wl.getD i 0∧wl.getD i 0≤255) (v:Value) (w:World) (hT:Tab w) (hv:WayAt w v wl):Calls Tryz.prog 4 #[.int .u8 a,.int .i64 b,v] w fun e w' => e = .returned (.bool true)∧Below w.heap.size w w' := by
 obtain ⟨wa,wcp,hve,hwa⟩:=hv
 subst hve
 have HWV:=hI (fun V (h:Below w.heap.size w V)=>(show WayAt V (.slice wa wl.length wcp) wl from ⟨wa,wcp,rfl,fun i hi=>by
  obtain ⟨g,o,h1,h2,h3⟩:=hwa i hi
  exact ⟨g,o,h1,Nat.lt_of_lt_of_le h2 h.size,(h.cell (p:=⟨g,o+i,none⟩) h2).trans h3⟩⟩))
 have HT:=hI (fun V (h:Below w.heap.size w V)=>hT.below h lR)
 have HST:=hI (fun V (h:Below w.heap.size w V)=>hst V (HT.out V h))
 have HFI:=hI (firstP_any a b a0 a1 w)
 have HWB:=hI hw0
 have hzp:=zeroPos
 clear hT hst hwa hw0
 go_enter Tryz.func4,Tryz.ntmps4
 go_upto_region 2 with (first | (go_at_call 11;refine HFI.out.mono ?_;rintro e U ⟨n,rfl,hval,hbU⟩;obtain ⟨X,hX⟩:∃ X,U.alloc (.cells (posA zeroN) 31)=X:=⟨_,rfl⟩;obtain ⟨p0,hbX⟩:=box1 U zeroN X hX;have HX:=hI hX;clear hX;obtain ⟨i0,r0⟩:=p0.rules) | rw [HX.out])
 obtain ⟨Y,hY⟩:∃ Y,X.setRow U.heap.size (posA n)=Y:=⟨_,rfl⟩
 rw [hY]
 have pY:PosAt Y U.heap.size n:=by rw [← hY];exact p0.setRow n
 have bY:Below w.heap.size w Y:=by rw [← hY];exact below_setRow (bT hbU hbX) hbU.size _
 clear hY i0 r0 p0 hbX hbU HX
 have HVN:=hI hval
 clear hval
 by_cases hlen:40<wl.length
 case pos =>
  have e1:decide ((40:Int)<wl.length)=true:=decide_eq_true (by omega)
  go_wp2_with (go_at_call 6;refine (HST.out _ bY).mono ?_;rintro e U2 ⟨rfl,h2⟩;have hbU2:=bT bY h2)
  go_ret
  exact ⟨rfl,hbU2⟩
 have e1:decide ((40:Int)<wl.length)=false:=decide_eq_false (by omega)
 have hl1000:wl.length≤1000:=by omega
 obtain ⟨i0,r0⟩:=pY.rules
 go_wp2_with fail
 refine (walkP_any Val (fun q m h1 h2=>val_made h1 h2) n HVN.out.good HVN.out wl hl1000 HWB.out (.slice wa wl.length wcp) Y (HT.out Y bY) (HWV.out Y bY)).mono ?_
 rintro e U2 ⟨⟨u,l,qe,rfl,hown,hwk,hll⟩,h1⟩
 have HBU:=hI (bT bY h1)
 have HFO:=hI (fun V (h:Below U2.heap.size U2 V)=>(hown.kept h lR).form)
 have HWL:=hI (fun j hj=>(hwk.all j hj).2)
 obtain ⟨ua,uc,rfl,_⟩:=hown.form
 clear h1 bY pY hown hwk i0 r0
 go_wp2
 go_loopg [10] l.length (fun g i wr=>∃ j:Nat,j+g=l.length∧i=.int .i64 j∧Below U2.heap.size U2 wr)
 case atStart=>exact ⟨0,by omega,rfl,bR⟩
 case round =>
  obtain ⟨j,hj,rfl,hr⟩:=hrel
  obtain ⟨wo,rfl⟩:∃ x,x=wr:=⟨_,rfl⟩
  by_cases hlt:j<l.length
  case neg =>
   obtain rfl:j=l.length:=by omega
   have hb:=HBU.out.trans (hr.mono HBU.out.size)
   have ec:decide ((l.length:Int)<l.length)=false:=decide_eq_false (by omega)
   go_wp2_with (go_at_call 6;refine (HST.out _ hb).mono ?_;rintro e U3 ⟨rfl,h2⟩;have hb2:=bT hb h2)
   go_ret
   exact ⟨rfl,hb2⟩
  case pos =>
   have ec:decide ((j:Int)<l.length)=true:=decide_eq_true (by omega)
   obtain ⟨a',c',hsl,hat⟩:=HFO.out wo hr
   obtain ⟨g,hg,hgB,hgl,hrg⟩:=hat j hlt
   obtain ⟨rfl,rfl⟩:ua=a' ∧ uc=c' := by injection hsl with h1 h2 h3;exact ⟨h1,h3⟩
   subst hg
   have hV:=HWL.out j hlt
   generalize l[j]=q at *
   have hG:=hV.good
   obtain ⟨t,vv,ht1,ht,hv9,hvv⟩:=hG.nat
   have HLI:=hI (legal_list q hG.ok t ht1 ht vv hv9 hvv wo (HT.out wo (HBU.out.trans (hr.mono HBU.out.size))))
   have HCK:=hI (fun V hT=>vcheckE_any q hG.ok V hT)
   rw [val_E hV] at HCK
   have HL17:=hI (fun V=>list17_any q hG.ok t ht1 ht vv hv9 hvv V)
   have HSM:=hI (fun V B1 B2 v1 v2 h1 h2=>same_yes (listL q) (fun m hm=>all_ok hG.t hG.v m (listL_sub m hm)) (Nat.le_trans listL_len5 (by decide)) V B1 B2 v1 v2 h1 h2)
   have HAM:=hI (fun m (hm:m∈listL q) V hT=>amove_any q hG.ok t ht1 ht hG.v m (listL_sub m hm) V hT)
   have HA6:=hI (fun m (hm:m∈listL q) V=>move16_any q hG.ok t ht1 ht hG.v m (listL_sub m hm) V)
   have HVM:=hI (fun m (hm:m∈listL q)=>(val_made hV hm).ok)
   obtain ⟨L,hLq⟩:∃ L,(listL q).length=L:=⟨_,rfl⟩
   have hL5:L≤50000:=by rw [← hLq];exact listL_len5
   have HLQ:=hI hLq
   obtain ⟨m1,m2⟩:=mid_rules hrg
   have HRG:=hI (fun V (h:Below wo.heap.size wo V)=>mid_rules (range_below hrg h hgl))
   have HBR:=hI (HBU.out.trans (hr.mono HBU.out.size))
   have HR:=hI hr
   clear hr hsl hat hrg hV hG ht hvv hLq
   go_upto_region 11 with (first
    | (go_at_call 10;refine HLI.out.mono ?_;rintro e M ⟨vl,rfl,ho,h1⟩;have HO:=hI ho;obtain ⟨va,vc,rfl,hall⟩:=moves_slice ho;have HALL:=hI hall;rw [HLQ.out] at HO ⊢;clear m1 m2 ho hall;obtain ⟨m1,m2⟩:=HRG.out M h1)
    | (go_at_call 5;refine (HCK.out _ (HT.out _ (bT HBR.out h1))).mono ?_;rintro e M2 ⟨rfl,h2⟩;clear m1 m2;obtain ⟨m1,m2⟩:=HRG.out M2 (bT h1 h2))
    | (go_at_call 13;refine (HL17.out _).mono ?_;rintro e M3 ⟨v17,rfl,ho17,h3⟩;clear m1 m2)
    | (go_at_call 12;refine (HSM.out _ _ _ _ _ (HO.out.kept (bT h2 h3) lR) ho17).mono ?_;rintro e Z ⟨rfl,h4⟩))
   have hMZ:Below M.heap.size M Z:=bT (bT h2 h3) h4
   have hrZ:Below wo.heap.size wo Z:=bT h1 hMZ
   have HMZ:=hI hMZ
   have HRZ:=hI hrZ
   have HBZ:=hI (bT HBR.out hrZ)
   have HMS:=hI h1
   clear h1 h2 h3 h4 ho17 hMZ hrZ
   have wj:IntKind.i64.wrap ((j:Int)+1)=(j:Int)+1:=IntWalk.i64_in _ (by omega)
   go_wp2
   go_loopg [12] L (fun g2 i W=>∃ c:Nat,c+g2=L∧i=.int .i64 c∧Below Z.heap.size Z W)
   case atStart=>exact ⟨0,by omega,rfl,bR⟩
   case round =>
    obtain ⟨c,hc,rfl,hbW⟩:=hrel
    by_cases hgo:c<L∧j+1<l.length
    case neg =>
     have HE:=hI (bT HR.out (bT HRZ.out hbW))
     by_cases hcL:c<L
     · have hjl : ¬j + 1 < l.length := fun h => hgo ⟨hcL, h⟩
       have k1:decide ((c:Int)<L)=true:=decide_eq_true (by omega)
       have k2:decide ((j:Int)+1<l.length)=false:=decide_eq_false (by omega)
       clear hgo
       go_wp2
       go_roundg (l.length - (j+1))
       case measure=>omega
       case rel=>exact ⟨j+1,by omega,by go_num,HE.out⟩
     · have k1 : decide ((c : Int) < L) = false := decide_eq_false (by omega)
       clear hgo
       go_wp2
       go_roundg (l.length - (j+1))
       case measure=>omega
       case rel=>exact ⟨j+1,by omega,by go_num,HE.out⟩
    case pos =>
     obtain ⟨hcL,hjl⟩:=hgo
     have k1:decide ((c:Int)<L)=true:=decide_eq_true (by omega)
     have k2:decide ((j:Int)+1<l.length)=true:=decide_eq_true (by omega)
     have hcq:c<(listL q).length:=by rw [HLQ.out];exact hcL
     obtain ⟨gm,rfl,hgmB,hgml,q0,q1,q2,q3,q4⟩:=HALL.out c hcq
     have hml:=List.getElem_mem hcq
     have HAMJ:=hI (HAM.out _ hml)
     have HA6J:=hI (HA6.out _ hml)
     have hrok:=HVM.out _ hml
     clear hml
     generalize (listL q)[c]=m at *
     obtain ⟨r,hq⟩:∃ r,madeN q m=r:=⟨_,rfl⟩
     rw [hq] at HAMJ HA6J hrok
     clear hq
     obtain ⟨mf,mt,mp,md,mc⟩:=m
     dsimp only at *
     have hne:=eqP_refl hrok
     have HQ:=hI (fun V (h:Below M.heap.size M V)=>(show V.cell? ⟨gm,c*5,none⟩=some (.int .i8 mf)∧V.cell? ⟨gm,c*5+1,none⟩=some (.int .i8 mt)∧V.cell? ⟨gm,c*5+2,none⟩=some (.int .u8 mp)∧V.cell? ⟨gm,c*5+3,none⟩=some (.int .u8 md)∧V.cell? ⟨gm,c*5+4,none⟩=some (.bool mc) from ⟨(h.cell (p:=⟨gm,c*5,none⟩) hgml).trans q0,(h.cell (p:=⟨gm,c*5+1,none⟩) hgml).trans q1,(h.cell (p:=⟨gm,c*5+2,none⟩) hgml).trans q2,(h.cell (p:=⟨gm,c*5+3,none⟩) hgml).trans q3,(h.cell (p:=⟨gm,c*5+4,none⟩) hgml).trans q4⟩))
     have HSW:=hI (fun V (h:Below Z.heap.size Z V)=>(show (IsMid V g (j*88)∧midOf V g (j*88)=posA q)∧(V.cell? ⟨gm,c*5,none⟩=some (.int .i8 mf)∧V.cell? ⟨gm,c*5+1,none⟩=some (.int .i8 mt)∧V.cell? ⟨gm,c*5+2,none⟩=some (.int .u8 mp)∧V.cell? ⟨gm,c*5+3,none⟩=some (.int .u8 md)∧V.cell? ⟨gm,c*5+4,none⟩=some (.bool mc)) from ⟨HRG.out V (bT HRZ.out h),HQ.out V (bT HMZ.out h)⟩))
     have HZW:=hI hbW
     have HS:=hI (fun V2 (hb:Below wr.heap.size wr V2)=>(show (fun V2=>((IsMid V2 g (j*88)∧midOf V2 g (j*88)=posA q)∧(V2.cell? ⟨gm,c*5,none⟩=some (.int .i8 mf)∧V2.cell? ⟨gm,c*5+1,none⟩=some (.int .i8 mt)∧V2.cell? ⟨gm,c*5+2,none⟩=some (.int .u8 mp)∧V2.cell? ⟨gm,c*5+3,none⟩=some (.int .u8 md)∧V2.cell? ⟨gm,c*5+4,none⟩=some (.bool mc)))∧Below wr.heap.size wr V2) V2 from ⟨HSW.out V2 (bT HZW.out hb),hb⟩))
     dsimp only at HS
     have HW0:=hI (bT HBZ.out hbW)
     clear q0 q1 q2 q3 q4 hbW
     have wj2:IntKind.i64.wrap ((c:Int)+1)=(c:Int)+1:=IntWalk.i64_in _ (by omega)
     go_upto_region 14 with fail
     go_cut [13,14] (fun s13 s14 wx=>∃ gq:Nat,s13=.pointer (some ⟨gq,0,none⟩)∧s14=.bool true∧PosAt wx gq r∧Below wr.heap.size wr wx)
     case first =>
      refine wp_region_held_drew (S:=(fun V2=>((IsMid V2 g (j*88)∧midOf V2 g (j*88)=posA q)∧(V2.cell? ⟨gm,c*5,none⟩=some (.int .i8 mf)∧V2.cell? ⟨gm,c*5+1,none⟩=some (.int .i8 mt)∧V2.cell? ⟨gm,c*5+2,none⟩=some (.int .u8 mp)∧V2.cell? ⟨gm,c*5+3,none⟩=some (.int .u8 md)∧V2.cell? ⟨gm,c*5+4,none⟩=some (.bool mc)))∧Below wr.heap.size wr V2)) (by kernel_rfl) ?_ (fun hHeld=>?_)
      · (try dsimp only);(refine HS.out _ ?_;repeat (first | exact bR | assumption | refine bD ?_ | refine bT ?_ (by assumption)))
      obtain ⟨D,hD⟩:∃ D,wr.drew=D:=⟨_,rfl⟩
      rw [hD] at hHeld ⊢
      clear hD
      have hbD:Below wr.heap.size wr D:=hHeld.2
      have hD0:=hbD.size
      (refine tl 0 (oi:=oMa0) (v:=?_) ?_ ?_;rotate_left;(focus (intro w hSw;(try dsimp only at hSw);go_simp;try (with_reducible rfl)));try simp only [Act.put,lA,lB,lC])
      (refine tl 1 (oi:=oMa1) (v:=?_) ?_ ?_;rotate_left;(focus (intro w hSw;(try dsimp only at hSw);go_simp;try (with_reducible rfl)));try simp only [Act.put,lA,lB,lC])
      (refine tl 2 (oi:=oMa2) (v:=?_) ?_ ?_;rotate_left;(focus (intro w hSw;(try dsimp only at hSw);go_simp;try (with_reducible rfl)));try simp only [Act.put,lA,lB,lC])
      (refine tl 3 (oi:=oMa3) (v:=?_) ?_ ?_;rotate_left;(focus (intro w hSw;(try dsimp only at hSw);go_simp;try (with_reducible rfl)));try simp only [Act.put,lA,lB,lC])
      (refine tl 4 (oi:=oMa4) (v:=?_) ?_ ?_;rotate_left;(focus (intro w hSw;(try dsimp only at hSw);go_simp;try (with_reducible rfl)));try simp only [Act.put,lA,lB,lC])
      (refine tl 5 (oi:=oMa5) (v:=?_) ?_ ?_;rotate_left;(focus (intro w hSw;(try dsimp only at hSw);go_simp;try (with_reducible rfl)));try simp only [Act.put,lA,lB,lC])
      (refine tl 6 (oi:=oMa6) (v:=?_) ?_ ?_;rotate_left;(focus (intro w hSw;(try dsimp only at hSw);go_simp;try (with_reducible rfl)));try simp only [Act.put,lA,lB,lC])
      (refine tl 7 (oi:=oMa7) (v:=?_) ?_ ?_;rotate_left;(focus (intro w hSw;(try dsimp only at hSw);go_simp;try (with_reducible rfl)));try simp only [Act.put,lA,lB,lC])
      refine wpAnyH_ready (rs:=[8,12]) (by kernel_rfl) (by simp) ?_
      refine AllReadyH.cons (o:=oMa8) rfl (fun K hK=>?_) (AllReadyH.cons (o:=oMa12) rfl (fun K hK=>?_) AllReadyH.nil)
      · skip
        go_simp
        refine (HAMJ.out _ (HT.out D (HW0.out.trans (hHeld.2.mono HW0.out.size)))).mono ?_
        rintro e V3 ⟨rfl,h3⟩
        refine hK.out _ _ ?_ (fun hHeld=>?_)
        · (try dsimp only);(refine HS.out _ ?_;repeat (first | exact bR | assumption | refine bD ?_ | refine bT ?_ (by assumption)))
        clear hK K
        try simp only [Act.put,lA,lB,lC]
        (refine tl 9 (oi:=oMa9) (v:=?_) ?_ ?_;rotate_left;(focus (intro w hSw;(try dsimp only at hSw);go_simp;try (with_reducible rfl)));try simp only [Act.put,lA,lB,lC])
        (refine tl 10 (oi:=oMa10) (v:=?_) ?_ ?_;rotate_left;(focus (intro w hSw;(try dsimp only at hSw);go_simp;try (with_reducible rfl)));try simp only [Act.put,lA,lB,lC])
        (refine tl 11 (oi:=oMa11) (v:=?_) ?_ ?_;rotate_left;(focus (intro w hSw;(try dsimp only at hSw);go_simp;try (with_reducible rfl)));try simp only [Act.put,lA,lB,lC])
        have hG:=hHeld.2.size
        refine wpAnyH_ready (rs:=[12]) (by kernel_rfl) (by simp) ?_
        refine AllReadyH.cons (o:=oMa12) rfl (fun K hK=>?_) AllReadyH.nil
        go_simp
        obtain ⟨X3,hX3⟩:∃ X3,V3.alloc (.cells (posA zeroN) 31)=X3:=⟨_,rfl⟩
        obtain ⟨p3,b3⟩:=box1 V3 zeroN X3 hX3
        rw [hX3]
        clear hX3
        obtain ⟨i3,r3⟩:=p3.rules
        refine hK.out _ _ ?_ (fun hHeld=>?_)
        · (try dsimp only);(refine HS.out _ ?_;repeat (first | exact bR | assumption | refine bD ?_ | refine bT ?_ (by assumption)))
        clear hK K
        try simp only [Act.put,lA,lB,lC]
        refine wpAnyH_ready (rs:=[13]) (by kernel_rfl) (by simp) ?_
        refine AllReadyH.cons (o:=oMa13) rfl (fun K hK=>?_) AllReadyH.nil
        have hbF:=below_setRow hHeld.2 hG (posA r)
        have hF:=PosAt.setRow p3 r
        go_simp
        refine hK.out _ _ ?_ (fun hHeld=>?_)
        · (try dsimp only);(refine HS.out _ ?_;repeat (first | exact bR | assumption | refine bD ?_ | refine bT ?_ (by assumption)))
        clear hK K
        try simp only [Act.put,lA,lB,lC]
        (refine tl 14 (oi:=oMa14) (v:=?_) ?_ ?_;rotate_left;(focus (intro w hSw;(try dsimp only at hSw);go_simp;try (with_reducible rfl)));try simp only [Act.put,lA,lB,lC])
        refine wpAnyH_done (by kernel_rfl) ?_ _
        go_wp2_with fail
        go_meet
        exact ⟨V3.heap.size,rfl,rfl,hF,hbF⟩
      · skip
        go_simp
        obtain ⟨X3,hX3⟩:∃ X3,D.alloc (.cells (posA zeroN) 31)=X3:=⟨_,rfl⟩
        obtain ⟨p3,b3⟩:=box1 D zeroN X3 hX3
        rw [hX3]
        clear hX3
        have hG:=hHeld.2.size
        refine hK.out _ _ ?_ (fun hHeld=>?_)
        · (try dsimp only);(refine HS.out _ ?_;repeat (first | exact bR | assumption | refine bD ?_ | refine bT ?_ (by assumption)))
        clear hK K
        try simp only [Act.put,lA,lB,lC]
        refine wpAnyH_ready (rs:=[8]) (by kernel_rfl) (by simp) ?_
        refine AllReadyH.cons (o:=oMa8) rfl (fun K hK=>?_) AllReadyH.nil
        go_simp
        refine (HAMJ.out _ (HT.out X3 (HW0.out.trans (hHeld.2.mono HW0.out.size)))).mono ?_
        rintro e V3 ⟨rfl,h3⟩
        have p4:=p3.below h3 p3.lt
        obtain ⟨i3,r3⟩:=p4.rules
        refine hK.out _ _ ?_ (fun hHeld=>?_)
        · (try dsimp only);(refine HS.out _ ?_;repeat (first | exact bR | assumption | refine bD ?_ | refine bT ?_ (by assumption)))
        clear hK K
        try simp only [Act.put,lA,lB,lC]
        (refine tl 9 (oi:=oMa9) (v:=?_) ?_ ?_;rotate_left;(focus (intro w hSw;(try dsimp only at hSw);go_simp;try (with_reducible rfl)));try simp only [Act.put,lA,lB,lC])
        (refine tl 10 (oi:=oMa10) (v:=?_) ?_ ?_;rotate_left;(focus (intro w hSw;(try dsimp only at hSw);go_simp;try (with_reducible rfl)));try simp only [Act.put,lA,lB,lC])
        (refine tl 11 (oi:=oMa11) (v:=?_) ?_ ?_;rotate_left;(focus (intro w hSw;(try dsimp only at hSw);go_simp;try (with_reducible rfl)));try simp only [Act.put,lA,lB,lC])
        refine wpAnyH_ready (rs:=[13]) (by kernel_rfl) (by simp) ?_
        refine AllReadyH.cons (o:=oMa13) rfl (fun K hK=>?_) AllReadyH.nil
        have hbF:=below_setRow hHeld.2 hG (posA r)
        have hF:=PosAt.setRow p4 r
        go_simp
        refine hK.out _ _ ?_ (fun hHeld=>?_)
        · (try dsimp only);(refine HS.out _ ?_;repeat (first | exact bR | assumption | refine bD ?_ | refine bT ?_ (by assumption)))
        clear hK K
        try simp only [Act.put,lA,lB,lC]
        (refine tl 14 (oi:=oMa14) (v:=?_) ?_ ?_;rotate_left;(focus (intro w hSw;(try dsimp only at hSw);go_simp;try (with_reducible rfl)));try simp only [Act.put,lA,lB,lC])
        refine wpAnyH_done (by kernel_rfl) ?_ _
        go_wp2_with fail
        go_meet
        exact ⟨D.heap.size,rfl,rfl,hF,hbF⟩
     case rest =>
      obtain ⟨gq,rfl,rfl,hpq,hb1⟩:=hcut
      obtain ⟨W1,rfl⟩:∃ x,x=wc:=⟨_,rfl⟩
      have HPQ:=hI hpq
      have HS1:=hI (fun V2 (hb:Below W1.heap.size W1 V2)=>(show (fun V2=>((IsMid V2 g (j*88)∧midOf V2 g (j*88)=posA q)∧(V2.cell? ⟨gm,c*5,none⟩=some (.int .i8 mf)∧V2.cell? ⟨gm,c*5+1,none⟩=some (.int .i8 mt)∧V2.cell? ⟨gm,c*5+2,none⟩=some (.int .u8 mp)∧V2.cell? ⟨gm,c*5+3,none⟩=some (.int .u8 md)∧V2.cell? ⟨gm,c*5+4,none⟩=some (.bool mc)))∧Below W1.heap.size W1 V2) V2 from ⟨HSW.out V2 (bT HZW.out (bT hb1 hb)),hb⟩))
      dsimp only at HS1
      have HW1:=hI (bT HW0.out hb1)
      have HB1:=hI hb1
      clear hpq hb1
      go_upto_region 15 with fail
      go_cut [15,16] (fun s15 s16 wx=>∃ gr:Nat,s15=.pointer (some ⟨gr,0,none⟩)∧s16=.bool true∧PosAt wx gr r∧Below W1.heap.size W1 wx)
      case first =>
       refine wp_region_held_drew (S:=(fun V2=>((IsMid V2 g (j*88)∧midOf V2 g (j*88)=posA q)∧(V2.cell? ⟨gm,c*5,none⟩=some (.int .i8 mf)∧V2.cell? ⟨gm,c*5+1,none⟩=some (.int .i8 mt)∧V2.cell? ⟨gm,c*5+2,none⟩=some (.int .u8 mp)∧V2.cell? ⟨gm,c*5+3,none⟩=some (.int .u8 md)∧V2.cell? ⟨gm,c*5+4,none⟩=some (.bool mc)))∧Below W1.heap.size W1 V2)) (by kernel_rfl) ?_ (fun hHeld=>?_)
       · (try dsimp only);(refine HS1.out _ ?_;repeat (first | exact bR | assumption | refine bD ?_ | refine bT ?_ (by assumption)))
       obtain ⟨D,hD⟩:∃ D,W1.drew=D:=⟨_,rfl⟩
       rw [hD] at hHeld ⊢
       clear hD
       have hbD:Below W1.heap.size W1 D:=hHeld.2
       have hD0:=hbD.size
       (refine tl 0 (oi:=oMb0) (v:=?_) ?_ ?_;rotate_left;(focus (intro w hSw;(try dsimp only at hSw);go_simp;try (with_reducible rfl)));try simp only [Act.put,lA,lB,lC])
       (refine tl 1 (oi:=oMb1) (v:=?_) ?_ ?_;rotate_left;(focus (intro w hSw;(try dsimp only at hSw);go_simp;try (with_reducible rfl)));try simp only [Act.put,lA,lB,lC])
       (refine tl 2 (oi:=oMb2) (v:=?_) ?_ ?_;rotate_left;(focus (intro w hSw;(try dsimp only at hSw);go_simp;try (with_reducible rfl)));try simp only [Act.put,lA,lB,lC])
       (refine tl 3 (oi:=oMb3) (v:=?_) ?_ ?_;rotate_left;(focus (intro w hSw;(try dsimp only at hSw);go_simp;try (with_reducible rfl)));try simp only [Act.put,lA,lB,lC])
       (refine tl 4 (oi:=oMb4) (v:=?_) ?_ ?_;rotate_left;(focus (intro w hSw;(try dsimp only at hSw);go_simp;try (with_reducible rfl)));try simp only [Act.put,lA,lB,lC])
       (refine tl 5 (oi:=oMb5) (v:=?_) ?_ ?_;rotate_left;(focus (intro w hSw;(try dsimp only at hSw);go_simp;try (with_reducible rfl)));try simp only [Act.put,lA,lB,lC])
       (refine tl 6 (oi:=oMb6) (v:=?_) ?_ ?_;rotate_left;(focus (intro w hSw;(try dsimp only at hSw);go_simp;try (with_reducible rfl)));try simp only [Act.put,lA,lB,lC])
       (refine tl 7 (oi:=oMb7) (v:=?_) ?_ ?_;rotate_left;(focus (intro w hSw;(try dsimp only at hSw);go_simp;try (with_reducible rfl)));try simp only [Act.put,lA,lB,lC])
       refine wpAnyH_ready (rs:=[8,12]) (by kernel_rfl) (by simp) ?_
       refine AllReadyH.cons (o:=oMb8) rfl (fun K hK=>?_) (AllReadyH.cons (o:=oMb12) rfl (fun K hK=>?_) AllReadyH.nil)
       · skip
         go_simp
         refine (HA6J.out _).mono ?_
         rintro e V3 ⟨rfl,h3⟩
         refine hK.out _ _ ?_ (fun hHeld=>?_)
         · (try dsimp only);(refine HS1.out _ ?_;repeat (first | exact bR | assumption | refine bD ?_ | refine bT ?_ (by assumption)))
         clear hK K
         try simp only [Act.put,lA,lB,lC]
         (refine tl 9 (oi:=oMb9) (v:=?_) ?_ ?_;rotate_left;(focus (intro w hSw;(try dsimp only at hSw);go_simp;try (with_reducible rfl)));try simp only [Act.put,lA,lB,lC])
         (refine tl 10 (oi:=oMb10) (v:=?_) ?_ ?_;rotate_left;(focus (intro w hSw;(try dsimp only at hSw);go_simp;try (with_reducible rfl)));try simp only [Act.put,lA,lB,lC])
         (refine tl 11 (oi:=oMb11) (v:=?_) ?_ ?_;rotate_left;(focus (intro w hSw;(try dsimp only at hSw);go_simp;try (with_reducible rfl)));try simp only [Act.put,lA,lB,lC])
         have hG:=hHeld.2.size
         refine wpAnyH_ready (rs:=[12]) (by kernel_rfl) (by simp) ?_
         refine AllReadyH.cons (o:=oMb12) rfl (fun K hK=>?_) AllReadyH.nil
         go_simp
         obtain ⟨X3,hX3⟩:∃ X3,V3.alloc (.cells (posA zeroN) 31)=X3:=⟨_,rfl⟩
         obtain ⟨p3,b3⟩:=box1 V3 zeroN X3 hX3
         rw [hX3]
         clear hX3
         obtain ⟨i3,r3⟩:=p3.rules
         refine hK.out _ _ ?_ (fun hHeld=>?_)
         · (try dsimp only);(refine HS1.out _ ?_;repeat (first | exact bR | assumption | refine bD ?_ | refine bT ?_ (by assumption)))
         clear hK K
         try simp only [Act.put,lA,lB,lC]
         refine wpAnyH_ready (rs:=[13]) (by kernel_rfl) (by simp) ?_
         refine AllReadyH.cons (o:=oMb13) rfl (fun K hK=>?_) AllReadyH.nil
         have hbF:=below_setRow hHeld.2 hG (posA r)
         have hF:=PosAt.setRow p3 r
         go_simp
         refine hK.out _ _ ?_ (fun hHeld=>?_)
         · (try dsimp only);(refine HS1.out _ ?_;repeat (first | exact bR | assumption | refine bD ?_ | refine bT ?_ (by assumption)))
         clear hK K
         try simp only [Act.put,lA,lB,lC]
         (refine tl 14 (oi:=oMb14) (v:=?_) ?_ ?_;rotate_left;(focus (intro w hSw;(try dsimp only at hSw);go_simp;try (with_reducible rfl)));try simp only [Act.put,lA,lB,lC])
         refine wpAnyH_done (by kernel_rfl) ?_ _
         go_wp2_with fail
         go_meet
         exact ⟨V3.heap.size,rfl,rfl,hF,hbF⟩
       · skip
         go_simp
         obtain ⟨X3,hX3⟩:∃ X3,D.alloc (.cells (posA zeroN) 31)=X3:=⟨_,rfl⟩
         obtain ⟨p3,b3⟩:=box1 D zeroN X3 hX3
         rw [hX3]
         clear hX3
         have hG:=hHeld.2.size
         refine hK.out _ _ ?_ (fun hHeld=>?_)
         · (try dsimp only);(refine HS1.out _ ?_;repeat (first | exact bR | assumption | refine bD ?_ | refine bT ?_ (by assumption)))
         clear hK K
         try simp only [Act.put,lA,lB,lC]
         refine wpAnyH_ready (rs:=[8]) (by kernel_rfl) (by simp) ?_
         refine AllReadyH.cons (o:=oMb8) rfl (fun K hK=>?_) AllReadyH.nil
         go_simp
         refine (HA6J.out _).mono ?_
         rintro e V3 ⟨rfl,h3⟩
         have p4:=p3.below h3 p3.lt
         obtain ⟨i3,r3⟩:=p4.rules
         refine hK.out _ _ ?_ (fun hHeld=>?_)
         · (try dsimp only);(refine HS1.out _ ?_;repeat (first | exact bR | assumption | refine bD ?_ | refine bT ?_ (by assumption)))
         clear hK K
         try simp only [Act.put,lA,lB,lC]
         (refine tl 9 (oi:=oMb9) (v:=?_) ?_ ?_;rotate_left;(focus (intro w hSw;(try dsimp only at hSw);go_simp;try (with_reducible rfl)));try simp only [Act.put,lA,lB,lC])
         (refine tl 10 (oi:=oMb10) (v:=?_) ?_ ?_;rotate_left;(focus (intro w hSw;(try dsimp only at hSw);go_simp;try (with_reducible rfl)));try simp only [Act.put,lA,lB,lC])
         (refine tl 11 (oi:=oMb11) (v:=?_) ?_ ?_;rotate_left;(focus (intro w hSw;(try dsimp only at hSw);go_simp;try (with_reducible rfl)));try simp only [Act.put,lA,lB,lC])
         refine wpAnyH_ready (rs:=[13]) (by kernel_rfl) (by simp) ?_
         refine AllReadyH.cons (o:=oMb13) rfl (fun K hK=>?_) AllReadyH.nil
         have hbF:=below_setRow hHeld.2 hG (posA r)
         have hF:=PosAt.setRow p4 r
         go_simp
         refine hK.out _ _ ?_ (fun hHeld=>?_)
         · (try dsimp only);(refine HS1.out _ ?_;repeat (first | exact bR | assumption | refine bD ?_ | refine bT ?_ (by assumption)))
         clear hK K
         try simp only [Act.put,lA,lB,lC]
         (refine tl 14 (oi:=oMb14) (v:=?_) ?_ ?_;rotate_left;(focus (intro w hSw;(try dsimp only at hSw);go_simp;try (with_reducible rfl)));try simp only [Act.put,lA,lB,lC])
         refine wpAnyH_done (by kernel_rfl) ?_ _
         go_wp2_with fail
         go_meet
         exact ⟨D.heap.size,rfl,rfl,hF,hbF⟩
      case rest =>
       obtain ⟨gr,rfl,rfl,hpr,hb2⟩:=hcut
       obtain ⟨i5,r5⟩:=hpr.rules
       obtain ⟨i6,r6⟩:=(HPQ.out.below hb2 HPQ.out.lt).rules
       have HE:=hI (bT HZW.out (bT HB1.out hb2))
       clear hpr hb2
       go_wp2
       go_roundg (L - (c+1))
       case measure=>omega
       case rel=>exact ⟨c+1,by omega,by go_num,HE.out⟩
theorem topMoves_walk (a b:Int) (wl:List Int) (wa:(Lit.int .u8 a).wf=true) (wb:(Lit.int .i64 b).wf=true) (hw0:∀ i,0≤wl.getD i 0∧wl.getD i 0≤255) (v:Value) (w:World) (hv:WayAt w v wl) (hT:Tab w):Calls Tryz.prog 4 #[.int .u8 a,.int .i64 b,v] w fun e w' => e = .returned (.bool true)∧Below w.heap.size w w' :=
 topMoves_of (fun V hT=>stirs_any next_ok text_mate V hT) a b (wf_u8 wa).1 (wf_u8 wa).2 wl hw0 v w hT hv
end Go.Proofs.YteocjaihaegmoaaGreatDoor
