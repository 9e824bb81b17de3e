/- Parts of the proof: BK, I1, I2, I3, I4, I5, I6, I7, I8, I9, IA. -/
import Derived.Test.YteocjaihaegmoaaGreatDoorWAB
import Derived.Test.YteocjaihaegmoaaGreatDoorWAX
import Derived.Test.YteocjaihaegmoaaGreatDoorWBI
import Derived.Test.YteocjaihaegmoaaGreatDoorWBJ
import Derived.Test.YteocjaihaegmoaaGreatDoorWBN
set_option linter.unusedVariables false
set_option maxHeartbeats 16000000
set_option maxRecDepth 100000
namespace Go.Proofs.YteocjaihaegmoaaGreatDoor
open Go Go.RowKit
def okQ (n:Nat→Int) (k:Nat):Bool:=if k=0 then vPlain n else if k=1 then vClocks n else if k=2 then vKings n else if k=3 then vPawns n else if k=4 then vPockets n else if k=5 then vRooks n else if k=6 then vPassing n else vCheck n
def eQ (k:Nat):Int:=if k=0 then 2 else if k=1 then 125 else if k=2 then 120 else if k=3 then 121 else if k=4 then 122 else if k=5 then 123 else if k=6 then 124 else 126
def errK (n:Nat→Int):Nat→List Int
 | 0=>[]
 | k+1=>if okQ n k=true then errK n k else errK n k ++ [eQ k]
def errL (n:Nat→Int):List Int:=if vPlain n=true then errK n 8 else [2]
def validE (n:Nat→Int):Int:=(errL n).headD 0
theorem errK_len (n:Nat→Int):∀ k,(errK n k).length≤k
 | 0=>Nat.le_refl _
 | k + 1 => by
   have:=errK_len n k
   show (if _ then _ else _:List Int).length≤_
   split
   · omega
   · rw [List.length_append];simp;omega
/-- Behind the first question no error is the first one's. -/
theorem errK_two {n:Nat→Int} (hp:vPlain n=true):∀ k,k≤8→∀ e∈errK n k,e≠2
 | 0,_,e,he=>by cases he
 | k + 1, hk, e, he => by
   have ih:=errK_two hp k (by omega)
   change e∈(if okQ n k=true then errK n k else errK n k ++ [eQ k]) at he
   split at he
   · exact ih e he
   · rename_i hq
     rw [List.mem_append,List.mem_singleton] at he
     rcases he with he | rfl
     · exact ih e he
     · rcases (show k = 0 ∨ 1 ≤ k by omega) with rfl | h1
       · exact absurd hp hq
       · unfold eQ
         rw [if_neg (by omega)]
         repeat (first | decide | split)
theorem valid_ok {n:Nat→Int} (h:validE n=0):vPlain n=true:=by
 cases hp:vPlain n with
 | true=>rfl
 | false =>
   unfold validE errL at h
   rw [hp] at h
   cases h
theorem infoE:(Tryz.prog.info? 33).map (fun i=>(i.zero,i.size,i.bytes))=some (some (.int .i64 0),1,8):=by kernel_rfl
def OwnE (w:World) (base:Nat) (v:Value) (l:List Int):Prop:=w.ownsRow base 33 1 v l.length (l.map (Value.int .i64))
theorem OwnE.app {w:World} {base:Nat} {v:Value} {l:List Int} {x:Int} (h:w.ownsRow base 33 1 v (l.length+1) (l.map (Value.int .i64) ++ [.int .i64 x])):OwnE w base v (l ++ [x]):=by
 simpa [OwnE] using h
theorem OwnE.grown {w w1 w2:World} {B:Nat} {v:Value} {l:List Int} (hown:OwnE w1 B v l) (hbel:Below B w w1) (hB:B≤w1.heap.size) (o:Obj) (hg:(w1.alloc o).grownBy w2 v.ownBlock):Below B w w2 :=
 (hbel.alloc hB o).grown hg (by simp;omega) (fun j hj=>(World.ownsRow.lt hown j hj).1)
theorem OwnE.kept {w w' : World} {B C:Nat} {v:Value} {l:List Int} (h:OwnE w B v l) (hb:Below C w w') (hC:w.heap.size≤C):OwnE w' B v l:=by
 have hlt:=World.ownsRow.lt h
 obtain ⟨h1,h2⟩:=h
 refine ⟨h1,?_⟩
 rcases h2 with h2 | ⟨g,cap,cur,hv,hg,hgb,rest⟩
 · exact .inl h2
 · have := (hlt g (by rw [hv]; rfl)).2
   exact .inr ⟨g,cap,cur,hv,hg,(hb.block g (by omega)).trans hgb,rest⟩
/-- Its length, and its first one. -/
theorem OwnE.form {w:World} {base:Nat} {v:Value} {l:List Int} (h:OwnE w base v l):∃ a c,v=.slice a l.length c∧(0<l.length→∃ g x,a=some ⟨g,0,none⟩∧w.cell? ⟨g,0,none⟩=some (.int .i64 x)∧x=l.headD 0):=by
 obtain ⟨h1,h2⟩:=id h
 rcases h2 with ⟨hv,hx⟩ | ⟨g,cap,cur,hv,rest⟩
 · exact ⟨none,0,by rw [hv];simp at hx;rw [hx];rfl,fun hl=>by simp at hx;rw [hx] at hl;exact absurd hl (by decide)⟩
 · subst hv
   refine ⟨_,_,rfl,fun hl=>⟨g,l.headD 0,rfl,?_,rfl⟩⟩
   have e:=World.ownsRow.cellAt h 0 (by omega)
   rw [e]
   cases l with
   | nil=>exact absurd hl (by decide)
   | cons x l=>rfl
def askA:Array Value:=#[.int .i64 2,fv 111,.int .i64 125,fv 112,.int .i64 120,fv 113,.int .i64 121,fv 114,.int .i64 122,fv 115,.int .i64 123,fv 116,.int .i64 124,fv 117,.int .i64 126,fv 118]
theorem vquestions_any (w:World):Calls Tryz.prog 44 #[] w fun e w' => e = .returned (.agg askA)∧Below w.heap.size w w' := by
 go_enter Tryz.func44,Tryz.ntmps44
 go_wp2
 refine bodyPost_ret (v:=.agg askA) (results_cell_row Tryz.results44 _ _ w.heap.size _ askA _ _ rfl (World.alloc_heap_new w _) Tryz.underlying74 rfl (by kernel_rfl)) rfl ⟨rfl,bR.alloc lR _⟩
theorem vquest (n:Nat→Int) (hn:PosOk n) (j:Nat) (hj:j<8) (hp:j=0∨vPlain n=true):∃ f,(∀ w,(Instr.index 74 (.agg askA) (.int .i64 (j:Int))).run Tryz.prog w=.ok (.agg #[.int .i64 (eQ j),fv f]) w)∧(∀ w,(callFunc f #[.agg (posA n)]).run Tryz.prog w=.ok (.enter f #[.agg (posA n)]) w) ∧
 ∀ V,Tab V→Calls Tryz.prog f #[.agg (posA n)] V fun e w' => e = .returned (.bool (okQ n j))∧Below V.heap.size V w' := by
 rcases (show j=0∨j=1∨j=2∨j=3∨j=4∨j=5∨j=6∨j=7 by omega) with rfl | rfl | rfl | rfl | rfl | rfl | rfl | rfl
 · exact ⟨111,fun _=>by kernel_rfl,fun _=>by kernel_rfl,fun V hT=>vplain_any n hn V⟩
 all_goals have hp:=hp.resolve_left (by decide)
 · exact ⟨112,fun _=>by kernel_rfl,fun _=>by kernel_rfl,fun V hT=>vclocks_any n hn V⟩
 · exact ⟨113,fun _=>by kernel_rfl,fun _=>by kernel_rfl,fun V hT=>vkings_any n hn V⟩
 · exact ⟨114,fun _=>by kernel_rfl,fun _=>by kernel_rfl,fun V hT=>vpawns_any' n hn V⟩
 · exact ⟨115,fun _=>by kernel_rfl,fun _=>by kernel_rfl,fun V hT=>vpock_any n hn V⟩
 · exact ⟨116,fun _=>by kernel_rfl,fun _=>by kernel_rfl,fun V hT=>vrooks_any n hn hp V hT⟩
 · exact ⟨117,fun _=>by kernel_rfl,fun _=>by kernel_rfl,fun V hT=>vpassing_any n hn hp V hT⟩
 · exact ⟨118,fun _=>by kernel_rfl,fun _=>by kernel_rfl,fun V hT=>vcheck_any n hn hp V hT⟩
theorem head_mem {l:List Int} (h:0<l.length):l.headD 0∈l:=by
 cases l with
 | nil=>exact absurd h (by decide)
 | cons x l=>exact List.mem_cons_self ..
theorem vall_any (n:Nat→Int) (hn:PosOk n) (w:World) (hT:Tab w):Calls Tryz.prog 16 #[.agg (posA n)] w fun e w' => ∃ v,e=.returned v∧OwnE w' w.heap.size v (errL n)∧Below w.heap.size w w' := by
 obtain ⟨i0,hi,hz0,hz1,hz2⟩:=info_parts infoE
 have HI:=hI hi
 clear hi
 obtain ⟨X,hX⟩:∃ X,w.alloc (.cells (posA n) 31)=X:=⟨_,rfl⟩
 obtain ⟨p0,hb⟩:=box1 w n X hX
 have HF:=hI (fun V (h:Below X.heap.size X V)=>(p0.below h p0.lt).rules)
 have HTX:=hI (fun V (h:Below X.heap.size X V)=>(hT.below hb lR).below h lR)
 have HQ:=hI (fun j hj hp=>vquest n hn j hj hp)
 have HX:=hI hX
 have HB:=hI hb
 have hS:=hb.size
 have hR:=Below.refl X.heap.size X
 obtain ⟨i1,r1⟩:=p0.rules
 clear hX p0 hb hT
 go_enter Tryz.func16,Tryz.ntmps16
 go_wp2_with (first | rw [HX.out] | (go_at_call 44;refine (vquestions_any _).mono ?_;rintro e U ⟨rfl,h1⟩;have hR:=bT hR h1;clear h1))
 go_loopg [3,7] 8 (fun g vl i wr=>∃ j:Nat,j+g=8∧i=.int .i64 j∧OwnE wr X.heap.size vl (errK n j)∧(j=0∨vPlain n=true)∧Below X.heap.size X wr)
 case atStart=>exact ⟨0,rfl,rfl,⟨rfl,.inl ⟨rfl,rfl⟩⟩,.inl rfl,hR⟩
 case round =>
  obtain ⟨j,hj,rfl,hown,hp,hr⟩:=hrel
  have HO:=hI hown
  have HR:=hI hr
  have HP:=hI hp
  clear hown hp hr
  by_cases hlt:j<8
  · obtain ⟨f, ix, hcf, hq⟩ := HQ.out j hlt HP.out
    have HC:=hI hq
    clear hq
    have HEK:=hI (show errK n (j+1)=if okQ n j=true then errK n j else errK n j ++ [eQ j] from rfl)
    have HLN:=hI (errK_len n j)
    have H2:=hI (fun (hv:vPlain n=true)=>errK_two hv j (by omega))
    have HPL:=hI (show j=0→okQ n j=vPlain n from fun h=>by rw [h];rfl)
    have HE2:=hI (show j=0→eQ j=2 from fun h=>by rw [h];rfl)
    have HE3:=hI (show 0<j→eQ j≠2 from fun h=>by
     unfold eQ
     rw [if_neg (by omega)]
     repeat (first | decide | split))
    obtain ⟨Z,hZ⟩:∃ Z,wr.alloc (.cells #[.int .i64 (eQ j),.func (.func f) #[] #[]] 73)=Z:=⟨_,rfl⟩
    have hZX:Below X.heap.size X Z:=by rw [← hZ];exact HR.out.alloc HR.out.size _
    have hzb:Z.heap[wr.heap.size]?=some (.cells #[.int .i64 (eQ j),.func (.func f) #[] #[]] 73 (0,0)):=by rw [← hZ];exact heap_alloc_last wr _
    have hsz:wr.heap.size<Z.heap.size:=by rw [← hZ];simp
    have HOZ:=hI (show OwnE Z X.heap.size u3 (errK n j) by rw [← hZ];exact World.ownsRow.alloc HO.out _)
    have HZ:=hI hZ
    have HZX:=hI hZX
    have HZB:=hI hzb
    have cz:∀ V,Below Z.heap.size Z V→V.cell? ⟨wr.heap.size,0,none⟩=some (.int .i64 (eQ j))∧V.cell? ⟨wr.heap.size,1,none⟩=some (.func (.func f) #[] #[]):=fun V h=>by
     have e:=(h.block _ hsz).trans hzb
     exact ⟨by rw [cell_of_row V _ 0 _ _ _ e];rfl,by rw [cell_of_row V _ 1 _ _ _ e];rfl⟩
    have HCZ:=hI cz
    obtain ⟨z0,z1⟩:=cz Z bR
    have ec:decide ((j:Int)<8)=true:=decide_eq_true (by omega)
    obtain ⟨i1,r1⟩:=HF.out Z hZX
    clear hZ hZX hzb cz HO
    generalize okQ n j=ok at *
    cases ok
    · have HEK2 := hideIt (show errK n (j + 1) = errK n j ++ [eQ j] from HEK.out)
      have hln:=HLN.out
      generalize hLL:errK n j=L at *
      go_wp2_with (rw [HZ.out])
      refine (HC.out _ (HTX.out Z HZX.out)).mono ?_
      rintro e V ⟨rfl,h1⟩
      have HO2:=hI (HOZ.out.kept h1 lR)
      have HRV:=hI (bT HZX.out h1)
      have hszV:=HRV.out.size
      clear z0 z1 i1 r1
      obtain ⟨z0,z1⟩:=HCZ.out V h1
      clear h1
      obtain ⟨m,hm⟩:∃ m,(L ++ [eQ j]).length=m:=⟨_,rfl⟩
      have HMM:=hI hm
      have hml:m=L.length+1:=by rw [← hm];simp
      have hm9:m≤9:=by omega
      by_cases hj0:j=0
      · have hL0 : L = [] := List.length_eq_zero_iff.1 (by omega)
        have HPF:=hI (HPL.out hj0)
        have HE:=hI (HE2.out hj0)
        have HEL:=hI (show errL n=[2] by unfold errL;rw [← HPF.out];rfl)
        have HLE:=hI (show L ++ [eQ j]=[2] by rw [hL0,HE.out];rfl)
        obtain rfl:m=1:=by rw [HLE.out] at hm;exact hm.symm
        clear hL0 hml hj0 hLL hm
        go_wp2_with (at_builtin;refine wpList_append_own _ rfl _ _ 51 rfl X.heap.size 33 i0 (.int .i64 0) 1 8 Tryz.underlying51 HI.out hz0 hz1 hz2 rfl (by decide) _ _ _ rfl (World.ownsRow.alloc HO2.out _) ⟨V.heap.size,0,none⟩ 1 1 [.int .i64 (eQ j)] rfl rfl (cell_one_new _ _ _) (fun x hx=>by simp at hx;subst hx;rfl) (by unfold maxLen;omega) (by omega) (by simp;omega) ?_;intro v' w5 hown' hgrow3 _;have HR5:=hI (OwnE.grown HO2.out HRV.out hszV _ hgrow3);have HO5:=hI (OwnE.app hown');obtain ⟨av,ac,hav,hfst⟩:=HO5.out.form;rw [HMM.out] at hav hfst;clear hown' hgrow3;(obtain ⟨gg,x,rfl,hcell,hx⟩:=hfst (by omega));subst hav;have HO6:=hI HO5.out;clear HO5 hfst;(rw [HLE.out] at hx);(obtain rfl:x=2:=hx))
        go_ret
        exact ⟨_,rfl,by rw [HEL.out,← HLE.out];exact ownsRow_less HO6.out hS,HB.out.trans (HR5.out.mono hS)⟩
      · have HV := hideIt (HP.out.resolve_left hj0)
        have HALL2:=hI (show ∀ e∈L ++ [eQ j],e≠2 from fun e he=>by
         rw [List.mem_append,List.mem_singleton] at he
         rcases he with he | rfl
         · exact H2.out HV.out e he
         · exact HE3.out (by omega))
        by_cases h1:m=1
        · have K2 := hideIt (show ((L ++ [eQ j]).headD 0 == 2) = false from beq_eq_false_iff_ne.2 (HALL2.out _ (head_mem (by omega))))
          have k1:decide (m=1)=true:=decide_eq_true h1
          have k0:((m:Int)==1)=true:=beq_iff_eq.2 (by omega)
          have kp:0<m:=by omega
          have HH1:=hI h1
          clear h1 hml hm
          go_wp2_with (at_builtin;refine wpList_append_own _ rfl _ _ 51 rfl X.heap.size 33 i0 (.int .i64 0) 1 8 Tryz.underlying51 HI.out hz0 hz1 hz2 rfl (by decide) _ _ _ rfl (World.ownsRow.alloc HO2.out _) ⟨V.heap.size,0,none⟩ 1 1 [.int .i64 (eQ j)] rfl rfl (cell_one_new _ _ _) (fun x hx=>by simp at hx;subst hx;rfl) (by unfold maxLen;omega) (by omega) (by simp;omega) ?_;intro v' w5 hown' hgrow3 _;have HR5:=hI (OwnE.grown HO2.out HRV.out hszV _ hgrow3);have HO5:=hI (OwnE.app hown');obtain ⟨av,ac,hav,hfst⟩:=HO5.out.form;rw [HMM.out] at hav hfst;clear hown' hgrow3;(obtain ⟨gg,x,rfl,hcell,hx⟩:=hfst (by have:=HH1.out;omega));(have k2:(x==2)=false:=hx ▸ K2.out);clear hx;subst hav;have HO6:=hI HO5.out;clear HO5 hfst)
          go_roundg (8 - (j+1))
          case measure=>omega
          case rel=>exact ⟨j+1,by omega,by go_num,by rw [HEK2.out];exact HO6.out,.inr HV.out,HR5.out⟩
        · have k1 : decide (m = 1) = false := decide_eq_false h1
          have k0:((m:Int)==1)=false:=beq_eq_false_iff_ne.2 (by omega)
          clear h1 hml hm
          go_wp2_with (at_builtin;refine wpList_append_own _ rfl _ _ 51 rfl X.heap.size 33 i0 (.int .i64 0) 1 8 Tryz.underlying51 HI.out hz0 hz1 hz2 rfl (by decide) _ _ _ rfl (World.ownsRow.alloc HO2.out _) ⟨V.heap.size,0,none⟩ 1 1 [.int .i64 (eQ j)] rfl rfl (cell_one_new _ _ _) (fun x hx=>by simp at hx;subst hx;rfl) (by unfold maxLen;omega) (by omega) (by simp;omega) ?_;intro v' w5 hown' hgrow3 _;have HR5:=hI (OwnE.grown HO2.out HRV.out hszV _ hgrow3);have HO5:=hI (OwnE.app hown');obtain ⟨av,ac,hav,hfst⟩:=HO5.out.form;rw [HMM.out] at hav hfst;clear hown' hgrow3;clear hfst;subst hav;have HO6:=hI HO5.out;clear HO5)
          go_roundg (8 - (j+1))
          case measure=>omega
          case rel=>exact ⟨j+1,by omega,by go_num,by rw [HEK2.out];exact HO6.out,.inr HV.out,HR5.out⟩
    · have HEK2 := hideIt (show errK n (j + 1) = errK n j from HEK.out)
      have HV:=hI (show vPlain n=true from HP.out.elim (fun h=>(HPL.out h).symm) id)
      have HALL2:=hI (H2.out HV.out)
      have hln:=HLN.out
      generalize hLL:errK n j=L at *
      obtain ⟨m,hm⟩:∃ m,L.length=m:=⟨_,rfl⟩
      have hm9:m≤9:=by omega
      obtain ⟨av,ac,hav,hfst⟩:=HOZ.out.form
      have HFST:=hI hfst
      clear hfst
      subst hav
      rw [hm] at HOZ
      by_cases h1:m=1
      · obtain ⟨gg, x, rfl, hcell, hx⟩ := HFST.out (by omega)
        have k2:(x==2)=false:=by rw [hx];exact beq_eq_false_iff_ne.2 (HALL2.out _ (head_mem (by omega)))
        have k1:decide (m=1)=true:=decide_eq_true h1
        have k0:((m:Int)==1)=true:=beq_iff_eq.2 (by omega)
        have kp:0<m:=by omega
        have hgl:gg<Z.heap.size:=World.block_lt_of_cell? _ _ hcell
        have HCC:=hI hcell
        rw [hm]
        clear h1 hm hcell hx
        go_wp2_with (rw [HZ.out])
        refine (HC.out _ (HTX.out Z HZX.out)).mono ?_
        rintro e V ⟨rfl,h1⟩
        have hcell:=(h1.cell (p:=⟨gg,0,none⟩) hgl).trans HCC.out
        have HO2:=hI (HOZ.out.kept h1 lR)
        have HRV:=hI (bT HZX.out h1)
        clear z0 z1 i1 r1 h1
        go_wp2
        go_roundg (8 - (j+1))
        case measure=>omega
        case rel=>exact ⟨j+1,by omega,by go_num,by rw [HEK2.out];exact HO2.out,.inr HV.out,HRV.out⟩
      · have k1 : decide (m = 1) = false := decide_eq_false h1
        have k0:((m:Int)==1)=false:=beq_eq_false_iff_ne.2 (by omega)
        rw [hm]
        clear h1 hm
        go_wp2_with (rw [HZ.out])
        refine (HC.out _ (HTX.out Z HZX.out)).mono ?_
        rintro e V ⟨rfl,h1⟩
        have HO2:=hI (HOZ.out.kept h1 lR)
        have HRV:=hI (bT HZX.out h1)
        clear z0 z1 i1 r1 h1
        go_wp2
        go_roundg (8 - (j+1))
        case measure=>omega
        case rel=>exact ⟨j+1,by omega,by go_num,by rw [HEK2.out];exact HO2.out,.inr HV.out,HRV.out⟩
  · obtain rfl : j = 8 := by omega
    have HEL:=hI (show errL n=errK n 8 by unfold errL;rw [HP.out.resolve_left (by decide)];rfl)
    go_wp2
    go_ret
    exact ⟨_,rfl,by rw [HEL.out];exact ownsRow_less HO.out hS,HB.out.trans (HR.out.mono hS)⟩
theorem vcheckE_any (n:Nat→Int) (hn:PosOk n) (w:World) (hT:Tab w):Calls Tryz.prog 5 #[.agg (posA n)] w fun e w' => e = .returned (.int .i64 (validE n))∧Below w.heap.size w w' := by
 obtain ⟨X,hX⟩:∃ X,w.alloc (.cells (posA n) 31)=X:=⟨_,rfl⟩
 obtain ⟨p0,hb⟩:=box1 w n X hX
 have HA:=hI (vall_any n hn X (hT.below hb lR))
 have HX:=hI hX
 have HB:=hI hb
 obtain ⟨i1,r1⟩:=p0.rules
 have HV:=hI (show validE n=(errL n).headD 0 from rfl)
 have hll:(errL n).length≤8:=by
  unfold errL
  split
  · exact errK_len n 8
  · decide
 clear hX p0 hb hT
 generalize errL n=L at *
 by_cases h0:0<L.length
 · go_enter Tryz.func5, Tryz.ntmps5
   go_wp2_with (first | rw [HX.out] | (go_at_call 16;refine HA.out.mono ?_;rintro e V ⟨vl,rfl,ho,h1⟩;obtain ⟨av,ac,rfl,hfst⟩:=ho.form;obtain ⟨gg,x,rfl,hcell,hx⟩:=hfst h0;have HB1:=hI h1;have HXV:=hI (hx.trans HV.out.symm);clear h1 ho hfst hx))
   go_ret
   exact ⟨ret_int HXV.out,HB.out.trans (HB1.out.mono HB.out.size)⟩
 · have hL : L = [] := List.length_eq_zero_iff.1 (by omega)
   subst hL
   go_enter Tryz.func5,Tryz.ntmps5
   go_wp2_with (first | rw [HX.out] | (go_at_call 16;refine HA.out.mono ?_;rintro e V ⟨vl,rfl,ho,h1⟩;obtain ⟨av,ac,rfl,hfst⟩:=ho.form;have HB1:=hI h1;clear h1 ho hfst))
   go_ret
   exact ⟨ret_int HV.out.symm,HB.out.trans (HB1.out.mono HB.out.size)⟩
/-- How many squares hold what p says. -/
def cB (p:Int→Bool) (n:Nat→Int):Nat:=cntP (fun s=>p (n (1+s))) 64
theorem cntP_one (p q:Nat→Bool) (s:Nat):∀ j,(∀ k,k<j→k≠s→p k=q k)→cntP p j+(if s<j∧q s=true then 1 else 0)=cntP q j+(if s<j∧p s=true then 1 else 0)
 | 0,_=>by simp [cntP]
 | j + 1, h => by
   have ih:=cntP_one p q s j (fun k hk=>h k (by omega))
   show cntP p j+(if p j=true then 1 else 0)+_=cntP q j+(if q j=true then 1 else 0)+_
   by_cases e:j=s
   · subst e
     simp only [Nat.lt_irrefl,false_and,if_false,Nat.add_zero,Nat.lt_succ_self,true_and] at ih ⊢
     rw [ih];omega
   · rw [h j (by omega) e]
     have e1:s<j+1↔s<j:=by omega
     simp only [e1];omega
theorem cB_upd (p:Int→Bool) (n:Nat→Int) (s:Nat) (hs:s<64) (x:Int):cB p (upd n (1+s) x)+(if p (n (1+s))=true then 1 else 0)=cB p n+(if p x=true then 1 else 0):=by
 have h:=cntP_one (fun k=>p (upd n (1+s) x (1+k))) (fun k=>p (n (1+k))) s 64 (fun k _ hk=>by show p (upd n (1+s) x (1+k))=_;rw [upd_ne _ (by omega)])
 have e:upd n (1+s) x (1+s)=x:=if_pos rfl
 simp only [hs,true_and,e] at h
 exact h
theorem cB_congr (p:Int→Bool) {n q:Nat→Int} (h:∀ s,s<64→q (1+s)=n (1+s)):cB p q=cB p n:=cntP_congr 64 (fun k hk=>by show p (q (1+k))=p (n (1+k));rw [h k hk])
theorem cB_zero {p:Int→Bool} {n:Nat→Int}:cB p n=0↔∀ s,s<64→p (n (1+s))=false:=cntP_zero 64
theorem cntP_mono (p q:Nat→Bool):∀ j,(∀ k,k<j→p k=true→q k=true)→cntP p j≤cntP q j
 | 0,_=>Nat.le_refl _
 | j + 1, h => by
   have ih:=cntP_mono p q j (fun k hk=>h k (by omega))
   show cntP p j+(if p j=true then 1 else 0)≤cntP q j+(if q j=true then 1 else 0)
   by_cases e:p j=true
   · rw [if_pos e,if_pos (h j (by omega) e)];omega
   · rw [if_neg e];omega
theorem cB_le {p:Int→Bool} {n q:Nat→Int} (h:∀ s,s<64→p (q (1+s))=true→p (n (1+s))=true):cB p q≤cB p n:=cntP_mono _ _ 64 (fun k hk=>h k hk)
/-- One square alone. -/
theorem cB_one {p:Int→Bool} {n:Nat→Int} (h:cB p n=1) {a b:Nat} (ha:a<64) (hb:b<64) (pa:p (n (1+a))=true) (pb:p (n (1+b))=true):a=b:=by
 refine Classical.byContradiction fun hne=>?_
 have h1:=cntP_one (fun k=>if k=a then false else p (n (1+k))) (fun k=>p (n (1+k))) a 64 (fun k _ hk=>if_neg hk)
 have h2:0<cntP (fun k=>if k=a then false else p (n (1+k))) 64:=Nat.pos_of_ne_zero fun e=>by
  have:=(cntP_zero 64).1 e b hb
  rw [if_neg (fun e2=>hne e2.symm),pb] at this
  cases this
 rw [if_pos ⟨ha,pa⟩,if_neg (fun e=>by have:=e.2;rw [if_pos rfl] at this;cases this)] at h1
 have:cntP (fun k=>p (n (1+k))) 64=1:=h
 omega
/-- What a move on the board goes over and takes. -/
structure Cap (n:Nat→Int) (m:Mv) (tk:Int):Prop where
 f0:0≤m.f
 f1:m.f<64
 t0:0≤m.t
 t1:m.t<64
 ne:m.f≠m.t
 own:isB (n (1+m.f.toNat))=true∧colI (n (1+m.f.toNat))=n 78
 tgt:(tk=m.t∧isB (n (1+m.t.toNat))=true∧colI (n (1+m.t.toNat))=1 - n 78)∨(n (1+m.t.toNat)=0∧(tk=-1∨(0≤tk∧tk<64∧tk≠m.t∧tk≠m.f∧n (1+tk.toNat)=makeI (1 - n 78) 1∧kndI (n (1+m.f.toNat))=1)))
theorem man_none {n:Nat→Int} (hp:vPlain n=true) {s:Nat} (hs:s<64) (h:isB (n (1+s))=false):n (1+s)=0:=by
 have:=((vPlain_iff n).1 hp).2.1 s hs
 unfold vMan at this
 rw [knd_none h] at this
 simpa using this
theorem there_plain {n:Nat→Int} (hn:PosOk n) (hp:vPlain n=true):thereN n=true:=by
 have:=plain_facts hn hp
 unfold thereN
 rw [decide_eq_true this.1,decide_eq_true (by omega)];rfl
theorem cap_of {n:Nat→Int} (hn:PosOk n) (hp:vPlain n=true) (hpa:vPassing n=true) {m:Mv} (hm:isP n m=true):Cap n m (takenP n m):=by
 have ht:=(plain_facts hn hp).2.1
 have h:=isP_parts hm
 obtain ⟨h1,h2,h3⟩:=may_own h.may
 refine ⟨h.f0,h.f1,h.t0,h.t1,h1,own_col h2,?_⟩
 have e:takenP n m=takenG n m:=by unfold takenP takenN;rw [if_pos (there_plain hn hp),if_pos hm]
 rw [e]
 unfold takenG
 rw [has_oth n m.t h.t0 h.t1]
 cases ho:ownP n m.t (1 - n 78) with
 | true =>
   rw [if_pos rfl]
   exact .inl ⟨rfl,own_col ho⟩
 | false =>
   rw [if_neg (by decide)]
   have hi:isB (n (1+m.t.toNat))=false:=by rw [← own_oth n ht,h3,ho];rfl
   refine .inr ⟨man_none hp (by have:=h.t0;have:=h.t1;omega) hi,?_⟩
   by_cases hk:kndI (n (1+m.f.toNat))=1∧m.f % 8≠m.t % 8
   · rw [if_pos hk]
     right
     have hc:=own_col h2
     rcases pawn_ways (may_pawn h.may hk.1) hk.1 hc.2 with ⟨g1,g2⟩ | ⟨g1,_⟩ | ⟨g1,_⟩
     · have hb := pawn_bk ht h.f0 h.f1 h.t0 h.t1 g1
       have g3:n 83=m.t:=g2.resolve_left (by rw [ho];decide)
       unfold vPassing at hpa
       rw [Bool.or_eq_true,decide_eq_true_iff] at hpa
       have hpb:=hpa.resolve_left (by have:=h.t0;omega)
       rw [Bool.and_eq_true] at hpb
       have hpc:=hpb.1
       unfold vPassB at hpc
       simp only [Bool.and_eq_true,beq_iff_eq] at hpc
       rw [g3] at hpc
       have ha:aheadC (1 - n 78) m.t=m.t - upV (n 78):=by unfold aheadC upV;rcases ht with e | e <;> rw [e] <;> simp
       have hf:=ahead_file (1 - n 78) m.t
       refine ⟨hb.1,hb.2.1,?_,?_,by rw [ha];exact hpc.2.2.2,hk.1⟩
       · rw [ha];unfold upV;split <;> omega
       · intro e2;rw [e2] at hf;exact hk.2 hf
     · exact absurd (by rw [g1,ahead_file]) hk.2
     · exact absurd (by rw [g1,ahead_file,ahead_file]) hk.2
   · rw [if_neg hk];exact .inl rfl
def oneN (b:Bool):Nat:=if b=true then 1 else 0
theorem cB_up (p:Int→Bool) (n:Nat→Int) (s:Nat) (hs:s<64) (x:Int):cB p (upd n (1+s) x)+oneN (p (n (1+s)))=cB p n+oneN (p x):=cB_upd p n s hs x
theorem menC0_at {n:Nat→Int} {tk:Int} (hk:tk<64) (s:Nat):menC0 n tk (1+s)=if 0≤tk∧s=tk.toNat then 0 else n (1+s):=by
 unfold menC0
 by_cases h:0≤tk
 · rw [if_pos h]
   by_cases e:s=tk.toNat
   · rw [if_pos ⟨h,e⟩,e,upd_at]
   · rw [if_neg (fun h2=>e h2.2),upd_ne _ (by omega)]
 · rw [if_neg h,if_neg (fun h2=>h h2.1)]
theorem Cap.tk_bd {n:Nat→Int} {m:Mv} {tk:Int} (h:Cap n m tk):-1≤tk∧tk<64∧tk≠m.f:=by
 have h1:=h.t0;have h2:=h.t1;have h3:=h.ne
 rcases h.tgt with ⟨e,_⟩ | ⟨_,e | ⟨a,b,_,c,_⟩⟩
 · omega
 · have:=h.f0;omega
 · omega
/-- The board behind a move on it. -/
theorem menC_at {n:Nat→Int} {m:Mv} {tk:Int} (h:Cap n m tk) (s:Nat):menC n m tk (1+s)=if s=m.t.toNat then (if m.p≠0 then 8*n 78+m.p else n (1+m.f.toNat)) else if s=m.f.toNat∨(0≤tk∧s=tk.toNat) then 0 else n (1+s):=by
 have hb:=h.tk_bd
 unfold menC
 by_cases e:s=m.t.toNat
 · rw [if_pos e, e]
   split
   · rw [upd_at]
   · rw [upd_at]
 · rw [if_neg e]
   have e2:(if m.p≠0 then upd (upd (upd (menC0 n tk) (1+m.f.toNat) 0) (1+m.t.toNat) (n (1+m.f.toNat))) (1+m.t.toNat) (8*n 78+m.p) else upd (upd (menC0 n tk) (1+m.f.toNat) 0) (1+m.t.toNat) (n (1+m.f.toNat))) (1+s)=upd (menC0 n tk) (1+m.f.toNat) 0 (1+s):=by
    split
    · rw [upd_ne _ (by omega),upd_ne _ (by omega)]
    · rw [upd_ne _ (by omega)]
   rw [e2]
   by_cases e3:s=m.f.toNat
   · rw [if_pos (.inl e3),e3,upd_at]
   · rw [upd_ne _ (by omega), menC0_at hb.2.1]
     by_cases e4:0≤tk∧s=tk.toNat
     · rw [if_pos e4,if_pos (.inr e4)]
     · rw [if_neg e4,if_neg (fun h=>h.elim e3 e4)]
theorem menC_cnt {n:Nat→Int} {m:Mv} {tk:Int} (h:Cap n m tk) (p:Int→Bool) (p0:p 0=false) :
 cB p (menC n m tk)+(if 0≤tk then oneN (p (n (1+tk.toNat))) else 0)+(if m.p≠0 then oneN (p (n (1+m.f.toNat))) else 0)=cB p n+(if m.p≠0 then oneN (p (8*n 78+m.p)) else 0):=by
 have hb:=h.tk_bd
 have hf0:=h.f0;have hf1:=h.f1;have ht0:=h.t0;have ht1:=h.t1;have hne:=h.ne
 have o0:oneN (p 0)=0:=by rw [p0];rfl
 have h0:cB p (menC0 n tk)+(if 0≤tk then oneN (p (n (1+tk.toNat))) else 0)=cB p n:=by
  unfold menC0
  by_cases hk:0≤tk
  · rw [if_pos hk, if_pos hk]
    have:=cB_up p n tk.toNat (by omega) 0
    omega
  · rw [if_neg hk,if_neg hk];rfl
 have hx:menC0 n tk (1+m.f.toNat)=n (1+m.f.toNat):=by rw [menC0_at hb.2.1,if_neg (by omega)]
 have h1:=cB_up p (menC0 n tk) m.f.toNat (by omega) 0
 rw [hx] at h1
 have hz:upd (menC0 n tk) (1+m.f.toNat) 0 (1+m.t.toNat)=0:=by
  rw [upd_ne _ (by omega),menC0_at hb.2.1]
  rcases h.tgt with ⟨e,_⟩ | ⟨e,_⟩
  · rw [if_pos ⟨by omega,by rw [e]⟩]
  · rw [e];split <;> rfl
 have h2:=cB_up p (upd (menC0 n tk) (1+m.f.toNat) 0) m.t.toNat (by omega) (n (1+m.f.toNat))
 rw [hz] at h2
 unfold menC
 by_cases hp:m.p=0
 · have hp' : ¬ (m.p ≠ 0) := fun h => h hp
   rw [if_neg hp',if_neg hp',if_neg hp']
   omega
 · rw [if_pos hp, if_pos hp, if_pos hp]
   have h3:=cB_up p (upd (upd (menC0 n tk) (1+m.f.toNat) 0) (1+m.t.toNat) (n (1+m.f.toNat))) m.t.toNat (by omega) (8*n 78+m.p)
   rw [upd_at] at h3
   omega
/-- What castling is like. -/
structure Cas (n:Nat→Int) (m:Mv) (kg rg:Nat):Prop where
 f0:0≤m.f
 f1:m.f<64
 t0:0≤m.t
 t1:m.t<64
 ne:m.f≠m.t
 k1:kg<64
 r1:rg<64
 kr:kg≠rg
 king:n (1+m.f.toNat)=8*n 78+6
 rook:n (1+m.t.toNat)=8*n 78+4
 kz:offN n m.f m.t (1+kg)=0
 rz:offN n m.f m.t (1+rg)=0
 is:menA n m=upd (upd (offN n m.f m.t) (1+kg) (n (1+m.f.toNat))) (1+rg) (n (1+m.t.toNat))
theorem off_val {n:Nat→Int} {m:Mv} {kg rg:Nat} (h:Cas n m kg rg) (s:Nat):offN n m.f m.t (1+s)=if s=m.f.toNat∨s=m.t.toNat then 0 else n (1+s):=by
 unfold offN
 by_cases e:s=m.t.toNat
 · rw [if_pos (.inr e),e,upd_at]
 · rw [upd_ne _ (by omega)]
   by_cases e2:s=m.f.toNat
   · rw [if_pos (.inl e2),e2,upd_at]
   · rw [upd_ne _ (by omega),if_neg (fun h=>h.elim e2 e)]
theorem menA_at {n:Nat→Int} {m:Mv} {kg rg:Nat} (h:Cas n m kg rg) (s:Nat):menA n m (1+s)=if s=rg then 8*n 78+4 else if s=kg then 8*n 78+6 else if s=m.f.toNat∨s=m.t.toNat then 0 else n (1+s):=by
 rw [h.is,h.king,h.rook]
 by_cases e:s=rg
 · rw [if_pos e,e,upd_at]
 · rw [if_neg e, upd_ne _ (by omega)]
   by_cases e2:s=kg
   · rw [if_pos e2,e2,upd_at]
   · rw [if_neg e2,upd_ne _ (by omega),off_val h]
theorem menA_cnt {n:Nat→Int} {m:Mv} {kg rg:Nat} (h:Cas n m kg rg) (p:Int→Bool) (p0:p 0=false):cB p (menA n m)=cB p n:=by
 have hf0:=h.f0;have hf1:=h.f1;have ht0:=h.t0;have ht1:=h.t1;have hne:=h.ne;have hk1:=h.k1;have hr1:=h.r1;have hkr:=h.kr
 have o0:oneN (p 0)=0:=by rw [p0];rfl
 have h1:=cB_up p n m.f.toNat (by omega) 0
 have h2:=cB_up p (upd n (1+m.f.toNat) 0) m.t.toNat (by omega) 0
 rw [upd_ne _ (by omega:1+m.t.toNat≠1+m.f.toNat)] at h2
 have h3:=cB_up p (offN n m.f m.t) kg hk1 (n (1+m.f.toNat))
 rw [h.kz] at h3
 have h4:=cB_up p (upd (offN n m.f m.t) (1+kg) (n (1+m.f.toNat))) rg hr1 (n (1+m.t.toNat))
 rw [upd_ne _ (by omega:1+rg≠1+kg),h.rz] at h4
 rw [h.is]
 have h5:cB p (offN n m.f m.t)=cB p (upd (upd n (1+m.f.toNat) 0) (1+m.t.toNat) 0):=rfl
 omega
theorem cas_of {n:Nat→Int} (hn:PosOk n) (hp:vPlain n=true) {side:Nat} (hs:side=0∨side=1) (h:castB n side=true):Cas n (castM n side) (homeC (n 78)+kGoal side).toNat (homeC (n 78)+rGoal side).toNat∧sideM (castM n side)=side:=by
 have ht:=(plain_facts hn hp).2.1
 obtain ⟨ho,hk,hlt⟩:=cast_ok ht hs h
 have hsd:sideM (castM n side)=side:=by
  unfold sideM
  have e:(castM n side).f<(castM n side).t↔side=0:=hlt
  rcases hs with rfl | rfl
  · rw [if_pos (e.2 rfl)]
  · rw [if_neg (fun h=>by have:=e.1 h;omega)]
 have hg:=goal_ix ht side
 have hf0:=ho.f0;have hf1:=ho.f1;have ht0:=ho.t0;have ht1:=ho.t1
 have h01:0≤n 78∧n 78≤1:=by omega
 unfold castB kingOk rookOk at h
 simp only [Bool.and_eq_true,Bool.not_eq_true',decide_eq_true_iff,beq_iff_eq,beq_eq_false_iff_ne,and_assoc] at h
 obtain ⟨h1,h2,h3,h4,h5,h6,h7,h8,h9,hw⟩:=h
 have hkq:kSq n<64:=by have:=hf1;show (castM n side).f<64;omega
 have hkb:hasB (ofN n (n 78) 6) (kSq n)=true:=by
  unfold kSq at h3 ⊢
  rcases first_cases (ofN n (n 78) 6) with ⟨_,e⟩ | ⟨i,hi,hb,_,e⟩
  · omega
  · rw [e,hasB_nat _ i (by omega)];exact hb
 rw [has_of n _ _ _ h3 hkq,Bool.and_eq_true] at hkb
 have hkv:n (1+(kSq n).toNat)=8*n 78+6:=by
  have hc:=hkb.2
  unfold ofP at hc
  simp only [Bool.and_eq_true,Bool.or_eq_true,beq_iff_eq] at hc
  have h6' : kndI (n (1+(kSq n).toNat))=6:=hk
  rcases isB_cases hkb.1 with ⟨_,_,c,k,_⟩ | ⟨_,_,c,k,_⟩ <;> omega
 have wz:∀ s:Int,0≤s→s<64→emptyB (offN n (kSq n) (rSq n side)) s=true→offN n (kSq n) (rSq n side) (1+s.toNat)=0:=by
  intro s s0 s1 he
  unfold emptyB at he
  rw [Bool.not_eq_true',has_all _ _ s0 s1] at he
  unfold offN at he ⊢
  by_cases e:s.toNat=(rSq n side).toNat
  · rw [e,upd_at]
  · rw [upd_ne _ (by omega)] at he ⊢
    by_cases e2:s.toNat=(kSq n).toNat
    · rw [e2,upd_at]
    · rw [upd_ne _ (by omega)] at he ⊢
      exact man_none hp (by omega) he
 unfold wayOk at hw
 rw [Bool.and_eq_true,Bool.and_eq_true] at hw
 have hin:∀ a b:Int,b∈fromTo a b:=by
  intro a b
  unfold fromTo loI hiI
  by_cases hab:a≤b
  · rw [if_pos hab, if_pos hab]
    exact List.mem_map.2 ⟨(b - a).toNat,List.mem_range.2 (by omega),by omega⟩
  · rw [if_neg hab, if_neg hab]
    exact List.mem_map.2 ⟨0,List.mem_range.2 (by omega),by omega⟩
 have hkr:(homeC (n 78)+kGoal side).toNat≠(homeC (n 78)+rGoal side).toNat:=by
  have:kGoal side≠rGoal side:=by rcases hs with rfl | rfl <;> decide
  omega
 refine ⟨⟨by show 0≤(castM n side).f;omega,by show (castM n side).f<64;omega,by show 0≤(castM n side).t;omega,by show (castM n side).t<64;omega,ho.ne,by omega,by omega,hkr,hkv,h7,?_,?_,?_⟩,hsd⟩
 · exact wz _ hg.1.1 hg.1.2 (List.all_eq_true.1 hw.1.1 _ (hin _ _))
 · exact wz _ hg.2.1 hg.2.2 (List.all_eq_true.1 hw.1.2 _ (hin _ _))
 · unfold menA offN
   rw [hsd]
theorem isP_of {n:Nat→Int} {m:Mv} (h:IsPm n m):isP n m=true:=by
 unfold isP
 rw [h.c,h.d,h.may,h.p,decide_eq_true ⟨h.f0,h.f1⟩,decide_eq_true ⟨h.t0,h.t1⟩];rfl
theorem has_nots (b:BitVec 64) (s:Nat) (hs:s<64):hasB (~~~b) (s:Int)=!hasB b (s:Int):=by
 rw [hasB_nat _ s hs,hasB_nat _ s hs,BitVec.getLsbD_not];simp [hs]
/-- A drop. -/
structure Drp (n:Nat→Int) (m:Mv) (s k:Nat):Prop where
 v:n 0=2
 s1:s<64
 k1:1≤k
 k5:k≤5
 f:m.f=s
 t:m.t=s
 d:m.d=k
 c:m.c=false
 z:n (1+s)=0
 mid:k=1→8≤s∧s<56
 has:n (66+6*(n 78).toNat+k)≠0
 is:∀ tk,menN n m tk=upd (upd n (66+6*(n 78).toNat+k) (n (66+6*(n 78).toNat+k) - 1)) (1+s) (8*n 78+k)
theorem mid_sq {s:Nat} (hs:s<64) (h:hasB midB (s:Int)=true):8≤s∧s<56:=by
 rw [hasB_nat _ s hs,mid_bit ⟨s,hs⟩] at h
 simp at h;omega
theorem move_ways {n:Nat→Int} (hn:PosOk n) (hp:vPlain n=true) (hpa:vPassing n=true) {m:Mv} (h:m∈allL n) :
 (isP n m=true∧Cap n m (takenP n m)∧(∀ tk,menN n m tk=menC n m tk)) ∨
 (∃ kg rg,Cas n m kg rg∧m.c=true∧m.d=0∧m.p=0∧takenP n m=-1∧kndI (n (1+m.f.toNat))=6∧(∀ tk,menN n m tk=menA n m)∧(rg:Int)=homeC (n 78)+rGoal (sideM m)) ∨
 (∃ s k,Drp n m s k∧takenP n m=-1):=by
 have hf:=plain_facts hn hp
 rcases all_cases hf.2.1 hf.1 h with h | ⟨side,hs,hc,rfl⟩ | ⟨hv,j,s,hj,hs,hz,hw,rfl⟩
 · have hi := isP_of h
   refine .inl ⟨hi,cap_of hn hp hpa hi,fun tk=>?_⟩
   unfold menN
   rw [h.c,h.d,if_neg (by decide),if_neg (by decide)]
 · obtain ⟨h1, h2⟩ := cas_of hn hp hs hc
   have hg:=goal_ix hf.2.1 side
   exact .inr (.inl ⟨_,_,h1,rfl,rfl,rfl,taken_not (.inl rfl),(cast_ok hf.2.1 hs hc).2.1,fun tk=>if_pos rfl,by rw [h2];omega⟩)
 · right; right
   have hwa:hasB (allN n) (s:Int)=false∧(j=0→hasB midB (s:Int)=true):=by
    unfold whB at hw
    by_cases h0:j+1=1
    · rw [if_pos h0, has_and, has_nots _ s hs, Bool.and_eq_true, Bool.not_eq_true'] at hw
      exact ⟨hw.1,fun _=>hw.2⟩
    · rw [if_neg h0, has_nots _ s hs, Bool.not_eq_true'] at hw
      exact ⟨hw,fun e=>absurd (by omega) h0⟩
   have hz0:n (1+s)=0:=by
    have:=hwa.1
    rw [has_all _ _ (by omega) (by omega)] at this
    exact man_none hp hs this
   refine ⟨s,j+1,⟨hv,hs,by omega,by omega,rfl,rfl,rfl,rfl,hz0,fun e=>mid_sq hs (hwa.2 (by omega)),?_,?_⟩,taken_not (.inr (by show (j:Int)+1≠0;omega))⟩
   · rwa [show 66+6*(n 78).toNat+(j+1)=67+6*(n 78).toNat+j by omega]
   · intro tk
     have e1:menN n (dmv s ((j:Int)+1)) tk=menB n (dmv s ((j:Int)+1)):=by
      unfold menN
      rw [if_neg (by show ¬(false=true);decide),if_pos (by show (j:Int)+1≠0;omega)]
     rw [e1]
     unfold menB takN
     have e2:(dmv s ((j:Int)+1)).d.toNat=j+1:=by show ((j:Int)+1).toNat=j+1;omega
     have e3:takB n (n 78).toNat (j+1)=true:=by
      unfold takB
      rw [(fits_iff (n 78).toNat (j+1)).2 ⟨by omega,by omega,by omega⟩,show poIx (n 78).toNat (j+1)=67+6*(n 78).toNat+j by unfold poIx;omega,beq_eq_false_iff_ne.2 hz];rfl
     rw [e2,if_pos e3,show poIx (n 78).toNat (j+1)=66+6*(n 78).toNat+(j+1) by unfold poIx;omega]
     show upd _ (1+((s:Int)).toNat) (8*n 78+((j:Int)+1))=_
     rw [Int.toNat_natCast];rfl
/-- Cell by cell. -/
theorem turn_at {n q:Nat→Int} (ht:n 78=0∨n 78=1) (i:Nat) (h:i≠78) (h2:i<84∨86≤i):turnN n q i=q i:=by
 unfold turnN
 split
 · rw [upd_ne _ (by omega),upd_ne _ h]
 · rw [upd_ne _ h]
theorem clk_at {n q:Nat→Int} {m:Mv} {tk:Int} (i:Nat) (h:i<86):clkN n q m tk i=q i:=by
 unfold clkN
 rw [upd_ne _ (by omega),upd_ne _ (by omega)]
theorem movT_low {n:Nat→Int} (ht:n 78=0∨n 78=1) {m:Mv} {tk:Int} (i:Nat) (h:i<78):movT n m tk i=mov3 n m tk i:=by
 unfold movT mov5
 rw [turn_at ht i (by omega) (.inl (by omega)),clk_at i (by omega),upd_ne _ (by omega),rig_side ht i (.inl (by omega))]
theorem movT_rig {n:Nat→Int} (ht:n 78=0∨n 78=1) {m:Mv} {tk:Int} (i:Nat) (h:79≤i) (h2:i<83):movT n m tk i=rigN n (mov3 n m tk) m tk i:=by
 unfold movT mov5
 rw [turn_at ht i (by omega) (.inl (by omega)),clk_at i (by omega),upd_ne _ (by omega)]
theorem movT_83 {n:Nat→Int} (ht:n 78=0∨n 78=1) {m:Mv} {tk:Int}:movT n m tk 83=passI n (rigN n (mov3 n m tk) m tk) m:=by
 unfold movT mov5
 rw [turn_at ht 83 (by decide) (.inl (by decide)),clk_at 83 (by decide),upd_at]
theorem movT_clk {n:Nat→Int} (ht:n 78=0∨n 78=1) {m:Mv} {tk:Int}:movT n m tk 86=halfI n m tk∧movT n m tk 87=fullI n:=by
 unfold movT
 rw [turn_at ht 86 (by decide) (.inr (by decide)),turn_at ht 87 (by decide) (.inr (by decide))]
 unfold clkN
 rw [upd_at,upd_ne _ (by decide),upd_at]
 exact ⟨rfl,rfl⟩
theorem movT_chk {n:Nat→Int} (ht:n 78=0∨n 78=1) {m:Mv} {tk:Int} (hm:MvOk n m tk) (c:Nat) (hc:c<2):movT n m tk (84+c)=n (84+c)∨(n 0=5∧n (84+c)<3∧movT n m tk (84+c)=n (84+c)+1):=by
 have e:∀ i,84≤i→i<86→clkN n (mov5 n m tk) m tk i=n i:=fun i h1 h2=>by rw [clk_at i (by omega),mov5_far ht hm (.inr (.inr h1))]
 unfold movT turnN
 split
 · rename_i h
   rw [e _ (by omega) (by omega)] at h ⊢
   by_cases hcc:c=(n 78).toNat
   · right
     rw [hcc,upd_at]
     exact ⟨h.1,h.2.1,rfl⟩
   · left
     rw [upd_ne _ (by omega),upd_ne _ (by omega),e _ (by omega) (by omega)]
 · left
   rw [upd_ne _ (by omega),e _ (by omega) (by omega)]
theorem addN_at (q:Nat→Int) (c k i:Nat) (hc:c≤1) (hi:i≤66∨i=72∨78≤i):addN q c k i=q i:=by
 unfold addN
 split
 · rename_i h
   unfold addB at h
   rw [Bool.and_eq_true,fits_iff] at h
   have:=h.1
   rw [upd_ne _ (by unfold poIx;omega)]
 · rfl
theorem poc_low (n q:Nat→Int) (m:Mv) (tk:Int) (ht:n 78=0∨n 78=1) (i:Nat) (hi:i<65∨i=66∨i=72∨78≤i):pocN n q m tk i=q i:=by
 unfold pocN
 split
 · rfl
 · split
   · unfold pocC
     split
     · rw [upd_ne _ (by omega)]
     · rfl
   · rw [upd_ne _ (by omega)]
     unfold pocT
     split
     · exact addN_at q _ _ i (by omega) (by omega)
     · rfl
theorem mov3_low (n:Nat→Int) (m:Mv) (tk:Int) (ht:n 78=0∨n 78=1) (s:Nat) (hs:s<64):mov3 n m tk (1+s)=if n 0=3∧0≤tk∧hasB (blownB (pocN n (menN n m tk) m tk) m.t) (s:Int)=true then 0 else menN n m tk (1+s):=by
 unfold mov3 blowN
 by_cases h:n 0=3∧0≤tk
 · rw [if_pos h]
   unfold wipeN
   rw [show ((1+s:Nat):Int) - 1=s by omega]
   by_cases hb:hasB (blownB (pocN n (menN n m tk) m tk) m.t) (s:Int)=true
   · rw [if_pos ⟨by omega,by omega,hb⟩,if_pos ⟨h.1,h.2,hb⟩]
   · rw [if_neg (fun h=>hb h.2.2),if_neg (fun h=>hb h.2.2),poc_low n _ m tk ht _ (.inl (by omega))]
 · rw [if_neg h,if_neg (fun h2=>h ⟨h2.1,h2.2.1⟩),poc_low n _ m tk ht _ (.inl (by omega))]
theorem mov3_same (n:Nat→Int) (m:Mv) (tk:Int) (ht:n 78=0∨n 78=1) (h:n 0≠3∨tk<0) (s:Nat) (hs:s<64):mov3 n m tk (1+s)=menN n m tk (1+s):=by
 rw [mov3_low n m tk ht s hs,if_neg (fun h2=>by have:=h2.1;have:=h2.2.1;omega)]
/-- What is asked of a position, one by one. -/
structure Val (n:Nat→Int):Prop where
 ok:PosOk n
 plain:vPlain n=true
 clocks:vClocks n=true
 kings:vKings n=true
 pawns:vPawns n=true
 pockets:vPockets n=true
 rooks:vRooks n=true
 passing:vPassing n=true
 check:vCheck n=true
theorem val_E {n:Nat→Int} (h:Val n):validE n=0:=by
 unfold validE errL
 rw [if_pos h.plain]
 have e:∀ k,k<8→okQ n k=true:=fun k hk=>by
  unfold okQ
  rcases (show k=0∨k=1∨k=2∨k=3∨k=4∨k=5∨k=6∨k=7 by omega) with rfl | rfl | rfl | rfl | rfl | rfl | rfl | rfl
  · exact h.plain
  · exact h.clocks
  · exact h.kings
  · exact h.pawns
  · exact h.pockets
  · exact h.rooks
  · exact h.passing
  · exact h.check
 have e2:∀ k,k≤8→errK n k=[]:=by
  intro k
  induction k with
  | zero=>intro _;rfl
  | succ k ih =>
    intro hk
    show (if okQ n k=true then errK n k else errK n k ++ [eQ k])=[]
    rw [if_pos (e k (by omega)),ih (by omega)]
 rw [e2 8 (Nat.le_refl 8)];rfl
theorem errK_mem {n:Nat→Int} {j:Nat} (hj:okQ n j=false):∀ k,j<k→errK n k≠[]
 | 0,h=>absurd h (Nat.not_lt_zero _)
 | k + 1, h => by
   show (if okQ n k=true then errK n k else errK n k ++ [eQ k])≠[]
   by_cases e:j=k
   · subst e
     rw [if_neg (by rw [hj];decide)]
     simp
   · have := errK_mem hj k (by omega)
     split
     · exact this
     · simp
theorem E_val {n:Nat→Int} (hn:PosOk n) (h:validE n=0):Val n:=by
 have hp:=valid_ok h
 have e:∀ k,k<8→okQ n k=true:=fun k hk=>by
  cases hq:okQ n k with
  | true=>rfl
  | false =>
    have h2:=errK_mem hq 8 hk
    have h3:=errK_two hp 8 (Nat.le_refl 8)
    unfold validE errL at h
    rw [if_pos hp] at h
    have hz:∀ k,k≤8→∀ e∈errK n k,e≠0:=by
     intro k
     induction k with
     | zero=>intro _ e he;cases he
     | succ k ih =>
       intro hk e he
       change e∈(if okQ n k=true then errK n k else errK n k ++ [eQ k]) at he
       split at he
       · exact ih (by omega) e he
       · rw [List.mem_append, List.mem_singleton] at he
         rcases he with he | rfl
         · exact ih (by omega) e he
         · unfold eQ
           repeat (first | decide | split)
    cases hl:errK n 8 with
    | nil=>exact absurd hl h2
    | cons a l =>
      rw [hl] at h
      exact absurd h (hz 8 (Nat.le_refl 8) a (by rw [hl];exact List.mem_cons_self))
 exact ⟨hn,hp,e 1 (by decide),e 2 (by decide),e 3 (by decide),e 4 (by decide),e 5 (by decide),e 6 (by decide),e 7 (by decide)⟩
theorem piece_is {x c k:Int} (hc:c=0∨c=1) (k1:1≤k) (k6:k≤6):(isB x&&ofP c k x)=(x==8*c+k):=by
 unfold ofP
 cases hi:isB x with
 | false =>
   have:=knd_none hi
   symm
   rw [Bool.false_and,beq_eq_false_iff_ne]
   intro e
   unfold isB at hi
   rw [decide_eq_false_iff_not] at hi
   omega
 | true =>
   rw [Bool.true_and,show (k==0)=false from beq_eq_false_iff_ne.2 (by omega),Bool.false_or,Bool.eq_iff_iff,Bool.and_eq_true,beq_iff_eq,beq_iff_eq,beq_iff_eq]
   rcases isB_cases hi with ⟨_,_,a,b,_⟩ | ⟨_,_,a,b,_⟩ <;> omega
theorem makeI_is {c k:Int} (hc:c=0∨c=1) (k1:1≤k) (k6:k≤6):makeI c k=8*c+k:=if_pos ⟨by omega,k1,k6⟩
theorem of_at (n:Nat→Int) {c k:Int} (hc:c=0∨c=1) (k1:1≤k) (k6:k≤6) (s:Nat) (hs:s<64):hasB (ofN n c k) (s:Int)=(n (1+s)==8*c+k):=by
 rw [has_of n c k s (by omega) (by omega),Int.toNat_natCast,piece_is hc k1 k6]
theorem cnt_is (n:Nat→Int) {c k:Int} (hc:c=0∨c=1) (k1:1≤k) (k6:k≤6):vCount n c k=cB (fun x=>x==8*c+k) n:=by
 unfold vCount cB
 rw [makeI_is hc k1 k6]
theorem isB_or {x:Int} (h:isB x=true):(colI x=0∧x=8*0+kndI x)∨(colI x=1∧x=8*1+kndI x):=by
 rcases isB_cases h with ⟨_,_,a,b,_⟩ | ⟨_,_,a,b,_⟩
 · exact .inl ⟨a,by omega⟩
 · exact .inr ⟨a,by omega⟩
theorem isB_val {x:Int} (h:isB x=true):x=8*colI x+kndI x:=by
 rcases isB_or h with ⟨a,b⟩ | ⟨a,b⟩ <;> rw [a] <;> exact b
theorem isB_mk {c k:Int} (hc:c=0∨c=1) (k1:1≤k) (k6:k≤6):isB (8*c+k)=true∧kndI (8*c+k)=k∧colI (8*c+k)=c:=by
 unfold isB kndI colI
 rw [decide_eq_true_iff]
 rcases hc with rfl | rfl
 · refine ⟨.inl (by omega),?_,?_⟩ <;> rw [if_pos (by omega)];omega
 · refine ⟨.inr (by omega),?_,?_⟩ <;> rw [if_neg (by omega),if_pos (by omega)];omega
/-- The king's square. -/
theorem king_first {n:Nat→Int} {c:Int} (hc:c=0∨c=1) (h:vCount n c 6=1) {s:Nat} (hs:s<64) (hk:n (1+s)=8*c+6):firstB (ofN n c 6)=s:=by
 have hk2:hasB (ofN n c 6) (s:Int)=true:=by rw [of_at n hc (by decide) (by decide) s hs,hk];exact beq_self_eq_true _
 rcases first_cases (ofN n c 6) with ⟨e,_⟩ | ⟨i,hi,hb,_,e⟩
 · rw [e,hasB_nat _ s hs] at hk2;simp at hk2
 · rw [e]
   rw [← hasB_nat _ i hi,of_at n hc (by decide) (by decide) i hi] at hb
   rw [cnt_is n hc (by decide) (by decide)] at h
   have:=cB_one h hi hs hb (by rw [hk];exact beq_self_eq_true _)
   rw [this]
theorem hasK_cnt (n:Nat→Int) {c:Int} (hc:c=0∨c=1):hasK n c=!(vCount n c 6==0):=by
 unfold hasK
 rw [cnt_is n hc (by decide) (by decide)]
 rcases first_cases (ofN n c 6) with ⟨e,e2⟩ | ⟨i,hi,hb,_,e⟩
 · have : cB (fun x => x == 8 * c + 6) n = 0 := cB_zero.2 fun s hs => by
    rw [← of_at n hc (by decide) (by decide) s hs,e,hasB_nat _ s hs];simp
   rw [e2,this];rfl
 · rw [← hasB_nat _ i hi, of_at n hc (by decide) (by decide) i hi] at hb
   rw [e,decide_eq_true (by omega)]
   symm
   rw [Bool.not_eq_true',beq_eq_false_iff_ne]
   intro h0
   have:=cB_zero.1 h0 i hi
   rw [hb] at this;cases this
theorem list_well {n:Nat→Int} {m:Mv} (h:m∈listL n):m∈allL n∧wellB n m=true∧(royC n (n 78)=true→hasK n (n 78)=true):=by
 unfold listL at h
 split at h
 · unfold wouldL at h
   split at h
   · cases h
   · rename_i h2
     have h3:m∈would0 n:=by
      split at h
      · exact (List.mem_filter.1 h).1
      · exact h
     have h4:=List.mem_filter.1 h3
     refine ⟨h4.1,h4.2,fun hr=>?_⟩
     cases hk:hasK n (n 78) with
     | true=>rfl
     | false=>exact absurd (.inr ⟨hr,hk⟩) h2
 · cases h
def bval (x:Int):Prop:=x=0∨isB x=true
theorem val_man {n:Nat→Int} (hp:vPlain n=true) (s:Nat) (hs:s<64):bval (n (1+s)):=by
 cases hi:isB (n (1+s)) with
 | true=>exact .inr hi
 | false=>exact .inl (man_none hp hs hi)
theorem mul8 (c k:Int) (h:c=0∨c=1) (k1:1≤k) (k6:k≤6):bval (8*c+k):=.inr (isB_mk h k1 k6).1
theorem men_val {n:Nat→Int} (h:Val n) {m:Mv} (hm:m∈allL n) (s:Nat) (hs:s<64):bval (menN n m (takenP n m) (1+s)):=by
 have hf:=plain_facts h.ok h.plain
 rcases move_ways h.ok h.plain h.passing hm with ⟨hi,hc,he⟩ | ⟨kg,rg,hc,_,_,_,_,_,he,_⟩ | ⟨s0,k,hd,_⟩
 · rw [he, menC_at hc]
   split
   · split
     · have := (isP_parts hi).p_bd
       exact mul8 _ _ hf.2.1 (by omega) (by omega)
     · exact .inr hc.own.1
   · split
     · exact .inl rfl
     · exact val_man h.plain s hs
 · rw [he, menA_at hc]
   split
   · exact mul8 _ _ hf.2.1 (by decide) (by decide)
   · split
     · exact mul8 _ _ hf.2.1 (by decide) (by decide)
     · split
       · exact .inl rfl
       · exact val_man h.plain s hs
 · rw [hd.is]
   have h1:=hd.k1;have h5:=hd.k5
   by_cases e:s=s0
   · rw [e,upd_at];exact mul8 _ _ hf.2.1 (by omega) (by omega)
   · rw [upd_ne _ (by omega),upd_ne _ (by omega)];exact val_man h.plain s hs
theorem made_val {n:Nat→Int} (h:Val n) {m:Mv} (hm:m∈allL n) (s:Nat) (hs:s<64):bval (madeN n m (1+s)):=by
 have hf:=plain_facts h.ok h.plain
 unfold madeN
 rw [movT_low hf.2.1 _ (by omega),mov3_low n m _ hf.2.1 s hs]
 split
 · exact .inl rfl
 · exact men_val h hm s hs
theorem vHead_iff (n:Nat→Int):vHead n=true↔n 0<9∧n 78≤1∧-1≤n 83∧n 83<64:=by
 unfold vHead
 rw [Bool.not_eq_true',Bool.or_eq_false_iff,Bool.or_eq_false_iff,Bool.or_eq_false_iff,decide_eq_false_iff_not,decide_eq_false_iff_not,decide_eq_false_iff_not,decide_eq_false_iff_not]
 omega
theorem vFile_iff (n:Nat→Int) (c s:Nat):vFile n c s=true↔-1≤n (79+c*2+s)∧n (79+c*2+s)≤7:=by
 unfold vFile
 rw [Bool.not_eq_true',Bool.or_eq_false_iff,decide_eq_false_iff_not,decide_eq_false_iff_not]
 omega
theorem vChk_iff (n:Nat→Int) (c:Nat):vChk n c=true↔n (84+c)≤3∧(0<n (84+c)→n 0=5):=by
 unfold vChk
 rw [Bool.not_eq_true',Bool.or_eq_false_iff,Bool.and_eq_false_iff,decide_eq_false_iff_not,decide_eq_false_iff_not,Bool.not_eq_false',beq_iff_eq]
 constructor
 · rintro ⟨a,b⟩;exact ⟨by omega,fun h=>b.resolve_left (fun h2=>h2 h)⟩
 · rintro ⟨a, b⟩
   refine ⟨by omega,?_⟩
   by_cases h:0<n (84+c)
   · exact .inr (b h)
   · exact .inl h
theorem rig1_or (q:Nat→Int) (m:Mv) (tk:Int) (c side i:Nat):rig1 q m tk c side i=q i∨rig1 q m tk c side i=-1:=by
 unfold rig1
 split
 · by_cases e : i = 79 + 2 * c + side
   · rw [e,upd_at];exact .inr rfl
   · rw [upd_ne _ e];exact .inl rfl
 · exact .inl rfl
theorem rig0_or (n q:Nat→Int) (m:Mv) (i:Nat):rig0 n q m i=q i∨rig0 n q m i=-1:=by
 unfold rig0
 split
 · by_cases e : i = 80 + 2 * (n 78).toNat
   · rw [e,upd_at];exact .inr rfl
   · rw [upd_ne _ e]
     by_cases e2:i=79+2*(n 78).toNat
     · rw [e2,upd_at];exact .inr rfl
     · rw [upd_ne _ e2];exact .inl rfl
 · exact .inl rfl
theorem rig_or (n q:Nat→Int) (m:Mv) (tk:Int) (i:Nat):rigN n q m tk i=q i∨rigN n q m tk i=-1:=by
 unfold rigN
 have h0:=rig0_or n q m i
 have h1:=rig1_or (rig0 n q m) m tk 0 0 i
 have h2:=rig1_or (rig1 (rig0 n q m) m tk 0 0) m tk 0 1 i
 have h3:=rig1_or (rig1 (rig1 (rig0 n q m) m tk 0 0) m tk 0 1) m tk 1 0 i
 have h4:=rig1_or (rig1 (rig1 (rig1 (rig0 n q m) m tk 0 0) m tk 0 1) m tk 1 0) m tk 1 1 i
 rcases h4 with h4 | h4
 · rw [h4]
   rcases h3 with h3 | h3
   · rw [h3]
     rcases h2 with h2 | h2
     · rw [h2]
       rcases h1 with h1 | h1
       · rw [h1];exact h0
       · exact .inr h1
     · exact .inr h2
   · exact .inr h3
 · exact .inr h4
theorem made_rig {n:Nat→Int} (h:Val n) {m:Mv} (hm:m∈allL n) (i:Nat) (h1:79≤i) (h2:i<83):madeN n m i=n i∨madeN n m i=-1:=by
 have hf:=plain_facts h.ok h.plain
 have hk:=(all_mvok hf.2.1 hf.1 hm).1
 unfold madeN
 rw [movT_rig hf.2.1 i h1 h2]
 rcases rig_or n (mov3 n m (takenP n m)) m (takenP n m) i with e | e
 · rw [e,mov3_far hf.2.1 hk i (.inr (by omega))];exact .inl rfl
 · exact .inr e
theorem plain_made {n:Nat→Int} (h:Val n) {m:Mv} (hm:m∈allL n):vPlain (madeN n m)=true:=by
 have hf:=plain_facts h.ok h.plain
 have hk:=(all_mvok hf.2.1 hf.1 hm).1
 have h0:=movT_0 (n:=n) hf.2.1 hk
 have hpl:=(vPlain_iff n).1 h.plain
 refine (vPlain_iff _).2 ⟨(vHead_iff _).2 ?_,fun s hs=>?_,fun c hc=>⟨fun s hs=>(vFile_iff _ _ _).2 ?_,(vChk_iff _ _).2 ?_⟩⟩
 · have hb := pass_bd (n := n) (q := rigN n (mov3 n m (takenP n m)) m (takenP n m)) (m := m) hk.f0 hk.f1 hk.t0 hk.t1
   have e83:madeN n m 83=passI n (rigN n (mov3 n m (takenP n m)) m (takenP n m)) m:=movT_83 hf.2.1
   have e0:madeN n m 0=n 0:=h0.1
   have e78:madeN n m 78=1 - n 78:=h0.2
   rw [e83,e0,e78]
   omega
 · have := made_val h hm s hs
   unfold vMan
   rcases this with e | e
   · rw [e];rfl
   · have := knd_pos e
     rw [show (kndI (madeN n m (1+s))==0)=false from beq_eq_false_iff_ne.2 (by omega)];simp
 · have h1 := (vFile_iff n c s).1 ((hpl.2.2 c hc).1 s hs)
   rcases made_rig h hm (79+c*2+s) (by omega) (by omega) with e | e <;> rw [e] <;> omega
 · have h1 := (vChk_iff n c).1 (hpl.2.2 c hc).2
   have e0:madeN n m 0=n 0:=h0.1
   rw [e0]
   rcases movT_chk (n:=n) hf.2.1 hk c hc with e | ⟨a,b,e⟩
   · rw [show madeN n m (84+c)=n (84+c) from e];exact h1
   · rw [show madeN n m (84+c)=n (84+c)+1 from e];exact ⟨by omega,fun _=>a⟩
theorem clocks_made {n:Nat→Int} (h:Val n) {m:Mv} (hm:m∈allL n):vClocks (madeN n m)=true:=by
 have hf:=plain_facts h.ok h.plain
 have hc:=h.clocks
 have e:=movT_clk (n:=n) (m:=m) (tk:=takenP n m) hf.2.1
 unfold vClocks at hc ⊢
 rw [show madeN n m 86=halfI n m (takenP n m) from e.1,show madeN n m 87=fullI n from e.2]
 simp only [Bool.and_eq_true,decide_eq_true_iff] at hc ⊢
 have h1:0≤halfI n m (takenP n m)∧halfI n m (takenP n m)≤10000:=by
  unfold halfI moreI
  split
  · omega
  · split <;> omega
 have h2:1≤fullI n∧fullI n≤10000:=by
  unfold fullI moreI
  split
  · split <;> omega
  · omega
 omega
theorem may_hit {n:Nat→Int} {a b:Int} (h:mayP n a b=true) (hb:isB (n (1+b.toNat))=true):hitI (n (1+a.toNat)) a b (allN n)=true:=by
 obtain ⟨h1,h2,h3⟩:=may_own h
 unfold mayP at h
 rw [if_neg h1,h2,if_neg (by decide),h3,if_neg (by decide)] at h
 split at h
 · unfold rpawnP at h
   split at h
   · rename_i hh;exact hh
   · rw [hb] at h
     split at h
     · cases h
     · simp at h
 · split at h
   · rw [Bool.and_eq_true] at h;exact h.1
   · exact h
theorem by_of {n:Nat→Int} {t:Int} (ht:t=0∨t=1) {a s:Int} (a0:0≤a) (a1:a<64) (s0:0≤s) (s1:s<64) (hi:isB (n (1+a.toNat))=true) (hc:colI (n (1+a.toNat))=t) (hh:hitI (n (1+a.toNat)) a s (allN n)=true):(byN n s t==0#64)=false:=by
 rw [beq_eq_false_iff_ne]
 intro e
 have h:=has_selB (rbyP n s t) a a0 64 (Nat.le_refl 64)
 rw [rby_is n s t ht s0 s1,e,has_zero] at h
 unfold rbyP at h
 rw [hi,hh,← col_div hi,hc,decide_eq_true (by omega),beq_self_eq_true] at h
 cases h
theorem took_king {n:Nat→Int} (h:Val n) (hv:n 0≠3) {m:Mv} (hi:isP n m=true) {tk:Int} (hc:Cap n m tk) (hk:0≤tk) (hr:royC n (1 - n 78)=true) (h1:vCount n (1 - n 78) 6=1) (hz:n (1+tk.toNat)=8*(1 - n 78)+6):False:=by
 have hf:=plain_facts h.ok h.plain
 have h01:1 - n 78=0∨1 - n 78=1:=by omega
 rcases hc.tgt with ⟨rfl,hb,_⟩ | ⟨_,e | ⟨_,_,_,_,e,_⟩⟩
 · have hp := isP_parts hi
   have hhit:=may_hit hp.may hb
   have hby:=by_of hf.2.1 hc.f0 hc.f1 hc.t0 hc.t1 hc.own.1 hc.own.2 hhit
   have hfirst:=king_first h01 h1 (s:=m.t.toNat) (by have:=hc.t0;have:=hc.t1;omega) hz
   have hKI:kingI n (1 - n 78)=m.t:=by
    unfold kingI
    rw [if_pos hr,hfirst,if_neg]
    · have:=hc.t0;omega
    · rintro (e | e)
      · omega
      · unfold nearK at e
        rw [beq_eq_false_iff_ne.2 hv] at e
        cases e
   have hch:=h.check
   unfold vCheck at hch
   rw [beq_eq_false_iff_ne.2 hv] at hch
   simp only [Bool.and_eq_true,Bool.false_and,Bool.false_or] at hch
   have:=hch.2
   unfold checkN at this
   rw [hKI,show 1 - (1 - n 78)=n 78 by omega,hby,decide_eq_true hc.t0] at this
   cases this
 · omega
 · rw [hz, makeI_is h01 (by decide) (by decide)] at e
   omega
theorem oneN_no {x y:Int} (h:x≠y):oneN (x==y)=0:=by unfold oneN;rw [beq_eq_false_iff_ne.2 h];rfl
theorem prom_le {v:Nat} {p:Int} (hv:v≠4) (h:p∈promL v):p≤5:=by
 unfold promL at h
 rw [if_neg hv] at h
 split at h
 · simp at h;omega
 · cases h
theorem drp_cnt {n:Nat→Int} {m:Mv} {s k:Nat} (h:Drp n m s k) (hs:(n 78).toNat≤1) (tk:Int) (p:Int→Bool) (p0:p 0=false):cB p (menN n m tk)=cB p n+oneN (p (8*n 78+k)):=by
 have h1:=h.k1;have h5:=h.k5;have hs1:=h.s1
 rw [h.is]
 have e1:=cB_up p (upd n (66+6*(n 78).toNat+k) (n (66+6*(n 78).toNat+k) - 1)) s hs1 (8*n 78+k)
 rw [upd_ne _ (by omega),h.z,p0] at e1
 have e2:cB p (upd n (66+6*(n 78).toNat+k) (n (66+6*(n 78).toNat+k) - 1))=cB p n:=cB_congr p (fun s hs=>upd_ne _ (by omega) _)
 have e3:oneN false=0:=rfl
 omega
/-- Kings never grow in number. -/
theorem men_kings {n:Nat→Int} (h:Val n) (hv:n 0≠4) {m:Mv} (hm:m∈allL n) {c:Int} (hc:c=0∨c=1):cB (fun x=>x==8*c+6) (menN n m (takenP n m))≤cB (fun x=>x==8*c+6) n:=by
 have hf:=plain_facts h.ok h.plain
 have hn0:=(h.ok.u8 0 (by decide) rfl).1
 have p0:(fun x:Int=>x==8*c+6) 0=false:=beq_eq_false_iff_ne.2 (by omega)
 rcases move_ways h.ok h.plain h.passing hm with ⟨hi,hca,he⟩ | ⟨kg,rg,hca,_,_,_,_,_,he,_⟩ | ⟨s0,k,hd,_⟩
 · rw [he]
   have:=menC_cnt hca (fun x=>x==8*c+6) p0
   have hz:(if m.p≠0 then oneN ((fun x:Int=>x==8*c+6) (8*n 78+m.p)) else 0)=0:=by
    split
    · rename_i hp
      have hpp:=(isP_parts hi).p_bd.resolve_left hp
      have:=prom_le (by omega) hpp.2.2.2.2
      exact oneN_no (by omega)
    · rfl
   dsimp only at this hz
   omega
 · rw [he,menA_cnt hca _ p0];exact Nat.le_refl _
 · rw [drp_cnt hd (by omega) _ _ p0]
   have h5:=hd.k5
   rw [oneN_no (by omega)];exact Nat.le_refl _
theorem made_board {n:Nat→Int} (h:Val n) {m:Mv} (hm:m∈allL n) (s:Nat) (hs:s<64):madeN n m (1+s)=0∨madeN n m (1+s)=menN n m (takenP n m) (1+s):=by
 have hf:=plain_facts h.ok h.plain
 unfold madeN
 rw [movT_low hf.2.1 _ (by omega),mov3_low n m _ hf.2.1 s hs]
 split
 · exact .inl rfl
 · exact .inr rfl
theorem made_same {n:Nat→Int} (h:Val n) {m:Mv} (hv:n 0≠3∨takenP n m<0) (s:Nat) (hs:s<64):madeN n m (1+s)=menN n m (takenP n m) (1+s):=by
 have hf:=plain_facts h.ok h.plain
 unfold madeN
 rw [movT_low hf.2.1 _ (by omega),mov3_same n m _ hf.2.1 hv s hs]
theorem made_kings {n:Nat→Int} (h:Val n) (hv:n 0≠4) {m:Mv} (hm:m∈allL n) {c:Int} (hc:c=0∨c=1):cB (fun x=>x==8*c+6) (madeN n m)≤cB (fun x=>x==8*c+6) n:=by
 refine Nat.le_trans (cB_le fun s hs hp=>?_) (men_kings h hv hm hc)
 rcases made_board h hm s hs with e | e
 · rw [e] at hp
   exact absurd (beq_iff_eq.1 hp) (by omega)
 · rwa [e] at hp
/-- The other's king stays, but for explosions. -/
theorem other_king {n:Nat→Int} (h:Val n) (h4:n 0≠4) (h3:n 0≠3) {m:Mv} (hm:m∈allL n) (hr:royC n (1 - n 78)=true) (h1:vCount n (1 - n 78) 6=1):vCount (madeN n m) (1 - n 78) 6=1:=by
 have hf:=plain_facts h.ok h.plain
 have h01:1 - n 78=0∨1 - n 78=1:=by omega
 have p0:(fun x:Int=>x==8*(1 - n 78)+6) 0=false:=beq_eq_false_iff_ne.2 (by omega)
 have h1' := h1
 rw [cnt_is n h01 (by decide) (by decide)] at h1'
 rw [cnt_is _ h01 (by decide) (by decide),cB_congr _ (fun s hs=>made_same h (.inl h3) s hs)]
 have hle:=men_kings h h4 hm h01
 rcases move_ways h.ok h.plain h.passing hm with ⟨hi,hca,he⟩ | ⟨kg,rg,hca,_,_,_,_,_,he,_⟩ | ⟨s0,k,hd,_⟩
 · rw [he] at hle ⊢
   have hcnt:=menC_cnt hca (fun x=>x==8*(1 - n 78)+6) p0
   have hz:(if 0≤takenP n m then oneN ((fun x:Int=>x==8*(1 - n 78)+6) (n (1+(takenP n m).toNat))) else 0)=0:=by
    split
    · rename_i hk
      exact oneN_no (fun e=>took_king h h3 hi hca hk hr h1 e)
    · rfl
   have hx:(if m.p≠0 then oneN ((fun x:Int=>x==8*(1 - n 78)+6) (n (1+m.f.toNat))) else 0)=0:=by
    split
    · refine oneN_no (fun e => ?_)
      have h2:=isB_mk h01 (k:=6) (by decide) (by decide)
      rw [← e] at h2
      have:=hca.own.2
      omega
    · rfl
   dsimp only at hcnt hz hx hle
   omega
 · rw [he,menA_cnt hca _ p0];exact h1'
 · rw [drp_cnt hd (by omega) _ _ p0]
   have h5:=hd.k5
   rw [oneN_no (by omega)];exact h1'
theorem kings_made {n:Nat→Int} (h:Val n) {m:Mv} (hl:m∈listL n):vKings (madeN n m)=true:=by
 obtain ⟨hm,hw,hro⟩:=list_well hl
 have hf:=plain_facts h.ok h.plain
 have hk:=(all_mvok hf.2.1 hf.1 hm).1
 have h0:=movT_0 (n:=n) hf.2.1 hk
 have e0:madeN n m 0=n 0:=h0.1
 have e78:madeN n m 78=1 - n 78:=h0.2
 have hn0:=(h.ok.u8 0 (by decide) rfl).1
 unfold vKings
 rw [e0]
 by_cases h4:n 0=4
 · rw [h4];rfl
 rw [beq_eq_false_iff_ne.2 h4,Bool.false_or]
 have hks:=h.kings
 unfold vKings at hks
 rw [beq_eq_false_iff_ne.2 h4,Bool.false_or,Bool.and_eq_true] at hks
 have hone:∀ c:Nat,c≤1→vKing n c=true:=fun c hc=>by
  rcases (show c=0∨c=1 by omega) with rfl | rfl
  · exact hks.1
  · exact hks.2
 have key:∀ c:Nat,c≤1→vKing (madeN n m) c=true:=by
  intro c hc
  have hcc:(c:Int)=0∨(c:Int)=1:=by omega
  have hkc:=hone c hc
  have hle:=made_kings h h4 hm hcc
  rw [← cnt_is _ hcc (by decide) (by decide),← cnt_is _ hcc (by decide) (by decide)] at hle
  unfold vKing at hkc ⊢
  rw [e0,e78]
  cases hr:royI (n 0).toNat c with
  | false =>
    rw [hr,if_pos rfl] at hkc
    rw [if_pos rfl]
    have:=beq_iff_eq.1 hkc
    exact beq_iff_eq.2 (by omega)
  | true =>
    rw [hr,if_neg (by decide)] at hkc
    rw [if_neg (by decide)]
    by_cases ht:(c:Int)=n 78
    · -- the mover's own king
      have hrc:royC n (n 78)=true:=by unfold royC;rw [← ht,Int.toNat_natCast];exact hr
      have hq:hasK (madeN n m) (n 78)=true:=by
       have hw2:=hw
       unfold wellB leavesB at hw2
       rw [hrc] at hw2
       simp only [Bool.not_true,Bool.false_or,Bool.and_eq_true] at hw2
       exact hw2.1.1
      rw [← ht,hasK_cnt _ hcc,Bool.not_eq_true',beq_eq_false_iff_ne] at hq
      have hn1:vCount n c 6=1:=by
       have hq2:=hro hrc
       rw [← ht,hasK_cnt _ hcc,Bool.not_eq_true',beq_eq_false_iff_ne] at hq2
       rw [Bool.or_eq_true,beq_iff_eq] at hkc
       rcases hkc with e | e
       · exact e
       · rw [Bool.and_eq_true, Bool.and_eq_true, beq_iff_eq] at e
         exact absurd e.1.1 hq2
      rw [show (vCount (madeN n m) c 6==1)=true from beq_iff_eq.2 (by omega)];rfl
    · have hc1 : (c : Int) = 1 - n 78 := by omega
      have hn1:vCount n c 6=1:=by
       rw [show ((c:Int)==n 78)=false from beq_eq_false_iff_ne.2 ht,Bool.and_false,Bool.or_false,beq_iff_eq] at hkc
       exact hkc
      by_cases h3:n 0=3
      · rw [show (n 0 == 3) = true from beq_iff_eq.2 h3, show ((c : Int) == 1 - n 78) = true from beq_iff_eq.2 hc1, Bool.and_true, Bool.and_true]
        rcases (show vCount (madeN n m) c 6=0∨vCount (madeN n m) c 6=1 by omega) with e | e <;> rw [e] <;> rfl
      · have hrc : royC n (1 - n 78) = true := by unfold royC; rw [← hc1, Int.toNat_natCast]; exact hr
        have:=other_king h h4 h3 hm hrc (by rw [← hc1];exact hn1)
        rw [← hc1] at this
        rw [this];rfl
 rw [key 0 (by decide),key 1 (by decide)];rfl
theorem pawns_iff (n:Nat→Int):vPawns n=true↔∀ s,s<64→vPawn n s=true:=by
 unfold vPawns
 simp only [List.all_eq_true,List.mem_range]
theorem pawn_iff (n:Nat→Int) (s:Nat):vPawn n s=true↔(kndI (n (1+s))=1→pawB (n 0).toNat=true∧((8≤s∧s≤55)∨(n 0=7∧n (1+s)=1∧s<8))):=by
 unfold vPawn
 simp only [Bool.or_eq_true,Bool.and_eq_true,Bool.not_eq_true',beq_iff_eq,beq_eq_false_iff_ne,decide_eq_true_iff,and_assoc]
 constructor
 · intro h e;exact h.resolve_left (fun h2=>h2 e)
 · intro h
   by_cases e:kndI (n (1+s))=1
   · exact .inr (h e)
   · exact .inl e
theorem prom_ge {v:Nat} {p:Int} (h:p∈promL v):2≤p:=by
 unfold promL at h
 split at h
 · simp at h;omega
 · split at h
   · simp at h;omega
   · cases h
theorem rank_ahead {c s:Int} (hc:c=0∨c=1):rankC c (aheadC c s)=rankC c s+1:=by
 unfold rankC aheadC
 rcases hc with rfl | rfl
 · rw [if_neg (by decide),if_neg (by decide),if_neg (by decide)];omega
 · rw [if_pos rfl,if_pos rfl,if_pos rfl];omega
theorem rank_mid {c s:Int} (hc:c=0∨c=1) (s0:0≤s) (s1:s<64) (h1:1≤rankC c s) (h7:rankC c s≠7):8≤s∧s≤55:=by
 unfold rankC at h1 h7
 rcases hc with rfl | rfl
 · rw [if_neg (by decide)] at h1 h7;omega
 · rw [if_pos rfl] at h1 h7;omega
theorem rank_bd {c s:Int} (hc:c=0∨c=1) (s0:0≤s) (s1:s<64):0≤rankC c s∧rankC c s≤7:=by
 unfold rankC
 rcases hc with rfl | rfl
 · rw [if_neg (by decide)];omega
 · rw [if_pos rfl];omega
theorem pawn_to {n:Nat→Int} (ht:n 78=0∨n 78=1) {m:Mv} (h:IsPm n m) (hk:kndI (n (1+m.f.toNat))=1) (hp:m.p=0):8≤m.t∧m.t≤55:=by
 have h7:rankC (n 78) m.t≠7:=fun e=>by
  have:=h.p
  rw [if_pos ⟨hk,e⟩] at this
  have:=prom_ge (List.contains_iff_mem.1 this)
  omega
 have hb:=rank_bd ht h.f0 h.f1
 have hc:=own_col (may_own h.may).2.1
 refine rank_mid ht h.t0 h.t1 ?_ h7
 rcases pawn_ways (may_pawn h.may hk) hk hc.2 with ⟨h1,_⟩ | ⟨h1,_⟩ | ⟨h1,_⟩
 · have:=pawn_bk ht h.f0 h.f1 h.t0 h.t1 h1;omega
 · rw [h1,rank_ahead ht];omega
 · rw [h1,rank_ahead ht,rank_ahead ht];omega
theorem pawns_made {n:Nat→Int} (h:Val n) {m:Mv} (hm:m∈allL n):vPawns (madeN n m)=true:=by
 have hf:=plain_facts h.ok h.plain
 have hk:=(all_mvok hf.2.1 hf.1 hm).1
 have e0:madeN n m 0=n 0:=(movT_0 (n:=n) hf.2.1 hk).1
 have hn0:=(h.ok.u8 0 (by decide) rfl).1
 have hold:=(pawns_iff n).1 h.pawns
 refine (pawns_iff _).2 fun s hs=>(pawn_iff _ _).2 fun hk1=>?_
 rw [e0]
 have hno:kndI 0≠1:=by decide
 have keep:∀ s,s<64→kndI (n (1+s))=1→pawB (n 0).toNat=true∧((8≤s∧s≤55)∨(n 0=7∧n (1+s)=1∧s<8)):=fun s hs e=>(pawn_iff n s).1 (hold s hs) e
 rcases made_board h hm s hs with e | e
 · rw [e] at hk1;exact absurd hk1 hno
 rw [e] at hk1 ⊢
 rcases move_ways h.ok h.plain h.passing hm with ⟨hi,hca,he⟩ | ⟨kg,rg,hca,_,_,_,_,_,he,_⟩ | ⟨s0,k,hd,_⟩
 · rw [he, menC_at hca] at hk1 ⊢
   have hp:=isP_parts hi
   by_cases es:s=m.t.toNat
   · rw [if_pos es] at hk1 ⊢
     by_cases ep:m.p=0
     · rw [if_neg (fun h => h ep)] at hk1 ⊢
       have hb:=pawn_to hf.2.1 hp hk1 ep
       have hf0:=hca.f0;have hf1:=hca.f1
       exact ⟨(keep m.f.toNat (by omega) hk1).1,.inl (by omega)⟩
     · rw [if_pos ep] at hk1
       have hpp:=hp.p_bd.resolve_left ep
       have:=(isB_mk hf.2.1 (k:=m.p) (by omega) (by omega)).2.1
       omega
   · rw [if_neg es] at hk1 ⊢
     split at hk1
     · exact absurd hk1 hno
     · rename_i hn2
       rw [if_neg hn2]
       exact keep s hs hk1
 · rw [he, menA_at hca] at hk1 ⊢
   split at hk1
   · have:=(isB_mk hf.2.1 (k:=4) (by decide) (by decide)).2.1;omega
   · rename_i e1
     rw [if_neg e1]
     split at hk1
     · have:=(isB_mk hf.2.1 (k:=6) (by decide) (by decide)).2.1;omega
     · rename_i e2
       rw [if_neg e2]
       split at hk1
       · exact absurd hk1 hno
       · rename_i e3
         rw [if_neg e3]
         exact keep s hs hk1
 · have h1 := hd.k1; have h5 := hd.k5
   rw [hd.is] at hk1 ⊢
   by_cases es:s=s0
   · rw [es, upd_at] at hk1 ⊢
     have:=(isB_mk hf.2.1 (k:=(k:Int)) (by omega) (by omega)).2.1
     have:=hd.mid (by omega)
     refine ⟨by rw [hd.v];decide,.inl (by omega)⟩
   · rw [upd_ne _ (by omega), upd_ne _ (by omega)] at hk1 ⊢
     exact keep s hs hk1
theorem pockI_one (n q:Nat→Int) (j:Nat):∀ k,(∀ i,i<k→i≠j→q (66+i)=n (66+i))→pockI q k=pockI n k+(if j<k then q (66+j) - n (66+j) else 0)
 | 0,_=>by simp [pockI]
 | k + 1, h => by
   have ih:=pockI_one n q j k (fun i hi=>h i (by omega))
   show pockI q k+q (66+k)=pockI n k+n (66+k)+_
   rw [ih]
   by_cases e:j=k
   · subst e
     rw [if_neg (Nat.lt_irrefl _),if_pos (Nat.lt_succ_self _)];omega
   · rw [h k (by omega) (fun h2 => e h2.symm)]
     by_cases h2:j<k
     · rw [if_pos h2,if_pos (by omega)];omega
     · rw [if_neg h2,if_neg (by omega)];omega
theorem pockI_same (n q:Nat→Int):∀ k,(∀ i,i<k→q (66+i)=n (66+i))→pockI q k=pockI n k
 | 0,_=>rfl
 | k + 1, h => by
   show pockI q k+q (66+k)=pockI n k+n (66+k)
   rw [pockI_same n q k (fun i hi=>h i (by omega)),h k (by omega)]
theorem pockets_iff (n:Nat→Int) (hv:n 0=2):vPockets n=true↔(∀ s,s<64→vMarks n s=true)∧n 66=0∧n 72=0∧vMen n≤32:=by
 unfold vPockets
 rw [show pocB (n 0).toNat=true by rw [hv];rfl,if_neg (by decide)]
 simp only [Bool.and_eq_true,List.all_eq_true,List.mem_range,beq_iff_eq,decide_eq_true_iff]
theorem marks_iff (n:Nat→Int) (s:Nat):vMarks n s=true↔(hasB (proB n) (s:Int)=true→2≤kndI (n (1+s))∧kndI (n (1+s))≤5):=by
 unfold vMarks
 rw [show BitVec.ofInt 64 (n 65)=proB n from rfl,Bool.or_eq_true,Bool.and_eq_true,decide_eq_true_iff,decide_eq_true_iff,Bool.not_eq_true']
 constructor
 · intro h e;exact h.resolve_left (by rw [e];decide)
 · intro h
   cases e:hasB (proB n) (s:Int) with
   | false=>exact .inl rfl
   | true=>exact .inr (h e)
theorem men_is (n:Nat→Int):vMen n=(cB (fun x=>!(x==0)) n:Int)+pockI n 12:=rfl
theorem menC_far {n:Nat→Int} {m:Mv} {tk:Int} (h:Cap n m tk) (i:Nat) (hi:65≤i):menC n m tk i=n i:=by
 have hf0:=h.f0;have hf1:=h.f1;have ht0:=h.t0;have ht1:=h.t1;have hb:=h.tk_bd
 have e0:menC0 n tk i=n i:=by
  unfold menC0
  split
  · rw [upd_ne _ (by omega)]
  · rfl
 unfold menC
 split
 · rw [upd_ne _ (by omega),upd_ne _ (by omega),upd_ne _ (by omega),e0]
 · rw [upd_ne _ (by omega),upd_ne _ (by omega),e0]
theorem menA_far {n:Nat→Int} {m:Mv} {kg rg:Nat} (h:Cas n m kg rg) (i:Nat) (hi:65≤i):menA n m i=n i:=by
 have hf0:=h.f0;have hf1:=h.f1;have ht0:=h.t0;have ht1:=h.t1;have hk:=h.k1;have hr:=h.r1
 rw [h.is,upd_ne _ (by omega),upd_ne _ (by omega)]
 unfold offN
 rw [upd_ne _ (by omega),upd_ne _ (by omega)]
theorem made_mid {n:Nat→Int} (ht:n 78=0∨n 78=1) {m:Mv} {tk:Int} (i:Nat) (h1:65≤i) (h2:i<78):movT n m tk i=pocN n (menN n m tk) m tk i:=by
 rw [movT_low ht i h2]
 unfold mov3 blowN
 split
 · unfold wipeN
   rw [if_neg (by omega)]
 · rfl
theorem pockets_made {n:Nat→Int} (h:Val n) {m:Mv} (hm:m∈allL n):vPockets (madeN n m)=true:=by
 have hf:=plain_facts h.ok h.plain
 have hk:=(all_mvok hf.2.1 hf.1 hm).1
 have e0:madeN n m 0=n 0:=(movT_0 (n:=n) hf.2.1 hk).1
 have hn0:=(h.ok.u8 0 (by decide) rfl).1
 have hmid:∀ i,65≤i→i<78→madeN n m i=pocN n (menN n m (takenP n m)) m (takenP n m) i:=fun i h1 h2=>made_mid hf.2.1 i h1 h2
 by_cases hv:n 0=2
 case neg =>
  have hp:=h.pockets
  unfold vPockets at hp ⊢
  rw [e0]
  have hpb:pocB (n 0).toNat=false:=beq_eq_false_iff_ne.2 (by omega)
  rw [hpb,if_pos rfl] at hp ⊢
  have hsame:∀ i,65≤i→i<78→madeN n m i=n i:=fun i h1 h2=>by
   rw [hmid i h1 h2,show pocN n (menN n m (takenP n m)) m (takenP n m)=menN n m (takenP n m) from if_pos (.inl hv)]
   rcases move_ways h.ok h.plain h.passing hm with ⟨_,hca,he⟩ | ⟨kg,rg,hca,_,_,_,_,_,he,_⟩ | ⟨s0,k,hd,_⟩
   · rw [he,menC_far hca i h1]
   · rw [he,menA_far hca i h1]
   · exact absurd hd.v hv
  simp only [Bool.and_eq_true,List.all_eq_true,List.mem_range,beq_iff_eq] at hp ⊢
  exact ⟨fun k hk=>by rw [hsame _ (by omega) (by omega)];exact hp.1 k hk,by rw [hsame _ (by omega) (by omega)];exact hp.2⟩
 case pos =>
 obtain ⟨hmk,h66,h72,hmen⟩:=(pockets_iff n hv).1 h.pockets
 have hmk:∀ s:Nat,s<64→hasB (proB n) (s:Int)=true→2≤kndI (n (1+s))∧kndI (n (1+s))≤5:=fun s hs=>(marks_iff n s).1 (hmk s hs)
 have hbd:∀ s,s<64→madeN n m (1+s)=menN n m (takenP n m) (1+s):=fun s hs=>made_same h (.inl (by omega)) s hs
 have hk0:kndI 0=0:=rfl
 have hcn:cB (fun x=>!(x==0)) (madeN n m)=cB (fun x=>!(x==0)) (menN n m (takenP n m)):=cB_congr _ hbd
 have p0:(fun x:Int=>!(x==0)) 0=false:=rfl
 refine (pockets_iff _ (e0.trans hv)).2 ?_
 rw [men_is] at hmen ⊢
 rw [hcn]
 rcases move_ways h.ok h.plain h.passing hm with ⟨hi,hca,he⟩ | ⟨kg,rg,hca,hc,hd0,_,htk,_,he,hrg⟩ | ⟨s0,k,hd,htk⟩
 · -- a move on the board
   have hp:=isP_parts hi
   have hpoc:pocN n (menN n m (takenP n m)) m (takenP n m)=upd (pocT n (menC n m (takenP n m)) (takenP n m)) 65 (u (marksB n m (takenP n m))):=by
    rw [he]
    unfold pocN
    rw [if_neg (fun h2=>h2.elim (fun h2=>h2 hv) (fun h2=>h2 hp.d)),if_neg (by rw [hp.c];decide)]
   have e65:proB (madeN n m)=marksB n m (takenP n m):=by
    unfold proB
    rw [hmid 65 (by decide) (by decide),hpoc,upd_at,ofInt_u]
   have hpk:∀ i,66≤i→i<78→madeN n m i=pocT n (menC n m (takenP n m)) (takenP n m) i:=fun i h1 h2=>by
    rw [hmid i (by omega) h2,hpoc,upd_ne _ (by omega)]
   have hfar:=fun i (hi:65≤i)=>menC_far hca i hi
   have ht1:(n 78).toNat≤1:=by omega
   refine ⟨fun s hs=>(marks_iff _ s).2 fun hb=>?_,?_,?_,?_⟩
   · rw [e65] at hb
     rw [hbd s hs,he,menC_at hca]
     have hb0:∀ s:Nat,s<64→hasB (marks0 n m (takenP n m)) (s:Int)=true→hasB (proB n) (s:Int)=true∧¬ (0≤takenP n m∧(s:Int)=takenP n m)∧(s:Int)≠m.f:=fun s hs hb=>by
      unfold marks0 at hb
      rw [has_andNot,has_one,Bool.and_eq_true,Bool.not_eq_true',decide_eq_false_iff_not] at hb
      have hnf:(s:Int)≠m.f:=fun e=>hb.2 ⟨e,by omega,by omega⟩
      by_cases hk:0≤takenP n m
      · have hb1 := hb.1
        rw [if_pos hk,has_andNot,has_one,Bool.and_eq_true,Bool.not_eq_true',decide_eq_false_iff_not] at hb1
        exact ⟨hb1.1,fun e=>hb1.2 ⟨e.2,by omega,by omega⟩,hnf⟩
      · have hb1 := hb.1
        rw [if_neg hk] at hb1
        exact ⟨hb1,fun e=>hk e.1,hnf⟩
     have ht0:=hca.t0;have htt1:=hca.t1;have hf0:=hca.f0;have hf1:=hca.f1
     have hold:hasB (marks0 n m (takenP n m)) (s:Int)=true→(s=m.t.toNat→False)∧(¬ (s=m.f.toNat∨(0≤takenP n m∧s=(takenP n m).toNat)))∧hasB (proB n) (s:Int)=true:=fun hb=>by
      obtain ⟨b1,b2,b3⟩:=hb0 s hs hb
      refine ⟨fun e=>?_,fun e=>?_,b1⟩
      · rcases hca.tgt with ⟨e2, _⟩ | ⟨e2, _⟩
        · exact b2 (by omega)
        · have := hmk s hs b1
          rw [e,e2] at this
          omega
      · rcases e with e | ⟨e1, e2⟩
        · omega
        · exact b2 (by omega)
     unfold marksB at hb
     by_cases hx:m.p≠0∨hasB (proB n) m.f=true
     · rw [if_pos hx, has_or, has_one, Bool.or_eq_true, decide_eq_true_iff] at hb
       rcases hb with hb | hb
       · obtain ⟨a1, a2, a3⟩ := hold hb
         rw [if_neg a1,if_neg a2]
         exact hmk s hs a3
       · rw [if_pos (by omega)]
         by_cases ep:m.p=0
         · rw [if_neg (fun h => h ep)]
           have h2:=hx.resolve_left (fun h=>h ep)
           exact hmk m.f.toNat (by omega) (by rw [show ((m.f.toNat:Nat):Int)=m.f by omega];exact h2)
         · rw [if_pos ep]
           have hpp:=hp.p_bd.resolve_left ep
           have hle:=prom_le (by omega) hpp.2.2.2.2
           rw [(isB_mk hf.2.1 (k:=m.p) (by omega) (by omega)).2.1]
           omega
     · rw [if_neg hx] at hb
       obtain ⟨a1,a2,a3⟩:=hold hb
       rw [if_neg a1,if_neg a2]
       exact hmk s hs a3
   · rw [hpk 66 (by decide) (by decide)]
     unfold pocT
     split
     · rw [addN_at _ _ _ _ ht1 (by decide),hfar _ (by decide),h66]
     · rw [hfar _ (by decide),h66]
   · rw [hpk 72 (by decide) (by decide)]
     unfold pocT
     split
     · rw [addN_at _ _ _ _ ht1 (by decide),hfar _ (by decide),h72]
     · rw [hfar _ (by decide),h72]
   · have hcnt := menC_cnt hca (fun x => !(x == 0)) p0
     have hx1:(n (1+m.f.toNat)==0)=false:=beq_eq_false_iff_ne.2 (fun e=>by have:=hca.own.1;rw [e] at this;cases this)
     have hx2:m.p≠0→(8*n 78+m.p==0)=false:=fun ep=>by
      have:=(isP_parts hi).p_bd.resolve_left ep
      exact beq_eq_false_iff_ne.2 (by omega)
     have hpo:(if m.p≠0 then oneN (!(n (1+m.f.toNat)==0)) else 0)=(if m.p≠0 then oneN (!(8*n 78+m.p==0)) else 0):=by
      split
      · rename_i ep;rw [hx1,hx2 ep]
      · rfl
     rw [he]
     have hP:pockI (madeN n m) 12≤pockI n 12+(if 0≤takenP n m then 1 else 0):=by
      rw [pockI_same (pocT n (menC n m (takenP n m)) (takenP n m)) (madeN n m) 12 (fun i hi=>hpk _ (by omega) (by omega))]
      have hsame:pockI (menC n m (takenP n m)) 12=pockI n 12:=pockI_same _ _ 12 (fun i hi=>hfar _ (by omega))
      unfold pocT
      split
      · rw [← hsame]
        unfold addN
        split
        · rename_i ha
          unfold addB at ha
          rw [Bool.and_eq_true,fits_iff] at ha
          rw [pockI_one (menC n m (takenP n m)) _ (poIx (n 78).toNat (tkK n (takenP n m)).toNat - 66) 12 (fun i hi hne=>upd_ne _ (by unfold poIx at hne ⊢;omega) _)]
          rw [if_pos (by have:=ha.1;unfold poIx;omega),show 66+(poIx (n 78).toNat (tkK n (takenP n m)).toNat - 66)=poIx (n 78).toNat (tkK n (takenP n m)).toNat by unfold poIx;omega,upd_at]
          omega
        · omega
      · rw [hsame];omega
     by_cases hk:0≤takenP n m
     · rw [if_pos hk] at hcnt hP
       have hz:(n (1+(takenP n m).toNat)==0)=false:=beq_eq_false_iff_ne.2 (fun e=>by
        rcases hca.tgt with ⟨e2,e3,_⟩ | ⟨_,e2 | ⟨_,_,_,_,e2,_⟩⟩
        · rw [e2] at e;rw [e] at e3;cases e3
        · omega
        · rw [e,makeI_is (by omega) (by decide) (by decide)] at e2;omega)
       rw [hz] at hcnt
       have:oneN (!false)=1:=rfl
       omega
     · rw [if_neg hk] at hcnt hP
       omega
 · -- castling
   have hpoc:pocN n (menN n m (takenP n m)) m (takenP n m)=pocC n (menA n m) m:=by
    rw [he]
    unfold pocN
    rw [if_neg (fun h2=>h2.elim (fun h2=>h2 hv) (fun h2=>h2 hd0)),if_pos hc]
   have hpk:∀ i,66≤i→i<78→madeN n m i=n i:=fun i h1 h2=>by
    rw [hmid i (by omega) h2,hpoc]
    unfold pocC
    split
    · rw [upd_ne _ (by omega),menA_far hca i (by omega)]
    · rw [menA_far hca i (by omega)]
   have hf0:=hca.f0;have hf1:=hca.f1;have ht0:=hca.t0;have ht1:=hca.t1;have hr1:=hca.r1;have hk1:=hca.k1
   have hrook:=(isB_mk hf.2.1 (k:=4) (by decide) (by decide)).2.1
   have hking:=(isB_mk hf.2.1 (k:=6) (by decide) (by decide)).2.1
   have hfm:hasB (proB n) (m.f.toNat:Int)=true→False:=fun hb=>by
    have:=hmk m.f.toNat (by omega) hb
    rw [hca.king,hking] at this;omega
   -- a mark that stood elsewhere still stands
   have hstay:∀ s:Nat,s<64→hasB (proB n) (s:Int)=true→s≠m.t.toNat→2≤kndI (menA n m (1+s))∧kndI (menA n m (1+s))≤5:=fun s hs hb hne=>by
    have hnf:s≠m.f.toNat:=fun e=>hfm (by rw [← e];exact hb)
    have hz:offN n m.f m.t (1+s)=n (1+s):=by rw [off_val hca,if_neg (fun e=>e.elim hnf hne)]
    have hv2:=hmk s hs hb
    rw [menA_at hca]
    by_cases e1:s=rg
    · rw [e1,hca.rz] at hz;rw [e1,← hz] at hv2;omega
    · rw [if_neg e1]
      by_cases e2:s=kg
      · rw [e2,hca.kz] at hz;rw [e2,← hz] at hv2;omega
      · rw [if_neg e2,if_neg (fun e=>e.elim hnf hne)];exact hv2
   refine ⟨fun s hs=>(marks_iff _ s).2 fun hb=>?_,by rw [hpk 66 (by decide) (by decide)];exact h66,by rw [hpk 72 (by decide) (by decide)];exact h72,?_⟩
   · rw [hbd s hs, he]
     have e65:proB (madeN n m)=if hasB (proB n) m.t=true then ((proB n&&&~~~oneB m.t) ||| oneB (homeC (n 78)+rGoal (sideM m))) else proB n:=by
      have e1:proB (madeN n m)=BitVec.ofInt 64 (pocC n (menA n m) m 65):=by rw [← hpoc,← hmid 65 (by decide) (by decide)];rfl
      rw [e1]
      unfold pocC
      by_cases hx:hasB (proB n) m.t=true
      · rw [if_pos hx,if_pos hx,upd_at,ofInt_u]
      · rw [if_neg hx,if_neg hx,menA_far hca 65 (by decide)];rfl
     rw [e65] at hb
     by_cases hx:hasB (proB n) m.t=true
     · rw [if_pos hx, has_or, has_andNot, has_one, has_one, Bool.or_eq_true, Bool.and_eq_true, Bool.not_eq_true', decide_eq_false_iff_not, decide_eq_true_iff] at hb
       rcases hb with ⟨b1,b2⟩ | b
       · exact hstay s hs b1 (fun e=>b2 (by omega))
       · rw [menA_at hca,if_pos (by omega),hrook];omega
     · rw [if_neg hx] at hb
       exact hstay s hs hb (fun e=>hx (by rw [e,show ((m.t.toNat:Nat):Int)=m.t by omega] at hb;exact hb))
   · rw [he, menA_cnt hca _ p0, pockI_same n _ 12 (fun i hi => hpk _ (by omega) (by omega))]
     exact hmen
 · -- a drop
   have hd1:=hd.k1;have hd5:=hd.k5;have hs1:=hd.s1
   have hdd:m.d≠0:=by rw [hd.d];omega
   have hpoc:pocN n (menN n m (takenP n m)) m (takenP n m)=menN n m (takenP n m):=if_pos (.inr hdd)
   have ht1:(n 78).toNat≤1:=by omega
   have hpk:∀ i,65≤i→i<78→i≠66+6*(n 78).toNat+k→madeN n m i=n i:=fun i h1 h2 h3=>by
    rw [hmid i h1 h2,hpoc,hd.is,upd_ne _ (by omega),upd_ne _ h3]
   have hpk2:madeN n m (66+6*(n 78).toNat+k)=n (66+6*(n 78).toNat+k) - 1:=by
    rw [hmid _ (by omega) (by omega),hpoc,hd.is,upd_ne _ (by omega),upd_at]
   refine ⟨fun s hs=>(marks_iff _ s).2 fun hb=>?_,by rw [hpk 66 (by decide) (by decide) (by omega)];exact h66,by rw [hpk 72 (by decide) (by decide) (by omega)];exact h72,?_⟩
   · have e65 : proB (madeN n m) = proB n := by unfold proB; rw [hpk 65 (by decide) (by decide) (by omega)]
     rw [e65] at hb
     have hv2:=hmk s hs hb
     rw [hbd s hs,hd.is]
     by_cases es:s=s0
     · rw [es,hd.z] at hv2;omega
     · rw [upd_ne _ (by omega),upd_ne _ (by omega)];exact hv2
   · rw [drp_cnt hd ht1 _ _ p0]
     have hz:(8*n 78+(k:Int)==0)=false:=beq_eq_false_iff_ne.2 (by omega)
     have h1:oneN (!(8*n 78+(k:Int)==0))=1:=by rw [hz];rfl
     have hP:=pockI_one n (madeN n m) (6*(n 78).toNat+k) 12 (fun i hi hne=>hpk _ (by omega) (by omega) (by omega))
     rw [if_pos (by omega),show 66+(6*(n 78).toNat+k)=66+6*(n 78).toNat+k by omega,hpk2] at hP
     omega
theorem rigS_or (q0:Nat→Int) (m:Mv) (tk:Int) (k i:Nat):rigS q0 m tk (k+1) i=rigS q0 m tk k i∨rigS q0 m tk (k+1) i=-1:=rig1_or _ m tk _ _ i
theorem rigS_up {q0:Nat→Int} {m:Mv} {tk:Int} {i:Nat} (h:rigS q0 m tk 4 i≠-1):∀ k,k≤4→rigS q0 m tk (4 - k) i=rigS q0 m tk 4 i
 | 0,_=>rfl
 | k + 1, hk => by
   have ih:=rigS_up h k (by omega)
   have e:4 - k=(4 - (k+1))+1:=by omega
   rw [e] at ih
   rcases rigS_or q0 m tk (4 - (k+1)) i with e2 | e2
   · rw [← e2];exact ih
   · rw [e2] at ih;exact absurd ih.symm h
theorem rig_kept {n q:Nat→Int} (ht:n 78=0∨n 78=1) {m:Mv} {tk:Int} {c side:Nat} (hc:c≤1) (hs:side≤1) (h:rigN n q m tk (79+2*c+side)≠-1) (h0:0≤q (79+2*c+side)) (h7:q (79+2*c+side)≤7) :
 rigN n q m tk (79+2*c+side)=q (79+2*c+side)∧goneB q m tk c (56*(c:Int)+q (79+2*c+side))=false∧¬ (movK n m=6∧m.d=0∧(c:Int)=n 78):=by
 rw [rigN_is] at h ⊢
 have hup:=rigS_up h
 have hq0:rigS (rig0 n q m) m tk 4 (79+2*c+side)=rig0 n q m (79+2*c+side):=(hup 4 (by omega)).symm
 have hr0:rig0 n q m (79+2*c+side)=q (79+2*c+side):=by
  rcases rig0_or n q m (79+2*c+side) with e | e
  · exact e
  · rw [hq0,e] at h;exact absurd rfl h
 refine ⟨hq0.trans hr0,?_,fun hk=>?_⟩
 · have e1 := hup (4 - (2 * c + side)) (by omega)
   have e2:=hup (4 - (2*c+side+1)) (by omega)
   rw [show 4 - (4 - (2*c+side))=2*c+side by omega,hq0,hr0] at e1
   rw [show 4 - (4 - (2*c+side+1))=2*c+side+1 by omega,hq0,hr0] at e2
   have e3:rigS (rig0 n q m) m tk (2*c+side+1)=rig1 (rigS (rig0 n q m) m tk (2*c+side)) m tk c side:=by
    show rig1 _ m tk ((2*c+side) / 2) ((2*c+side) % 2)=_
    rw [show (2*c+side) / 2=c by omega,show (2*c+side) % 2=side by omega]
   rw [e3] at e2
   have hbd:∀ i,i≤78→rigS (rig0 n q m) m tk (2*c+side) i=q i:=fun i hi=>by
    rw [rigS_board _ m tk i hi,rig0_side ht i (.inl (by omega))]
   have hgb:∀ s:Int,0≤s→s<64→goneB (rigS (rig0 n q m) m tk (2*c+side)) m tk c s=goneB q m tk c s:=fun s s0 s1=>by
    unfold goneB
    rw [rigS_of,hbd _ (by omega)]
    rw [show ofN (rig0 n q m) (c:Int) 6=ofN q (c:Int) 6 from selN_same (ofP c 6) _ _ (fun j hj=>rig0_side ht (1+j) (.inl (by omega))) 64 (Nat.le_refl 64)]
   cases hg:goneB q m tk c (56*(c:Int)+q (79+2*c+side)) with
   | false=>rfl
   | true =>
     unfold rig1 at e2
     rw [e1,if_pos ⟨h0,h7,by rw [hgb _ (by omega) (by omega)];exact hg⟩,upd_at] at e2
     omega
 · have : rig0 n q m (79 + 2 * c + side) = -1 := by
    unfold rig0
    rw [if_pos ⟨hk.1,hk.2.1⟩,← hk.2.2,Int.toNat_natCast]
    by_cases e:side=0
    · rw [upd_ne _ (by omega),e];exact upd_at q (79+2*c) (-1)
    · rw [show 79+2*c+side=80+2*c by omega,upd_at]
   omega
theorem rights_iff (n:Nat→Int) {c side:Nat} (hc:c≤1) (hp:0≤n (79+c*2+side)):vRight n c side=true↔casB (n 0).toNat=true∧(56*(c:Int)≤vKingAt n c∧vKingAt n c≤56*c+7)∧n (1+(56*(c:Int)+n (79+c*2+side)).toNat)=8*c+4 ∧
 (n 0=1∨(vKingAt n c=56*c+4∧n (79+c*2+side)=7 - 7*side))∧(if side=0 then vKingAt n c - 56*c<n (79+c*2+side) else n (79+c*2+side)<vKingAt n c - 56*c):=by
 unfold vRight
 rw [decide_eq_false (by omega:¬ n (79+c*2+side)<0),Bool.false_or,makeI_is (by omega) (by decide) (by decide)]
 simp only [Bool.and_eq_true,Bool.or_eq_true,Bool.not_eq_true',Bool.or_eq_false_iff,decide_eq_false_iff_not,beq_iff_eq,and_assoc]
 have e:(if side=0 then decide (vKingAt n c - 56*c<n (79+c*2+side)) else decide (n (79+c*2+side)<vKingAt n c - 56*c))=true↔(if side=0 then vKingAt n c - 56*c<n (79+c*2+side) else n (79+c*2+side)<vKingAt n c - 56*c):=by
  split <;> exact decide_eq_true_iff
 rw [e]
 constructor
 · rintro ⟨a,b,c,d,e,f⟩;exact ⟨a,by omega,by omega,d,e,f⟩
 · rintro ⟨a,b,c,d,e,f⟩;exact ⟨a,by omega,by omega,d,e,f⟩
theorem rooks_made {n:Nat→Int} (h:Val n) {m:Mv} (hm:m∈allL n):vRooks (madeN n m)=true:=by
 have hf:=plain_facts h.ok h.plain
 have hk:=(all_mvok hf.2.1 hf.1 hm).1
 have e0:madeN n m 0=n 0:=(movT_0 (n:=n) hf.2.1 hk).1
 have hn0:=(h.ok.u8 0 (by decide) rfl).1
 have hold:∀ c side:Nat,c≤1→side≤1→vRight n c side=true:=fun c side hc hs=>by
  have:=h.rooks
  unfold vRooks at this
  rw [Bool.and_eq_true,Bool.and_eq_true,Bool.and_eq_true] at this
  rcases (show c=0∨c=1 by omega) with rfl | rfl <;> rcases (show side=0∨side=1 by omega) with rfl | rfl
  · exact this.1.1.1
  · exact this.1.1.2
  · exact this.1.2
  · exact this.2
 have key:∀ c side:Nat,c≤1→side≤1→vRight (madeN n m) c side=true:=by
  intro c side hc hs
  have hcc:(c:Int)=0∨(c:Int)=1:=by omega
  by_cases hneg:madeN n m (79+c*2+side)<0
  · unfold vRight
    rw [decide_eq_true hneg];rfl
  have hfile:=(vFile_iff n c side).1 ((((vPlain_iff n).1 h.plain).2.2 c (by omega)).1 side (by omega))
  have e79:79+c*2+side=79+2*c+side:=by omega
  have h3:mov3 n m (takenP n m) (79+2*c+side)=n (79+2*c+side):=mov3_far hf.2.1 hk _ (.inr (by omega))
  have hqr:madeN n m (79+c*2+side)=rigN n (mov3 n m (takenP n m)) m (takenP n m) (79+2*c+side):=by rw [e79];exact movT_rig hf.2.1 _ (by omega) (by omega)
  have hqn:madeN n m (79+c*2+side)=n (79+c*2+side):=by
   rcases made_rig h hm (79+c*2+side) (by omega) (by omega) with e | e
   · exact e
   · omega
  have hk3:=rig_kept (n:=n) (q:=mov3 n m (takenP n m)) hf.2.1 (m:=m) (tk:=takenP n m) hc hs (by rw [← hqr];omega) (by rw [h3,← e79];omega) (by rw [h3,← e79];omega)
  rw [h3,← e79] at hk3
  obtain ⟨_,hgone,hking⟩:=hk3
  have hn:=(rights_iff n hc (by omega)).1 (hold c side hc hs)
  obtain ⟨n1,n2,n3,n4,n5⟩:=hn
  have hv4:n 0≠4:=fun e=>by rw [e] at n1;exact absurd n1 (by decide)
  -- the board
  have hbd:∀ s,s<64→madeN n m (1+s)=mov3 n m (takenP n m) (1+s):=fun s hs=>movT_low hf.2.1 _ (by omega)
  have hofq:ofN (madeN n m) (c:Int) 6=ofN (mov3 n m (takenP n m)) (c:Int) 6:=selN_same (ofP c 6) _ _ (fun j hj=>hbd j (by omega)) 64 (Nat.le_refl 64)
  unfold goneB at hgone
  simp only [Bool.or_eq_false_iff,Bool.not_eq_false',beq_iff_eq,decide_eq_false_iff_not,and_assoc] at hgone
  obtain ⟨_,_,g1,g2,g3⟩:=hgone
  -- the king stands where it stood
  have hcnt:vCount n c 6=1:=by
   have hks:=h.kings
   unfold vKings at hks
   rw [beq_eq_false_iff_ne.2 hv4,Bool.false_or,Bool.and_eq_true] at hks
   have hkc:vKing n c=true:=by
    rcases (show c=0∨c=1 by omega) with rfl | rfl
    · exact hks.1
    · exact hks.2
   have hne:¬ (vCount n c 6=0):=fun e=>by
    have:=hasK_cnt n hcc
    rw [e] at this
    unfold hasK at this
    rw [decide_eq_true (by unfold vKingAt at n2;omega)] at this
    cases this
   unfold vKing at hkc
   split at hkc
   · exact absurd (beq_iff_eq.1 hkc) hne
   · rw [Bool.or_eq_true, Bool.and_eq_true, Bool.and_eq_true, beq_iff_eq, beq_iff_eq] at hkc
     exact hkc.resolve_right (fun e=>hne e.1.1)
  have hkat:vKingAt (madeN n m) c=vKingAt n c:=by
   unfold vKingAt
   rw [hofq]
   rcases first_cases (ofN (mov3 n m (takenP n m)) (c:Int) 6) with ⟨_,e⟩ | ⟨j,hj,hb,_,e⟩
   · omega
   · rw [e]
     rw [← hasB_nat _ j hj,of_at _ hcc (by decide) (by decide) j hj,beq_iff_eq,← hbd j hj] at hb
     symm
     refine king_first hcc hcnt hj ?_
     rcases made_board h hm j hj with e2 | e2
     · rw [e2] at hb;omega
     · rw [e2] at hb
       rcases move_ways h.ok h.plain h.passing hm with ⟨hi,hca,he⟩ | ⟨kg,rg,hca,_,hd0,_,_,hk6,he,_⟩ | ⟨s0,k,hd,_⟩
       · have hp := isP_parts hi
         rw [he,menC_at hca] at hb
         split at hb
         · split at hb
           · rename_i ep
             have hpp:=hp.p_bd.resolve_left ep
             have:=prom_le (by omega) hpp.2.2.2.2
             omega
           · have hx := (isB_mk hcc (k := 6) (by decide) (by decide))
             rw [← hb] at hx
             exact absurd ⟨by unfold movK;rw [if_neg (fun h=>h hp.d)];exact hx.2.1,hp.d,by have:=hca.own.2;omega⟩ hking
         · split at hb
           · omega
           · exact hb
       · rw [he, menA_at hca] at hb
         split at hb
         · omega
         · split at hb
           · exact absurd ⟨by unfold movK;rw [if_neg (fun h=>h hd0)];exact hk6,hd0,by omega⟩ hking
           · split at hb
             · omega
             · exact hb
       · have h5 := hd.k5
         rw [hd.is] at hb
         by_cases es:j=s0
         · rw [es,upd_at] at hb;omega
         · rwa [upd_ne _ (by omega),upd_ne _ (by omega)] at hb
  refine (rights_iff _ hc (by omega)).2 ⟨by rw [e0];exact n1,by rw [hkat];exact n2,?_,by rw [e0,hkat,hqn];exact n4,by rw [hkat,hqn];exact n5⟩
  rw [hqn,hbd _ (by omega)]
  exact g3
 unfold vRooks
 rw [key 0 0 (by decide) (by decide),key 0 1 (by decide) (by decide),key 1 0 (by decide) (by decide),key 1 1 (by decide) (by decide)];rfl
theorem check_made {n:Nat→Int} (h:Val n) {m:Mv} (hl:m∈listL n):vCheck (madeN n m)=true:=by
 obtain ⟨hm,hw,_⟩:=list_well hl
 have hf:=plain_facts h.ok h.plain
 have hk:=(all_mvok hf.2.1 hf.1 hm).1
 have h0:=movT_0 (n:=n) hf.2.1 hk
 have e0:madeN n m 0=n 0:=h0.1
 have e78:madeN n m 78=1 - n 78:=h0.2
 unfold wellB leavesB at hw
 rw [Bool.and_eq_true] at hw
 obtain ⟨w1,w2⟩:=hw
 unfold vCheck
 rw [e0,e78,show 1 - (1 - n 78)=n 78 by omega,Bool.and_eq_true]
 refine ⟨?_,?_⟩
 · cases h8 : (n 0 == 8) with
   | false=>rfl
   | true=>rw [h8] at w2;exact w2
 · cases hr : royC n (n 78) with
   | false =>
     have:checkN (madeN n m) (n 78)=false:=by
      unfold checkN kingI
      rw [show royC (madeN n m) (n 78)=false by unfold royC at hr ⊢;rw [e0];exact hr,if_neg (by decide)];rfl
     rw [this];simp
   | true =>
     rw [hr] at w1
     simp only [Bool.not_true,Bool.false_or,Bool.and_eq_true,Bool.not_eq_true'] at w1
     cases hc:checkN (madeN n m) (n 78) with
     | false=>simp
     | true =>
       rw [hc,Bool.true_and,Bool.or_eq_false_iff,Bool.not_eq_false'] at w1
       have hk:=hasK_cnt (madeN n m) (c:=1 - n 78) (by omega)
       rw [w1.2.2] at hk
       have hz:(vCount (madeN n m) (1 - n 78) 6==0)=true:=by
        cases hx:(vCount (madeN n m) (1 - n 78) 6==0) with
        | true=>rfl
        | false=>rw [hx] at hk;cases hk
       rw [w1.2.1,hz];rfl
theorem and_ne {a b:BitVec 64} {s:Nat} (h1:hasB a (s:Int)=true) (h2:hasB b (s:Int)=true):(a&&&b==0#64)=false:=by
 rw [beq_eq_false_iff_ne]
 intro e
 have:=has_and a b (s:Int)
 rw [e,has_zero,h1,h2] at this
 cases this
theorem ne_and {a b:BitVec 64} (h:(a&&&b==0#64)=false):∃ s:Nat,s<64∧hasB a (s:Int)=true∧hasB b (s:Int)=true:=by
 refine Classical.byContradiction fun hne=>?_
 rw [beq_eq_false_iff_ne] at h
 refine h (BitVec.eq_of_getLsbD_eq fun i hi=>?_)
 rw [BitVec.getLsbD_and]
 cases h1:a.getLsbD i with
 | false=>simp
 | true =>
   cases h2:b.getLsbD i with
   | false=>simp
   | true=>exact absurd ⟨i,hi,by rw [hasB_nat _ i hi];exact h1,by rw [hasB_nat _ i hi];exact h2⟩ hne
theorem passing_made {n:Nat→Int} (h:Val n) {m:Mv} (hm:m∈allL n):vPassing (madeN n m)=true:=by
 have hf:=plain_facts h.ok h.plain
 have ht:=hf.2.1
 have hk:=(all_mvok ht hf.1 hm).1
 have e78:madeN n m 78=1 - n 78:=(movT_0 (n:=n) ht hk).2
 have e83:madeN n m 83=passI n (rigN n (mov3 n m (takenP n m)) m (takenP n m)) m:=movT_83 ht
 unfold vPassing
 rw [e78,e83]
 unfold passI
 by_cases c1:movK n m≠1∨m.d≠0∨(m.t - m.f≠16∧m.f - m.t≠16)
 · rw [if_pos c1];rfl
 rw [if_neg c1]
 by_cases c2:m.f / 8≠7*n 78+1∧m.f / 8≠7*n 78 - 1
 · rw [if_pos c2];rfl
 rw [if_neg c2]
 by_cases c3:(pawnB (n 78) ((m.f+m.t) / 2)&&&ofN (rigN n (mov3 n m (takenP n m)) m (takenP n m)) (1 - n 78) 1==0#64)=true
 · rw [if_pos c3];rfl
 rw [if_neg c3,Bool.or_eq_true]
 right
 have hd0:m.d=0:=Classical.byContradiction fun e=>c1 (.inr (.inl e))
 have hkx:kndI (n (1+m.f.toNat))=1:=by
  have:movK n m=1:=Classical.byContradiction fun e=>c1 (.inl e)
  unfold movK at this
  rwa [if_neg (fun e=>e hd0)] at this
 have h16:m.t - m.f=16∨m.f - m.t=16:=by
  refine Classical.byContradiction fun e=>c1 (.inr (.inr ⟨fun e2=>e (.inl e2),fun e2=>e (.inr e2)⟩))
 rcases move_ways h.ok h.plain h.passing hm with ⟨hi,hca,he⟩ | ⟨kg,rg,hca,_,_,_,_,hk6,_⟩ | ⟨s0,k,hd,_⟩
 · have hp := isP_parts hi
   have hf0:=hca.f0;have hf1:=hca.f1;have ht0:=hca.t0;have ht1:=hca.t1
   -- it goes ahead by two
   obtain ⟨g1,g3,g4⟩:m.t=aheadC (n 78) (aheadC (n 78) m.f)∧isB (n (1+(aheadC (n 78) m.f).toNat))=false∧isB (n (1+m.t.toNat))=false:=by
    rcases pawn_ways (may_pawn hp.may hkx) hkx hca.own.2 with ⟨q1,_⟩ | ⟨q1,_⟩ | ⟨q1,_,q3,q4⟩
    · have := (pawn_bk ht hf0 hf1 ht0 ht1 q1).2.2.1
      unfold rankC at this
      exfalso
      rcases ht with e | e <;> rw [e] at this
      · rw [if_neg (by decide),if_neg (by decide)] at this;omega
      · rw [if_pos rfl,if_pos rfl] at this;omega
    · exfalso
      unfold aheadC at q1
      split at q1 <;> omega
    · exact ⟨q1,q3,q4⟩
   have hah:∀ s,aheadC (n 78) s=s+(8 - 16*n 78):=fun s=>by unfold aheadC;rcases ht with e | e <;> rw [e] <;> simp <;> omega
   rw [hah] at g3
   rw [hah,hah] at g1
   have hs:(m.f+m.t) / 2=m.f+(8 - 16*n 78):=by omega
   rw [hs] at c3 ⊢
   have htk:takenP n m=-1:=by
    unfold takenP takenN
    rw [if_pos (there_plain h.ok h.plain),if_pos hi]
    unfold takenG
    have ho:ownP n m.t (1 - n 78)=false:=by unfold ownP;rw [g4];rfl
    rw [has_oth n m.t ht0 ht1,ho,if_neg (by decide),if_neg]
    rintro ⟨_,e⟩
    omega
   have hb7:m.p=0:=by
    refine Classical.byContradiction fun ep=>?_
    have:=(hp.p_bd.resolve_left ep).2.2.2.1
    unfold rankC at this
    rcases ht with e | e <;> rw [e] at this g1 c2
    · rw [if_neg (by decide)] at this;omega
    · rw [if_pos rfl] at this;omega
   have hbd:∀ s,s<64→madeN n m (1+s)=if s=m.t.toNat then n (1+m.f.toNat) else if s=m.f.toNat then 0 else n (1+s):=fun s hs=>by
    have hp' : ¬ (m.p≠0):=fun e=>e hb7
    rw [made_same h (.inr (by omega)) s hs,he,menC_at hca]
    by_cases e1:s=m.t.toNat
    · rw [if_pos e1,if_neg hp',if_pos e1]
    · rw [if_neg e1, if_neg e1]
      by_cases e2:s=m.f.toNat
      · rw [if_pos (.inl e2),if_pos e2]
      · rw [if_neg e2, if_neg]
        rintro (e3 | ⟨e3,_⟩)
        · exact e2 e3
        · omega
   have hx:n (1+m.f.toNat)=8*n 78+1:=by
    have:=isB_val hca.own.1
    rw [hca.own.2,hkx] at this
    exact this
   have hs0:0≤m.f+(8 - 16*n 78)∧m.f+(8 - 16*n 78)<64:=by omega
   rw [Bool.and_eq_true]
   refine ⟨?_,?_⟩
   · unfold vPassB
     rw [Bool.and_eq_true,Bool.and_eq_true,Bool.and_eq_true,beq_iff_eq,beq_iff_eq,beq_iff_eq,beq_iff_eq]
     have hup:upV (1 - n 78)=-(8 - 16*n 78):=by unfold upV;rcases ht with e | e <;> rw [e] <;> rfl
     rw [hup]
     refine ⟨?_,?_,?_,?_⟩
     · rcases ht with e | e <;> rw [e] at c2 ⊢
       · rw [if_pos (by decide)];omega
       · rw [if_neg (by decide)];omega
     · rw [hbd _ (by omega), if_neg (by omega), if_neg (by omega)]
       exact man_none h.plain (by omega) g3
     · rw [show m.f+(8 - 16*n 78)+-(8 - 16*n 78)=m.f by omega,hbd _ (by omega),if_neg (by have:=hca.ne;omega),if_pos rfl]
     · rw [show m.f + (8 - 16 * n 78) - -(8 - 16 * n 78) = m.t by omega, hbd _ (by omega), if_pos rfl, hx, makeI_is (by omega) (by decide) (by decide)]
       omega
   · rw [Bool.not_eq_true']
     obtain ⟨a,ha,a1,a2⟩:=ne_and (Bool.eq_false_iff.2 c3)
     have hq:ofN (rigN n (mov3 n m (takenP n m)) m (takenP n m)) (1 - n 78) 1=ofN (madeN n m) (1 - n 78) 1 :=
      selN_same (ofP (1 - n 78) 1) _ _ (fun j hj=>by rw [rig_side ht (1+j) (.inl (by omega))];exact (movT_low ht (1+j) (by omega)).symm) 64 (Nat.le_refl 64)
     rw [hq] at a2
     refine and_ne (s:=a) ?_ a2
     have h01:1 - n 78=0∨1 - n 78=1:=by omega
     have hv:=a2
     rw [of_at _ h01 (by decide) (by decide) a ha,beq_iff_eq] at hv
     have hmk:=isB_mk h01 (k:=1) (by decide) (by decide)
     have hsel:=has_selB (rbyP (madeN n m) (m.f+(8 - 16*n 78)) (1 - n 78)) (a:Int) (by omega) 64 (Nat.le_refl 64)
     rw [rby_is _ _ _ h01 hs0.1 hs0.2,decide_eq_true (by omega),Bool.true_and] at hsel
     rw [hsel]
     unfold rbyP
     have hN:isN (madeN n m) (a:Int) (1 - n 78) 1=true:=by rw [isN_of _ _ _ _ (by decide) (by omega) (by omega)];exact a2
     rw [hit_pawn ht (by omega) (by omega) hs0.1 hs0.2 hN,a1,Int.toNat_natCast,hv,hmk.1,← col_div hmk.1,hmk.2.2,beq_self_eq_true];rfl
 · omega
 · exact absurd hd0 (by rw [hd.d];have:=hd.k1;omega)
theorem val_made {n:Nat→Int} (h:Val n) {m:Mv} (hl:m∈listL n):Val (madeN n m):=by
 have hf:=plain_facts h.ok h.plain
 have hm:=(list_well hl).1
 exact ⟨movT_ok h.ok hf.2.1 (all_mvok hf.2.1 hf.1 hm).1,plain_made h hm,clocks_made h hm,kings_made h hl,pawns_made h hm,pockets_made h hm,rooks_made h hm,passing_made h hm,check_made h hl⟩
end Go.Proofs.YteocjaihaegmoaaGreatDoor
