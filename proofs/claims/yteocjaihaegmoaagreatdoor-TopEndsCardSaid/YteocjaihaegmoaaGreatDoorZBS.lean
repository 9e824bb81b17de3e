/- Parts of the proof: BK. -/
import Derived.Test.YteocjaihaegmoaaGreatDoorZAA
import Derived.Test.YteocjaihaegmoaaGreatDoorZBM
import Derived.Test.YteocjaihaegmoaaGreatDoorZBR
namespace Go.Proofs.YteocjaihaegmoaaGreatDoor
open Go Go.RowKit
set_option linter.unusedVariables false
def okQ (n:Nat→Int) (k:Nat):Bool:=if k=0 then vPlain n else if k=1 then vClocks n else if k=2 then vKings n else if k=3 then vPawns n else if k=4 then vPockets n else if k=5 then vRooks n else if k=6 then vPassing n else vCheck n
def eQ (k:Nat):Int:=if k=0 then 2 else if k=1 then 125 else if k=2 then 120 else if k=3 then 121 else if k=4 then 122 else if k=5 then 123 else if k=6 then 124 else 126
def errK (n:Nat→Int):Nat→List Int
 | 0=>[]
 | k+1=>if okQ n k=true then errK n k else errK n k ++ [eQ k]
def errL (n:Nat→Int):List Int:=if vPlain n=true then errK n 8 else [2]
def validE (n:Nat→Int):Int:=(errL n).headD 0
theorem errK_len (n:Nat→Int):∀ k,(errK n k).length≤k
 | 0=>Nat.le_refl _
 | k + 1 => by
   have:=errK_len n k
   show (if _ then _ else _:List Int).length≤_
   split
   · omega
   · rw [List.length_append];simp;omega
/-- Behind the first question no error is the first one's. -/
theorem errK_two {n:Nat→Int} (hp:vPlain n=true):∀ k,k≤8→∀ e∈errK n k,e≠2
 | 0,_,e,he=>by cases he
 | k + 1, hk, e, he => by
   have ih:=errK_two hp k (by omega)
   change e∈(if okQ n k=true then errK n k else errK n k ++ [eQ k]) at he
   split at he
   · exact ih e he
   · rename_i hq
     rw [List.mem_append,List.mem_singleton] at he
     rcases he with he | rfl
     · exact ih e he
     · rcases (show k = 0 ∨ 1 ≤ k by omega) with rfl | h1
       · exact absurd hp hq
       · unfold eQ
         rw [if_neg (by omega)]
         repeat (first | decide | split)
theorem valid_ok {n:Nat→Int} (h:validE n=0):vPlain n=true:=by
 cases hp:vPlain n with
 | true=>rfl
 | false =>
   unfold validE errL at h
   rw [hp] at h
   cases h
theorem infoE:(Tryz.prog.info? 33).map (fun i=>(i.zero,i.size,i.bytes))=some (some (.int .i64 0),1,8):=by kernel_rfl
def OwnE (w:World) (base:Nat) (v:Value) (l:List Int):Prop:=w.ownsRow base 33 1 v l.length (l.map (Value.int .i64))
theorem OwnE.app {w:World} {base:Nat} {v:Value} {l:List Int} {x:Int} (h:w.ownsRow base 33 1 v (l.length+1) (l.map (Value.int .i64) ++ [.int .i64 x])):OwnE w base v (l ++ [x]):=by
 simpa [OwnE] using h
theorem OwnE.grown {w w1 w2:World} {B:Nat} {v:Value} {l:List Int} (hown:OwnE w1 B v l) (hbel:Below B w w1) (hB:B≤w1.heap.size) (o:Obj) (hg:(w1.alloc o).grownBy w2 v.ownBlock):Below B w w2 :=
 (hbel.alloc hB o).grown hg (by simp;omega) (fun j hj=>(World.ownsRow.lt hown j hj).1)
theorem OwnE.kept {w w' : World} {B C:Nat} {v:Value} {l:List Int} (h:OwnE w B v l) (hb:Below C w w') (hC:w.heap.size≤C):OwnE w' B v l:=by
 have hlt:=World.ownsRow.lt h
 obtain ⟨h1,h2⟩:=h
 refine ⟨h1,?_⟩
 rcases h2 with h2 | ⟨g,cap,cur,hv,hg,hgb,rest⟩
 · exact .inl h2
 · have := (hlt g (by rw [hv]; rfl)).2
   exact .inr ⟨g,cap,cur,hv,hg,(hb.block g (by omega)).trans hgb,rest⟩
/-- Its length, and its first one. -/
theorem OwnE.form {w:World} {base:Nat} {v:Value} {l:List Int} (h:OwnE w base v l):∃ a c,v=.slice a l.length c∧(0<l.length→∃ g x,a=some ⟨g,0,none⟩∧w.cell? ⟨g,0,none⟩=some (.int .i64 x)∧x=l.headD 0):=by
 obtain ⟨h1,h2⟩:=id h
 rcases h2 with ⟨hv,hx⟩ | ⟨g,cap,cur,hv,rest⟩
 · exact ⟨none,0,by rw [hv];simp at hx;rw [hx];rfl,fun hl=>by simp at hx;rw [hx] at hl;exact absurd hl (by decide)⟩
 · subst hv
   refine ⟨_,_,rfl,fun hl=>⟨g,l.headD 0,rfl,?_,rfl⟩⟩
   have e:=World.ownsRow.cellAt h 0 (by omega)
   rw [e]
   cases l with
   | nil=>exact absurd hl (by decide)
   | cons x l=>rfl
def askA:Array Value:=#[.int .i64 2,fv 111,.int .i64 125,fv 112,.int .i64 120,fv 113,.int .i64 121,fv 114,.int .i64 122,fv 115,.int .i64 123,fv 116,.int .i64 124,fv 117,.int .i64 126,fv 118]
set_option maxHeartbeats 4000000 in
theorem vquestions_any (w:World):Calls Tryz.prog 44 #[] w fun e w' => e = .returned (.agg askA)∧Below w.heap.size w w' := by
 go_enter Tryz.func44,Tryz.ntmps44
 go_wp2
 refine bodyPost_ret (v:=.agg askA) (results_cell_row Tryz.results44 _ _ w.heap.size _ askA _ _ rfl (World.alloc_heap_new w _) Tryz.underlying74 rfl (by kernel_rfl)) rfl ⟨rfl,(Below.refl _ _).alloc (Nat.le_refl _) _⟩
theorem vquest (n:Nat→Int) (hn:PosOk n) (j:Nat) (hj:j<8) (hp:j=0∨vPlain n=true):∃ f,(∀ w,(Instr.index 74 (.agg askA) (.int .i64 (j:Int))).run Tryz.prog w=.ok (.agg #[.int .i64 (eQ j),fv f]) w)∧(∀ w,(callFunc f #[.agg (posA n)]).run Tryz.prog w=.ok (.enter f #[.agg (posA n)]) w) ∧
 ∀ V,Tab V→Calls Tryz.prog f #[.agg (posA n)] V fun e w' => e = .returned (.bool (okQ n j))∧Below V.heap.size V w' := by
 rcases (show j=0∨j=1∨j=2∨j=3∨j=4∨j=5∨j=6∨j=7 by omega) with rfl | rfl | rfl | rfl | rfl | rfl | rfl | rfl
 · exact ⟨111,fun _=>by kernel_rfl,fun _=>by kernel_rfl,fun V hT=>vplain_any n hn V⟩
 all_goals have hp:=hp.resolve_left (by decide)
 · exact ⟨112,fun _=>by kernel_rfl,fun _=>by kernel_rfl,fun V hT=>vclocks_any n hn V⟩
 · exact ⟨113,fun _=>by kernel_rfl,fun _=>by kernel_rfl,fun V hT=>vkings_any n hn V⟩
 · exact ⟨114,fun _=>by kernel_rfl,fun _=>by kernel_rfl,fun V hT=>vpawns_any' n hn V⟩
 · exact ⟨115,fun _=>by kernel_rfl,fun _=>by kernel_rfl,fun V hT=>vpock_any n hn V⟩
 · exact ⟨116,fun _=>by kernel_rfl,fun _=>by kernel_rfl,fun V hT=>vrooks_any n hn hp V hT⟩
 · exact ⟨117,fun _=>by kernel_rfl,fun _=>by kernel_rfl,fun V hT=>vpassing_any n hn hp V hT⟩
 · exact ⟨118,fun _=>by kernel_rfl,fun _=>by kernel_rfl,fun V hT=>vcheck_any n hn hp V hT⟩
theorem head_mem {l:List Int} (h:0<l.length):l.headD 0∈l:=by
 cases l with
 | nil=>exact absurd h (by decide)
 | cons x l=>exact List.mem_cons_self ..
set_option maxHeartbeats 16000000 in
set_option maxRecDepth 100000 in
theorem vall_any (n:Nat→Int) (hn:PosOk n) (w:World) (hT:Tab w):Calls Tryz.prog 16 #[.agg (posA n)] w fun e w' => ∃ v,e=.returned v∧OwnE w' w.heap.size v (errL n)∧Below w.heap.size w w' := by
 obtain ⟨i0,hi,hz0,hz1,hz2⟩:=info_parts infoE
 have HI:=hideIt hi
 clear hi
 obtain ⟨X,hX⟩:∃ X,w.alloc (.cells (posA n) 31)=X:=⟨_,rfl⟩
 obtain ⟨p0,hb⟩:=box1 w n X hX
 have HF:=hideIt (fun V (h:Below X.heap.size X V)=>(p0.below h p0.lt).rules)
 have HTX:=hideIt (fun V (h:Below X.heap.size X V)=>(hT.below hb (Nat.le_refl _)).below h (Nat.le_refl _))
 have HQ:=hideIt (fun j hj hp=>vquest n hn j hj hp)
 have HX:=hideIt hX
 have HB:=hideIt hb
 have hS:=hb.size
 have hR:=Below.refl X.heap.size X
 obtain ⟨i1,r1⟩:=p0.rules
 clear hX p0 hb hT
 go_enter Tryz.func16,Tryz.ntmps16
 go_wp2_with (first | rw [HX.out] | (go_at_call 44;refine (vquestions_any _).mono ?_;rintro e U ⟨rfl,h1⟩;have hR:=bl_then7 hR h1;clear h1))
 go_loopg [3,7] 8 (fun g vl i wr=>∃ j:Nat,j+g=8∧i=.int .i64 j∧OwnE wr X.heap.size vl (errK n j)∧(j=0∨vPlain n=true)∧Below X.heap.size X wr)
 case atStart=>exact ⟨0,rfl,rfl,⟨rfl,.inl ⟨rfl,rfl⟩⟩,.inl rfl,hR⟩
 case round =>
  obtain ⟨j,hj,rfl,hown,hp,hr⟩:=hrel
  have HO:=hideIt hown
  have HR:=hideIt hr
  have HP:=hideIt hp
  clear hown hp hr
  by_cases hlt:j<8
  · obtain ⟨f, ix, hcf, hq⟩ := HQ.out j hlt HP.out
    have HC:=hideIt hq
    clear hq
    have HEK:=hideIt (show errK n (j+1)=if okQ n j=true then errK n j else errK n j ++ [eQ j] from rfl)
    have HLN:=hideIt (errK_len n j)
    have H2:=hideIt (fun (hv:vPlain n=true)=>errK_two hv j (by omega))
    have HPL:=hideIt (show j=0→okQ n j=vPlain n from fun h=>by rw [h];rfl)
    have HE2:=hideIt (show j=0→eQ j=2 from fun h=>by rw [h];rfl)
    have HE3:=hideIt (show 0<j→eQ j≠2 from fun h=>by
     unfold eQ
     rw [if_neg (by omega)]
     repeat (first | decide | split))
    obtain ⟨Z,hZ⟩:∃ Z,wr.alloc (.cells #[.int .i64 (eQ j),.func (.func f) #[] #[]] 73)=Z:=⟨_,rfl⟩
    have hZX:Below X.heap.size X Z:=by rw [← hZ];exact HR.out.alloc HR.out.size _
    have hzb:Z.heap[wr.heap.size]?=some (.cells #[.int .i64 (eQ j),.func (.func f) #[] #[]] 73 (0,0)):=by rw [← hZ];exact heap_alloc_last wr _
    have hsz:wr.heap.size<Z.heap.size:=by rw [← hZ];simp
    have HOZ:=hideIt (show OwnE Z X.heap.size u3 (errK n j) by rw [← hZ];exact World.ownsRow.alloc HO.out _)
    have HZ:=hideIt hZ
    have HZX:=hideIt hZX
    have HZB:=hideIt hzb
    have cz:∀ V,Below Z.heap.size Z V→V.cell? ⟨wr.heap.size,0,none⟩=some (.int .i64 (eQ j))∧V.cell? ⟨wr.heap.size,1,none⟩=some (.func (.func f) #[] #[]):=fun V h=>by
     have e:=(h.block _ hsz).trans hzb
     exact ⟨by rw [cell_of_row V _ 0 _ _ _ e];rfl,by rw [cell_of_row V _ 1 _ _ _ e];rfl⟩
    have HCZ:=hideIt cz
    obtain ⟨z0,z1⟩:=cz Z (Below.refl _ _)
    have ec:decide ((j:Int)<8)=true:=decide_eq_true (by omega)
    obtain ⟨i1,r1⟩:=HF.out Z hZX
    clear hZ hZX hzb cz HO
    generalize okQ n j=ok at *
    cases ok
    · have HEK2 := hideIt (show errK n (j + 1) = errK n j ++ [eQ j] from HEK.out)
      have hln:=HLN.out
      generalize hLL:errK n j=L at *
      go_wp2_with (rw [HZ.out])
      refine (HC.out _ (HTX.out Z HZX.out)).mono ?_
      rintro e V ⟨rfl,h1⟩
      have HO2:=hideIt (HOZ.out.kept h1 (Nat.le_refl _))
      have HRV:=hideIt (bl_then7 HZX.out h1)
      have hszV:=HRV.out.size
      clear z0 z1 i1 r1
      obtain ⟨z0,z1⟩:=HCZ.out V h1
      clear h1
      obtain ⟨m,hm⟩:∃ m,(L ++ [eQ j]).length=m:=⟨_,rfl⟩
      have HMM:=hideIt hm
      have hml:m=L.length+1:=by rw [← hm];simp
      have hm9:m≤9:=by omega
      by_cases hj0:j=0
      · have hL0 : L = [] := List.length_eq_zero_iff.1 (by omega)
        have HPF:=hideIt (HPL.out hj0)
        have HE:=hideIt (HE2.out hj0)
        have HEL:=hideIt (show errL n=[2] by unfold errL;rw [← HPF.out];rfl)
        have HLE:=hideIt (show L ++ [eQ j]=[2] by rw [hL0,HE.out];rfl)
        obtain rfl:m=1:=by rw [HLE.out] at hm;exact hm.symm
        clear hL0 hml hj0 hLL hm
        go_wp2_with (at_builtin;refine wpList_append_own _ rfl _ _ 51 rfl X.heap.size 33 i0 (.int .i64 0) 1 8 Tryz.underlying51 HI.out hz0 hz1 hz2 rfl (by decide) _ _ _ rfl (World.ownsRow.alloc HO2.out _) ⟨V.heap.size,0,none⟩ 1 1 [.int .i64 (eQ j)] rfl rfl (cell_one_new _ _ _) (fun x hx=>by simp at hx;subst hx;rfl) (by unfold maxLen;omega) (by omega) (by simp;omega) ?_;intro v' w5 hown' hgrow3 _;have HR5:=hideIt (OwnE.grown HO2.out HRV.out hszV _ hgrow3);have HO5:=hideIt (OwnE.app hown');obtain ⟨av,ac,hav,hfst⟩:=HO5.out.form;rw [HMM.out] at hav hfst;clear hown' hgrow3;(obtain ⟨gg,x,rfl,hcell,hx⟩:=hfst (by omega));subst hav;have HO6:=hideIt HO5.out;clear HO5 hfst;(rw [HLE.out] at hx);(obtain rfl:x=2:=hx))
        go_ret
        exact ⟨_,rfl,by rw [HEL.out,← HLE.out];exact ownsRow_less HO6.out hS,HB.out.trans (HR5.out.mono hS)⟩
      · have HV := hideIt (HP.out.resolve_left hj0)
        have HALL2:=hideIt (show ∀ e∈L ++ [eQ j],e≠2 from fun e he=>by
         rw [List.mem_append,List.mem_singleton] at he
         rcases he with he | rfl
         · exact H2.out HV.out e he
         · exact HE3.out (by omega))
        by_cases h1:m=1
        · have K2 := hideIt (show ((L ++ [eQ j]).headD 0 == 2) = false from beq_eq_false_iff_ne.2 (HALL2.out _ (head_mem (by omega))))
          have k1:decide (m=1)=true:=decide_eq_true h1
          have k0:((m:Int)==1)=true:=beq_iff_eq.2 (by omega)
          have kp:0<m:=by omega
          have HH1:=hideIt h1
          clear h1 hml hm
          go_wp2_with (at_builtin;refine wpList_append_own _ rfl _ _ 51 rfl X.heap.size 33 i0 (.int .i64 0) 1 8 Tryz.underlying51 HI.out hz0 hz1 hz2 rfl (by decide) _ _ _ rfl (World.ownsRow.alloc HO2.out _) ⟨V.heap.size,0,none⟩ 1 1 [.int .i64 (eQ j)] rfl rfl (cell_one_new _ _ _) (fun x hx=>by simp at hx;subst hx;rfl) (by unfold maxLen;omega) (by omega) (by simp;omega) ?_;intro v' w5 hown' hgrow3 _;have HR5:=hideIt (OwnE.grown HO2.out HRV.out hszV _ hgrow3);have HO5:=hideIt (OwnE.app hown');obtain ⟨av,ac,hav,hfst⟩:=HO5.out.form;rw [HMM.out] at hav hfst;clear hown' hgrow3;(obtain ⟨gg,x,rfl,hcell,hx⟩:=hfst (by have:=HH1.out;omega));(have k2:(x==2)=false:=hx ▸ K2.out);clear hx;subst hav;have HO6:=hideIt HO5.out;clear HO5 hfst)
          go_roundg (8 - (j+1))
          case measure=>omega
          case rel=>exact ⟨j+1,by omega,by go_num,by rw [HEK2.out];exact HO6.out,.inr HV.out,HR5.out⟩
        · have k1 : decide (m = 1) = false := decide_eq_false h1
          have k0:((m:Int)==1)=false:=beq_eq_false_iff_ne.2 (by omega)
          clear h1 hml hm
          go_wp2_with (at_builtin;refine wpList_append_own _ rfl _ _ 51 rfl X.heap.size 33 i0 (.int .i64 0) 1 8 Tryz.underlying51 HI.out hz0 hz1 hz2 rfl (by decide) _ _ _ rfl (World.ownsRow.alloc HO2.out _) ⟨V.heap.size,0,none⟩ 1 1 [.int .i64 (eQ j)] rfl rfl (cell_one_new _ _ _) (fun x hx=>by simp at hx;subst hx;rfl) (by unfold maxLen;omega) (by omega) (by simp;omega) ?_;intro v' w5 hown' hgrow3 _;have HR5:=hideIt (OwnE.grown HO2.out HRV.out hszV _ hgrow3);have HO5:=hideIt (OwnE.app hown');obtain ⟨av,ac,hav,hfst⟩:=HO5.out.form;rw [HMM.out] at hav hfst;clear hown' hgrow3;clear hfst;subst hav;have HO6:=hideIt HO5.out;clear HO5)
          go_roundg (8 - (j+1))
          case measure=>omega
          case rel=>exact ⟨j+1,by omega,by go_num,by rw [HEK2.out];exact HO6.out,.inr HV.out,HR5.out⟩
    · have HEK2 := hideIt (show errK n (j + 1) = errK n j from HEK.out)
      have HV:=hideIt (show vPlain n=true from HP.out.elim (fun h=>(HPL.out h).symm) id)
      have HALL2:=hideIt (H2.out HV.out)
      have hln:=HLN.out
      generalize hLL:errK n j=L at *
      obtain ⟨m,hm⟩:∃ m,L.length=m:=⟨_,rfl⟩
      have hm9:m≤9:=by omega
      obtain ⟨av,ac,hav,hfst⟩:=HOZ.out.form
      have HFST:=hideIt hfst
      clear hfst
      subst hav
      rw [hm] at HOZ
      by_cases h1:m=1
      · obtain ⟨gg, x, rfl, hcell, hx⟩ := HFST.out (by omega)
        have k2:(x==2)=false:=by rw [hx];exact beq_eq_false_iff_ne.2 (HALL2.out _ (head_mem (by omega)))
        have k1:decide (m=1)=true:=decide_eq_true h1
        have k0:((m:Int)==1)=true:=beq_iff_eq.2 (by omega)
        have kp:0<m:=by omega
        have hgl:gg<Z.heap.size:=World.block_lt_of_cell? _ _ hcell
        have HCC:=hideIt hcell
        rw [hm]
        clear h1 hm hcell hx
        go_wp2_with (rw [HZ.out])
        refine (HC.out _ (HTX.out Z HZX.out)).mono ?_
        rintro e V ⟨rfl,h1⟩
        have hcell:=(h1.cell (p:=⟨gg,0,none⟩) hgl).trans HCC.out
        have HO2:=hideIt (HOZ.out.kept h1 (Nat.le_refl _))
        have HRV:=hideIt (bl_then7 HZX.out h1)
        clear z0 z1 i1 r1 h1
        go_wp2
        go_roundg (8 - (j+1))
        case measure=>omega
        case rel=>exact ⟨j+1,by omega,by go_num,by rw [HEK2.out];exact HO2.out,.inr HV.out,HRV.out⟩
      · have k1 : decide (m = 1) = false := decide_eq_false h1
        have k0:((m:Int)==1)=false:=beq_eq_false_iff_ne.2 (by omega)
        rw [hm]
        clear h1 hm
        go_wp2_with (rw [HZ.out])
        refine (HC.out _ (HTX.out Z HZX.out)).mono ?_
        rintro e V ⟨rfl,h1⟩
        have HO2:=hideIt (HOZ.out.kept h1 (Nat.le_refl _))
        have HRV:=hideIt (bl_then7 HZX.out h1)
        clear z0 z1 i1 r1 h1
        go_wp2
        go_roundg (8 - (j+1))
        case measure=>omega
        case rel=>exact ⟨j+1,by omega,by go_num,by rw [HEK2.out];exact HO2.out,.inr HV.out,HRV.out⟩
  · obtain rfl : j = 8 := by omega
    have HEL:=hideIt (show errL n=errK n 8 by unfold errL;rw [HP.out.resolve_left (by decide)];rfl)
    go_wp2
    go_ret
    exact ⟨_,rfl,by rw [HEL.out];exact ownsRow_less HO.out hS,HB.out.trans (HR.out.mono hS)⟩
set_option maxHeartbeats 4000000 in
theorem vcheckE_any (n:Nat→Int) (hn:PosOk n) (w:World) (hT:Tab w):Calls Tryz.prog 5 #[.agg (posA n)] w fun e w' => e = .returned (.int .i64 (validE n))∧Below w.heap.size w w' := by
 obtain ⟨X,hX⟩:∃ X,w.alloc (.cells (posA n) 31)=X:=⟨_,rfl⟩
 obtain ⟨p0,hb⟩:=box1 w n X hX
 have HA:=hideIt (vall_any n hn X (hT.below hb (Nat.le_refl _)))
 have HX:=hideIt hX
 have HB:=hideIt hb
 obtain ⟨i1,r1⟩:=p0.rules
 have HV:=hideIt (show validE n=(errL n).headD 0 from rfl)
 have hll:(errL n).length≤8:=by
  unfold errL
  split
  · exact errK_len n 8
  · decide
 clear hX p0 hb hT
 generalize errL n=L at *
 by_cases h0:0<L.length
 · go_enter Tryz.func5, Tryz.ntmps5
   go_wp2_with (first | rw [HX.out] | (go_at_call 16;refine HA.out.mono ?_;rintro e V ⟨vl,rfl,ho,h1⟩;obtain ⟨av,ac,rfl,hfst⟩:=ho.form;obtain ⟨gg,x,rfl,hcell,hx⟩:=hfst h0;have HB1:=hideIt h1;have HXV:=hideIt (hx.trans HV.out.symm);clear h1 ho hfst hx))
   go_ret
   exact ⟨ret_int HXV.out,HB.out.trans (HB1.out.mono HB.out.size)⟩
 · have hL : L = [] := List.length_eq_zero_iff.1 (by omega)
   subst hL
   go_enter Tryz.func5,Tryz.ntmps5
   go_wp2_with (first | rw [HX.out] | (go_at_call 16;refine HA.out.mono ?_;rintro e V ⟨vl,rfl,ho,h1⟩;obtain ⟨av,ac,rfl,hfst⟩:=ho.form;have HB1:=hideIt h1;clear h1 ho hfst))
   go_ret
   exact ⟨ret_int HV.out.symm,HB.out.trans (HB1.out.mono HB.out.size)⟩
end Go.Proofs.YteocjaihaegmoaaGreatDoor
