/- Parts of the proof: BP, BU, BR. -/
import Derived.Test.YteocjaihaegmoaaGreatDoorWAZ
import Derived.Test.YteocjaihaegmoaaGreatDoorWBR
import Derived.Test.YteocjaihaegmoaaGreatDoorWBS
import Derived.Deep.QuietTactic
import Derived.Defers
import Derived.Recover
set_option linter.unusedVariables false
set_option maxHeartbeats 16000000
set_option maxRecDepth 100000
namespace Go.Proofs.YteocjaihaegmoaaGreatDoor
open Go Go.RowKit
theorem idle_any (p:Addr) (w:World) :
 CallsD Tryz.prog 122 #[.pointer (some p)] .returning w fun e u' w' => e = .returned (.tuple #[])∧u' = .returning∧w' = w := by
 refine callsD_of_wpS Tryz.func122 rfl fun c₀ cs hu=>?_
 apply wpS_seq
 apply wpS_region
 simp [wpOpsS,go_sem,recoverD,hu,Tryz.ntmps122,Exit.thenS]
 refine wpS_of_wp ?_
 go_wp2
 cases c₀
 simp_all [bodyPostS,results,Tryz.results122]
theorem pall_any (n:Nat→Int) (hG:Good n) (L gc B:Nat) (hrec:∀ gg,0<gg→Wk gg gc 0 n L) (W:World) (hT:Tab W) (hg:0<gc) (hB:B≤gc) (hBW:B≤W.heap.size) (hc:W.cell? ⟨gc,0,none⟩=some (.int .i64 0)) (hf:W.frozen? ⟨gc,0,none⟩=false) :
 Calls Tryz.prog 49 #[.agg (posA n),.int .i64 2,.func (.func 50) #[] #[.pointer (some ⟨gc,0,none⟩)]] W fun e w' => e = .returned (.int .i64 0)∧(w'.cell? ⟨gc,0,none⟩=some (.int .i64 (L:Int))∧w'.frozen? ⟨gc,0,none⟩=false)∧Below B W w' := by
 obtain ⟨X,hX⟩:∃ X,W.alloc (.cells (posA n) 31)=X:=⟨_,rfl⟩
 obtain ⟨p0,hb⟩:=box1 W n X hX
 have HX:=hI hX
 obtain ⟨i0,r0⟩:=p0.rules
 have hmf:∀ (fn:Fn) (first cap:Array Value) (w:World),(Instr.makeFunc fn first cap).run Tryz.prog w=.ok (.func fn first cap) w:=fun _ _ _ _=>rfl
 have hXs:X.heap.size=W.heap.size+1:=by rw [← hX];simp
 have hgl:gc<W.heap.size:=World.block_lt_of_cell? _ _ hc
 obtain ⟨E,hE⟩:∃ E,X.alloc (.cells #[.int .i64 0] 33)=E:=⟨_,rfl⟩
 have hXE:Below X.heap.size X E:=by rw [← hE];exact bR.alloc lR _
 have hEs:E.heap.size=X.heap.size+1:=by rw [← hE];simp
 have hEb:E.heap[X.heap.size]?=some (.cells #[.int .i64 0] 33 (0,0)):=by rw [← hE];exact heap_alloc_last X _
 obtain ⟨Y,hY⟩:∃ Y,E.alloc (.cells Tryz.zeroCells141 141)=Y:=⟨_,rfl⟩
 have hEY:Below E.heap.size E Y:=by rw [← hY];exact bR.alloc lR _
 have hYb:Y.heap[E.heap.size]?=some (.cells Tryz.zeroCells141 141 (0,0)):=by rw [← hY];exact heap_alloc_last E _
 have hWY:Below W.heap.size W Y:=bT (bT hb hXE) hEY
 have hPer:Per E.heap.size gc Y zeroN 0:=by
  refine ⟨fun i hi=>?_,fun i=>by simp [World.frozen?,hYb],(hWY.cell (p:=⟨gc,0,none⟩) hgl).trans hc,(hWY.frozen (p:=⟨gc,0,none⟩) hgl).trans hf,by omega⟩
  rw [cell_of_row Y _ i _ _ _ hYb]
  rcases (show i=0∨i=1∨i=2 by omega) with rfl | rfl | rfl <;> kernel_rfl
 have hTY:Tab Y:=hT.below hWY lR
 have HREC:=hI (show Calls Tryz.prog 123 #[.pointer (some ⟨E.heap.size,0,none⟩),.agg (posA n),.int .i64 0,.int .i64 2,.func (.func 50) #[] #[.pointer (some ⟨gc,0,none⟩)]] Y fun e w' => e = .returned (.tuple #[])∧(∃ b,Per E.heap.size gc w' b (0+(L:Int))∧∀ i,i<3→zeroN i≤b i∧b i≤zeroN i+BdP 0)∧Two E.heap.size gc Y w' from hrec E.heap.size (by have:=World.block_lt_of_cell? _ _ (hT 0 (by decide));show 0 < _;omega) Y zeroN 0 hTY hPer (fun i _=>by show (0:Int)≤0∧(0:Int)+2551≤1000000;omega) (by decide) (by show (0:Int)+2551≤1000000;omega))
 have pY:PosAt Y W.heap.size n:=(p0.below hXE p0.lt).below hEY (by rw [hEs];have:=p0.lt;omega)
 have heY:Y.heap[X.heap.size]?=some (.cells #[.int .i64 0] 33 (0,0)):=(hEY.block _ (by omega)).trans hEb
 have hYs:E.heap.size<Y.heap.size:=by rw [← hY];simp
 have hXEs:X.heap.size<E.heap.size:=by omega
 have hgX:gc<X.heap.size:=by omega
 have hWX:W.heap.size<X.heap.size:=by omega
 obtain ⟨i1,r1⟩:=pY.rules
 have HE:=hI hE
 have HY:=hI hY
 have HWY:=hI hWY
 have HEY:=hI heY
 clear hX hE hXE hEs hEb hY hEY hYb hWY hPer hTY pY heY hrec i0 r0 p0 hXs
 go_enter_defers Tryz.func49,Tryz.ntmps49
 go_wp2_with (first | rw [HX.out] | rw [HE.out] | rw [HY.out] | (go_at_call 123;refine HREC.out.mono ?_;rintro e U ⟨rfl,⟨b,hpb,_⟩,htw⟩;have HPB:=hI hpb;have HTW:=hI htw;have heU:=(htw.block _ (by omega) (by omega) (by omega)).trans HEY.out;have ce:U.cell? ⟨X.heap.size,0,none⟩=some (.int .i64 0):=(by rw [cell_of_row U _ 0 _ _ _ heU];rfl);have fe:U.frozen? ⟨X.heap.size,0,none⟩=false:=(by simp [World.frozen?,heU]);clear hpb htw heU))
 obtain ⟨F,hF⟩:∃ F,U.setCell ⟨X.heap.size,0,none⟩ (.int .i64 0)=F:=⟨_,rfl⟩
 have cF:F.cell? ⟨X.heap.size,0,none⟩=some (.int .i64 0):=by rw [← hF];exact cell_set_same ce
 have hgc:gc≠X.heap.size:=by omega
 have c2:F.cell? ⟨gc,0,none⟩=some (.int .i64 (L:Int)):=by
  rw [← hF,World.cell?_setCell_other _ _ _ _ (by simp <;> omega)]
  have:=HPB.out.c
  rwa [Int.zero_add] at this
 have f2:F.frozen? ⟨gc,0,none⟩=false:=by rw [← hF];simp [HPB.out.fc]
 have hlow:Below B W F:=by
  have h1:Below B Y U:=HTW.out.below (by have:=HWY.out.size;omega) (by omega) (by omega)
  rw [← hF]
  exact ((HWY.out.mono hBW).trans h1).setCell (p:=⟨X.heap.size,0,none⟩) (by show B≤X.heap.size;omega) _
 rw [hF]
 clear hF ce fe
 refine leaves_cons (f:=122) (args:=#[.pointer (some ⟨X.heap.size,0,none⟩)]) (by simp) (by simp [go_sem]) ?_
 refine (idle_any ⟨X.heap.size,0,none⟩ _).mono ?_
 rintro e u' w'' ⟨rfl,rfl,rfl⟩
 simp [Leaves,settle,results,Tryz.results49,go_sem,cF,c2,f2,hlow]
theorem count_any (n:Nat→Int) (hG:Good n) (L:Nat) (hL:L≤100000) (hrec:∀ gg gc,0<gg→0<gc→Wk gg gc 0 n L) (w:World) (hT:Tab w) :
 Calls Tryz.prog 18 #[.agg (posA n),.int .i64 2] w fun e w' => e = .returned (.tuple #[.int .i64 (L:Int),.int .i64 0])∧Below w.heap.size w w' := by
 obtain ⟨X,hX⟩:∃ X,w.alloc (.cells (posA n) 31)=X:=⟨_,rfl⟩
 obtain ⟨p0,hb⟩:=box1 w n X hX
 obtain ⟨E,hE⟩:∃ E,X.alloc (.cells #[.int .i64 0] 3)=E:=⟨_,rfl⟩
 have hXE:Below X.heap.size X E:=by rw [← hE];exact bR.alloc lR _
 have hEs:E.heap.size=X.heap.size+1:=by rw [← hE];simp
 have hEb:E.heap[X.heap.size]?=some (.cells #[.int .i64 0] 3 (0,0)):=by rw [← hE];exact heap_alloc_last X _
 obtain ⟨F,hF⟩:∃ F,E.setCell ⟨X.heap.size,0,none⟩ (.int .i64 0)=F:=⟨_,rfl⟩
 have ce:E.cell? ⟨X.heap.size,0,none⟩=some (.int .i64 0):=by rw [cell_of_row E _ 0 _ _ _ hEb];rfl
 have fe:E.frozen? ⟨X.heap.size,0,none⟩=false:=by simp [World.frozen?,hEb]
 have cF:F.cell? ⟨X.heap.size,0,none⟩=some (.int .i64 0):=by rw [← hF];exact cell_set_same ce
 have fF:F.frozen? ⟨X.heap.size,0,none⟩=false:=by rw [← hF];simp [fe]
 have hXF:Below X.heap.size X F:=by rw [← hF];exact hXE.setCell (p:=⟨X.heap.size,0,none⟩) lR _
 have hwF:Below w.heap.size w F:=bT hb hXF
 have hTF:Tab F:=hT.below hwF lR
 have hgt:0<X.heap.size:=Nat.lt_of_lt_of_le (World.block_lt_of_cell? _ _ (hT 0 (by decide))) hb.size
 have hFs:X.heap.size≤F.heap.size:=hXF.size
 have pF:PosAt F w.heap.size n:=p0.below hXF p0.lt
 obtain ⟨i1,r1⟩:=pF.rules
 have HAL:=hI (pall_any n hG L X.heap.size w.heap.size (fun gg hg=>hrec gg X.heap.size hg hgt) F hTF hgt (by have:=hb.size;omega) hwF.size cF fF)
 have hmf:∀ (fn:Fn) (first cap:Array Value) (w:World),(Instr.makeFunc fn first cap).run Tryz.prog w=.ok (.func fn first cap) w:=fun _ _ _ _=>rfl
 have HX:=hI hX
 have HE:=hI hE
 have HF:=hI hF
 have HWF:=hI hwF
 clear hX hE hF hEs hEb hXE hXF hwF hTF pF hrec p0
 go_enter Tryz.func18,Tryz.ntmps18
 go_wp2_with (first | rw [HX.out] | rw [HE.out] | rw [HF.out])
 refine HAL.out.mono ?_
 rintro e V ⟨rfl,⟨cV,fV⟩,hV⟩
 go_wp2
 go_ret2
 exact ⟨rfl,HWF.out.trans hV⟩
theorem wf_all {n:Nat→Int} (h:((List.range 88).all fun i=>(Lit.int (kindAt i) (n i)).wf)=true):PosOk n:=fun i hi=>List.all_eq_true.1 h i (List.mem_range.2 hi)
theorem good_first:Good (startN 0):=⟨wf_all (by decide +kernel),.inl (by decide +kernel),by decide +kernel⟩
theorem good_mate:Good mateN:=⟨wf_all (by decide +kernel),.inr (by decide +kernel),by decide +kernel⟩
theorem mem_getD {l:List Mv} {m:Mv} (h:m∈l):∃ k,k<l.length∧l.getD k ⟨0,0,0,0,false⟩=m:=by
 obtain ⟨k,hk,rfl⟩:=List.getElem_of_mem h
 exact ⟨k,hk,by rw [List.getD_eq_getElem?_getD,List.getElem?_eq_getElem hk];rfl⟩
theorem sumF_const (c:Nat) (l:List Mv):sumF (fun _=>c) l=l.length*c:=by
 induction l with
 | nil=>simp [sumF]
 | cons m l ih=>show c+sumF _ l=_;rw [ih,List.length_cons,Nat.add_mul,Nat.one_mul,Nat.add_comm]
theorem perft_first (hnx:∀ k,k<20→nextOk k=true) (gg gc:Nat) (h1:0<gg) (h2:0<gc):Wk gg gc 0 (startN 0) 400:=by
 have hf:=first_ok
 unfold firstOk at hf
 rw [Bool.and_eq_true,beq_iff_eq,beq_iff_eq] at hf
 have hm:∀ m∈listL (startN 0),(endV (madeN (startN 0) m)).1=0∧(listL (madeN (startN 0) m)).length=20:=fun m hmem=>by
  obtain ⟨k,hk,rfl⟩:=mem_getD hmem
  have:=hnx k (by rw [← hf.2];exact hk)
  unfold nextOk at this
  rwa [Bool.and_eq_true,beq_iff_eq,beq_iff_eq] at this
 have key:=inner_any gg gc 0 (by decide) (startN 0) good_first hf.1 (by rw [hf.2];decide) (fun _=>20) (fun m _=>by show (20:Int)≤51;decide) (fun m hmem=>by
  have hg:=good_first.made (listL_sub m hmem)
  have:=inner_any gg gc 1 (by decide) (madeN (startN 0) m) hg (hm m hmem).1 (by rw [(hm m hmem).2];decide) (fun _=>1) (fun _ _=>by show (1:Int)≤1;decide) (fun m2 _=>leaf_any gg gc _) h1 h2
  rwa [sumF_const,(hm m hmem).2] at this) h1 h2
 rwa [sumF_const,hf.2] at key
theorem mate_facts:endV mateN=(1,1)∧checkN mateN 1=true∧listL mateN=[]:=by
 have h:=mate_ok
 unfold mateOk at h
 rw [Bool.and_eq_true,Bool.and_eq_true,beq_iff_eq,beq_iff_eq] at h
 exact ⟨h.1.1,h.1.2,h.2⟩
theorem built_q:(((posA zeroN).setIfInBounds 78 (.int .u8 1)).setIfInBounds 83 (.int .i8 (-1))).setIfInBounds 87 (.int .i64 1)=posA (upd (upd (upd zeroN 78 1) 83 (-1)) 87 1):=by
 exact (congrArg (fun a=>(Array.setIfInBounds (Array.setIfInBounds a 83 (.int .i8 (-1))) 87 (.int .i64 1))) (posA_upd zeroN 78 1)).trans ((congrArg (fun a=>(Array.setIfInBounds a 87 (.int .i64 1))) (posA_upd (upd zeroN 78 1) 83 (-1))).trans (posA_upd (upd (upd zeroN 78 1) 83 (-1)) 87 1))
theorem stirs_any (hnx:∀ k,k<20→nextOk k=true) (htm:∀ w,Calls Tryz.prog 19 #[.agg #[.int .u8 1,.int .u8 1]] w fun e w' => e = .returned (.string ⟨#[49,45,48,32,109,97,116,101]⟩)∧Below w.heap.size w w') (w:World) (hT:Tab w):Calls Tryz.prog 6 #[] w fun e w' => e = .returned (.bool true)∧Below w.heap.size w w' := by
 have HT:=hI (fun V (h:Below w.heap.size w V)=>hT.below h lR)
 have HNX:=hI hnx
 have HST:=hI (fun V=>start_any 0 (by decide) V)
 have HPF:=hI (fun V hTV=>count_any (startN 0) good_first 400 (by decide) (fun gg gc h1 h2=>perft_first hnx gg gc h1 h2) V hTV)
 obtain ⟨n0,hn0⟩:∃ n,startN 0=n:=⟨_,rfl⟩
 rw [hn0] at HST HPF
 have hbd:∀ w,(Instr.build 31 #[(4,.int .u8 1),(6,.int .i8 (-1)),(9,.int .i64 1)]).run Tryz.prog w=.ok (.agg (posA (upd (upd (upd zeroN 78 1) 83 (-1)) 87 1))) w:=fun w=>run_build w _ _ _ (by kernel_rfl)
 obtain ⟨b0,hb0⟩:∃ b,upd (upd (upd zeroN 78 1) 83 (-1)) 87 1=b:=⟨_,rfl⟩
 have HAG:=hI (show (((posA zeroN).setIfInBounds 78 (.int .u8 1)).setIfInBounds 83 (.int .i8 (-1))).setIfInBounds 87 (.int .i64 1)=posA b0 from by rw [← hb0];exact built_q)
 rw [hb0] at hbd
 have hps:∀ m,(posA m).size=88:=posA_size
 have HTM:=hI htm
 clear hT hn0 hnx htm
 have hzp:=zeroPos
 go_enter Tryz.func6,Tryz.ntmps6
 go_wp2_with (go_at_call 17;refine (HST.out _).mono ?_;rintro e w1 ⟨rfl,h1⟩;obtain ⟨Q,hQ⟩:∃ Q,(w1.alloc (.cells (posA zeroN) 31)).setRow w1.heap.size (posA n0)=Q:=⟨_,rfl⟩;obtain ⟨pq,hQb⟩:=pos_put w1 _ Q hQ;have HQ:=hI hQ;have HQB:=hI (bT h1 hQb);clear h1 hQ hQb;obtain ⟨i2,r2⟩:=pq.rules;clear pq)
 rw [HQ.out]
 go_wp2_with (first | rw [run_loadPos _ _ i2,r2] | (go_at_call 18;refine (HPF.out _ (HT.out _ HQB.out)).mono ?_;rintro e w2 ⟨rfl,h1⟩;obtain ⟨R,hR⟩:∃ R,(w2.alloc (.cells (posA zeroN) 31)).setRow w2.heap.size (posA b0)=R:=⟨_,rfl⟩;obtain ⟨pr,hRb⟩:=pos_put w2 _ R hR;have HR:=hI hR;have HPR:=hI pr;have HRB:=hI (HQB.out.trans ((bT h1 hRb).mono HQB.out.size));have HB2:=hI (Nat.le_trans HQB.out.size h1.size);clear h1 hR hRb i2 r2;obtain ⟨i2,r2⟩:=pr.rules;clear pr))
 rw [HAG.out,run_storePos _ _ _ (isPos_new _ _),HR.out]
 have hB0:upd (upd (upd b0 54 6) 55 5) 64 14=mateN:=by rw [← hb0];rfl
 have HB0:=hI hB0
 clear i2 r2 hbd hps hb0 hB0
 have p0:=HPR.out
 have c54:R.cell? ⟨w2.heap.size,54,none⟩=some (.int .u8 (b0 54)):=p0.board 54 (by decide)
 have f54:=p0.free 54
 obtain ⟨Z1,hZ1⟩:∃ Z,R.setCell ⟨w2.heap.size,54,none⟩ (.int .u8 6)=Z:=⟨_,rfl⟩
 have p1:PosAt Z1 w2.heap.size (upd b0 54 6):=by rw [← hZ1];exact p0.setB 54 (by decide) 6
 have c55:=p1.board 55 (by decide)
 have f55:=p1.free 55
 obtain ⟨Z2,hZ2⟩:∃ Z,Z1.setCell ⟨w2.heap.size,55,none⟩ (.int .u8 5)=Z:=⟨_,rfl⟩
 have p2:PosAt Z2 w2.heap.size (upd (upd b0 54 6) 55 5):=by rw [← hZ2];exact p1.setB 55 (by decide) 5
 have c64:=p2.board 64 (by decide)
 have f64:=p2.free 64
 obtain ⟨Z3,hZ3⟩:∃ Z,Z2.setCell ⟨w2.heap.size,64,none⟩ (.int .u8 14)=Z:=⟨_,rfl⟩
 obtain ⟨mN,hmN⟩:∃ m,mateN=m:=⟨_,rfl⟩
 have p3:PosAt Z3 w2.heap.size mN:=by rw [← hmN,← HB0.out,← hZ3];exact p2.setB 64 (by decide) 14
 have hg:=good_mate
 have hmf:=mate_facts
 have h78:mateN 78=(1:Nat):=by decide
 have h0:mateN 0=(0:Nat):=by decide
 rw [hmN] at hg hmf h78 h0
 have HOF:=hI (fun V hT=>of_end mN hg.ok 1 (by decide) h78 0 (by decide) h0 V hT)
 have HLI:=hI (fun V hT=>legal_list mN hg.ok 1 (by decide) h78 0 (by decide) h0 V hT)
 have HCH:=hI (fun V hT=>check_any mN hg.ok 1 (by decide) (by decide) V hT)
 rw [hmf.1] at HOF
 rw [hmf.2.1] at HCH
 rw [hmf.2.2] at HLI
 unfold resV at HOF
 dsimp only at HOF
 have HZ1:=hI hZ1
 have HZ2:=hI hZ2
 have HZ3:=hI hZ3
 have HS:=hI (fun V2 (hb:Below Z3.heap.size Z3 V2)=>(show (IsPos V2 w2.heap.size∧rowOf V2 w2.heap.size=posA mN)∧Below Z3.heap.size Z3 V2 from ⟨(p3.below hb p3.lt).rules,hb⟩))
 have hwR:w.heap.size≤w2.heap.size:=HB2.out
 have HBZ:=hI (show Below w.heap.size w Z3 from by
  rw [← hZ3,← hZ2,← hZ1]
  exact ((HRB.out.setCell (p:=⟨w2.heap.size,54,none⟩) hwR _).setCell (p:=⟨w2.heap.size,55,none⟩) hwR _).setCell (p:=⟨w2.heap.size,64,none⟩) hwR _)
 generalize b0 54=x54 at *
 generalize upd b0 54 6 55=x55 at *
 generalize upd (upd b0 54 6) 55 5 64=x64 at *
 clear p0 p1 p2 p3 hZ1 hZ2 hZ3 hmN hg hmf h78 h0
 have hr:=Below.refl Z3.heap.size Z3
 obtain ⟨⟨i3,r3⟩,_⟩:=HS.out _ hr
 go_wp2_with (first | rw [HZ1.out] | rw [HZ2.out] | rw [HZ3.out] | rw [run_loadPos _ _ i3,r3] | (go_at_call 8;refine (HOF.out _ (HT.out _ (HBZ.out.trans (hr.mono HBZ.out.size)))).mono ?_;rintro e V ⟨rfl,h3⟩;have hr:=bT hr h3;clear h3 i3 r3;obtain ⟨⟨i3,r3⟩,_⟩:=HS.out _ hr) | (go_at_call 19;refine (HTM.out _).mono ?_;rintro e V ⟨rfl,h3⟩;have hr:=bT hr h3;clear h3 i3 r3;obtain ⟨⟨i3,r3⟩,_⟩:=HS.out _ hr) | (go_at_call 20;refine (HCH.out _ (HT.out _ (HBZ.out.trans (hr.mono HBZ.out.size)))).mono ?_;rintro e V ⟨rfl,h3⟩;have hr:=bT hr h3;clear h3 i3 r3;obtain ⟨⟨i3,r3⟩,_⟩:=HS.out _ hr) | (go_at_call 10;refine (HLI.out _ (HT.out _ (HBZ.out.trans (hr.mono HBZ.out.size)))).mono ?_;rintro e V ⟨vl,rfl,ho,h3⟩;obtain ⟨va,vc,rfl,_⟩:=moves_slice ho;clear ho;have hr:=bT hr h3;clear h3 i3 r3;obtain ⟨⟨i3,r3⟩,_⟩:=HS.out _ hr))
 have HE:=hI (HBZ.out.trans (hr.mono HBZ.out.size))
 go_ret
 exact ⟨rfl,HE.out⟩
theorem text_mate (w:World):Calls Tryz.prog 19 #[.agg #[.int .u8 1,.int .u8 1]] w fun e w' => e = .returned (.string ⟨#[49,45,48,32,109,97,116,101]⟩)∧Below w.heap.size w w' := by
 go_enter Tryz.func19,Tryz.ntmps19
 go_wp2
 go_quiet (fail)
 go_wp2
 go_ret
 refine ⟨by first | rfl | kernel_rfl,?_⟩
 exact (((bR.alloc lR _).alloc (by simp) _).alloc (by simp;omega) _).trans ((blN _ _).mono (by simp;omega))
end Go.Proofs.YteocjaihaegmoaaGreatDoor
