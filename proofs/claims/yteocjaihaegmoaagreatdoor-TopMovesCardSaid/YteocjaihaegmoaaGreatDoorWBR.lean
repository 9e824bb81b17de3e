/- Parts of the proof: BB, BC, BD, BE, BM, BG, BJ, BL, BO. -/
import Derived.Test.YteocjaihaegmoaaGreatDoorWAM
import Derived.Test.YteocjaihaegmoaaGreatDoorWBJ
import Derived.Test.YteocjaihaegmoaaGreatDoorWBN
set_option linter.unusedVariables false
set_option maxHeartbeats 16000000
set_option maxRecDepth 100000
namespace Go.Proofs.YteocjaihaegmoaaGreatDoor
open Go Go.RowKit
@[go_sem] theorem fieldR0 {a b : Int} {w : World} : (Instr.field 39 (.agg #[.int .u8 a, .int .u8 b]) 0).run Tryz.prog w = .ok (.int .u8 a) w := by kernel_rfl
theorem ownsM_nil (w:World) (B:Nat):OwnsM w B (.slice none 0 0) []:=⟨rfl,.inl ⟨rfl,rfl⟩⟩
theorem legal_list (n:Nat→Int) (hn:PosOk n) (t:Nat) (ht1:t≤1) (ht:n 78=t) (v:Nat) (hv9:v<9) (hv:n 0=v) (w:World) (hT:Tab w):Calls Tryz.prog 10 #[.agg (posA n)] w fun e w' => ∃ v,e=.returned v∧OwnsM w' w.heap.size v (listL n)∧Below w.heap.size w w' := by
 obtain ⟨X,hX⟩:∃ X,w.alloc (.cells (posA n) 31)=X:=⟨_,rfl⟩
 obtain ⟨p0,hb⟩:=box1 w n X hX
 have HTX:=hI (fun V (h:Below X.heap.size X V)=>(hT.below hb lR).below h lR)
 have HW:=hI (won_any n hn t ht1 ht v hv9 hv X (HTX.out X bR))
 have HL:=hI (fun V (h:Below X.heap.size X V)=>would_any n hn t ht1 ht (by omega) V (HTX.out V h))
 have HF:=hI (fun V (h:Below X.heap.size X V)=>(p0.below h p0.lt).rules)
 have HX:=hI hX
 have HB:=hI hb
 have hS:=hb.size
 obtain ⟨i0,r0⟩:=p0.rules
 have HLL:=hI (show listL n=if (wonP n).1=0 then wouldL n else [] from rfl)
 obtain ⟨⟨ra,rb⟩,hr⟩:∃ r,wonP n=r:=⟨_,rfl⟩
 rw [hr] at HW HLL
 unfold resV at HW
 dsimp only at HW HLL
 clear hX p0 hb hT hv hr
 by_cases hra:ra=0
 · have HLL := hideIt (HLL.out.trans (if_pos hra))
   subst hra
   go_enter Tryz.func10,Tryz.ntmps10
   go_wp2_with (rw [HX.out])
   refine HW.out.mono ?_
   rintro e V ⟨rfl,h1⟩
   obtain ⟨i0,r0⟩:=HF.out V h1
   go_wp2_with fail
   refine (HL.out V h1).mono ?_
   rintro e U ⟨v,rfl,ho,h2⟩
   go_wp2
   go_ret
   exact ⟨_,rfl,by rw [HLL.out];exact ho.less (Nat.le_trans hS h1.size),HB.out.trans ((bT h1 h2).mono hS)⟩
 · have HLL := hideIt (HLL.out.trans (if_neg hra))
   have hb:(ra==0)=false:=beq_eq_false_iff_ne.2 hra
   have hb:(ra != 0)=true:=by rw [bne,hb];rfl
   go_enter Tryz.func10,Tryz.ntmps10
   go_wp2_with (rw [HX.out])
   refine HW.out.mono ?_
   rintro e V ⟨rfl,h1⟩
   obtain ⟨i0,r0⟩:=HF.out V h1
   go_wp2
   go_ret
   exact ⟨_,rfl,by rw [HLL.out];exact ownsM_nil _ _,HB.out.trans (h1.mono hS)⟩
/-- Two rows that grow side by side. -/
structure TwoR (n:Nat→Int) (V wr:World) (l lt:List Mv) (ul ut:Value):Prop where
 ol:OwnsM wr V.heap.size ul l
 ot:OwnsM wr V.heap.size ut lt
 ne:∀ g,ut.ownBlock=some g→ul.ownBlock≠some g
 be:Below V.heap.size V wr
theorem ownM_lt {w:World} {B:Nat} {v:Value} {l:List Mv} (h:OwnsM w B v l) {g:Nat} (hg:v.ownBlock=some g):g<w.heap.size:=(World.ownsRow.lt h g hg).2
theorem TwoR.kept {n:Nat→Int} {V w w' : World} {l lt:List Mv} {ul ut:Value} (h:TwoR n V w l lt ul ut) (hb:Below w.heap.size w w'):TwoR n V w' l lt ul ut :=
 ⟨h.ol.kept hb lR,h.ot.kept hb lR,h.ne,bT h.be hb⟩
theorem TwoR.left {n:Nat→Int} {V w w' : World} {l lt l' : List Mv} {ul ut ul' : Value} {o:Obj} (h:TwoR n V w l lt ul ut) (hg:(w.alloc o).grownBy w' ul.ownBlock) (hn:ul'.ownBlock=ul.ownBlock∨ul'.ownBlock=some (w.alloc o).heap.size) (ho:OwnsM w' V.heap.size ul' l'):TwoR n V w' l' lt ul' ut:=by
 refine ⟨ho,World.ownsRow.kept (h.ot.alloc o) hg ?_,?_,OwnsM.grown h.ol h.be h.be.size o hg⟩
 · cases hx : ut.ownBlock with
   | none=>exact .inl rfl
   | some g=>exact .inr (fun e=>h.ne g hx e.symm)
 · intro g hx
   rcases hn with e | e <;> rw [e]
   · exact h.ne g hx
   · intro e
     injection e with e
     have:=ownM_lt h.ot hx
     simp at e
     omega
theorem TwoR.right {n:Nat→Int} {V w w' : World} {l lt lt' : List Mv} {ul ut ut' : Value} {o:Obj} (h:TwoR n V w l lt ul ut) (hg:(w.alloc o).grownBy w' ut.ownBlock) (hn:ut'.ownBlock=ut.ownBlock∨ut'.ownBlock=some (w.alloc o).heap.size) (ho:OwnsM w' V.heap.size ut' lt'):TwoR n V w' l lt' ul ut' := by
 refine ⟨World.ownsRow.kept (h.ol.alloc o) hg ?_,ho,?_,OwnsM.grown h.ot h.be h.be.size o hg⟩
 · cases hx : ul.ownBlock with
   | none=>exact .inl rfl
   | some g=>exact .inr (fun e=>h.ne g e.symm hx)
 · intro g hx
   rcases hn with e | e
   · exact h.ne g (e ▸ hx)
   · rw [e] at hx
     injection hx with hx
     intro hy
     have:=ownM_lt h.ol hy
     simp at hx
     omega
theorem take_succ_filter (p:Mv→Bool) (l:List Mv) (j:Nat) (hj:j<l.length):(l.take (j+1)).filter p=if p l[j]=true then (l.take j).filter p ++ [l[j]] else (l.take j).filter p:=by
 rw [List.take_succ_eq_append_getElem hj,List.filter_append]
 by_cases h:p l[j]=true
 · rw [if_pos h,List.filter_cons_of_pos h,List.filter_nil]
 · rw [if_neg h,List.filter_cons_of_neg h,List.filter_nil,List.append_nil]
abbrev qo0:Oper:={ dst:=some 48,op:=Op.fieldAddr 31 (Operand.tmp 1) 0,type:=0,pos := "ref.go:55",after:=#[],guard:=none }
abbrev qo1:Oper:={ dst:=some 49,op:=Op.load 5 (Operand.tmp 48),type:=5,pos := "ref.go:55",after:=#[{ on:=0,ground:=Ground.data }],guard:=none }
abbrev qo2:Oper:={ dst:=some 50,op:=Op.binOp BinOp.eql 5 (Operand.tmp 49) (Operand.const (Value.int IntKind.u8 4)) 5,type:=4,pos := "ref.go:55",after:=#[{ on:=1,ground:=Ground.data }],guard:=none }
abbrev qo3:Oper:={ dst:=some 51,op:=Op.move (Operand.tmp 50),type:=4,pos := "ref.go:55",after:=#[{ on:=2,ground:=Ground.data }],guard:=none }
abbrev qo4:Oper:={ dst:=some 52,op:=Op.load 31 (Operand.tmp 1),type:=31,pos := "ref.go:55",after:=#[{ on:=3,ground:=Ground.guard }],guard:=some (3,true) }
abbrev qo5:Oper:={ dst:=some 53,op:=Op.move (Operand.tmp 5),type:=41,pos := "ref.go:55",after:=#[{ on:=3,ground:=Ground.guard }],guard:=some (3,true) }
abbrev qo6:Oper:={ dst:=some 54,op:=Op.move (Operand.tmp 6),type:=3,pos := "ref.go:55",after:=#[{ on:=3,ground:=Ground.guard }],guard:=some (3,true) }
abbrev qo7:Oper:={ dst:=some 55,op:=Op.indexAddr 41 (Operand.tmp 53) (Operand.tmp 54),type:=0,pos := "ref.go:55",after:=#[{ on:=5,ground:=Ground.data },{ on:=6,ground:=Ground.data },{ on:=3,ground:=Ground.guard }],guard:=some (3,true) }
abbrev qo8:Oper:={ dst:=some 56,op:=Op.load 49 (Operand.tmp 55),type:=49,pos := "ref.go:55",after:=#[{ on:=7,ground:=Ground.data },{ on:=3,ground:=Ground.guard }],guard:=some (3,true) }
abbrev qo9:Oper:={ dst:=some 57,op:=Op.call { callee:=Callee.value (Operand.func 80),args:=#[Operand.tmp 52,Operand.tmp 56],argTypes:=#[31,49] },type:=3,pos := "ref.go:55",after:=#[{ on:=4,ground:=Ground.data },{ on:=8,ground:=Ground.data },{ on:=3,ground:=Ground.chain },{ on:=3,ground:=Ground.guard }],guard:=some (3,true) }
abbrev qo10:Oper:={ dst:=some 58,op:=Op.binOp BinOp.geq 3 (Operand.tmp 57) (Operand.const (Value.int IntKind.i64 0)) 3,type:=4,pos := "ref.go:55",after:=#[{ on:=9,ground:=Ground.data },{ on:=3,ground:=Ground.guard }],guard:=some (3,true) }
abbrev qo11:Oper:={ dst:=some 59,op:=Op.pick (Operand.tmp 51) (Operand.tmp 58) (Operand.const (Value.bool false)),type:=4,pos := "ref.go:55",after:=#[{ on:=3,ground:=Ground.data },{ on:=10,ground:=Ground.data }],guard:=none }
def tkB (n:Nat→Int) (m:Mv):Bool:=(n 0==4)&&takesB n m
theorem filter_no {n:Nat→Int} {L:List Mv} {m:Mv} (h:tkB n m=false):(L ++ [m]).filter (tkB n)=L.filter (tkB n):=by
 rw [List.filter_append,List.filter_cons_of_neg (by rw [h];decide),List.filter_nil,List.append_nil]
theorem filter_yes {n:Nat→Int} {L:List Mv} {m:Mv} (h:tkB n m=true):(L ++ [m]).filter (tkB n)=L.filter (tkB n) ++ [m]:=by
 rw [List.filter_append,List.filter_cons_of_pos h,List.filter_nil]
theorem filter_tk (n:Nat→Int) (h:n 0=4) (L:List Mv):L.filter (tkB n)=L.filter (takesB n):=by
 apply List.filter_congr
 intro m _
 unfold tkB
 rw [h];rfl
theorem any_len (p:Mv→Bool) (L:List Mv):L.any p=true↔0<(L.filter p).length:=by
 rw [List.any_eq_true,List.length_pos_iff_exists_mem]
 constructor
 · rintro ⟨x,hx,hp⟩;exact ⟨x,List.mem_filter.2 ⟨hx,hp⟩⟩
 · rintro ⟨x,hx⟩;exact ⟨x,(List.mem_filter.1 hx).1,(List.mem_filter.1 hx).2⟩
theorem would17_any (n:Nat→Int) (hn:PosOk n) (t:Nat) (ht1:t≤1) (ht:n 78=t) (hv:n 0<9) (w:World):Calls Tryz.prog 30 #[.agg (posA n)] w fun e w' => ∃ v,e=.returned v∧OwnsM w' w.heap.size v (wouldL n)∧Below w.heap.size w w' := by
 have h78:n 78=0∨n 78=1:=by omega
 have h01:(t:Int)=0∨(t:Int)=1:=by omega
 have hth:thereN n=true:=by unfold thereN;rw [decide_eq_true hv,decide_eq_true (show n 78≤1 by omega)];rfl
 have HWD:=hI (show wouldL n=if royI (n 0).toNat (t:Int).toNat=true∧hasK n t=false then [] else if n 0=4∧(would0 n).any (takesB n)=true then (would0 n).filter (takesB n) else would0 n by
  unfold wouldL royC
  rw [ht]
  by_cases h:royI (n 0).toNat (t:Int).toNat=true∧hasK n t=false
  · rw [if_pos (.inr h),if_pos h]
  · rw [if_neg h, if_neg]
    rintro (h2 | h2)
    · rw [hth] at h2;cases h2
    · exact h h2)
 obtain ⟨v0,v1⟩:=hn.u8 0 (by decide) rfl
 have HTH:=hI (fun w=>there13_any n hn t ht h01 hv w)
 have HRO:=hI (rroyalI_any (n 0) (t:Int) v0 v1 (by omega) (by omega))
 have HKI:=hI (fun c w=>king17_any n hn c w)
 have HAL:=hI (fun w=>all16_any n hn t ht h01 hv w)
 have HMM:=hI (fun m (hm:m∈allL n)=>all_mvok h78 hv hm)
 have HMA:=hI (fun m (hm:m∈allL n) w=>made16_any n hn t ht1 ht hv m (HMM.out m hm).1 (HMM.out m hm).2 w)
 have HLE:=hI (fun m (hm:m∈allL n) w=>leaves17_any n (madeN n m) hn (movT_ok hn h78 (HMM.out m hm).1) t ht1 ht w)
 have HTK:=hI (fun m (hm:m∈allL n) w=>taken13_any n hn t ht h01 hv m (HMM.out m hm).1.ok (HMM.out m hm).1.f0 (HMM.out m hm).1.f1 (HMM.out m hm).1.t0 (HMM.out m hm).1.t1 w)
 have HTP:=hI (fun m=>takenP_is (n:=n) h78 hv (m:=m))
 have HL5:=allL_len5 (n:=n)
 obtain ⟨i0,hi,hz0,hz1,hz2⟩:=info_parts infoM
 have HI:=hI hi
 clear hi
 have L1:=lt_has n t
 obtain ⟨X,hX⟩:∃ X,w.alloc (.cells (posA n) 31)=X:=⟨_,rfl⟩
 obtain ⟨p0,hb⟩:=box1 w n X hX
 have HF:=hI (fun (U:World) (hU:Below X.heap.size X U)=>(show (U.cell? ⟨w.heap.size,0,none⟩=some (.int .u8 (n 0))∧U.cell? ⟨w.heap.size,78,none⟩=some (.int .u8 (t:Int)))∧(IsPos U w.heap.size∧rowOf U w.heap.size=posA n) from
  (fun hh=>⟨⟨hh.board 0 (by decide),by rw [← ht];exact hh.cell 78 (by decide)⟩,hh.rules⟩) (p0.below hU p0.lt)))
 have HX:=hI hX
 have HBX:=hI hb
 have HSX:=hI hb.size
 have hR:=Below.refl X.heap.size X
 obtain ⟨⟨c0,c1⟩,c2,c3⟩:=HF.out X hR
 clear hX p0 hb v0 v1 ht hth h01 h78
 obtain ⟨R,hRR⟩:∃ R,royI (n 0).toNat (t:Int).toNat=R:=⟨_,rfl⟩
 obtain ⟨K,hKK⟩:∃ K,hasK n t=K:=⟨_,rfl⟩
 rw [hRR] at HRO HWD
 rw [hKK] at L1 HWD
 by_cases hgo:R=true∧K=false
 case pos =>
  have HWD:=hI (HWD.out.trans (if_pos hgo))
  obtain ⟨rfl,rfl⟩:=hgo
  go_enter Tryz.func30,Tryz.ntmps30
  go_wp2_with (first | rw [HX.out] | (go_at_call 23;refine (HTH.out _).mono ?_;rintro e U ⟨rfl,h1⟩;have hR:=bT hR h1;obtain ⟨⟨c0,c1⟩,c2,c3⟩:=HF.out _ hR) | (go_at_call 78;refine (HRO.out _).mono ?_;rintro e U ⟨rfl,rfl⟩) | (go_at_call 56;refine (HKI.out _ _).mono ?_;rintro e U ⟨rfl,h1⟩;have hR:=bT hR h1;obtain ⟨⟨c0,c1⟩,c2,c3⟩:=HF.out _ hR))
  go_ret
  exact ⟨_,rfl,by rw [HWD.out];exact ownsM_nil _ _,HBX.out.trans (hR.mono HSX.out)⟩
 case neg =>
  have HWD2:=hI (HWD.out.trans (if_neg hgo))
  clear HWD
  rcases (show (R=false)∨(R=true∧K=true) by cases R <;> cases K <;> simp at hgo ⊢) with rfl | ⟨rfl,rfl⟩
  all_goals
   clear hgo
   go_enter Tryz.func30,Tryz.ntmps30
   go_wp2_with (first | rw [HX.out] | (go_at_call 23;refine (HTH.out _).mono ?_;rintro e U ⟨rfl,h1⟩;have hR:=bT hR h1;obtain ⟨⟨c0,c1⟩,c2,c3⟩:=HF.out _ hR) | (go_at_call 78;refine (HRO.out _).mono ?_;rintro e U ⟨rfl,rfl⟩) | (go_at_call 56;refine (HKI.out _ _).mono ?_;rintro e U ⟨rfl,h1⟩;have hR:=bT hR h1;obtain ⟨⟨c0,c1⟩,c2,c3⟩:=HF.out _ hR))
   refine (HAL.out _).mono ?_
   rintro e V ⟨vl,rfl,ho,h2⟩
   have hRV:=bT hR h2
   clear hR h2
   obtain ⟨va,vc,rfl,hall⟩:=moves_slice ho
   go_wp2
   go_loopg [3,4,6] (allL n).length (fun g ul ut i wr=>∃ j:Nat,j+g=(allL n).length∧i=.int .i64 j∧TwoR n V wr (((allL n).take j).filter (wellB n)) ((((allL n).take j).filter (wellB n)).filter (tkB n)) ul ut)
   case atStart=>exact ⟨0,by omega,rfl,⟨ownsM_nil _ _,ownsM_nil _ _,fun g h=>(by cases h),bR⟩⟩
   case round =>
    obtain ⟨j,hj,rfl,h2r⟩:=hrel
    by_cases hlt:j<(allL n).length
    · obtain ⟨g, rfl, hgB, hgl, q0, q1, q2, q3, q4⟩ := hall j hlt
      have hml:=List.getElem_mem hlt
      have HT1:=hI (take_succ_filter (wellB n) (allL n) j hlt)
      have hl1:(((allL n).take j).filter (wellB n)).length≤50000:=Nat.le_trans (List.length_filter_le _ _) (Nat.le_trans (List.length_take_le' _ _) HL5)
      generalize (allL n)[j]=m at *
      have hl2:((((allL n).take j).filter (wellB n)).filter (tkB n)).length≤50000:=Nat.le_trans (List.length_filter_le _ _) hl1
      have HA:=hI (HMA.out m hml)
      have HE:=hI (HLE.out m hml)
      have HK:=hI (HTK.out m hml)
      have HWE:=hI (show leavesB n (madeN n m)=wellB n m from rfl)
      rw [HWE.out] at HE
      have hlj:=hlt
      generalize hLL:((allL n).take j).filter (wellB n)=L at *
      have HG:=hI (fun (V2:World) (hb:Below V.heap.size V V2)=>(show (((V2.cell? ⟨w.heap.size,0,none⟩=some (.int .u8 (n 0))∧V2.cell? ⟨w.heap.size,78,none⟩=some (.int .u8 (t:Int)))∧(IsPos V2 w.heap.size∧rowOf V2 w.heap.size=posA n))∧(V2.cell? ⟨g,j*5,none⟩=some (.int .i8 m.f)∧V2.cell? ⟨g,j*5+1,none⟩=some (.int .i8 m.t)∧V2.cell? ⟨g,j*5+2,none⟩=some (.int .u8 m.p)∧V2.cell? ⟨g,j*5+3,none⟩=some (.int .u8 m.d)∧V2.cell? ⟨g,j*5+4,none⟩=some (.bool m.c)))∧Below V.heap.size V V2 from
       ⟨⟨HF.out _ (hRV.trans (hb.mono hRV.size)),(hb.cell (p:=⟨g,j*5,none⟩) hgl).trans q0,(hb.cell (p:=⟨g,j*5+1,none⟩) hgl).trans q1,(hb.cell (p:=⟨g,j*5+2,none⟩) hgl).trans q2,(hb.cell (p:=⟨g,j*5+3,none⟩) hgl).trans q3,(hb.cell (p:=⟨g,j*5+4,none⟩) hgl).trans q4⟩,hb⟩))
      have hRr:=h2r.be
      obtain ⟨⟨⟨⟨c0,c1⟩,c2,c3⟩,m0,m1,m2,m3,m4⟩,_⟩:=HG.out wr hRr
      have H2:=hI h2r
      have hszr:=h2r.be.size
      have HRV:=hI hRV
      clear h2r hall q0 q1 q2 q3 q4 hRV
      cases hw:wellB n m
      · rw [hw] at HE
        have HT1:=hI (HT1.out.trans (if_neg (by rw [hw];decide)))
        go_wp2
        go_region_held3 (fun V2=>(((V2.cell? ⟨w.heap.size,0,none⟩=some (.int .u8 (n 0))∧V2.cell? ⟨w.heap.size,78,none⟩=some (.int .u8 (t:Int)))∧(IsPos V2 w.heap.size∧rowOf V2 w.heap.size=posA n))∧(V2.cell? ⟨g,j*5,none⟩=some (.int .i8 m.f)∧V2.cell? ⟨g,j*5+1,none⟩=some (.int .i8 m.t)∧V2.cell? ⟨g,j*5+2,none⟩=some (.int .u8 m.p)∧V2.cell? ⟨g,j*5+3,none⟩=some (.int .u8 m.d)∧V2.cell? ⟨g,j*5+4,none⟩=some (.bool m.c)))∧Below V.heap.size V V2) ((refine HG.out _ ?_;repeat (first | exact bR | assumption | refine bD ?_ | refine bT ?_ (by assumption) | refine bl_new7 ?_))) ((first | (go_at_call 43;refine (HA.out _).mono ?_;rintro e w31 ⟨rfl,h1⟩) | (go_at_call 79;refine (HE.out _).mono ?_;rintro e w32 ⟨rfl,h2⟩)))
        have HRN:=hI (show TwoR n V w32 L (L.filter (tkB n)) u3 u4 from H2.out.kept (bT (bT (bD bR) h1) h2))
        go_wp2
        go_roundg ((allL n).length - (j+1))
        case measure=>omega
        case rel=>exact ⟨j+1,by omega,by go_num,by rw [HT1.out];exact HRN.out⟩
      · rw [hw] at HE
        have HT1:=hI (HT1.out.trans (if_pos hw))
        go_wp2
        go_region_held3 (fun V2=>(((V2.cell? ⟨w.heap.size,0,none⟩=some (.int .u8 (n 0))∧V2.cell? ⟨w.heap.size,78,none⟩=some (.int .u8 (t:Int)))∧(IsPos V2 w.heap.size∧rowOf V2 w.heap.size=posA n))∧(V2.cell? ⟨g,j*5,none⟩=some (.int .i8 m.f)∧V2.cell? ⟨g,j*5+1,none⟩=some (.int .i8 m.t)∧V2.cell? ⟨g,j*5+2,none⟩=some (.int .u8 m.p)∧V2.cell? ⟨g,j*5+3,none⟩=some (.int .u8 m.d)∧V2.cell? ⟨g,j*5+4,none⟩=some (.bool m.c)))∧Below V.heap.size V V2) ((refine HG.out _ ?_;repeat (first | exact bR | assumption | refine bD ?_ | refine bT ?_ (by assumption) | refine bl_new7 ?_))) ((first | (go_at_call 43;refine (HA.out _).mono ?_;rintro e w31 ⟨rfl,h1⟩) | (go_at_call 79;refine (HE.out _).mono ?_;rintro e w32 ⟨rfl,h2⟩)))
        have HRN:=hI (show TwoR n V w32 L (L.filter (tkB n)) u3 u4 from H2.out.kept (bT (bT (bD bR) h1) h2))
        have hsz32:=HRN.out.be.size
        obtain ⟨⟨⟨⟨c0,c1⟩,c2,c3⟩,m0,m1,m2,m3,m4⟩,_⟩:=HG.out w32 HRN.out.be
        clear h1 h2
        obtain ⟨f,hf⟩:∃ f,(m.f,m.t,m.p,m.d,m.c)=f:=⟨_,rfl⟩
        clear hf f
        go_wp2_with (at_builtin;go_loud (refine wpList_append_new _ rfl _ _ 41 rfl V.heap.size 49 i0 (.agg #[.int .i8 0,.int .i8 0,.int .u8 0,.int .u8 0,.bool false]) 5 5 Tryz.underlying41 HI.out hz0 hz1 hz2 rfl (by decide) u3 _ _ rfl (World.ownsRow.alloc HRN.out.ol _) ⟨w32.heap.size,0,none⟩ 1 1 (⟨m.f,m.t,m.p,m.d,m.c⟩:Mv).cells rfl rfl (cells5_new _ _ _ _ _ _ _) (by simp [Mv.cells,Value.oneCell']) (by unfold maxLen;omega) (by omega) (by simp;omega) (by decide) ?_);intro v5 w5 hown' hgrow3 hnew)
        have HR5:=hI (OwnsM.grown HRN.out.ol HRN.out.be HRN.out.be.size _ hgrow3)
        have HRN5:=hI (HRN.out.left hgrow3 hnew (OwnsM.app hown'))
        clear hown' hgrow3 hnew c0 c1 c2 c3 m0 m1 m2 m3 m4
        have hsz5:=HR5.out.size
        obtain ⟨⟨⟨⟨c0,c1⟩,c2,c3⟩,m0,m1,m2,m3,m4⟩,_⟩:=HG.out w5 HR5.out
        rcases (show (n 0==4)=false∨((n 0==4)=true∧takesB n m=false)∨((n 0==4)=true∧takesB n m=true) by cases (n 0==4) <;> cases takesB n m <;> simp) with e1 | ⟨e1,e2⟩ | ⟨e1,e2⟩
        all_goals
         refine wp_region_held_drew (S:=(fun V2=>(((V2.cell? ⟨w.heap.size,0,none⟩=some (.int .u8 (n 0))∧V2.cell? ⟨w.heap.size,78,none⟩=some (.int .u8 (t:Int)))∧(IsPos V2 w.heap.size∧rowOf V2 w.heap.size=posA n))∧(V2.cell? ⟨g,j*5,none⟩=some (.int .i8 m.f)∧V2.cell? ⟨g,j*5+1,none⟩=some (.int .i8 m.t)∧V2.cell? ⟨g,j*5+2,none⟩=some (.int .u8 m.p)∧V2.cell? ⟨g,j*5+3,none⟩=some (.int .u8 m.d)∧V2.cell? ⟨g,j*5+4,none⟩=some (.bool m.c)))∧Below V.heap.size V V2)) (by kernel_rfl) ?_ (fun hHeld=>?_)
         · (try dsimp only);(refine HG.out _ ?_;repeat (first | exact bR | assumption | exact HR5.out | refine bD ?_ | refine bT ?_ (by assumption) | refine bl_new7 ?_))
         (refine tl 0 (oi:=qo0) (v:=?_) ?_ ?_;rotate_left;(focus (intro w hSw;(try dsimp only at hSw);go_simp;try (with_reducible rfl)));try simp only [Act.put,lA,lB,lC])
         (refine tl 1 (oi:=qo1) (v:=?_) ?_ ?_;rotate_left;(focus (intro w hSw;(try dsimp only at hSw);go_simp;try (with_reducible rfl)));try simp only [Act.put,lA,lB,lC])
         (refine tl 2 (oi:=qo2) (v:=?_) ?_ ?_;rotate_left;(focus (intro w hSw;(try dsimp only at hSw);go_simp;try (with_reducible rfl)));try simp only [Act.put,lA,lB,lC])
         (refine tl 3 (oi:=qo3) (v:=?_) ?_ ?_;rotate_left;(focus (intro w hSw;(try dsimp only at hSw);go_simp;try (with_reducible rfl)));try simp only [Act.put,lA,lB,lC])
         first | (refine tl 4 (oi:=qo4) (v:=?_) ?_ ?_;rotate_left;(focus (intro w hSw;(try dsimp only at hSw);go_simp;try (with_reducible rfl)));try simp only [Act.put,lA,lB,lC]) | (refine tr 4 (oi:=qo4) ?_;try simp only [Act.put,lA,lB,lC])
         first | (refine tl 5 (oi:=qo5) (v:=?_) ?_ ?_;rotate_left;(focus (intro w hSw;(try dsimp only at hSw);go_simp;try (with_reducible rfl)));try simp only [Act.put,lA,lB,lC]) | (refine tr 5 (oi:=qo5) ?_;try simp only [Act.put,lA,lB,lC])
         first | (refine tl 6 (oi:=qo6) (v:=?_) ?_ ?_;rotate_left;(focus (intro w hSw;(try dsimp only at hSw);go_simp;try (with_reducible rfl)));try simp only [Act.put,lA,lB,lC]) | (refine tr 6 (oi:=qo6) ?_;try simp only [Act.put,lA,lB,lC])
         first | (refine tl 7 (oi:=qo7) (v:=?_) ?_ ?_;rotate_left;(focus (intro w hSw;(try dsimp only at hSw);go_simp;try (with_reducible rfl)));try simp only [Act.put,lA,lB,lC]) | (refine tr 7 (oi:=qo7) ?_;try simp only [Act.put,lA,lB,lC])
         first | (refine tl 8 (oi:=qo8) (v:=?_) ?_ ?_;rotate_left;(focus (intro w hSw;(try dsimp only at hSw);go_simp;try (with_reducible rfl)));try simp only [Act.put,lA,lB,lC]) | (refine tr 8 (oi:=qo8) ?_;try simp only [Act.put,lA,lB,lC])
         first
         | (refine tr 9 (oi:=qo9) ?_;try simp only [Act.put,lA,lB,lC])
         | refine wpAnyH_ready (rs := [9]) (by kernel_rfl) (by simp) ?_
           refine AllReadyH.cons (o:=qo9) rfl (fun K hK=>?_) AllReadyH.nil
           go_simp
           refine (HK.out _).mono ?_
           rintro e wk ⟨rfl,hbk⟩
           refine hK.out _ _ ?_ (fun hHeld=>?_)
           · (try dsimp only);(refine HG.out _ ?_;repeat (first | exact bR | assumption | exact HR5.out | refine bD ?_ | refine bT ?_ (by assumption) | refine bl_new7 ?_))
           clear hK K
           try simp only [Act.put,lA,lB,lC]
         first | (refine tl 10 (oi:=qo10) (v:=?_) ?_ ?_;rotate_left;(focus (intro w hSw;(try dsimp only at hSw);go_simp;try (with_reducible rfl)));try simp only [Act.put,lA,lB,lC]) | (refine tr 10 (oi:=qo10) ?_;try simp only [Act.put,lA,lB,lC])
         (refine tl 11 (oi:=qo11) (v:=?_) ?_ ?_;rotate_left;(focus (intro w hSw;(try dsimp only at hSw);go_simp;try (with_reducible rfl)));try simp only [Act.put,lA,lB,lC])
         refine wpAnyH_done (by kernel_rfl) ?_ _
        · have HFI := hideIt (filter_no (L := L) (show tkB n m = false by unfold tkB; rw [e1]; rfl))
          have HRN6:=hI (HRN5.out.kept (bD bR))
          go_wp2
          go_roundg ((allL n).length - (j+1))
          case measure=>omega
          case rel=>exact ⟨j+1,by omega,by go_num,by rw [HT1.out,HFI.out];exact HRN6.out⟩
        · have HFI := hideIt (filter_no (L := L) (show tkB n m = false by unfold tkB; rw [e1, e2]; rfl))
          have HRN6:=hI (HRN5.out.kept (bT (bD bR) hbk))
          have h4:takenN n m<0:=by unfold takesB at e2;rw [decide_eq_false_iff_not,HTP.out] at e2;omega
          clear hbk
          go_wp2
          go_roundg ((allL n).length - (j+1))
          case measure=>omega
          case rel=>exact ⟨j+1,by omega,by go_num,by rw [HT1.out,HFI.out];exact HRN6.out⟩
        · have HFI := hideIt (filter_yes (L := L) (show tkB n m = true by unfold tkB; rw [e1, e2]; rfl))
          have HRN6:=hI (HRN5.out.kept (bT (bD bR) hbk))
          have h4:0≤takenN n m:=by unfold takesB at e2;rw [decide_eq_true_iff,HTP.out] at e2;exact e2
          clear hbk c0 c1 c2 c3 m0 m1 m2 m3 m4
          have hsz6:=HRN6.out.be.size
          obtain ⟨⟨⟨⟨c0,c1⟩,c2,c3⟩,m0,m1,m2,m3,m4⟩,_⟩:=HG.out wk HRN6.out.be
          go_wp2_with (at_builtin;go_loud (refine wpList_append_new _ rfl _ _ 41 rfl V.heap.size 49 i0 (.agg #[.int .i8 0,.int .i8 0,.int .u8 0,.int .u8 0,.bool false]) 5 5 Tryz.underlying41 HI.out hz0 hz1 hz2 rfl (by decide) u4 _ _ rfl (World.ownsRow.alloc HRN6.out.ot _) ⟨wk.heap.size,0,none⟩ 1 1 (⟨m.f,m.t,m.p,m.d,m.c⟩:Mv).cells rfl rfl (cells5_new _ _ _ _ _ _ _) (by simp [Mv.cells,Value.oneCell']) (by unfold maxLen;omega) (by omega) (by simp;omega) (by decide) ?_);intro v6 w6 hown' hgrow3 hnew)
          have HRN7:=hI (HRN6.out.right hgrow3 hnew (OwnsM.app hown'))
          clear hown' hgrow3 hnew
          go_roundg ((allL n).length - (j+1))
          case measure=>omega
          case rel=>exact ⟨j+1,by omega,by go_num,by rw [HT1.out,HFI.out];exact HRN7.out⟩
    · obtain rfl : j = (allL n).length := by omega
      rw [List.take_length] at h2r
      have HS:=hI h2r
      obtain ⟨al,cl,hul⟩:=h2r.ol.len
      obtain ⟨at',ct,hut⟩:=h2r.ot.len
      have HO:=hI (show OwnsM wr w.heap.size u3 ((allL n).filter (wellB n)) from h2r.ol.less (Nat.le_trans HSX.out hRV.size))
      have HO2:=hI (show OwnsM wr w.heap.size u4 (((allL n).filter (wellB n)).filter (tkB n)) from h2r.ot.less (Nat.le_trans HSX.out hRV.size))
      have HBL:=hI (HBX.out.trans ((bT hRV h2r.be).mono HSX.out))
      obtain ⟨⟨c0,c1⟩,c2,c3⟩:=HF.out _ (bT hRV h2r.be)
      have HFT:=hI (filter_tk n)
      clear h2r hall hRV
      rw [show ((allL n).filter (wellB n))=would0 n from rfl] at *
      generalize would0 n=L0 at *
      subst hul
      subst hut
      by_cases e1:n 0=4
      · have e2 : (n 0 == 4) = true := beq_iff_eq.2 e1
        rw [HFT.out e1] at *
        have HA4:=hI (any_len (takesB n) L0)
        generalize L0.filter (takesB n)=L1 at *
        by_cases e3:0<L1.length
        · have HW2 := hideIt (HWD2.out.trans (if_pos ⟨e1, HA4.out.2 e3⟩))
          clear e1
          go_wp2
          go_ret
          exact ⟨_,rfl,by rw [HW2.out];exact HO2.out,HBL.out⟩
        · have HW2 := hideIt (HWD2.out.trans (if_neg (fun h => e3 (HA4.out.1 h.2))))
          clear e1
          go_wp2
          go_ret
          exact ⟨_,rfl,by rw [HW2.out];exact HO.out,HBL.out⟩
      · have e2 : (n 0 == 4) = false := beq_eq_false_iff_ne.2 e1
        have HW2:=hI (HWD2.out.trans (if_neg (fun h=>e1 h.1)))
        clear e1
        go_wp2
        go_ret
        exact ⟨_,rfl,by rw [HW2.out];exact HO.out,HBL.out⟩
abbrev qg0:Oper:={ dst:=some 36,op:=Op.move (Operand.tmp 5),type:=41,pos := "ref.go:90",after:=#[],guard:=none }
abbrev qg1:Oper:={ dst:=some 37,op:=Op.move (Operand.tmp 6),type:=3,pos := "ref.go:90",after:=#[],guard:=none }
abbrev qg2:Oper:={ dst:=some 38,op:=Op.indexAddr 41 (Operand.tmp 36) (Operand.tmp 37),type:=0,pos := "ref.go:90",after:=#[{ on:=0,ground:=Ground.data },{ on:=1,ground:=Ground.data }],guard:=none }
abbrev qg3:Oper:={ dst:=some 39,op:=Op.fieldAddr 49 (Operand.tmp 38) 0,type:=0,pos := "ref.go:90",after:=#[{ on:=2,ground:=Ground.data }],guard:=none }
abbrev qg4:Oper:={ dst:=some 40,op:=Op.load 26 (Operand.tmp 39),type:=26,pos := "ref.go:90",after:=#[{ on:=3,ground:=Ground.data }],guard:=none }
abbrev qg5:Oper:={ dst:=some 41,op:=Op.convert 26 3 (Operand.tmp 40),type:=3,pos := "ref.go:90",after:=#[{ on:=4,ground:=Ground.data }],guard:=none }
abbrev qg6:Oper:={ dst:=some 42,op:=Op.load 31 (Operand.tmp 1),type:=31,pos := "ref.go:90",after:=#[],guard:=none }
abbrev qg7:Oper:={ dst:=some 43,op:=Op.call { callee:=Callee.value (Operand.func 56),args:=#[Operand.tmp 42,Operand.const (Value.int IntKind.u8 1)],argTypes:=#[31,5] },type:=3,pos := "ref.go:90",after:=#[{ on:=6,ground:=Ground.data }],guard:=none }
abbrev qg8:Oper:={ dst:=some 44,op:=Op.binOp BinOp.eql 3 (Operand.tmp 41) (Operand.tmp 43) 3,type:=4,pos := "ref.go:90",after:=#[{ on:=5,ground:=Ground.data },{ on:=7,ground:=Ground.data }],guard:=none }
abbrev qg9:Oper:={ dst:=some 45,op:=Op.move (Operand.tmp 44),type:=4,pos := "ref.go:90",after:=#[{ on:=8,ground:=Ground.data },{ on:=7,ground:=Ground.chain }],guard:=none }
abbrev qg10:Oper:={ dst:=some 46,op:=Op.move (Operand.tmp 5),type:=41,pos := "ref.go:90",after:=#[{ on:=9,ground:=Ground.guard }],guard:=some (9,true) }
abbrev qg11:Oper:={ dst:=some 47,op:=Op.move (Operand.tmp 6),type:=3,pos := "ref.go:90",after:=#[{ on:=9,ground:=Ground.guard }],guard:=some (9,true) }
abbrev qg12:Oper:={ dst:=some 48,op:=Op.indexAddr 41 (Operand.tmp 46) (Operand.tmp 47),type:=0,pos := "ref.go:90",after:=#[{ on:=10,ground:=Ground.data },{ on:=11,ground:=Ground.data },{ on:=9,ground:=Ground.guard }],guard:=some (9,true) }
abbrev qg13:Oper:={ dst:=some 49,op:=Op.fieldAddr 49 (Operand.tmp 48) 1,type:=0,pos := "ref.go:90",after:=#[{ on:=12,ground:=Ground.data },{ on:=9,ground:=Ground.guard }],guard:=some (9,true) }
abbrev qg14:Oper:={ dst:=some 50,op:=Op.load 26 (Operand.tmp 49),type:=26,pos := "ref.go:90",after:=#[{ on:=13,ground:=Ground.data },{ on:=9,ground:=Ground.guard }],guard:=some (9,true) }
abbrev qg15:Oper:={ dst:=some 51,op:=Op.binOp BinOp.gtr 26 (Operand.tmp 50) (Operand.const (Value.int IntKind.i8 55)) 26,type:=4,pos := "ref.go:90",after:=#[{ on:=14,ground:=Ground.data },{ on:=9,ground:=Ground.guard }],guard:=some (9,true) }
abbrev qg16:Oper:={ dst:=some 52,op:=Op.pick (Operand.tmp 45) (Operand.tmp 51) (Operand.const (Value.bool false)),type:=4,pos := "ref.go:90",after:=#[{ on:=9,ground:=Ground.data },{ on:=15,ground:=Ground.data }],guard:=none }
theorem win17_v (c y:Int) (hc:c=0∨c=1) (w:World):Calls Tryz.prog 57 #[.int .u8 c,.int .u8 y] w fun e w' => e = .returned (.agg #[.int .u8 (1+c),.int .u8 y])∧Below w.heap.size w w' := win17_any c y hc w
/-- Of the moves that are looked at the king's that comes home is none yet. -/
def homeB (n:Nat→Int) (m:Mv):Bool:=(m.f==kSqC n 1)&&decide (56≤m.t)
theorem comes_yes {n:Nat→Int} {m:Mv} (hm:m∈wouldL n) (h:homeB n m=true):comesB n=true:=List.any_eq_true.2 ⟨m,hm,h⟩
theorem comes_no {n:Nat→Int} (h:∀ m∈wouldL n,homeB n m=false):comesB n=false:=by
 cases e:comesB n with
 | false=>rfl
 | true =>
   obtain ⟨m,hm,h2⟩:=List.any_eq_true.1 e
   have:=h m hm
   unfold homeB at this
   rw [this] at h2;cases h2
theorem racing17_any (n:Nat→Int) (hn:PosOk n) (t:Nat) (ht1:t≤1) (ht:n 78=t) (hv:n 0<9) (w:World):Calls Tryz.prog 60 #[.agg (posA n)] w fun e w' => e = .returned (resV (goalP n))∧Below w.heap.size w w' := by
 obtain ⟨X,hX⟩:∃ X,resX n w=X:=⟨_,rfl⟩
 obtain ⟨xp,xr,xb,xs⟩:=resX_at n w X hX
 have HX:=hI (show (w.alloc (.cells (posA n) 31)).alloc (.cells #[.int .u8 0,.int .u8 0] 39)=X from hX)
 have HF:=hI (fun V (hb:Below X.heap.size X V)=>(show V.cell? ⟨w.heap.size,78,none⟩=some (.int .u8 (t:Int))∧(IsPos V w.heap.size∧rowOf V w.heap.size=posA n)∧IsRes V (w.heap.size+1)∧Below w.heap.size w V from ⟨by rw [← ht];exact (xp.below hb xp.lt).cell 78 (by decide),(xp.below hb xp.lt).rules,xr.below hb (by omega),xb.trans (hb.mono xb.size)⟩))
 have HKI:=hI (fun c w=>king17_any n hn c w)
 have HWO:=hI (fun w=>would17_any n hn t ht1 ht hv w)
 have HW0:=hI (fun w=>win17_v 0 6 (.inl rfl) w)
 have HW1:=hI (fun w=>win17_v 1 6 (.inr rfl) w)
 have HGP:=hI (show goalP n=if 56≤kSqC n 0∧56≤kSqC n 1 then (3,6) else if 56≤kSqC n 1 then (2,6) else if kSqC n 0<56 then (0,0) else
 if (t:Int)=0 then (1,6) else if comesB n=true then (0,0) else (1,6) by unfold goalP;rw [ht])
 have HMK:=hI (fun m (hm:m∈wouldL n)=>(all_mvok (n:=n) (by omega) hv (wouldL_sub m hm)).1)
 have hlen:=wouldL_len (n:=n)
 have HBX:=hI xb
 have hszX:w.heap.size+2≤X.heap.size:=by omega
 have hR:=Below.refl X.heap.size X
 obtain ⟨c78,⟨i0,r0⟩,rr,_⟩:=HF.out X hR
 have h01:(t:Int)=0∨(t:Int)=1:=by omega
 clear hX xp xr xb xs ht
 have HKV:=hI (fun c=>(show -1≤kSqC n c∧kSqC n c<64 from by unfold kSqC;rcases first_cases (ofN n c 6) with ⟨_,h⟩ | ⟨i,hi,_,_,h⟩ <;> rw [h] <;> omega))
 have HHB:=hI (fun m=>(show homeB n m=((m.f==kSqC n 1)&&decide (56≤m.t)) from rfl))
 obtain ⟨a,ha⟩:∃ a,kSqC n 0=a:=⟨_,rfl⟩
 obtain ⟨b,hb⟩:∃ b,kSqC n 1=b:=⟨_,rfl⟩
 have HK0:=hI (fun w=>HKI.out 0 w)
 have HK1:=hI (fun w=>HKI.out 1 w)
 rw [ha] at HGP HK0
 rw [hb] at HGP HHB HK1
 have hbd:=HKV.out 1
 rw [hb] at hbd
 clear ha hb HKV HKI
 rcases (show (55<a∧55<b)∨(¬ 55<a∧55<b)∨(¬ 55<a∧¬ 55<b)∨(55<a∧¬ 55<b) by omega) with ⟨h1,h2⟩ | ⟨h1,h2⟩ | ⟨h1,h2⟩ | ⟨h1,h2⟩
 all_goals
  (try have e1:decide (55<a)=false:=decide_eq_false h1)
  (try have e2:decide (55<b)=false:=decide_eq_false h2)
  (try have e3:decide (55<a)=true:=decide_eq_true h1)
  (try have e4:decide (55<b)=true:=decide_eq_true h2)
  go_enter Tryz.func60,Tryz.ntmps60
  go_wp2_with (rw [HX.out])
  go_region_held3 (fun V2=>(IsPos V2 w.heap.size∧rowOf V2 w.heap.size=posA n)∧Below X.heap.size X V2) ((refine (fun hb=>⟨(HF.out _ hb).2.1,hb⟩) ?_;repeat (first | exact bR | assumption | refine bD ?_ | refine bT ?_ (by assumption)))) ((first | (refine (HK0.out _).mono ?_;rintro e w31 ⟨rfl,g1⟩) | (refine (HK1.out _).mono ?_;rintro e w32 ⟨rfl,g2⟩)))
  have hR:=And.right ‹(IsPos w32 w.heap.size∧rowOf w32 w.heap.size=posA n)∧Below X.heap.size X w32›
  clear c78 i0 r0 rr g1 g2
  obtain ⟨c78,⟨i0,r0⟩,rr,hlow⟩:=HF.out _ hR
  have HL:=hI hlow
  clear hlow
 · have HV := hideIt (HGP.out.trans (if_pos ⟨by omega, by omega⟩))
   go_wp2
   exact bodyPost_ret (v:=resV (3,6)) (res_result Tryz.results60 _ _ _ _ _ rfl (res_set rr _ _)) rfl ⟨ret_val (by rw [HV.out]),below_setRow HL.out (by omega) _⟩
 · have HV := hideIt (HGP.out.trans ((if_neg (by omega)).trans (if_pos (by omega))))
   go_wp2_with fail
   refine (HW1.out _).mono ?_
   rintro e U ⟨rfl,g3⟩
   have hR:=bT hR g3
   clear c78 i0 r0 rr g3
   obtain ⟨_,_,rr,hlow⟩:=HF.out _ hR
   have HL:=hI hlow
   clear hlow
   go_wp2
   exact bodyPost_ret (v:=resV (2,6)) (res_result Tryz.results60 _ _ _ _ _ rfl (res_set rr _ _)) rfl ⟨ret_val (by rw [HV.out]),below_setRow HL.out (by omega) _⟩
 · have HV := hideIt (HGP.out.trans ((if_neg (by omega)).trans ((if_neg (by omega)).trans (if_pos (by omega)))))
   go_wp2
   exact bodyPost_ret (v:=resV (0,0)) (res_result Tryz.results60 _ _ _ _ _ rfl (res_set rr _ _)) rfl ⟨ret_val (by rw [HV.out]),below_setRow HL.out (by omega) _⟩
 · have HV := hideIt (HGP.out.trans ((if_neg (by omega)).trans ((if_neg (by omega)).trans (if_neg (by omega)))))
   go_wp2_with fail
   refine (HWO.out _).mono ?_
   rintro e V ⟨vl,rfl,ho,g4⟩
   have HRV:=hI (bT hR g4)
   have hszV:=HRV.out.size
   obtain ⟨va,vc,rfl,hall⟩:=moves_slice ho
   clear c78 i0 r0 rr g4 hR ho
   go_wp2
   go_loopg [6] (wouldL n).length (fun g i wr=>∃ j:Nat,j+g=(wouldL n).length∧i=.int .i64 j∧(0<j→(t:Int)=1)∧(∀ k (hk:k<(wouldL n).length),k<j→homeB n ((wouldL n)[k])=false)∧Below V.heap.size V wr)
   case atStart=>exact ⟨0,by omega,rfl,fun h=>absurd h (by decide),fun k hk h=>absurd h (Nat.not_lt_zero k),bR⟩
   case round =>
    obtain ⟨j,hj,rfl,hj0,hno,hr⟩:=hrel
    have HJ0:=hI hj0
    have HNO:=hI hno
    have HR5:=hI hr
    obtain ⟨c78,⟨i0,r0⟩,rr,hlow⟩:=HF.out _ (bT HRV.out hr)
    have HL2:=hI hlow
    clear hj0 hno hr hlow
    by_cases hlt:j<(wouldL n).length
    · obtain ⟨g, rfl, hgB, hgl, q0, q1, q2, q3, q4⟩ := hall j hlt
      have hml:=List.getElem_mem hlt
      have HMO:=hI (HMK.out _ hml)
      have HH:=hI (HHB.out ((wouldL n)[j]))
      have HYES:=hI (fun h=>comes_yes hml h)
      have HNX:=hI (fun h:homeB n ((wouldL n)[j])=false=>(show ∀ k (hk:k<(wouldL n).length),k<j+1→homeB n ((wouldL n)[k])=false from fun k hk hkj=>by
       by_cases e:k=j
       · subst e;exact h
       · exact HNO.out k hk (by omega)))
      generalize (wouldL n)[j]=m at *
      have hm0:=HMO.out.f0
      have hm1:=HMO.out.f1
      have wm:IntKind.i64.wrap m.f=m.f:=IntWalk.i64_in _ (by omega)
      have p0:=(HR5.out.cell (p:=⟨g,j*5,none⟩) hgl).trans q0
      have p1:=(HR5.out.cell (p:=⟨g,j*5+1,none⟩) hgl).trans q1
      rcases h01 with h78 | h78
      · have HV2 := hideIt (HV.out.trans (if_pos h78))
        have e1:((t:Int)==1)=false:=by rw [h78];rfl
        clear h78 hall q0 q1 q2 q3 q4 p0 p1
        clear rr
        go_wp2_with fail
        refine (HW0.out _).mono ?_
        rintro e U ⟨rfl,g3⟩
        obtain ⟨_,_,rr,hlow⟩:=HF.out _ (bT HRV.out (bT HR5.out g3))
        go_wp2
        exact bodyPost_ret (v:=resV (1,6)) (res_result Tryz.results60 _ _ _ _ _ rfl (res_set rr _ _)) rfl ⟨ret_val (by rw [HV2.out]),below_setRow hlow (by omega) _⟩
      · have e1 : ((t : Int) == 1) = true := by rw [h78]; rfl
        have HV1:=hI (HV.out.trans (if_neg (by omega)))
        have hjt:=hI h78
        clear h78 hall q2 q3 q4
        have d7:∀ W,Below V.heap.size V W→Below X.heap.size X W:=fun W h=>bT HRV.out h
        have D7:=hI d7
        clear d7
        rcases (show (m.f==b)=false∨((m.f==b)=true∧¬ 55<m.t)∨((m.f==b)=true∧55<m.t) by
         cases (m.f==b)
         · exact .inl rfl
         · by_cases h : 55 < m.t
           · exact .inr (.inr ⟨rfl,h⟩)
           · exact .inr (.inl ⟨rfl,h⟩)) with e5 | ⟨e5,e6⟩ | ⟨e5,e6⟩
        all_goals
         go_wp2_with fail
         refine wp_region_held_drew (S:=(fun V2=>((IsPos V2 w.heap.size∧rowOf V2 w.heap.size=posA n)∧(V2.cell? ⟨g,j*5,none⟩=some (.int .i8 m.f)∧V2.cell? ⟨g,j*5+1,none⟩=some (.int .i8 m.t)))∧Below V.heap.size V V2)) (by kernel_rfl) ?_ (fun hHeld=>?_)
         · (try dsimp only);(refine (fun hb=>⟨⟨(HF.out _ (bT HRV.out hb)).2.1,(hb.cell (p:=⟨g,j*5,none⟩) hgl).trans q0,(hb.cell (p:=⟨g,j*5+1,none⟩) hgl).trans q1⟩,hb⟩) ?_;repeat (first | exact bR | assumption | exact HR5.out | refine bD ?_ | refine bT ?_ (by assumption)))
         (refine tl 0 (oi:=qg0) (v:=?_) ?_ ?_;rotate_left;(focus (intro w hSw;(try dsimp only at hSw);go_simp;try (with_reducible rfl)));try simp only [Act.put,lA,lB,lC])
         (refine tl 1 (oi:=qg1) (v:=?_) ?_ ?_;rotate_left;(focus (intro w hSw;(try dsimp only at hSw);go_simp;try (with_reducible rfl)));try simp only [Act.put,lA,lB,lC])
         (refine tl 2 (oi:=qg2) (v:=?_) ?_ ?_;rotate_left;(focus (intro w hSw;(try dsimp only at hSw);go_simp;try (with_reducible rfl)));try simp only [Act.put,lA,lB,lC])
         (refine tl 3 (oi:=qg3) (v:=?_) ?_ ?_;rotate_left;(focus (intro w hSw;(try dsimp only at hSw);go_simp;try (with_reducible rfl)));try simp only [Act.put,lA,lB,lC])
         (refine tl 4 (oi:=qg4) (v:=?_) ?_ ?_;rotate_left;(focus (intro w hSw;(try dsimp only at hSw);go_simp;try (with_reducible rfl)));try simp only [Act.put,lA,lB,lC])
         (refine tl 5 (oi:=qg5) (v:=?_) ?_ ?_;rotate_left;(focus (intro w hSw;(try dsimp only at hSw);go_simp;try (with_reducible rfl)));try simp only [Act.put,lA,lB,lC])
         (refine tl 6 (oi:=qg6) (v:=?_) ?_ ?_;rotate_left;(focus (intro w hSw;(try dsimp only at hSw);go_simp;try (with_reducible rfl)));try simp only [Act.put,lA,lB,lC])
         refine wpAnyH_ready (rs:=[7]) (by kernel_rfl) (by simp) ?_
         refine AllReadyH.cons (o:=qg7) rfl (fun K hK=>?_) AllReadyH.nil
         go_simp
         refine (HK1.out _).mono ?_
         rintro e wk ⟨rfl,hbk⟩
         refine hK.out _ _ ?_ (fun hHeld=>?_)
         · (try dsimp only);(refine (fun hb=>⟨⟨(HF.out _ (bT HRV.out hb)).2.1,(hb.cell (p:=⟨g,j*5,none⟩) hgl).trans q0,(hb.cell (p:=⟨g,j*5+1,none⟩) hgl).trans q1⟩,hb⟩) ?_;repeat (first | exact bR | assumption | exact HR5.out | refine bD ?_ | refine bT ?_ (by assumption)))
         clear hK K
         try simp only [Act.put,lA,lB,lC]
         (refine tl 8 (oi:=qg8) (v:=?_) ?_ ?_;rotate_left;(focus (intro w hSw;(try dsimp only at hSw);go_simp;try (with_reducible rfl)));try simp only [Act.put,lA,lB,lC])
         (refine tl 9 (oi:=qg9) (v:=?_) ?_ ?_;rotate_left;(focus (intro w hSw;(try dsimp only at hSw);go_simp;try (with_reducible rfl)));try simp only [Act.put,lA,lB,lC])
         first | (refine tl 10 (oi:=qg10) (v:=?_) ?_ ?_;rotate_left;(focus (intro w hSw;(try dsimp only at hSw);go_simp;try (with_reducible rfl)));try simp only [Act.put,lA,lB,lC]) | (refine tr 10 (oi:=qg10) ?_;try simp only [Act.put,lA,lB,lC])
         first | (refine tl 11 (oi:=qg11) (v:=?_) ?_ ?_;rotate_left;(focus (intro w hSw;(try dsimp only at hSw);go_simp;try (with_reducible rfl)));try simp only [Act.put,lA,lB,lC]) | (refine tr 11 (oi:=qg11) ?_;try simp only [Act.put,lA,lB,lC])
         first | (refine tl 12 (oi:=qg12) (v:=?_) ?_ ?_;rotate_left;(focus (intro w hSw;(try dsimp only at hSw);go_simp;try (with_reducible rfl)));try simp only [Act.put,lA,lB,lC]) | (refine tr 12 (oi:=qg12) ?_;try simp only [Act.put,lA,lB,lC])
         first | (refine tl 13 (oi:=qg13) (v:=?_) ?_ ?_;rotate_left;(focus (intro w hSw;(try dsimp only at hSw);go_simp;try (with_reducible rfl)));try simp only [Act.put,lA,lB,lC]) | (refine tr 13 (oi:=qg13) ?_;try simp only [Act.put,lA,lB,lC])
         first | (refine tl 14 (oi:=qg14) (v:=?_) ?_ ?_;rotate_left;(focus (intro w hSw;(try dsimp only at hSw);go_simp;try (with_reducible rfl)));try simp only [Act.put,lA,lB,lC]) | (refine tr 14 (oi:=qg14) ?_;try simp only [Act.put,lA,lB,lC])
         first | (refine tl 15 (oi:=qg15) (v:=?_) ?_ ?_;rotate_left;(focus (intro w hSw;(try dsimp only at hSw);go_simp;try (with_reducible rfl)));try simp only [Act.put,lA,lB,lC]) | (refine tr 15 (oi:=qg15) ?_;try simp only [Act.put,lA,lB,lC])
         (refine tl 16 (oi:=qg16) (v:=?_) ?_ ?_;rotate_left;(focus (intro w hSw;(try dsimp only at hSw);go_simp;try (with_reducible rfl)));try simp only [Act.put,lA,lB,lC])
         refine wpAnyH_done (by kernel_rfl) ?_ _
        iterate 2
         focus
          have HN:=hI (HNX.out (HH.out.trans (by (try rw [e5]);(try rw [decide_eq_false (show ¬ 56≤m.t by omega)]);simp)))
          have hR6:=And.right hHeld
          clear hHeld
          go_wp2
          go_roundg ((wouldL n).length - (j+1))
          case measure=>omega
          case rel=>exact ⟨j+1,by omega,by go_num,fun _=>hjt.out,HN.out,hR6⟩
        have HV2:=hI (HV1.out.trans (if_pos (HYES.out (HH.out.trans (by rw [e5,decide_eq_true (show 56≤m.t by omega)];rfl)))))
        have hR6:=And.right hHeld
        clear hHeld c78 i0 r0 rr
        obtain ⟨_,_,rr,hlow⟩:=HF.out _ (D7.out _ hR6)
        have HL:=hI hlow
        clear hlow
        go_wp2
        exact bodyPost_ret (v:=resV (0,0)) (res_result Tryz.results60 _ _ _ _ _ rfl (res_set rr _ _)) rfl ⟨ret_val (by rw [HV2.out]),below_setRow HL.out (by omega) _⟩
    · have HV2 := hideIt (show goalP n = (1, 6) from HV.out.trans (by
       rcases h01 with h78 | h78
       · rw [if_pos h78]
       · rw [if_neg (by omega), if_neg]
         rw [Bool.not_eq_true]
         apply comes_no
         intro m hm
         obtain ⟨k,hk,rfl⟩:=List.getElem_of_mem hm
         exact HNO.out k hk (by omega)))
      obtain rfl:j=(wouldL n).length:=by omega
      clear rr
      go_wp2_with fail
      refine (HW0.out _).mono ?_
      rintro e U ⟨rfl,g3⟩
      obtain ⟨_,_,rr,hlow⟩:=HF.out _ (bT HRV.out (bT HR5.out g3))
      go_wp2
      exact bodyPost_ret (v:=resV (1,6)) (res_result Tryz.results60 _ _ _ _ _ rfl (res_set rr _ _)) rfl ⟨ret_val (by rw [HV2.out]),below_setRow hlow (by omega) _⟩
theorem res_put (V:World) (a b:Int) (Y:World) (h:(V.alloc (.cells #[.int .u8 0,.int .u8 0] 39)).setRow V.heap.size #[.int .u8 a,.int .u8 b]=Y) :
 Y.heap[V.heap.size]?=some (.cells #[.int .u8 a,.int .u8 b] 39 (0,0))∧Below V.heap.size V Y∧Y.cell? ⟨V.heap.size,0,none⟩=some (.int .u8 a)∧Y.cell? ⟨V.heap.size,1,none⟩=some (.int .u8 b):=by
 have e:Y.heap[V.heap.size]?=some (.cells #[.int .u8 a,.int .u8 b] 39 (0,0)):=by rw [← h];exact res_set (isRes_new V 0 0) a b
 refine ⟨e,?_,?_,?_⟩
 · rw [← h];exact below_setRow (bR.alloc lR _) lR _
 · rw [cell_of_row Y _ 0 _ _ _ e];rfl
 · rw [cell_of_row Y _ 1 _ _ _ e];rfl
theorem won17_any (n:Nat→Int) (hn:PosOk n) (t:Nat) (ht1:t≤1) (ht:n 78=t) (v:Nat) (hv9:v<9) (hv:n 0=v) (w:World):Calls Tryz.prog 24 #[.agg (posA n)] w fun e w' => e = .returned (resV (wonP n))∧Below w.heap.size w w' := by
 obtain ⟨X,hX⟩:∃ X,resX n w=X:=⟨_,rfl⟩
 obtain ⟨xp,xr,xb,xs⟩:=resX_at n w X hX
 have HX:=hI (show (w.alloc (.cells (posA n) 31)).alloc (.cells #[.int .u8 0,.int .u8 0] 39)=X from hX)
 have kc:∀ i,i<2→kindAt (84+i)=.u8:=fun i hi=>by unfold kindAt;rw [if_neg (by omega),if_neg (by omega),if_neg (by omega),if_neg (by omega),if_pos (by omega)]
 have HF:=hI (fun V (hb:Below X.heap.size X V)=>(show (V.cell? ⟨w.heap.size,0,none⟩=some (.int .u8 (v:Int))∧V.cell? ⟨w.heap.size,78,none⟩=some (.int .u8 (t:Int))∧(∀ i,i<2→V.cell? ⟨w.heap.size,84+i,none⟩=some (.int .u8 (n (84+i)))))∧(IsPos V w.heap.size∧rowOf V w.heap.size=posA n)∧IsRes V (w.heap.size+1)∧Below w.heap.size w V from
  ⟨⟨by rw [← hv];exact (xp.below hb xp.lt).board 0 (by decide),by rw [← ht];exact (xp.below hb xp.lt).cell 78 (by decide),fun i hi=>by rw [← kc i hi];exact (xp.below hb xp.lt).cell (84+i) (by omega)⟩,(xp.below hb xp.lt).rules,xr.below hb (by omega),xb.trans (hb.mono xb.size)⟩))
 have h01:(t:Int)=0∨(t:Int)=1:=by omega
 have HTH:=hI (fun w=>there13_any n hn t ht h01 (by omega) w)
 have HKM:=hI (fun w=>king17_any n hn (t:Int) w)
 have HKO:=hI (fun w=>king17_any n hn (1 - (t:Int)) w)
 have HM:=hI (fun c w=>men17_any n hn c w)
 have HHI:=hI (fun s w=>hill17_any s w)
 have HRA:=hI (fun w=>racing17_any n hn t ht1 ht (by omega) w)
 have HWM:=hI (fun y w=>win17_v (t:Int) y h01 w)
 have HWO:=hI (fun y w=>(show Calls Tryz.prog 57 #[.int .u8 (1 - (t:Int)),.int .u8 y] w fun e w' => e = .returned (.agg #[.int .u8 (2 - (t:Int)),.int .u8 y])∧Below w.heap.size w w' from by
  have:=win17_v (1 - (t:Int)) y (by omega) w
  rwa [show 1+(1 - (t:Int))=2 - t by omega] at this))
 have HWB:=hI (fun y w=>win17_v 1 y (.inr rfl) w)
 have w13:IntKind.u8.wrap (1 - (t:Int))=1 - t:=IntWalk.u8_in _ (by omega)
 have HWP:=hI (show wonP n=if (v:Int)=3 then (if hasK n t=true then (0,0) else (2 - (t:Int),6)) else
 if (v:Int)=5 then (if 3≤n (84+(1 - t)) then (2 - (t:Int),7) else if 3≤n (84+t) then (1+(t:Int),7) else (0,0)) else
 if (v:Int)=6 then (if hillI (kSqC n (1 - (t:Int)))=true then (2 - (t:Int),6) else if hillI (kSqC n t)=true then (1+(t:Int),6) else (0,0)) else
 if (v:Int)=7 then (if menB0 n 0=true then (0,0) else (2,8)) else
 if (v:Int)=4 then (if menB0 n t=false then (1+(t:Int),8) else if menB0 n (1 - (t:Int))=false then (2 - (t:Int),8) else (0,0)) else
 if (v:Int)=8 then goalP n else (0,0) by unfold wonP;rw [hv,ht,show (1 - (t:Int)).toNat=1 - t by omega,show ((t:Nat):Int).toNat=t from rfl])
 have HHS:=hI (show hasK n t=decide (0≤kSqC n t) from rfl)
 have hR:=Below.refl X.heap.size X
 obtain ⟨⟨c0,c78,cc⟩,⟨i0,r0⟩,rr,_⟩:=HF.out X hR
 have HBX:=hI xb
 have hszX:w.heap.size+2≤X.heap.size:=by omega
 clear hX xp xr xb xs ht hv kc cc
 have o1:(0:Int)≤1 - t:=by omega
 have HC:∀ V,Below X.heap.size X V→V.cell? ⟨w.heap.size,84+(1 - t),none⟩=some (.int .u8 (n (84+(1 - t))))∧V.cell? ⟨w.heap.size,84+t,none⟩=some (.int .u8 (n (84+t))):=fun V hb=>⟨(HF.out V hb).1.2.2 (1 - t) (by omega),(HF.out V hb).1.2.2 t (by omega)⟩
 have HC:=hI HC
 generalize n (84+(1 - t))=x at *
 generalize n (84+t)=y at *
 have D:((v=0∨v=1∨v=2)∧wonP n=(0,0)) ∨
  (v=3∧kSqC n t<0∧wonP n=(2 - (t:Int),6))∨(v=3∧¬ kSqC n t<0∧wonP n=(0,0)) ∨
  (v=4∧menB0 n t=false∧wonP n=(1+(t:Int),8))∨(v=4∧(menB0 n t=true∧menB0 n (1 - (t:Int))=false)∧wonP n=(2 - (t:Int),8))∨(v=4∧(menB0 n t=true∧menB0 n (1 - (t:Int))=true)∧wonP n=(0,0)) ∨
  (v=5∧3≤x∧wonP n=(2 - (t:Int),7))∨(v=5∧(¬ 3≤x∧3≤y)∧wonP n=(1+(t:Int),7))∨(v=5∧(¬ 3≤x∧¬ 3≤y)∧wonP n=(0,0)) ∨
  (v=6∧(hillI (kSqC n (1 - (t:Int)))=false∧hillI (kSqC n t)=false)∧wonP n=(0,0))∨(v=6∧(hillI (kSqC n (1 - (t:Int)))=false∧hillI (kSqC n t)=true)∧wonP n=(1+(t:Int),6))∨(v=6∧hillI (kSqC n (1 - (t:Int)))=true∧wonP n=(2 - (t:Int),6)) ∨
  (v=7∧menB0 n 0=false∧wonP n=(2,8))∨(v=7∧menB0 n 0=true∧wonP n=(0,0))∨(v=8∧wonP n=goalP n):=by
  have hw:=HWP.out
  rw [HHS.out] at hw
  rcases (show v=0∨v=1∨v=2∨v=3∨v=4∨v=5∨v=6∨v=7∨v=8 by omega) with rfl | rfl | rfl | rfl | rfl | rfl | rfl | rfl | rfl
  all_goals simp at hw
  iterate 3 · exact .inl ⟨by simp,hw⟩
  · by_cases h : kSqC n t < 0
    · rw [if_neg (by omega)] at hw;simp [h,hw]
    · rw [if_pos (by omega)] at hw;simp [h,hw]
  · cases h1:menB0 n t <;> cases h2:menB0 n (1 - (t:Int)) <;> simp [h1,h2] at hw <;> simp [hw]
  · by_cases h1:3≤x <;> by_cases h2:3≤y <;> simp [h1,h2] at hw <;> simp [h1,h2,hw]
  · cases h1:hillI (kSqC n (1 - (t:Int))) <;> cases h2:hillI (kSqC n t) <;> simp [h1,h2] at hw <;> simp [hw]
  · cases h1:menB0 n 0 <;> simp [h1] at hw <;> simp [hw]
  · simp [hw]
 rcases D with ⟨rfl | rfl | rfl,hV⟩ | ⟨rfl,e1,hV⟩ | ⟨rfl,e1,hV⟩ | ⟨rfl,e1,hV⟩ | ⟨rfl,⟨e1,e2⟩,hV⟩ | ⟨rfl,⟨e1,e2⟩,hV⟩ | ⟨rfl,e1,hV⟩ | ⟨rfl,⟨e1,e2⟩,hV⟩ | ⟨rfl,⟨e1,e2⟩,hV⟩ | ⟨rfl,⟨e1,e2⟩,hV⟩ | ⟨rfl,⟨e1,e2⟩,hV⟩ | ⟨rfl,e1,hV⟩ | ⟨rfl,e1,hV⟩ | ⟨rfl,e1,hV⟩ | ⟨rfl,hV⟩
 all_goals
  have HV:=hI hV
  clear hV
  unfold resV at HRA
  generalize goalP n=gp at *
  obtain ⟨ga,gb⟩:=gp
  dsimp only at HRA
  generalize kSqC n t=k at *
  go_enter Tryz.func24,Tryz.ntmps24
  go_wp2_with (first | rw [HX.out] | (refine (HTH.out _).mono ?_;rintro e U ⟨rfl,h1⟩;have hR:=bT hR h1;clear c0 c78 i0 r0 rr h1;obtain ⟨⟨c0,c78,_⟩,⟨i0,r0⟩,rr,hlow⟩:=HF.out _ hR))
  go_quiet (fail)
  obtain ⟨V,hV⟩:∃ V,U.drewN nq=V:=⟨_,rfl⟩
  have hR:=bT hR (show Below U.heap.size U V by rw [← hV];exact blN _ _)
  rw [hV]
  clear hV c0 c78 i0 r0 rr
  obtain ⟨⟨c0,c78,_⟩,⟨i0,r0⟩,rr,_⟩:=HF.out _ hR
  obtain ⟨d1,d2⟩:=HC.out _ hR
  go_wp2_with (first | (go_at_call 56;(first | (with_reducible refine (HKM.out _).mono ?_) | (with_reducible refine (HKO.out _).mono ?_));rintro e U ⟨rfl,h1⟩;have hR:=bT hR h1;clear c0 c78 i0 r0 rr h1;obtain ⟨⟨c0,c78,_⟩,⟨i0,r0⟩,rr,_⟩:=HF.out _ hR;(try (clear d1 d2;obtain ⟨d1,d2⟩:=HC.out _ hR))) | (go_at_call 58;refine (HHI.out _ _).mono ?_;rintro e U ⟨rfl,rfl⟩) | (go_at_call 59;refine (HM.out _ _).mono ?_;rintro e U ⟨rfl,h1⟩;have hR:=bT hR h1;clear c0 c78 i0 r0 rr h1;obtain ⟨⟨c0,c78,_⟩,⟨i0,r0⟩,rr,_⟩:=HF.out _ hR;(try (clear d1 d2;obtain ⟨d1,d2⟩:=HC.out _ hR))) | (go_at_call 57;(first | (with_reducible refine (HWO.out _ _).mono ?_) | (with_reducible refine (HWM.out _ _).mono ?_) | (with_reducible refine (HWB.out _ _).mono ?_));rintro e U ⟨rfl,h1⟩;have hR:=bT hR h1;clear c0 c78 i0 r0 rr h1;obtain ⟨⟨c0,c78,_⟩,⟨i0,r0⟩,rr,_⟩:=HF.out _ hR;(try (clear d1 d2;obtain ⟨d1,d2⟩:=HC.out _ hR))) | (go_at_call 60;refine (HRA.out _).mono ?_;rintro e U ⟨rfl,h1⟩;have hR:=bT hR h1;clear c0 c78 i0 r0 rr h1;obtain ⟨⟨c0,c78,_⟩,⟨i0,r0⟩,rr,_⟩:=HF.out _ hR;(try (clear d1 d2;obtain ⟨d1,d2⟩:=HC.out _ hR))))
  exact bodyPost_ret (v:=resV (_,_)) (res_result Tryz.results24 _ _ _ _ _ rfl (res_set rr _ _)) rfl ⟨ret_val (by rw [HV.out]),below_setRow (HF.out _ hR).2.2.2 (by omega) _⟩
theorem list17_any (n:Nat→Int) (hn:PosOk n) (t:Nat) (ht1:t≤1) (ht:n 78=t) (v:Nat) (hv9:v<9) (hv:n 0=v) (w:World):Calls Tryz.prog 13 #[.agg (posA n)] w fun e w' => ∃ v,e=.returned v∧OwnsM w' w.heap.size v (listL n)∧Below w.heap.size w w' := by
 obtain ⟨X,hX⟩:∃ X,w.alloc (.cells (posA n) 31)=X:=⟨_,rfl⟩
 obtain ⟨p0,hb⟩:=box1 w n X hX
 have HW:=hI (fun V=>won17_any n hn t ht1 ht v hv9 hv V)
 have HL:=hI (fun V=>would17_any n hn t ht1 ht (by omega) V)
 have HF:=hI (fun V (h:Below X.heap.size X V)=>(p0.below h p0.lt).rules)
 have HX:=hI hX
 have HB:=hI hb
 have hS:=hb.size
 obtain ⟨i0,r0⟩:=p0.rules
 have HLL:=hI (show listL n=if (wonP n).1=0 then wouldL n else [] from rfl)
 obtain ⟨⟨ra,rb⟩,hr⟩:∃ r,wonP n=r:=⟨_,rfl⟩
 rw [hr] at HW HLL
 unfold resV at HW
 dsimp only at HW HLL
 clear hX p0 hb hv hr
 by_cases hra:ra=0
 · have HLL := hideIt (HLL.out.trans (if_pos hra))
   subst hra
   go_enter Tryz.func13,Tryz.ntmps13
   go_wp2_with (first | rw [HX.out] | (go_at_call 24;refine (HW.out _).mono ?_;rintro e V ⟨rfl,h1⟩;obtain ⟨Y,hY⟩:∃ Y,(V.alloc (.cells #[.int .u8 0,.int .u8 0] 39)).setRow V.heap.size #[.int .u8 0,.int .u8 rb]=Y:=⟨_,rfl⟩;obtain ⟨_,hYV,cy,_⟩:=res_put V _ _ Y hY;have hYB:=bT h1 hYV;clear hYV;have HY:=hI hY;clear i0 r0 hY;obtain ⟨i0,r0⟩:=HF.out Y hYB) | rw [HY.out])
   refine (HL.out _).mono ?_
   rintro e U ⟨v,rfl,ho,h2⟩
   go_wp2
   go_ret
   exact ⟨_,rfl,by rw [HLL.out];exact ho.less (Nat.le_trans hS hYB.size),HB.out.trans ((bT hYB h2).mono hS)⟩
 · have HLL := hideIt (HLL.out.trans (if_neg hra))
   have hb:(ra==0)=false:=beq_eq_false_iff_ne.2 hra
   have hb:(ra != 0)=true:=by rw [bne,hb];rfl
   go_enter Tryz.func13,Tryz.ntmps13
   go_wp2_with (first | rw [HX.out] | (go_at_call 24;refine (HW.out _).mono ?_;rintro e V ⟨rfl,h1⟩;obtain ⟨Y,hY⟩:∃ Y,(V.alloc (.cells #[.int .u8 0,.int .u8 0] 39)).setRow V.heap.size #[.int .u8 ra,.int .u8 rb]=Y:=⟨_,rfl⟩;obtain ⟨_,hYV,cy,_⟩:=res_put V _ _ Y hY;have hYB:=bT h1 hYV;clear hYV;have HY:=hI hY;clear i0 r0 hY;obtain ⟨i0,r0⟩:=HF.out Y hYB) | rw [HY.out])
   go_ret
   exact ⟨_,rfl,by rw [HLL.out];exact ownsM_nil _ _,HB.out.trans (hYB.mono hS)⟩
theorem draw_any (y:Int) (w:World):Calls Tryz.prog 126 #[.int .u8 y] w fun e w' => e = .returned (.agg #[.int .u8 3,.int .u8 y])∧Below w.heap.size w w' := by
 obtain ⟨X,hX⟩:∃ X,w.alloc (.cells #[.int .u8 0,.int .u8 0] 39)=X:=⟨_,rfl⟩
 have hr:IsRes X w.heap.size:=by rw [← hX];exact isRes_new w 0 0
 have hb:Below w.heap.size w X:=by rw [← hX];exact bR.alloc lR _
 have HX:=hI hX
 clear hX
 go_enter Tryz.func126,Tryz.ntmps126
 go_wp2_with (rw [HX.out])
 exact bodyPost_ret (v:=.agg #[.int .u8 3,.int .u8 y]) (res_result Tryz.results126 _ _ _ _ _ rfl (res_set hr _ _)) rfl ⟨rfl,below_setRow hb lR _⟩
theorem oof_any (n:Nat→Int) (hn:PosOk n) (k:Int) (w:World):Calls Tryz.prog 173 #[.agg (posA n),.int .u8 k] w fun e w' => e = .returned (.int .u64 (u (ofK n k)))∧Below w.heap.size w w' := by
 obtain ⟨X,hX⟩:∃ X,w.alloc (.cells (posA n) 31)=X:=⟨_,rfl⟩
 obtain ⟨p0,hb⟩:=box1 w n X hX
 have HF:=hI (fun V (h:Below X.heap.size X V)=>(p0.below h p0.lt).rules)
 have HX:=hI hX
 have HB:=hI hb
 have H0:=hI (fun w=>of_any n hn 0 k w)
 have H1:=hI (fun w=>of_any n hn 1 k w)
 have HH:=hI (show ofK n k=ofN n 0 k ||| ofN n 1 k from rfl)
 obtain ⟨i0,r0⟩:=p0.rules
 clear hX p0 hb
 go_enter Tryz.func173,Tryz.ntmps173
 go_wp2_with (rw [HX.out])
 go_region_held3 (fun V2=>(IsPos V2 w.heap.size∧rowOf V2 w.heap.size=posA n)∧Below X.heap.size X V2) ((refine (fun hb=>⟨HF.out _ hb,hb⟩) ?_;repeat (first | exact bR | assumption | refine bD ?_ | refine bT ?_ (by assumption)))) ((first | (refine (H0.out _).mono ?_;rintro e w31 ⟨rfl,g1⟩) | (refine (H1.out _).mono ?_;rintro e w32 ⟨rfl,g2⟩)))
 have hR:=And.right ‹(IsPos w32 w.heap.size∧rowOf w32 w.heap.size=posA n)∧Below X.heap.size X w32›
 go_wp2
 go_ret
 exact ⟨ret_u HH.out.symm,HB.out.trans (hR.mono HB.out.size)⟩
theorem late_any (n:Nat→Int) (hn:PosOk n) (w:World):Calls Tryz.prog 55 #[.agg (posA n)] w fun e w' => e = .returned (resV (if 150≤n 86 then (3,4) else (0,0)))∧Below w.heap.size w w' := by
 obtain ⟨X,hX⟩:∃ X,resX n w=X:=⟨_,rfl⟩
 obtain ⟨xp,xr,xb,xs⟩:=resX_at n w X hX
 have HX:=hI (show (w.alloc (.cells (posA n) 31)).alloc (.cells #[.int .u8 0,.int .u8 0] 39)=X from hX)
 have c86:X.cell? ⟨w.heap.size,86,none⟩=some (.int .i64 (n 86)):=xp.cell 86 (by decide)
 have HR:=hI xr
 have HB:=hI xb
 have hs:=xs
 have HD:=hI (fun w=>draw_any 4 w)
 clear hX xp xb xs
 generalize n 86=a at *
 by_cases h:150≤a
 · have HV := hideIt (show (if 150 ≤ a then ((3, 4) : Int × Int) else (0, 0)) = (3, 4) from if_pos h)
   go_enter Tryz.func55,Tryz.ntmps55
   go_wp2_with (first | rw [HX.out] | (refine (HD.out _).mono ?_;rintro e U ⟨rfl,h1⟩;have ru:=HR.out.below h1 (by omega)))
   exact bodyPost_ret (v:=resV (3,4)) (res_result Tryz.results55 _ _ _ _ _ rfl (res_set ru _ _)) rfl ⟨ret_val (by first | rw [HV.out] | rfl),below_setRow (HB.out.trans (h1.mono (by omega))) (by omega) _⟩
 · have HV := hideIt (show (if 150 ≤ a then ((3, 4) : Int × Int) else (0, 0)) = (0, 0) from if_neg h)
   go_enter Tryz.func55,Tryz.ntmps55
   go_wp2_with (rw [HX.out])
   exact bodyPost_ret (v:=resV (0,0)) (res_result Tryz.results55 _ _ _ _ _ rfl (res_set xr _ _)) rfl ⟨ret_val (by first | rw [HV.out] | rfl),below_setRow HB.out (by omega) _⟩
theorem omat_any (n:Nat→Int) (hn:PosOk n) (w:World):Calls Tryz.prog 127 #[.agg (posA n)] w fun e w' => e = .returned (.bool (matB n))∧Below w.heap.size w w' := by
 obtain ⟨X,hX⟩:∃ X,w.alloc (.cells (posA n) 31)=X:=⟨_,rfl⟩
 obtain ⟨p0,hb⟩:=box1 w n X hX
 obtain ⟨v0,v1⟩:=hn.u8 0 (by decide) rfl
 obtain ⟨v,hv⟩:∃ v,n 0=v:=⟨_,rfl⟩
 have HF:=hI (fun V (h:Below X.heap.size X V)=>(show V.cell? ⟨w.heap.size,0,none⟩=some (.int .u8 v)∧IsPos V w.heap.size∧rowOf V w.heap.size=posA n from ⟨by rw [← hv];exact (p0.below h p0.lt).board 0 (by decide),(p0.below h p0.lt).rules⟩))
 have HX:=hI hX
 have HB:=hI hb
 have HA:=hI (fun w=>ball_any n hn w)
 have HO6:=hI (fun w=>oof_any n hn 6 w)
 have HO3:=hI (fun w=>oof_any n hn 3 w)
 have HO2:=hI (fun w=>oof_any n hn 2 w)
 have HW:=hI (fun w=>of_any n hn 0 6 w)
 have HBK:=hI (fun w=>of_any n hn 1 6 w)
 have HC:=hI (fun b w=>ones_any b w)
 have HM:=hI (show matB n=if v=0∨v=1 then (if (((allN n&&&~~~ofK n 6)&&&~~~ofK n 3)&&&~~~ofK n 2==0#64)=false then false else
 if cntB (allN n&&&~~~ofK n 6)≤1 then true else if ((allN n&&&~~~ofK n 6)==ofK n 3)=false then false else if ((allN n&&&~~~ofK n 6)&&&lightB==0#64)=true then true else (allN n&&&~~~ofK n 6)&&&~~~lightB==0#64) else if v=3∨v=5 then (allN n==ofN n 0 6 ||| ofN n 1 6)&&((cntB (ofN n 0 6)==1)&&(cntB (ofN n 1 6)==1)) else false by unfold matB;rw [hv];rfl)
 have hR:=Below.refl X.heap.size X
 obtain ⟨c0,i0,r0⟩:=HF.out X hR
 rw [hv] at v0 v1
 clear hX p0 hb hv
 generalize allN n=A at *
 generalize ofK n 6=K at *
 generalize ofK n 3=B at *
 generalize ofK n 2=N at *
 generalize ofN n 0 6=kw at *
 generalize ofN n 1 6=kb at *
 have hlt:=show (6172840429334713770:Int)=u lightB from rfl
 rcases (show (v=0∨v=1)∨(v=3∨v=5)∨(¬(v=0∨v=1)∧¬(v=3∨v=5)) by omega) with hv | hv | hv
 · have HM := hideIt (HM.out.trans (if_pos hv))
   obtain ⟨M,hM⟩:∃ M,A&&&~~~K=M:=⟨_,rfl⟩
   have z1:(u ((M&&&~~~B)&&&~~~N) != 0)=!((M&&&~~~B)&&&~~~N==0#64):=by rw [bne,u_eq_zero]
   have z2:(u M==u B)=(M==B):=u_beq M B
   have z3:(bits .and .u64 (u M) 6172840429334713770==0)=(M&&&lightB==0#64):=by rw [hlt,bits_and_u,u_eq_zero]
   have z4:(bits .andNot .u64 (u M) 6172840429334713770==0)=(M&&&~~~lightB==0#64):=by rw [hlt,bits_andNot_u,u_eq_zero]
   rw [hM] at HM
   have hcl:cntB M≤64:=listB_length M
   have HCM:=hI (fun w=>HC.out M w)
   generalize cntB M=C at *
   generalize ((M&&&~~~B)&&&~~~N==0#64)=b1 at *
   generalize (M==B)=b2 at *
   generalize (M&&&lightB==0#64)=b3 at *
   generalize (M&&&~~~lightB==0#64)=b4 at *
   clear hlt
   rcases hv with rfl | rfl
   all_goals
    rcases (show b1=false∨(b1=true∧C≤1)∨(b1=true∧¬ C≤1∧b2=false)∨(b1=true∧¬ C≤1∧b2=true∧b3=true)∨(b1=true∧¬ C≤1∧b2=true∧b3=false) by
     by_cases hc:C≤1 <;> cases b1 <;> cases b2 <;> cases b3 <;> simp [hc]) with rfl | ⟨rfl,hc⟩ | ⟨rfl,hc,rfl⟩ | ⟨rfl,hc,rfl,rfl⟩ | ⟨rfl,hc,rfl,rfl⟩
    all_goals
     (try have c2:decide ((C:Int)≤1)=true:=decide_eq_true (by omega))
     (try have c2:decide ((C:Int)≤1)=false:=decide_eq_false (by omega))
     (try have HM2:=hI (show matB n=_ from HM.out.trans (if_pos rfl)))
     (try have HM2:=hI (show matB n=_ from HM.out.trans ((if_neg (by decide)).trans (if_pos hc))))
     (try have HM2:=hI (show matB n=_ from HM.out.trans ((if_neg (by decide)).trans ((if_neg hc).trans (if_pos rfl)))))
     (try have HM2:=hI (show matB n=_ from HM.out.trans ((if_neg (by decide)).trans ((if_neg hc).trans ((if_neg (by decide)).trans (if_pos rfl))))))
     (try have HM2:=hI (show matB n=_ from HM.out.trans ((if_neg (by decide)).trans ((if_neg hc).trans ((if_neg (by decide)).trans (if_neg (by decide)))))))
     go_enter Tryz.func127,Tryz.ntmps127
     go_wp2_with (first | rw [HX.out] | (go_at_call 149;refine (HA.out _).mono ?_;rintro e U ⟨rfl,h1⟩;have hR:=bT hR h1;clear c0 i0 r0 h1;obtain ⟨c0,i0,r0⟩:=HF.out _ hR) | (go_at_call 173;(first | (with_reducible refine (HO6.out _).mono ?_) | (with_reducible refine (HO3.out _).mono ?_) | (with_reducible refine (HO2.out _).mono ?_));rintro e U ⟨rfl,h1⟩;have hR:=bT hR h1;clear c0 i0 r0 h1;obtain ⟨c0,i0,r0⟩:=HF.out _ hR) | (go_at_call 174;refine (HCM.out _).mono ?_;rintro e U ⟨rfl,rfl⟩))
     go_ret
     exact ⟨rB HM2.out.symm,HB.out.trans (hR.mono HB.out.size)⟩
 · have HM := hideIt (HM.out.trans ((if_neg (by omega)).trans (if_pos hv)))
   have z2:(u A==u (kw ||| kb))=(A==kw ||| kb):=u_beq A (kw ||| kb)
   have HCW:=hI (fun w=>HC.out kw w)
   have HCB:=hI (fun w=>HC.out kb w)
   clear hlt HC
   generalize cntB kw=cw at *
   generalize cntB kb=cb at *
   generalize (A==kw ||| kb)=b1 at *
   rcases hv with rfl | rfl
   all_goals
    go_enter Tryz.func127,Tryz.ntmps127
    go_wp2_with (first | rw [HX.out] | (go_at_call 149;refine (HA.out _).mono ?_;rintro e U ⟨rfl,h1⟩;have hR:=bT hR h1;clear c0 i0 r0 h1;obtain ⟨c0,i0,r0⟩:=HF.out _ hR) | (go_at_call 173;(first | (with_reducible refine (HO6.out _).mono ?_) | (with_reducible refine (HO3.out _).mono ?_) | (with_reducible refine (HO2.out _).mono ?_));rintro e U ⟨rfl,h1⟩;have hR:=bT hR h1;clear c0 i0 r0 h1;obtain ⟨c0,i0,r0⟩:=HF.out _ hR) | (go_at_call 174;(first | (with_reducible refine (HCW.out _).mono ?_) | (with_reducible refine (HCB.out _).mono ?_));rintro e U ⟨rfl,rfl⟩))
    go_region_held3 (fun V2=>(IsPos V2 w.heap.size∧rowOf V2 w.heap.size=posA n)∧Below X.heap.size X V2) ((refine (fun hb=>⟨(HF.out _ hb).2,hb⟩) ?_;repeat (first | exact bR | assumption | refine bD ?_ | refine bT ?_ (by assumption)))) ((first | (refine (HW.out _).mono ?_;rintro e w31 ⟨rfl,g8⟩) | (refine (HBK.out _).mono ?_;rintro e w32 ⟨rfl,g9⟩)))
    have hR:=And.right ‹(IsPos w32 w.heap.size∧rowOf w32 w.heap.size=posA n)∧Below X.heap.size X w32›
    clear c0 i0 r0
    obtain ⟨c0,i0,r0⟩:=HF.out _ hR
    rcases (show b1=false∨(b1=true∧¬ cw=1)∨(b1=true∧cw=1∧¬ cb=1)∨(b1=true∧cw=1∧cb=1) by
     by_cases h1:cw=1 <;> by_cases h2:cb=1 <;> cases b1 <;> simp [h1,h2]) with rfl | ⟨rfl,h1⟩ | ⟨rfl,rfl,h2⟩ | ⟨rfl,rfl,rfl⟩
    all_goals
     (try have g1:(cw==1)=false:=beq_eq_false_iff_ne.2 h1)
     (try have g2:(cb==1)=false:=beq_eq_false_iff_ne.2 h2)
     have HM2:=hI (show matB n=_ from HM.out.trans (by (try rw [g1]);(try rw [g2]);(try rfl)))
     (try have g3:((cw:Int)==1)=false:=beq_eq_false_iff_ne.2 (by omega))
     (try have g4:((cb:Int)==1)=false:=beq_eq_false_iff_ne.2 (by omega))
     go_wp2_with (first | rw [HX.out] | (go_at_call 149;refine (HA.out _).mono ?_;rintro e U ⟨rfl,h1⟩;have hR:=bT hR h1;clear c0 i0 r0 h1;obtain ⟨c0,i0,r0⟩:=HF.out _ hR) | (go_at_call 173;(first | (with_reducible refine (HO6.out _).mono ?_) | (with_reducible refine (HO3.out _).mono ?_) | (with_reducible refine (HO2.out _).mono ?_));rintro e U ⟨rfl,h1⟩;have hR:=bT hR h1;clear c0 i0 r0 h1;obtain ⟨c0,i0,r0⟩:=HF.out _ hR) | (go_at_call 174;(first | (with_reducible refine (HCW.out _).mono ?_) | (with_reducible refine (HCB.out _).mono ?_));rintro e U ⟨rfl,rfl⟩))
     go_ret
     exact ⟨rB HM2.out.symm,HB.out.trans (hR.mono HB.out.size)⟩
 · have HM := hideIt (HM.out.trans ((if_neg hv.1).trans (if_neg hv.2)))
   have e0:(v==0)=false:=beq_eq_false_iff_ne.2 (by omega)
   have e1:(v==1)=false:=beq_eq_false_iff_ne.2 (by omega)
   have e3:(v==3)=false:=beq_eq_false_iff_ne.2 (by omega)
   have e5:(v==5)=false:=beq_eq_false_iff_ne.2 (by omega)
   clear hv hlt
   go_enter Tryz.func127,Tryz.ntmps127
   go_wp2_with (first | rw [HX.out] | (go_at_call 149;refine (HA.out _).mono ?_;rintro e U ⟨rfl,h1⟩;have hR:=bT hR h1;clear c0 i0 r0 h1;obtain ⟨c0,i0,r0⟩:=HF.out _ hR) | (go_at_call 173;(first | (with_reducible refine (HO6.out _).mono ?_) | (with_reducible refine (HO3.out _).mono ?_) | (with_reducible refine (HO2.out _).mono ?_));rintro e U ⟨rfl,h1⟩;have hR:=bT hR h1;clear c0 i0 r0 h1;obtain ⟨c0,i0,r0⟩:=HF.out _ hR) | (go_at_call 174;refine (HC.out _ _).mono ?_;rintro e U ⟨rfl,rfl⟩))
   go_ret
   exact ⟨rB HM.out.symm,HB.out.trans (hR.mono HB.out.size)⟩
def stuckP (n:Nat→Int):Int × Int:=if listL n=[] then (if n 0=4 then (1+n 78,8) else if checkN n (n 78)=true then (2 - n 78,1) else (3,2)) else (0,0)
def littleP (n:Nat→Int):Int × Int:=if matB n=true then (3,3) else (0,0)
def lateP (n:Nat→Int):Int × Int:=if 150≤n 86 then (3,4) else (0,0)
theorem stuck_no {n:Nat→Int} (h:(stuckP n).1=0):¬ listL n=[]∨¬ (n 78=0∨n 78=1):=by
 by_cases hl:listL n=[]
 · right
   unfold stuckP at h
   rw [if_pos hl] at h
   intro h78
   split at h
   · dsimp only at h;omega
   · split at h
     · dsimp only at h;omega
     · cases h
 · exact .inl hl
def resQ (n:Nat→Int) (k:Nat):Int × Int:=if k=0 then wonP n else if k=1 then stuckP n else if k=2 then littleP n else lateP n
theorem resQ_0 (n:Nat→Int):resQ n 0=wonP n:=if_pos rfl
theorem resQ_1 (n:Nat→Int):resQ n 1=stuckP n:=(if_neg (by decide)).trans (if_pos rfl)
theorem resQ_2 (n:Nat→Int):resQ n 2=littleP n:=(if_neg (by decide)).trans ((if_neg (by decide)).trans (if_pos rfl))
theorem resQ_3 (n:Nat→Int):resQ n 3=lateP n:=(if_neg (by decide)).trans ((if_neg (by decide)).trans (if_neg (by decide)))
theorem little_no {n:Nat→Int} (h:(littleP n).1=0):¬ matB n=true:=fun hm=>by
 unfold littleP at h
 rw [if_pos hm] at h;cases h
theorem end_1 {n:Nat→Int} (a:(wonP n).1=0):endV n=if listL n=[] then (if n 0=4 then (1+n 78,8) else if checkN n (n 78)=true then (2 - n 78,1) else (3,2)) else if matB n=true then (3,3) else if 150≤n 86 then (3,4) else (0,0):=by
 unfold endV
 exact if_neg (fun h=>h a)
theorem end_2 {n:Nat→Int} (h78:n 78=0∨n 78=1) (a:(wonP n).1=0) (b:(stuckP n).1=0):endV n=if matB n=true then (3,3) else if 150≤n 86 then (3,4) else (0,0) :=
 (end_1 a).trans (if_neg ((stuck_no b).resolve_right (fun h=>h h78)))
theorem end_3 {n:Nat→Int} (h78:n 78=0∨n 78=1) (a:(wonP n).1=0) (b:(stuckP n).1=0) (c:(littleP n).1=0):endV n=lateP n :=
 (end_2 h78 a b).trans (if_neg (little_no c))
theorem end_at {n:Nat→Int} (h78:n 78=0∨n 78=1) {j:Nat} (hj:j<4) (h:∀ k,k<j→(resQ n k).1=0) (h2:(resQ n j).1≠0):endV n=resQ n j:=by
 have A:=fun hk:0<j=>h 0 hk
 have B:=fun hk:1<j=>h 1 hk
 have C:=fun hk:2<j=>h 2 hk
 rw [resQ_0] at A
 rw [resQ_1] at B
 rw [resQ_2] at C
 rcases (show j=0∨j=1∨j=2∨j=3 by omega) with rfl | rfl | rfl | rfl
 · rw [resQ_0] at h2 ⊢
   unfold endV
   exact if_pos h2
 · rw [resQ_1] at h2 ⊢
   rw [end_1 (A (by decide))]
   unfold stuckP at h2 ⊢
   by_cases hl:listL n=[]
   · rw [if_pos hl,if_pos hl]
   · rw [if_neg hl] at h2;exact absurd rfl h2
 · rw [resQ_2] at h2 ⊢
   rw [end_2 h78 (A (by decide)) (B (by decide))]
   unfold littleP at h2 ⊢
   by_cases hm:matB n=true
   · rw [if_pos hm,if_pos hm]
   · rw [if_neg hm] at h2;exact absurd rfl h2
 · rw [resQ_3,end_3 h78 (A (by decide)) (B (by decide)) (C (by decide))]
theorem end_none {n:Nat→Int} (h78:n 78=0∨n 78=1) (h:∀ k,k<4→(resQ n k).1=0):endV n=(0,0):=by
 have a:=h 0 (by decide)
 have b:=h 1 (by decide)
 have c:=h 2 (by decide)
 have d:=h 3 (by decide)
 rw [resQ_0] at a
 rw [resQ_1] at b
 rw [resQ_2] at c
 rw [resQ_3] at d
 rw [end_3 h78 a b c]
 unfold lateP at d ⊢
 by_cases hm:150≤n 86
 · rw [if_pos hm] at d;cases d
 · rw [if_neg hm]
def queA:Array Value:=#[fv 27,fv 53,fv 54,fv 55]
theorem questions_any (w:World):Calls Tryz.prog 22 #[] w fun e w' => e = .returned (.agg queA)∧Below w.heap.size w w' := by
 go_enter Tryz.func22,Tryz.ntmps22
 go_wp2
 refine bodyPost_ret (v:=.agg queA) (results_cell_row Tryz.results22 _ _ w.heap.size _ queA _ _ rfl (World.alloc_heap_new w _) Tryz.underlying61 rfl (by kernel_rfl)) rfl ⟨rfl,bR.alloc lR _⟩
theorem little_any (n:Nat→Int) (hn:PosOk n) (w:World):Calls Tryz.prog 54 #[.agg (posA n)] w fun e w' => e = .returned (resV (littleP n))∧Below w.heap.size w w' := by
 obtain ⟨X,hX⟩:∃ X,resX n w=X:=⟨_,rfl⟩
 obtain ⟨xp,xr,xb,xs⟩:=resX_at n w X hX
 have HX:=hI (show (w.alloc (.cells (posA n) 31)).alloc (.cells #[.int .u8 0,.int .u8 0] 39)=X from hX)
 have HF:=hI (fun V (hb:Below X.heap.size X V)=>(show IsRes V (w.heap.size+1)∧Below w.heap.size w V from ⟨xr.below hb (by omega),xb.trans (hb.mono xb.size)⟩))
 obtain ⟨i0,r0⟩:=xp.rules
 have HD:=hI (fun w=>draw_any 3 w)
 have HM:=hI (omat_any n hn X)
 have hs:w.heap.size+2≤X.heap.size:=by omega
 have HL:=hI (show littleP n=if matB n=true then (3,3) else (0,0) from rfl)
 clear hX xp xr xb xs
 generalize matB n=b at *
 cases b
 · have HV := hideIt (show littleP n = (0, 0) from HL.out)
   go_enter Tryz.func54,Tryz.ntmps54
   go_wp2_with (first | rw [HX.out] | (go_at_call 127;refine HM.out.mono ?_;rintro e U ⟨rfl,h1⟩;obtain ⟨ru,lu⟩:=HF.out _ h1;have HLU:=hI lu;clear lu))
   exact bodyPost_ret (v:=resV (0,0)) (res_result Tryz.results54 _ _ _ _ _ rfl (res_set ru _ _)) rfl ⟨ret_val (by first | rw [HV.out] | rfl),below_setRow HLU.out (by omega) _⟩
 · have HV := hideIt (show littleP n = (3, 3) from HL.out)
   go_enter Tryz.func54,Tryz.ntmps54
   go_wp2_with (first | rw [HX.out] | (go_at_call 127;refine HM.out.mono ?_;rintro e U ⟨rfl,h1⟩) | (go_at_call 126;refine (HD.out _).mono ?_;rintro e U2 ⟨rfl,h2⟩;obtain ⟨ru,lu⟩:=HF.out _ (bT h1 h2);have HLU:=hI lu;clear lu))
   exact bodyPost_ret (v:=resV (3,3)) (res_result Tryz.results54 _ _ _ _ _ rfl (res_set ru _ _)) rfl ⟨ret_val (by first | rw [HV.out] | rfl),below_setRow HLU.out (by omega) _⟩
theorem stuck_any (n:Nat→Int) (hn:PosOk n) (t:Nat) (ht1:t≤1) (ht:n 78=t) (v:Nat) (hv9:v<9) (hv:n 0=v) (w:World) (hT:Tab w):Calls Tryz.prog 53 #[.agg (posA n)] w fun e w' => e = .returned (resV (stuckP n))∧Below w.heap.size w w' := by
 obtain ⟨X,hX⟩:∃ X,resX n w=X:=⟨_,rfl⟩
 obtain ⟨xp,xr,xb,xs⟩:=resX_at n w X hX
 have HX:=hI (show (w.alloc (.cells (posA n) 31)).alloc (.cells #[.int .u8 0,.int .u8 0] 39)=X from hX)
 have HF:=hI (fun V (hb:Below X.heap.size X V)=>(show (V.cell? ⟨w.heap.size,0,none⟩=some (.int .u8 (v:Int))∧V.cell? ⟨w.heap.size,78,none⟩=some (.int .u8 (t:Int))∧IsPos V w.heap.size∧rowOf V w.heap.size=posA n)∧IsRes V (w.heap.size+1)∧Below w.heap.size w V from ⟨⟨by rw [← hv];exact (xp.below hb xp.lt).board 0 (by decide),by rw [← ht];exact (xp.below hb xp.lt).cell 78 (by decide),(xp.below hb xp.lt).rules⟩,xr.below hb (by omega),xb.trans (hb.mono xb.size)⟩))
 have HTX:=hI (fun V (h:Below X.heap.size X V)=>(hT.below xb lR).below h lR)
 have HL:=hI (legal_list n hn t ht1 ht v hv9 hv X (HTX.out X bR))
 have HC:=hI (fun V (h:Below X.heap.size X V)=>check_any n hn (t:Int) (by omega) (by omega) V (HTX.out V h))
 have HD:=hI (fun w=>draw_any 2 w)
 have HS:=hI (show stuckP n=if listL n=[] then (if (v:Int)=4 then (1+(t:Int),8) else if checkN n t=true then (2 - (t:Int),1) else (3,2)) else (0,0) by unfold stuckP;rw [ht,hv])
 have hs:w.heap.size+2≤X.heap.size:=by omega
 have w1:IntKind.u8.wrap (1+(t:Int))=1+t:=IntWalk.u8_in _ (by omega)
 have w2:IntKind.u8.wrap (2 - (t:Int))=2 - t:=IntWalk.u8_in _ (by omega)
 have hR:=Below.refl X.heap.size X
 obtain ⟨⟨c0,c78,i0,r0⟩,rr,_⟩:=HF.out X hR
 clear hX xp xr xb xs ht hv hT HTX
 generalize checkN n t=C at *
 generalize listL n=L at *
 rcases (show (∃ m l,L=m :: l)∨L=[] by cases L with | nil=>exact .inr rfl | cons m l=>exact .inl ⟨m,l,rfl⟩) with ⟨m,l,rfl⟩ | rfl
 · have HV := hideIt (show stuckP n = (0, 0) from HS.out.trans (if_neg (by simp)))
   go_enter Tryz.func53,Tryz.ntmps53
   go_wp2_with (first | rw [HX.out] | (go_at_call 10;refine HL.out.mono ?_;rintro e U ⟨vl,rfl,ho,h1⟩;obtain ⟨va,vc,rfl⟩:=ho.len;have hR:=bT hR h1;clear c0 c78 i0 r0 rr;obtain ⟨⟨c0,c78,i0,r0⟩,rr,_⟩:=HF.out _ hR;clear ho h1;have hl:0<(m :: l).length:=by simp) | (go_at_call 20;refine (HC.out _ hR).mono ?_;rintro e U2 ⟨rfl,h1⟩;have hR:=bT hR h1;clear c0 c78 i0 r0 rr;obtain ⟨⟨c0,c78,i0,r0⟩,rr,_⟩:=HF.out _ hR;clear h1) | (go_at_call 126;refine (HD.out _).mono ?_;rintro e U3 ⟨rfl,h1⟩;have hR:=bT hR h1;clear c0 c78 i0 r0 rr;obtain ⟨⟨c0,c78,i0,r0⟩,rr,_⟩:=HF.out _ hR;clear h1))
   exact bodyPost_ret (v:=resV (0,0)) (res_result Tryz.results53 _ _ _ _ _ rfl (res_set rr _ _)) rfl ⟨ret_val (by first | rw [HV.out] | rfl),below_setRow (HF.out _ hR).2.2 (by omega) _⟩
 · have HS := hideIt (HS.out.trans (if_pos rfl))
   by_cases h4:(v:Int)=4
   · have HV := hideIt (show stuckP n = (1 + (t : Int), 8) from HS.out.trans (if_pos h4))
     have e4:((v:Int)==4)=true:=beq_iff_eq.2 h4
     have e5:decide (v=4)=true:=decide_eq_true (by omega)
     clear h4
     go_enter Tryz.func53,Tryz.ntmps53
     go_wp2_with (first | rw [HX.out] | (go_at_call 10;refine HL.out.mono ?_;rintro e U ⟨vl,rfl,ho,h1⟩;obtain ⟨va,vc,rfl⟩:=ho.len;have hR:=bT hR h1;clear c0 c78 i0 r0 rr;obtain ⟨⟨c0,c78,i0,r0⟩,rr,_⟩:=HF.out _ hR;clear ho h1;skip) | (go_at_call 20;refine (HC.out _ hR).mono ?_;rintro e U2 ⟨rfl,h1⟩;have hR:=bT hR h1;clear c0 c78 i0 r0 rr;obtain ⟨⟨c0,c78,i0,r0⟩,rr,_⟩:=HF.out _ hR;clear h1) | (go_at_call 126;refine (HD.out _).mono ?_;rintro e U3 ⟨rfl,h1⟩;have hR:=bT hR h1;clear c0 c78 i0 r0 rr;obtain ⟨⟨c0,c78,i0,r0⟩,rr,_⟩:=HF.out _ hR;clear h1))
     exact bodyPost_ret (v:=resV (1+(t:Int),8)) (res_result Tryz.results53 _ _ _ _ _ rfl (res_set rr _ _)) rfl ⟨ret_val (by first | rw [HV.out] | rfl),below_setRow (HF.out _ hR).2.2 (by omega) _⟩
   · have e4 : ((v : Int) == 4) = false := beq_eq_false_iff_ne.2 h4
     have e5:decide (v=4)=false:=decide_eq_false (by omega)
     have HS:=hI (HS.out.trans (if_neg h4))
     clear h4
     cases C
     · have HV := hideIt (show stuckP n = (3, 2) from HS.out.trans (if_neg (by decide)))
       go_enter Tryz.func53,Tryz.ntmps53
       go_wp2_with (first | rw [HX.out] | (go_at_call 10;refine HL.out.mono ?_;rintro e U ⟨vl,rfl,ho,h1⟩;obtain ⟨va,vc,rfl⟩:=ho.len;have hR:=bT hR h1;clear c0 c78 i0 r0 rr;obtain ⟨⟨c0,c78,i0,r0⟩,rr,_⟩:=HF.out _ hR;clear ho h1;skip) | (go_at_call 20;refine (HC.out _ hR).mono ?_;rintro e U2 ⟨rfl,h1⟩;have hR:=bT hR h1;clear c0 c78 i0 r0 rr;obtain ⟨⟨c0,c78,i0,r0⟩,rr,_⟩:=HF.out _ hR;clear h1) | (go_at_call 126;refine (HD.out _).mono ?_;rintro e U3 ⟨rfl,h1⟩;have hR:=bT hR h1;clear c0 c78 i0 r0 rr;obtain ⟨⟨c0,c78,i0,r0⟩,rr,_⟩:=HF.out _ hR;clear h1))
       exact bodyPost_ret (v:=resV (3,2)) (res_result Tryz.results53 _ _ _ _ _ rfl (res_set rr _ _)) rfl ⟨ret_val (by first | rw [HV.out] | rfl),below_setRow (HF.out _ hR).2.2 (by omega) _⟩
     · have HV := hideIt (show stuckP n = (2 - (t : Int), 1) from HS.out.trans (if_pos rfl))
       go_enter Tryz.func53,Tryz.ntmps53
       go_wp2_with (first | rw [HX.out] | (go_at_call 10;refine HL.out.mono ?_;rintro e U ⟨vl,rfl,ho,h1⟩;obtain ⟨va,vc,rfl⟩:=ho.len;have hR:=bT hR h1;clear c0 c78 i0 r0 rr;obtain ⟨⟨c0,c78,i0,r0⟩,rr,_⟩:=HF.out _ hR;clear ho h1;skip) | (go_at_call 20;refine (HC.out _ hR).mono ?_;rintro e U2 ⟨rfl,h1⟩;have hR:=bT hR h1;clear c0 c78 i0 r0 rr;obtain ⟨⟨c0,c78,i0,r0⟩,rr,_⟩:=HF.out _ hR;clear h1) | (go_at_call 126;refine (HD.out _).mono ?_;rintro e U3 ⟨rfl,h1⟩;have hR:=bT hR h1;clear c0 c78 i0 r0 rr;obtain ⟨⟨c0,c78,i0,r0⟩,rr,_⟩:=HF.out _ hR;clear h1))
       exact bodyPost_ret (v:=resV (2 - (t:Int),1)) (res_result Tryz.results53 _ _ _ _ _ rfl (res_set rr _ _)) rfl ⟨ret_val (by first | rw [HV.out] | rfl),below_setRow (HF.out _ hR).2.2 (by omega) _⟩
theorem quest (n:Nat→Int) (hn:PosOk n) (t:Nat) (ht1:t≤1) (ht:n 78=t) (v:Nat) (hv9:v<9) (hv:n 0=v) (j:Nat) (hj:j<4):∃ f,(∀ w,(Instr.index 61 (.agg queA) (.int .i64 (j:Int))).run Tryz.prog w=.ok (.agg #[fv f]) w)∧(∀ w,(callFunc f #[.agg (posA n)]).run Tryz.prog w=.ok (.enter f #[.agg (posA n)]) w) ∧
 ∀ V,Tab V→Calls Tryz.prog f #[.agg (posA n)] V fun e w' => e = .returned (.agg #[.int .u8 (resQ n j).1,.int .u8 (resQ n j).2])∧Below V.heap.size V w' := by
 rcases (show j=0∨j=1∨j=2∨j=3 by omega) with rfl | rfl | rfl | rfl
 · rw [resQ_0];exact ⟨27,fun _=>by kernel_rfl,fun _=>by kernel_rfl,fun V hT=>won_any n hn t ht1 ht v hv9 hv V hT⟩
 · rw [resQ_1];exact ⟨53,fun _=>by kernel_rfl,fun _=>by kernel_rfl,fun V hT=>stuck_any n hn t ht1 ht v hv9 hv V hT⟩
 · rw [resQ_2];exact ⟨54,fun _=>by kernel_rfl,fun _=>by kernel_rfl,fun V hT=>little_any n hn V⟩
 · rw [resQ_3];exact ⟨55,fun _=>by kernel_rfl,fun _=>by kernel_rfl,fun V hT=>late_any n hn V⟩
theorem of_end (n:Nat→Int) (hn:PosOk n) (t:Nat) (ht1:t≤1) (ht:n 78=t) (v:Nat) (hv9:v<9) (hv:n 0=v) (w:World) (hT:Tab w):Calls Tryz.prog 8 #[.agg (posA n)] w fun e w' => e = .returned (resV (endV n))∧Below w.heap.size w w' := by
 obtain ⟨X,hX⟩:∃ X,resX n w=X:=⟨_,rfl⟩
 obtain ⟨xp,xr,xb,xs⟩:=resX_at n w X hX
 have HX:=hI (show (w.alloc (.cells (posA n) 31)).alloc (.cells #[.int .u8 0,.int .u8 0] 39)=X from hX)
 have HF:=hI (fun V (hb:Below X.heap.size X V)=>(show (V.cell? ⟨w.heap.size,0,none⟩=some (.int .u8 (v:Int))∧V.cell? ⟨w.heap.size,78,none⟩=some (.int .u8 (t:Int)))∧(IsPos V w.heap.size∧rowOf V w.heap.size=posA n)∧IsRes V (w.heap.size+1)∧Below w.heap.size w V from
  ⟨⟨by rw [← hv];exact (xp.below hb xp.lt).board 0 (by decide),by rw [← ht];exact (xp.below hb xp.lt).cell 78 (by decide)⟩,(xp.below hb xp.lt).rules,xr.below hb (by omega),xb.trans (hb.mono xb.size)⟩))
 have HTX:=hI (fun V (h:Below X.heap.size X V)=>(hT.below xb lR).below h lR)
 have HQ:=hI (fun j hj=>quest n hn t ht1 ht v hv9 hv j hj)
 have h78:n 78=0∨n 78=1:=by omega
 have HAT:=hI (fun (j:Nat) (hj:j<4) h h2=>end_at (n:=n) h78 (j:=j) hj h h2)
 have HNO:=hI (end_none (n:=n) h78)
 have hs:w.heap.size+2≤X.heap.size:=by omega
 have hR:=Below.refl X.heap.size X
 obtain ⟨⟨c0,c78⟩,⟨i0,r0⟩,rr,_⟩:=HF.out X hR
 have dt:decide (1<(t:Int))=false:=decide_eq_false (by omega)
 have dv:decide (9≤(v:Int))=false:=decide_eq_false (by omega)
 clear hX xp xr xb xs ht hv hT h78
 go_enter Tryz.func8,Tryz.ntmps8
 go_wp2_with (first | rw [HX.out] | (go_at_call 22;refine (questions_any _).mono ?_;rintro e U ⟨rfl,h1⟩;have hR:=bT hR h1;clear c0 c78 i0 r0 rr h1))
 go_loopg [16] 4 (fun g i wr=>∃ j:Nat,j+g=4∧i=.int .i64 j∧(∀ k,k<j→(resQ n k).1=0)∧Below X.heap.size X wr)
 case atStart=>exact ⟨0,rfl,rfl,fun k hk=>absurd hk (Nat.not_lt_zero k),hR⟩
 case round =>
  obtain ⟨j,hj,rfl,hall,hr⟩:=hrel
  have HALL:=hI hall
  have HR:=hI hr
  clear hall hr
  by_cases hlt:j<4
  · obtain ⟨f, ix, hcf, hq⟩ := HQ.out j hlt
    have HC:=hI hq
    have HNX:=hI (fun h:(resQ n j).1=0=>(show ∀ k,k<j+1→(resQ n k).1=0 from fun k hk=>by
     by_cases e:k=j
     · subst e;exact h
     · exact HALL.out k (by omega)))
    have HA:=hI (fun h=>HAT.out j hlt HALL.out h)
    generalize resQ n j=r at *
    obtain ⟨ra,rb⟩:=r
    dsimp only at HC HNX HA
    clear hq
    obtain ⟨Z,hZ⟩:∃ Z,wr.alloc (.cells #[.func (.func f) #[] #[]] 60)=Z:=⟨_,rfl⟩
    have hZX:Below X.heap.size X Z:=by rw [← hZ];exact HR.out.alloc HR.out.size _
    have cz:Z.cell? ⟨wr.heap.size,0,none⟩=some (.func (.func f) #[] #[]):=by rw [← hZ];exact World.cell?_alloc_new ..
    have HZ:=hI hZ
    have HZX:=hI hZX
    have ec:decide ((j:Int)<4)=true:=decide_eq_true (by omega)
    obtain ⟨⟨c0,c78⟩,⟨i0,r0⟩,rr,_⟩:=HF.out Z hZX
    clear hZ hZX
    by_cases hra:ra=0
    · have HN2 := hideIt (HNX.out hra)
      subst hra
      go_wp2_with (rw [HZ.out])
      refine (HC.out _ (HTX.out Z HZX.out)).mono ?_
      rintro e V ⟨rfl,h1⟩
      obtain ⟨Y,hY⟩:∃ Y,(V.alloc (.cells #[.int .u8 0,.int .u8 0] 39)).setRow V.heap.size #[.int .u8 0,.int .u8 rb]=Y:=⟨_,rfl⟩
      obtain ⟨yr,hYV,cy,cw⟩:=res_put V _ _ Y hY
      have HY:=hI hY
      have HRY:=hI (bT HZX.out (bT h1 hYV))
      clear c0 c78 i0 r0 rr h1 hYV hY cz
      go_wp2_with (rw [HY.out])
      go_roundg (4 - (j+1))
      case measure=>omega
      case rel=>exact ⟨j+1,by omega,by go_num,HN2.out,HRY.out⟩
    · have HV := hideIt (HA.out hra)
      have k1:(ra==0)=false:=beq_eq_false_iff_ne.2 hra
      have k2:(ra != 0)=true:=by rw [bne,k1];rfl
      clear hra
      go_wp2_with (rw [HZ.out])
      refine (HC.out _ (HTX.out Z HZX.out)).mono ?_
      rintro e V ⟨rfl,h1⟩
      obtain ⟨Y,hY⟩:∃ Y,(V.alloc (.cells #[.int .u8 0,.int .u8 0] 39)).setRow V.heap.size #[.int .u8 ra,.int .u8 rb]=Y:=⟨_,rfl⟩
      obtain ⟨yr,hYV,cy,cw⟩:=res_put V _ _ Y hY
      have HY:=hI hY
      have HRY:=hI (bT HZX.out (bT h1 hYV))
      clear c0 c78 i0 r0 rr h1 hYV hY cz
      obtain ⟨_,_,rr,hlow⟩:=HF.out Y HRY.out
      have HL:=hI hlow
      clear hlow
      go_wp2_with (rw [HY.out])
      exact bodyPost_ret (v:=resV (ra,rb)) (res_result Tryz.results8 _ _ _ _ _ rfl (res_set rr _ _)) rfl ⟨ret_val (by rw [HV.out]),below_setRow HL.out (by omega) _⟩
  · obtain rfl : j = 4 := by omega
    have HV:=hI (HNO.out HALL.out)
    obtain ⟨_,_,rr,hlow⟩:=HF.out wr HR.out
    have HL:=hI hlow
    clear hlow
    go_wp2
    exact bodyPost_ret (v:=resV (0,0)) (res_result Tryz.results8 _ _ _ _ _ rfl (res_set rr _ _)) rfl ⟨ret_val (by rw [HV.out]),below_setRow HL.out (by omega) _⟩
theorem ended_any (n:Nat→Int) (hn:PosOk n) (t:Nat) (ht1:t≤1) (ht:n 78=t) (v:Nat) (hv9:v<9) (hv:n 0=v) (w:World) (hT:Tab w):Calls Tryz.prog 21 #[.agg (posA n)] w fun e w' => e = .returned (.bool ((endV n).1 != 0))∧Below w.heap.size w w' := by
 obtain ⟨X,hX⟩:∃ X,w.alloc (.cells (posA n) 31)=X:=⟨_,rfl⟩
 obtain ⟨p0,hb⟩:=box1 w n X hX
 have HO:=hI (of_end n hn t ht1 ht v hv9 hv X (hT.below hb lR))
 have HX:=hI hX
 have HB:=hI hb
 obtain ⟨i0,r0⟩:=p0.rules
 clear hX p0 hb hT
 generalize endV n=r at *
 obtain ⟨ra,rb⟩:=r
 unfold resV at HO
 dsimp only at HO
 go_enter Tryz.func21,Tryz.ntmps21
 go_wp2_with (rw [HX.out])
 refine HO.out.mono ?_
 rintro e V ⟨rfl,h1⟩
 go_wp2
 go_ret
 exact ⟨rfl,HB.out.trans (h1.mono HB.out.size)⟩
/-- Nothing has changed but in two blocks; new blocks may be there. -/
structure Two (gg gc:Nat) (W W' : World):Prop where
 os:W'.os=W.os
 tape:W'.tape=W.tape
 output:W'.output=W.output
 size:W.heap.size≤W'.heap.size
 block:∀ k,k<W.heap.size→k≠gg→k≠gc→W'.heap[k]?=W.heap[k]?
theorem Two.refl (gg gc:Nat) (W:World):Two gg gc W W:=⟨rfl,rfl,rfl,Nat.le_refl _,fun _ _ _ _=>rfl⟩
theorem Two.trans {gg gc:Nat} {a b c:World} (h:Two gg gc a b) (k:Two gg gc b c):Two gg gc a c :=
 ⟨k.os.trans h.os,k.tape.trans h.tape,k.output.trans h.output,Nat.le_trans h.size k.size,fun i hi h1 h2=>(k.block i (Nat.lt_of_lt_of_le hi h.size) h1 h2).trans (h.block i hi h1 h2)⟩
theorem two_of {gg gc:Nat} {a b:World} (h:Below a.heap.size a b):Two gg gc a b:=⟨h.os,h.tape,h.output,h.size,fun i hi _ _=>h.block i hi⟩
theorem Two.setG {gg gc:Nat} (W:World) (i:Nat) (v:Value):Two gg gc W (W.setCell ⟨gg,i,none⟩ v) :=
 ⟨rfl,rfl,rfl,by simp [World.setCell],fun k _ h _=>Below.heap_setCell W ⟨gg,i,none⟩ v k h⟩
theorem Two.setC {gg gc:Nat} (W:World) (i:Nat) (v:Value):Two gg gc W (W.setCell ⟨gc,i,none⟩ v) :=
 ⟨rfl,rfl,rfl,by simp [World.setCell],fun k _ _ h=>Below.heap_setCell W ⟨gc,i,none⟩ v k h⟩
theorem Two.drew {gg gc:Nat} {a b:World} (h:Two gg gc a b):Two gg gc a b.drew:=⟨h.os,h.tape,h.output,h.size,h.block⟩
theorem Two.below {gg gc B:Nat} {a b:World} (h:Two gg gc a b) (hB:B≤a.heap.size) (h1:B≤gg) (h2:B≤gc):Below B a b :=
 ⟨h.os,h.tape,h.output,h.size,fun k hk=>h.block k (by omega) (by omega) (by omega)⟩
/-- How often each length was gone; how many ends there were. -/
structure Per (gg gc:Nat) (W:World) (a:Nat→Int) (c:Int):Prop where
 g:∀ i,i<3→W.cell? ⟨gg,i,none⟩=some (.int .i64 (a i))
 fr:∀ i,W.frozen? ⟨gg,i,none⟩=false
 c:W.cell? ⟨gc,0,none⟩=some (.int .i64 c)
 fc:W.frozen? ⟨gc,0,none⟩=false
 ne:gg≠gc
theorem Per.lt {gg gc:Nat} {W:World} {a:Nat→Int} {c:Int} (h:Per gg gc W a c):gg<W.heap.size∧gc<W.heap.size:=⟨World.block_lt_of_cell? _ _ (h.g 0 (by decide)),World.block_lt_of_cell? _ _ h.c⟩
theorem Per.below {gg gc:Nat} {W W' : World} {a:Nat→Int} {c:Int} (h:Per gg gc W a c) (hb:Below W.heap.size W W'):Per gg gc W' a c :=
 ⟨fun i hi=>(hb.cell (p:=⟨gg,i,none⟩) h.lt.1).trans (h.g i hi),fun i=>(hb.frozen (p:=⟨gg,i,none⟩) h.lt.1).trans (h.fr i),(hb.cell (p:=⟨gc,0,none⟩) h.lt.2).trans h.c,(hb.frozen (p:=⟨gc,0,none⟩) h.lt.2).trans h.fc,h.ne⟩
theorem cell_set_same {W:World} {p:Addr} {v u:Value} (h:W.cell? p=some u):(W.setCell p v).cell? p=some v:=World.cell?_setCell_same W p v (by rw [h])
theorem Per.setG {gg gc:Nat} {W:World} {a:Nat→Int} {c:Int} (h:Per gg gc W a c) (i:Nat) (hi:i<3) (x:Int):Per gg gc (W.setCell ⟨gg,i,none⟩ (.int .i64 x)) (upd a i x) c:=by
 have hne:=h.ne
 refine ⟨fun j hj=>?_,fun j=>by simp [h.fr j],by rw [World.cell?_setCell_other _ _ _ _ (by simp <;> omega)];exact h.c,by simp [h.fc],h.ne⟩
 by_cases e:j=i
 · subst e;rw [upd_at];exact cell_set_same (h.g j hj)
 · rw [upd_ne _ e,World.cell?_setCell_other _ _ _ _ (by simp <;> omega)];exact h.g j hj
theorem Per.setC {gg gc:Nat} {W:World} {a:Nat→Int} {c:Int} (h:Per gg gc W a c) (x:Int):Per gg gc (W.setCell ⟨gc,0,none⟩ (.int .i64 x)) a x:=by
 have hne:=h.ne
 exact ⟨fun j hj=>by rw [World.cell?_setCell_other _ _ _ _ (by simp <;> omega)];exact h.g j hj,fun j=>by simp [h.fr j],cell_set_same h.c,by simp [h.fc],h.ne⟩
theorem cnt1_any (n:Nat→Int) (gc:Nat) (c:Int) (c0:0≤c) (c1:c≤1000000) (W:World) (hc:W.cell? ⟨gc,0,none⟩=some (.int .i64 c)) (hf:W.frozen? ⟨gc,0,none⟩=false):Calls Tryz.prog 50 #[.agg (posA n),.pointer (some ⟨gc,0,none⟩)] W fun e w' => e = .returned (.tuple #[])∧(W.alloc (.cells (posA n) 31)).setCell ⟨gc,0,none⟩ (.int .i64 (c+1))=w' := by
 obtain ⟨X,hX⟩:∃ X,W.alloc (.cells (posA n) 31)=X:=⟨_,rfl⟩
 obtain ⟨p0,hb⟩:=box1 W n X hX
 have hl:=World.block_lt_of_cell? _ _ hc
 have hc' := (hb.cell (p:=⟨gc,0,none⟩) hl).trans hc
 have hf' := (hb.frozen (p:=⟨gc,0,none⟩) hl).trans hf
 have HX:=hI hX
 rw [HX.out]
 clear hX p0 hb hc hf
 go_enter Tryz.func50,Tryz.ntmps50
 go_wp2_with (rw [HX.out])
 first | go_end0 | refine bodyPost_ret (results_none rfl _ _ _) rfl ?_
 exact ⟨rfl,rfl⟩
def BdP (k:Nat):Int:=if k=2 then 1 else if k=1 then 51 else 2551
/-- What a walk of a position does that has so many ends. -/
def Wk (gg gc k:Nat) (n:Nat→Int) (L:Nat):Prop:=∀ (W:World) (a:Nat→Int) (c:Int),Tab W→Per gg gc W a c→(∀ i,i<3→0≤a i∧a i+BdP k≤1000000)→0≤c→c+BdP k≤1000000 →
 Calls Tryz.prog 123 #[.pointer (some ⟨gg,0,none⟩),.agg (posA n),.int .i64 (k:Int),.int .i64 2,.func (.func 50) #[] #[.pointer (some ⟨gc,0,none⟩)]] W fun e w' => e = .returned (.tuple #[])∧(∃ b,Per gg gc w' b (c+L)∧∀ i,i<3→a i≤b i∧b i≤a i+BdP k)∧Two gg gc W w'
theorem leaf_any (gg gc:Nat) (n:Nat→Int):Wk gg gc 2 n 1:=by
 intro W a c hT h ha c0 c1
 have hB:BdP 2=1:=rfl
 rw [hB] at c1
 show Calls Tryz.prog 123 #[.pointer (some ⟨gg,0,none⟩),.agg (posA n),.int .i64 2,.int .i64 2,.func (.func 50) #[] #[.pointer (some ⟨gc,0,none⟩)]] W _
 obtain ⟨X,hX⟩:∃ X,W.alloc (.cells (posA n) 31)=X:=⟨_,rfl⟩
 obtain ⟨p0,hb⟩:=box1 W n X hX
 have hp:=h.below hb
 have g2:=hp.g 2 (by decide)
 have f2:=hp.fr 2
 have ha2:=ha 2 (by decide)
 rw [hB] at ha2
 obtain ⟨Y,hY⟩:∃ Y,(X.setCell ⟨gg,2,none⟩ (.int .i64 (a 2+1))).drew=Y:=⟨_,rfl⟩
 have hpY:Per gg gc Y (upd a 2 (a 2+1)) c:=by rw [← hY];exact (hp.setG 2 (by decide) _).below (bD bR)
 have hXY:Two gg gc X Y:=by rw [← hY];exact (Two.setG X 2 _).drew
 have hlt:=h.lt
 have p1:PosAt Y W.heap.size n:=(hXY.block _ p0.lt (by omega) (by omega)).trans p0
 obtain ⟨i1,r1⟩:=p1.rules
 have y2:=hpY.g 2 (by decide)
 rw [upd_at] at y2
 have HE:=hI (cnt1_any n gc c c0 (by omega) Y hpY.c hpY.fc)
 have HX:=hI hX
 have HY:=hI hY
 have HPY:=hI hpY
 have HW:=hI ((two_of hb).trans hXY)
 have HA:=hI ha
 have n1:decide (1000000<a 2+1)=false:=decide_eq_false (by omega)
 clear hX hY hpY hXY p0 p1 hb h hp ha hT hB
 go_enter Tryz.func123,Tryz.ntmps123
 go_wp2_with (rw [HX.out])
 go_region
 rw [HY.out]
 clear g2 f2
 go_wp2_with fail
 refine HE.out.mono ?_
 rintro e V ⟨rfl,hV⟩
 have hYa:Below Y.heap.size Y (Y.alloc (.cells (posA n) 31)):=bR.alloc lR _
 have HP:=hI (show Per gg gc V (upd a 2 (a 2+1)) (c+((1:Nat):Int)) by rw [← hV];exact (HPY.out.below hYa).setC _)
 have HTW:=hI (show Two gg gc W V by rw [← hV];exact (HW.out.trans (two_of hYa)).trans (Two.setC _ _ _))
 have HBD:=hI (show ∀ i,i<3→a i≤upd a 2 (a 2+1) i∧upd a 2 (a 2+1) i≤a i+BdP 2 from fun i hi=>by
  show _∧_≤_+(1:Int)
  by_cases e:i=2
  · subst e;rw [upd_at];omega
  · rw [upd_ne _ e];omega)
 clear hV hYa
 go_wp2
 first | go_end0 | refine bodyPost_ret (results_none rfl _ _ _) rfl ?_
 exact ⟨rfl,⟨_,HP.out,HBD.out⟩,HTW.out⟩
theorem tab_two {gg gc:Nat} {W W' : World} (hT:Tab W) (h:Two gg gc W W') (h1:0<gg) (h2:0<gc):Tab W' := fun k hk=>by
 have hl:0<W.heap.size:=World.block_lt_of_cell? _ _ (hT k hk)
 rw [World.cell?_of_block (w:=W) (a:=⟨0,k,none⟩) (h.block _ hl (Nat.ne_of_lt h1) (Nat.ne_of_lt h2))]
 exact hT k hk
/-- Good positions: those of which all contracts speak. -/
structure Good (n:Nat→Int):Prop where
 ok:PosOk n
 t:n 78=0∨n 78=1
 v:n 0<9
theorem Good.nat {n:Nat→Int} (h:Good n):∃ t v:Nat,t≤1∧n 78=t∧v<9∧n 0=v:=by
 have h0:=(h.ok.u8 0 (by decide) rfl).1
 have h1:=h.t
 have h2:=h.v
 exact ⟨(n 78).toNat,(n 0).toNat,by omega,by omega,by omega,by omega⟩
theorem Good.made {n:Nat→Int} (h:Good n) {m:Mv} (hm:m∈allL n):Good (madeN n m):=by
 have hk:=(all_mvok h.t h.v hm).1
 have h0:=movT_0 (n:=n) h.t hk
 refine ⟨movT_ok h.ok h.t hk,?_,?_⟩
 · show movT n m (takenP n m) 78 = 0 ∨ movT n m (takenP n m) 78 = 1
   rw [h0.2]
   have:=h.t
   omega
 · show movT n m (takenP n m) 0 < 9
   rw [h0.1];exact h.v
def sumF (f:Mv→Nat):List Mv→Nat
 | []=>0
 | m :: l=>f m+sumF f l
theorem sumF_snoc (f:Mv→Nat) (l:List Mv) (m:Mv):sumF f (l ++ [m])=sumF f l+f m:=by
 induction l with
 | nil=>simp [sumF]
 | cons x l ih=>show f x+sumF f (l ++ [m])=f x+sumF f l+f m;rw [ih];omega
theorem listL_sub {n:Nat→Int}:∀ m∈listL n,m∈allL n:=by
 intro m hm
 unfold listL at hm
 split at hm
 · exact wouldL_sub m hm
 · cases hm
theorem two_pos {gg gc:Nat} {W W' : World} (h:Two gg gc W W') {g:Nat} {n:Nat→Int} (hp:PosAt W g n) (h1:g≠gg) (h2:g≠gc):PosAt W' g n:=(h.block g hp.lt h1 h2).trans hp
theorem pos_put (V:World) (n:Nat→Int) (Q:World) (h:(V.alloc (.cells (posA zeroN) 31)).setRow V.heap.size (posA n)=Q):PosAt Q V.heap.size n∧Below V.heap.size V Q:=by
 subst h
 exact ⟨(PosAt.new V zeroN).setRow n,below_setRow (bR.alloc lR _) lR _⟩
theorem inner_any (gg gc k:Nat) (hk:k<2) (n:Nat→Int) (hG:Good n) (he:(endV n).1=0) (hl:(listL n).length≤50) (f:Mv→Nat) (hf:∀ m∈listL n,(f m:Int)≤BdP (k+1)) (hrec:∀ m∈listL n,Wk gg gc (k+1) (madeN n m) (f m))
 (hg1:0<gg) (hg2:0<gc):Wk gg gc k n (sumF f (listL n)):=by
 intro W a c hT h ha c0 c1
 have hB:BdP k=1+50*BdP (k+1)∧1≤BdP (k+1):=by
  rcases (show k=0∨k=1 by omega) with rfl | rfl <;> exact ⟨rfl,by decide⟩
 obtain ⟨hB1,hB2⟩:=hB
 generalize hb0:BdP (k+1)=B at *
 obtain ⟨t,v,ht1,ht,hv9,hv⟩:=hG.nat
 obtain ⟨X,hX⟩:∃ X,W.alloc (.cells (posA n) 31)=X:=⟨_,rfl⟩
 obtain ⟨p0,hb⟩:=box1 W n X hX
 have hp:=h.below hb
 have gk:=hp.g k (by omega)
 have fk:=hp.fr k
 have hak:=ha k (by omega)
 obtain ⟨Y,hY⟩:∃ Y,(X.setCell ⟨gg,k,none⟩ (.int .i64 (a k+1))).drew=Y:=⟨_,rfl⟩
 have hpY:Per gg gc Y (upd a k (a k+1)) c:=by rw [← hY];exact (hp.setG k (by omega) _).below (bD bR)
 have hXY:Two gg gc X Y:=by rw [← hY];exact (Two.setG X k _).drew
 have hlt:=h.lt
 have hWX:X.heap.size=W.heap.size+1:=by rw [← hX];simp
 have hTY:Tab Y:=tab_two (tab_two hT (two_of hb) hg1 hg2) hXY hg1 hg2
 have p1:PosAt Y W.heap.size n:=two_pos hXY p0 (by omega) (by omega)
 obtain ⟨i1,r1⟩:=p1.rules
 have y2:=hpY.g k (by omega)
 rw [upd_at] at y2
 have HEN:=hI (show Calls Tryz.prog 21 #[.agg (posA n)] Y fun e w' => e = .returned (.bool false)∧Below Y.heap.size Y w' from by
  have:=ended_any n hG.ok t ht1 ht v hv9 hv Y hTY
  rwa [show ((endV n).1 != 0)=false by rw [he];rfl] at this)
 have HLI:=hI (fun V hT=>legal_list n hG.ok t ht1 ht v hv9 hv V hT)
 have HAM:=hI (fun m (hm:m∈listL n) V hT=>amove_any n hG.ok t ht1 ht (by omega) m (listL_sub m hm) V hT)
 have HTW:=hI ((two_of hb).trans hXY)
 have HX:=hI hX
 have HY:=hI hY
 have HPY:=hI hpY
 have HP1:=hI p1
 have HA:=hI ha
 have HTY:=hI hTY
 have HREC:=hI hrec
 have HF:=hI hf
 have n1:decide (1000000<a k+1)=false:=decide_eq_false (by omega)
 have n2:((k:Int)==2)=false:=beq_eq_false_iff_ne.2 (by omega)
 have n3:decide (k=2)=false:=decide_eq_false (by omega)
 have k0:(0:Int)≤k:=by omega
 have k1:(k:Int)<65:=by omega
 have wk:IntKind.i64.wrap (a k+1)=a k+1:=IntWalk.i64_in _ (by omega)
 clear hX hY hpY hXY p0 p1 hb h hp ha hT hTY hrec hf ht hv
 go_enter Tryz.func123,Tryz.ntmps123
 go_wp2_with (rw [HX.out])
 go_region
 rw [HY.out]
 clear gk fk
 go_wp2_with (first | (go_at_call 21;refine HEN.out.mono ?_;rintro e V ⟨rfl,h1⟩;have hV0:=h1;clear i1 r1 h1;obtain ⟨i1,r1⟩:=(HP1.out.below hV0 HP1.out.lt).rules))
 refine (HLI.out V (HTY.out.below hV0 lR)).mono ?_
 rintro e M ⟨vl,rfl,ho,h1⟩
 have hTM:Tab M:=(HTY.out.below hV0 lR).below h1 lR
 have hYM:Below Y.heap.size Y M:=bT hV0 h1
 have hPM:Per gg gc M (upd a k (a k+1)) c:=HPY.out.below hYM
 have hTWM:Two gg gc W M:=HTW.out.trans (two_of hYM)
 have hp1:PosAt M W.heap.size n:=HP1.out.below hYM HP1.out.lt
 have hVs:gg<V.heap.size∧gc<V.heap.size:=(HPY.out.below hV0).lt
 have hlt2:=hlt
 obtain ⟨va,vc,rfl,hall⟩:=moves_slice ho
 have HALL:=hI hall
 have HTM:=hI hTM
 have HPM:=hI hPM
 have HTWM:=hI hTWM
 have HP2:=hI hp1
 have hMs:W.heap.size<M.heap.size:=hp1.lt
 clear hTM hYM hPM hTWM hp1 ho hall i1 r1 y2 h1 hV0
 go_wp2
 go_loopg [44] (listL n).length (fun g i wr=>∃ j:Nat,j+g=(listL n).length∧i=.int .i64 j∧(∃ b,Per gg gc wr b (c+sumF f ((listL n).take j))∧∀ i,i<3→a i≤b i∧b i≤a i+1+j*B)∧(sumF f ((listL n).take j):Int)≤j*B∧Two gg gc M wr)
 case atStart =>
  refine ⟨0,by omega,rfl,⟨_,by simpa [sumF] using HPM.out,fun i hi=>?_⟩,by simp [sumF],Two.refl _ _ _⟩
  by_cases e:i=k
  · subst e;rw [upd_at];omega
  · rw [upd_ne _ e];omega
 case round =>
  obtain ⟨j,hj,rfl,⟨b,hpb,hbb⟩,hsm,hw⟩:=hrel
  by_cases hlt:j<(listL n).length
  · obtain ⟨g, rfl, hgB, hgl, q0, q1, q2, q3, q4⟩ := HALL.out j hlt
    have hml:=List.getElem_mem hlt
    have HSN:=hI (show sumF f ((listL n).take (j+1))=sumF f ((listL n).take j)+f ((listL n)[j]) by rw [List.take_succ_eq_append_getElem hlt,sumF_snoc])
    have HFM:=hI (HF.out _ hml)
    have HAMJ:=hI (HAM.out _ hml)
    have HRCJ:=hI (HREC.out _ hml)
    have HLN:=hI hlt
    generalize (listL n)[j]=m at *
    have hblk:∀ o,wr.cell? ⟨g,o,none⟩=M.cell? ⟨g,o,none⟩:=fun o=>World.cell?_of_block (w:=M) (a:=⟨g,o,none⟩) (hw.block g hgl (by omega) (by omega))
    rw [← hblk] at q0 q1 q2 q3 q4
    have pw:PosAt wr W.heap.size n:=two_pos hw HP2.out (by omega) (by omega)
    obtain ⟨Z,hZ⟩:∃ Z,wr.alloc (.cells #[.int .i8 m.f,.int .i8 m.t,.int .u8 m.p,.int .u8 m.d,.bool m.c] 49)=Z:=⟨_,rfl⟩
    obtain ⟨qz,hZb⟩:=mvBox_at hZ
    obtain ⟨z0,z1,z2,z3,z4⟩:=mv_cell qz
    have pz:PosAt Z W.heap.size n:=pw.below hZb pw.lt
    obtain ⟨i1,r1⟩:=pz.rules
    have HZ:=hI hZ
    have HW:=hI hw
    have HPB:=hI hpb
    have HBB:=hI hbb
    have HZB:=hI hZb
    have HTZ:=hI ((tab_two HTM.out hw hg1 hg2).below hZb lR)
    have HPZ:=hI (hpb.below hZb)
    clear hblk hw hpb hbb hZ hZb qz pw pz
    go_wp2_with (rw [HZ.out])
    refine (HAMJ.out Z HTZ.out).mono ?_
    rintro e V2 ⟨rfl,h2⟩
    obtain ⟨Q,hQ⟩:∃ Q,(V2.alloc (.cells (posA zeroN) 31)).setRow V2.heap.size (posA (madeN n m))=Q:=⟨_,rfl⟩
    obtain ⟨pq,hQb⟩:=pos_put V2 _ Q hQ
    have hZQ:Below Z.heap.size Z Q:=bT h2 hQb
    have HTQ:=hI (HTZ.out.below hZQ lR)
    have HPQ:=hI (HPZ.out.below hZQ)
    have HWQ:=hI ((HW.out.trans (two_of HZB.out)).trans (two_of hZQ))
    have hzp:=zeroPos
    have HQ:=hI hQ
    obtain ⟨i2,r2⟩:=pq.rules
    have hbb:=HBB.out
    have hfm:=HFM.out
    have hjB:((j:Int)+1)*B≤50*B:=Int.mul_le_mul_of_nonneg_right (by have:=HLN.out;omega) (by omega)
    have hjB' : ((j:Int)+1)*B=j*B+B:=by rw [Int.add_mul,Int.one_mul]
    have HRC:=hI (HRCJ.out Q b (c+sumF f ((listL n).take j)) HTQ.out HPQ.out (fun i hi=>by
     have h0:=HA.out i hi
     have h1:=hbb i hi
     rw [hb0]
     omega) (by omega) (by rw [hb0];omega))
    have wk1:IntKind.i64.wrap ((k:Int)+1)=k+1:=IntWalk.i64_in _ (by omega)
    clear hQ pq hQb hZQ h2 i1 r1 hbb
    go_wp2_with (first | rw [HQ.out] | (go_at_call 123;refine HRC.out.mono ?_;rintro e U ⟨rfl,⟨b2,hp2,hb2⟩,htw⟩;have HP9:=hI hp2;have HB9:=hI hb2;have HT9:=hI (HWQ.out.trans htw);clear hp2 hb2 htw))
    have hjB2:((j+1:Nat):Int)*B=j*B+B:=by rw [Int.natCast_add,Int.add_mul];show _+1*B=_;rw [Int.one_mul]
    have HE1:=hI (show Per gg gc U b2 (c+(sumF f ((listL n).take (j+1)):Nat)) by rw [HSN.out,Int.natCast_add,← Int.add_assoc];exact HP9.out)
    have HE2:=hI (show ∀ i,i<3→a i≤b2 i∧b2 i≤a i+1+((j+1:Nat):Int)*B from fun i hi=>by
     have h1:=HBB.out i hi
     have h2:=HB9.out i hi
     rw [hb0] at h2
     rw [hjB2]
     omega)
    have HE3:=hI (show ((sumF f ((listL n).take (j+1)):Nat):Int)≤((j+1:Nat):Int)*B by rw [HSN.out,Int.natCast_add,hjB2];omega)
    clear hjB hjB' hjB2 hsm hfm
    go_roundg ((listL n).length - (j+1))
    case measure=>omega
    case rel=>exact ⟨j+1,by omega,by go_num,⟨b2,HE1.out,HE2.out⟩,HE3.out,HT9.out⟩
  · obtain rfl : j = (listL n).length := by omega
    rw [List.take_length] at hpb
    have hjB:((listL n).length:Int)*B≤50*B:=Int.mul_le_mul_of_nonneg_right (by omega) (by omega)
    have HE1:=hI hpb
    have HE2:=hI (show ∀ i,i<3→a i≤b i∧b i≤a i+BdP k from fun i hi=>by
     have h1:=hbb i hi
     omega)
    have HE3:=hI (HTWM.out.trans hw)
    clear hpb hbb hw hsm hjB
    go_wp2
    first | go_end0 | refine bodyPost_ret (results_none rfl _ _ _) rfl ?_
    exact ⟨rfl,⟨b,HE1.out,HE2.out⟩,HE3.out⟩
end Go.Proofs.YteocjaihaegmoaaGreatDoor
