/- Parts of the proof: BV, WTopEnds. -/
import Derived.Test.YteocjaihaegmoaaGreatDoorZBN
import Derived.Test.YteocjaihaegmoaaGreatDoorZBO
import Derived.Test.YteocjaihaegmoaaGreatDoorZBP
import Derived.Test.YteocjaihaegmoaaGreatDoorZBS
namespace Go.Proofs.YteocjaihaegmoaaGreatDoor
open Go Go.RowKit
set_option linter.unusedVariables false
abbrev oTe0:Oper:={ dst:=some 31,op:=Op.load 39 (Operand.tmp 7),type:=39,pos := "top22.go:99",after:=#[],guard:=none }
abbrev oTe1:Oper:={ dst:=some 32,op:=Op.move (Operand.tmp 5),type:=36,pos := "top22.go:99",after:=#[],guard:=none }
abbrev oTe2:Oper:={ dst:=some 33,op:=Op.move (Operand.tmp 6),type:=3,pos := "top22.go:99",after:=#[],guard:=none }
abbrev oTe3:Oper:={ dst:=some 34,op:=Op.indexAddr 36 (Operand.tmp 32) (Operand.tmp 33),type:=0,pos := "top22.go:99",after:=#[{ on:=1,ground:=Ground.data },{ on:=2,ground:=Ground.data }],guard:=none }
abbrev oTe4:Oper:={ dst:=some 35,op:=Op.load 31 (Operand.tmp 34),type:=31,pos := "top22.go:99",after:=#[{ on:=3,ground:=Ground.data }],guard:=none }
abbrev oTe5:Oper:={ dst:=some 36,op:=Op.call { callee:=Callee.value (Operand.func 9),args:=#[Operand.tmp 35],argTypes:=#[31] },type:=39,pos := "top22.go:99",after:=#[{ on:=4,ground:=Ground.data }],guard:=none }
abbrev oTe6:Oper:={ dst:=some 37,op:=Op.binOp BinOp.neq 39 (Operand.tmp 31) (Operand.tmp 36) 39,type:=4,pos := "top22.go:99",after:=#[{ on:=0,ground:=Ground.data },{ on:=5,ground:=Ground.data }],guard:=none }
abbrev oTe7:Oper:={ dst:=some 38,op:=Op.move (Operand.tmp 37),type:=4,pos := "top22.go:99",after:=#[{ on:=6,ground:=Ground.data },{ on:=5,ground:=Ground.chain }],guard:=none }
abbrev oTe8:Oper:={ dst:=some 39,op:=Op.fieldAddr 39 (Operand.tmp 7) 0,type:=0,pos := "top22.go:99",after:=#[{ on:=7,ground:=Ground.guard }],guard:=some (7,false) }
abbrev oTe9:Oper:={ dst:=some 40,op:=Op.load 5 (Operand.tmp 39),type:=5,pos := "top22.go:99",after:=#[{ on:=8,ground:=Ground.data },{ on:=7,ground:=Ground.guard }],guard:=some (7,false) }
abbrev oTe10:Oper:={ dst:=some 41,op:=Op.binOp BinOp.eql 5 (Operand.tmp 40) (Operand.const (Value.int IntKind.u8 0)) 5,type:=4,pos := "top22.go:99",after:=#[{ on:=9,ground:=Ground.data },{ on:=7,ground:=Ground.guard }],guard:=some (7,false) }
abbrev oTe11:Oper:={ dst:=some 42,op:=Op.move (Operand.tmp 41),type:=4,pos := "top22.go:99",after:=#[{ on:=10,ground:=Ground.data },{ on:=7,ground:=Ground.chain },{ on:=7,ground:=Ground.guard }],guard:=some (7,false) }
abbrev oTe12:Oper:={ dst:=some 43,op:=Op.move (Operand.tmp 5),type:=36,pos := "top22.go:99",after:=#[{ on:=11,ground:=Ground.guard }],guard:=some (11,true) }
abbrev oTe13:Oper:={ dst:=some 44,op:=Op.move (Operand.tmp 6),type:=3,pos := "top22.go:99",after:=#[{ on:=11,ground:=Ground.guard }],guard:=some (11,true) }
abbrev oTe14:Oper:={ dst:=some 45,op:=Op.indexAddr 36 (Operand.tmp 43) (Operand.tmp 44),type:=0,pos := "top22.go:99",after:=#[{ on:=12,ground:=Ground.data },{ on:=13,ground:=Ground.data },{ on:=11,ground:=Ground.guard }],guard:=some (11,true) }
abbrev oTe15:Oper:={ dst:=some 46,op:=Op.load 31 (Operand.tmp 45),type:=31,pos := "top22.go:99",after:=#[{ on:=14,ground:=Ground.data },{ on:=11,ground:=Ground.guard }],guard:=some (11,true) }
abbrev oTe16:Oper:={ dst:=some 47,op:=Op.call { callee:=Callee.value (Operand.func 10),args:=#[Operand.tmp 46],argTypes:=#[31] },type:=41,pos := "top22.go:99",after:=#[{ on:=15,ground:=Ground.data },{ on:=11,ground:=Ground.chain },{ on:=11,ground:=Ground.guard }],guard:=some (11,true) }
abbrev oTe17:Oper:={ dst:=some 48,op:=Op.call { callee:=Callee.builtin Builtin.len,args:=#[Operand.tmp 47],argTypes:=#[41] },type:=3,pos := "top22.go:99",after:=#[{ on:=16,ground:=Ground.data },{ on:=11,ground:=Ground.guard }],guard:=some (11,true) }
abbrev oTe18:Oper:={ dst:=some 49,op:=Op.binOp BinOp.eql 3 (Operand.tmp 48) (Operand.const (Value.int IntKind.i64 0)) 3,type:=4,pos := "top22.go:99",after:=#[{ on:=17,ground:=Ground.data },{ on:=11,ground:=Ground.guard }],guard:=some (11,true) }
abbrev oTe19:Oper:={ dst:=some 50,op:=Op.pick (Operand.tmp 42) (Operand.tmp 49) (Operand.const (Value.bool false)),type:=4,pos := "top22.go:99",after:=#[{ on:=11,ground:=Ground.data },{ on:=18,ground:=Ground.data },{ on:=7,ground:=Ground.guard }],guard:=some (7,false) }
abbrev oTe20:Oper:={ dst:=some 51,op:=Op.pick (Operand.tmp 38) (Operand.const (Value.bool true)) (Operand.tmp 50),type:=4,pos := "top22.go:99",after:=#[{ on:=7,ground:=Ground.data },{ on:=19,ground:=Ground.data }],guard:=none }
abbrev oTe21:Oper:={ dst:=some 52,op:=Op.move (Operand.tmp 51),type:=4,pos := "top22.go:99",after:=#[{ on:=20,ground:=Ground.data },{ on:=16,ground:=Ground.chain }],guard:=none }
abbrev oTe22:Oper:={ dst:=some 53,op:=Op.fieldAddr 39 (Operand.tmp 7) 0,type:=0,pos := "top22.go:99",after:=#[{ on:=21,ground:=Ground.guard }],guard:=some (21,false) }
abbrev oTe23:Oper:={ dst:=some 54,op:=Op.load 5 (Operand.tmp 53),type:=5,pos := "top22.go:99",after:=#[{ on:=22,ground:=Ground.data },{ on:=21,ground:=Ground.guard }],guard:=some (21,false) }
abbrev oTe24:Oper:={ dst:=some 55,op:=Op.binOp BinOp.neq 5 (Operand.tmp 54) (Operand.const (Value.int IntKind.u8 0)) 5,type:=4,pos := "top22.go:99",after:=#[{ on:=23,ground:=Ground.data },{ on:=21,ground:=Ground.guard }],guard:=some (21,false) }
abbrev oTe25:Oper:={ dst:=some 56,op:=Op.move (Operand.tmp 55),type:=4,pos := "top22.go:99",after:=#[{ on:=24,ground:=Ground.data },{ on:=21,ground:=Ground.chain },{ on:=21,ground:=Ground.guard }],guard:=some (21,false) }
abbrev oTe26:Oper:={ dst:=some 57,op:=Op.move (Operand.tmp 6),type:=3,pos := "top22.go:99",after:=#[{ on:=25,ground:=Ground.guard }],guard:=some (25,true) }
abbrev oTe27:Oper:={ dst:=some 58,op:=Op.binOp BinOp.add 3 (Operand.tmp 57) (Operand.const (Value.int IntKind.i64 1)) 3,type:=3,pos := "top22.go:99",after:=#[{ on:=26,ground:=Ground.data },{ on:=25,ground:=Ground.guard }],guard:=some (25,true) }
abbrev oTe28:Oper:={ dst:=some 59,op:=Op.move (Operand.tmp 5),type:=36,pos := "top22.go:99",after:=#[{ on:=25,ground:=Ground.guard }],guard:=some (25,true) }
abbrev oTe29:Oper:={ dst:=some 60,op:=Op.call { callee:=Callee.builtin Builtin.len,args:=#[Operand.tmp 59],argTypes:=#[36] },type:=3,pos := "top22.go:99",after:=#[{ on:=28,ground:=Ground.data },{ on:=25,ground:=Ground.guard }],guard:=some (25,true) }
abbrev oTe30:Oper:={ dst:=some 61,op:=Op.binOp BinOp.lss 3 (Operand.tmp 58) (Operand.tmp 60) 3,type:=4,pos := "top22.go:99",after:=#[{ on:=27,ground:=Ground.data },{ on:=29,ground:=Ground.data },{ on:=25,ground:=Ground.guard }],guard:=some (25,true) }
abbrev oTe31:Oper:={ dst:=some 62,op:=Op.pick (Operand.tmp 56) (Operand.tmp 61) (Operand.const (Value.bool false)),type:=4,pos := "top22.go:99",after:=#[{ on:=25,ground:=Ground.data },{ on:=30,ground:=Ground.data },{ on:=21,ground:=Ground.guard }],guard:=some (21,false) }
abbrev oTe32:Oper:={ dst:=some 63,op:=Op.pick (Operand.tmp 52) (Operand.const (Value.bool true)) (Operand.tmp 62),type:=4,pos := "top22.go:99",after:=#[{ on:=21,ground:=Ground.data },{ on:=31,ground:=Ground.data }],guard:=none }
theorem going_list {n:Nat→Int} (h78:n 78=0∨n 78=1) (h:(endV n).1=0):listL n≠[]:=by
 intro hl
 by_cases hw:(wonP n).1=0
 · rw [end_1 hw, if_pos hl] at h
   split at h
   · exact absurd h (by show ¬(1+n 78=0);omega)
   · split at h
     · exact absurd h (by show ¬(2 - n 78=0);omega)
     · exact absurd h (by decide)
 · unfold endV at h
   rw [if_pos hw] at h
   exact hw h
theorem WalkL.at {l:List (Nat→Int)} {q:Nat→Int} (h:WalkL l q) (j:Nat) (hj:j<l.length):Good l[j]∧(j+1<l.length→(endV l[j]).1=0):=by
 obtain ⟨l0,rfl,h1,h2⟩:=h
 by_cases hlt:j<l0.length
 · rw [List.getElem_append_left hlt]
   have:=h1 _ (List.getElem_mem hlt)
   exact ⟨this.1,fun _=>this.2⟩
 · have hl : (l0 ++ [q]).length = l0.length + 1 := by simp
   rw [List.getElem_append_right (by omega)]
   simp only [List.getElem_singleton]
   exact ⟨h2,fun h=>by omega⟩
set_option maxHeartbeats 16000000 in
set_option maxRecDepth 100000 in
theorem topEnds_of (hst:∀ V,Tab V→Calls Tryz.prog 6 #[] V fun e w' => e = .returned (.bool true)∧Below V.heap.size V w') (n:Nat→Int) (hn:PosOk n) (wl:List Int) (hw0:∀ i,0≤wl.getD i 0∧wl.getD i 0≤255) (v:Value) (w:World) (hT:Tab w) (hv:WayAt w v wl):Calls Tryz.prog 3 #[.agg (posA n),v] w fun e w' => e = .returned (.bool true)∧Below w.heap.size w w' := by
 have HV:=hideIt hv
 obtain ⟨wa,wc,hve,hwa⟩:=hv
 subst hve
 have HWV:=hideIt (fun V (h:Below w.heap.size w V)=>(show WayAt V (.slice wa wl.length wc) wl from ⟨wa,wc,rfl,fun i hi=>by
  obtain ⟨g,o,h1,h2,h3⟩:=hwa i hi
  exact ⟨g,o,h1,Nat.lt_of_lt_of_le h2 h.size,(h.cell (p:=⟨g,o+i,none⟩) h2).trans h3⟩⟩))
 obtain ⟨X,hX⟩:∃ X,w.alloc (.cells (posA n) 31)=X:=⟨_,rfl⟩
 obtain ⟨p0,hb⟩:=box1 w n X hX
 obtain ⟨i0,r0⟩:=p0.rules
 have HT:=hideIt (fun V (h:Below w.heap.size w V)=>hT.below h (Nat.le_refl _))
 have HST:=hideIt (fun V (h:Below w.heap.size w V)=>hst V (HT.out V h))
 have HCK:=hideIt (vcheckE_any n hn X (HT.out X hb))
 have HPX:=hideIt p0
 have HB:=hideIt hb
 have HX:=hideIt hX
 have HGD:=hideIt (fun h:validE n=0=>(show Good n from by
  have:=plain_facts hn (valid_ok h)
  exact ⟨hn,this.2.1,this.1⟩))
 have HW0:=hideIt hw0
 generalize validE n=E at *
 clear hX p0 hb hT hst hwa hw0
 go_enter Tryz.func3,Tryz.ntmps3
 by_cases hE:E=0
 case neg =>
  have e1:(E != 0)=true:=bne_iff_ne.2 hE
  have e2:(E==0)=false:=beq_eq_false_iff_ne.2 hE
  clear hE
  go_wp2_with (first | rw [HX.out] | (go_at_call 5;refine HCK.out.mono ?_;rintro e U ⟨rfl,h1⟩;have hbU:=HB.out.trans (h1.mono HB.out.size)) | (go_at_call 6;refine (HST.out _ hbU).mono ?_;rintro e U2 ⟨rfl,h2⟩;have hbU2:=hbU.trans (h2.mono hbU.size)))
  go_ret
  exact ⟨rfl,hbU2⟩
 subst hE
 by_cases hlen:30<wl.length
 case pos =>
  have e1:decide ((30:Int)<wl.length)=true:=decide_eq_true (by omega)
  go_wp2_with (first | rw [HX.out] | (go_at_call 5;refine HCK.out.mono ?_;rintro e U ⟨rfl,h1⟩;have hbU:=HB.out.trans (h1.mono HB.out.size)) | (go_at_call 6;refine (HST.out _ hbU).mono ?_;rintro e U2 ⟨rfl,h2⟩;have hbU2:=hbU.trans (h2.mono hbU.size)))
  go_ret
  exact ⟨rfl,hbU2⟩
 have e1:decide ((30:Int)<wl.length)=false:=decide_eq_false (by omega)
 have hl1000:wl.length≤1000:=by omega
 have HWK:=hideIt (fun V (h:Below w.heap.size w V)=>walk_any n (HGD.out rfl) wl hl1000 HW0.out (.slice wa wl.length wc) V (HT.out V h) (HWV.out V h))
 go_wp2_with (first | rw [HX.out] | (go_at_call 5;refine HCK.out.mono ?_;rintro e U ⟨rfl,h1⟩;have hbU:=HB.out.trans (h1.mono HB.out.size);have hpU:=HPX.out.below h1 HPX.out.lt;clear h1 i0 r0;obtain ⟨i0,r0⟩:=hpU.rules;clear hpU))
 refine (HWK.out _ hbU).mono ?_
 rintro e U2 ⟨⟨u,l,qe,rfl,hown,hwk,hll⟩,h1⟩
 have hbU2:=hbU.trans (h1.mono hbU.size)
 have HBU:=hideIt hbU2
 have HFO:=hideIt (fun V (h:Below U2.heap.size U2 V)=>(hown.kept h (Nat.le_refl _)).form)
 have HWL:=hideIt (fun j hj=>hwk.at j hj)
 obtain ⟨ua,uc,rfl,_⟩:=hown.form
 clear h1 hbU hbU2 hown hwk i0 r0
 go_wp2
 go_loopg [6] l.length (fun g i wr=>∃ j:Nat,j+g=l.length∧i=.int .i64 j∧Below U2.heap.size U2 wr)
 case atStart=>exact ⟨0,by omega,rfl,Below.refl _ _⟩
 case round =>
  obtain ⟨j,hj,rfl,hr⟩:=hrel
  by_cases hlt:j<l.length
  case neg =>
   obtain rfl:j=l.length:=by omega
   have hb:=HBU.out.trans (hr.mono HBU.out.size)
   have ec:decide ((l.length:Int)<l.length)=false:=decide_eq_false (by omega)
   go_wp2_with (go_at_call 6;refine (HST.out _ hb).mono ?_;rintro e U3 ⟨rfl,h2⟩;have hb2:=hb.trans (h2.mono hb.size))
   go_ret
   exact ⟨rfl,hb2⟩
  case pos =>
   have ec:decide ((j:Int)<l.length)=true:=decide_eq_true (by omega)
   obtain ⟨a',c',hsl,hat⟩:=HFO.out wr hr
   obtain ⟨g,hg,hgB,hgl,hrg⟩:=hat j hlt
   obtain ⟨rfl,rfl⟩:ua=a' ∧ uc=c' := by injection hsl with h1 h2 h3;exact ⟨h1,h3⟩
   subst hg
   obtain ⟨hG,hlast⟩:=HWL.out j hlt
   generalize l[j]=q at *
   obtain ⟨t,vv,ht1,ht,hv9,hvv⟩:=hG.nat
   have HOF:=hideIt (of_end q hG.ok t ht1 ht vv hv9 hvv wr (HT.out wr (HBU.out.trans (hr.mono HBU.out.size))))
   have HRO:=hideIt (fun V=>rof_any q hG.ok t ht1 ht vv hv9 hvv V)
   have HLI:=hideIt (fun V hT=>legal_list q hG.ok t ht1 ht vv hv9 hvv V hT)
   have hgo:=going_list (n:=q) hG.t
   obtain ⟨⟨a,b⟩,hab⟩:∃ r,endV q=r:=⟨_,rfl⟩
   rw [hab] at HOF HRO hlast hgo
   unfold resV at HOF HRO
   dsimp only at HOF HRO hlast hgo
   obtain ⟨m1,m2⟩:=mid_rules hrg
   have HRG:=hideIt (fun V (h:Below wr.heap.size wr V)=>mid_rules (range_below hrg h hgl))
   have HR:=hideIt hr
   have HGO:=hideIt hgo
   have HLA:=hideIt hlast
   have hL0:a=0→(((listL q).length:Int)==0)=false:=fun h=>beq_eq_false_iff_ne.2 (by
    have:=List.length_pos_iff.2 (HGO.out h)
    omega)
   obtain ⟨L,hLq⟩:∃ L,(listL q).length=L:=⟨_,rfl⟩
   rw [hLq] at hL0
   have HLQ:=hideIt hLq
   have HL0:=hideIt hL0
   clear hr hsl hat hrg hG hab ht hvv hlast hgo hL0 hLq
   go_wp2_with (first | (go_at_call 8;refine HOF.out.mono ?_;rintro e Z ⟨rfl,h1⟩;have HZ:=hideIt h1;clear h1 m1 m2))
   obtain ⟨Y,hY⟩:∃ Y,(Z.alloc (.cells #[.int .u8 0,.int .u8 0] 39)).setRow Z.heap.size #[.int .u8 a,.int .u8 b]=Y:=⟨_,rfl⟩
   rw [hY]
   have hZs:Z.heap.size<Y.heap.size:=by rw [← hY];simp [World.setRow]
   have hbY:Below Z.heap.size Z Y:=by rw [← hY];exact below_setRow ((Below.refl _ _).alloc (Nat.le_refl _) _) (Nat.le_refl _) _
   have yr:Y.heap[Z.heap.size]?=some (.cells #[.int .u8 a,.int .u8 b] 39 (0,0)):=by rw [← hY];exact res_set (isRes_new Z 0 0) a b
   have y0:Y.cell? ⟨Z.heap.size,0,none⟩=some (.int .u8 a):=by rw [cell_of_row Y _ 0 _ _ _ yr];rfl
   have y1:Y.cell? ⟨Z.heap.size,1,none⟩=some (.int .u8 b):=by rw [cell_of_row Y _ 1 _ _ _ yr];rfl
   have hrY:Below wr.heap.size wr Y:=bl_then7 HZ.out hbY
   have HS:=hideIt (fun V2 (hb:Below Y.heap.size Y V2)=>(show ((V2.cell? ⟨Z.heap.size,0,none⟩=some (.int .u8 a)∧V2.cell? ⟨Z.heap.size,1,none⟩=some (.int .u8 b))∧(IsMid V2 g (j*88)∧midOf V2 g (j*88)=posA q))∧Below Y.heap.size Y V2 from ⟨⟨⟨(hb.cell (p:=⟨Z.heap.size,0,none⟩) hZs).trans y0,(hb.cell (p:=⟨Z.heap.size,1,none⟩) hZs).trans y1⟩,HRG.out V2 (bl_then7 hrY hb)⟩,hb⟩))
   have HRY:=hideIt (bl_then7 HR.out hrY)
   have HBY:=hideIt (HBU.out.trans (HRY.out.mono HBU.out.size))
   clear hY hbY yr y0 y1 hrY
   have wj:IntKind.i64.wrap ((j:Int)+1)=(j:Int)+1:=IntWalk.i64_in _ (by omega)
   rcases (show ((a==0)=true∧(a != 0)=false∧((L:Int)==0)=false∧decide (L=0)=false)∨((a==0)=false∧(a != 0)=true∧decide ((j:Int)+1<l.length)=false) by
    by_cases ha:a=0
    · have h0 := HL0.out ha
      exact .inl ⟨beq_iff_eq.2 ha,by rw [ha];rfl,h0,decide_eq_false (fun h=>by rw [h] at h0;exact absurd h0 (by decide))⟩
    · exact .inr ⟨beq_eq_false_iff_ne.2 ha,bne_iff_ne.2 ha,decide_eq_false (fun h=>ha (HLA.out (by omega)))⟩) with ⟨k1,k2,k3,k4⟩ | ⟨k1,k2,k3⟩
   all_goals
    refine wp_region_held_drew (S:=(fun V2=>((V2.cell? ⟨Z.heap.size,0,none⟩=some (.int .u8 a)∧V2.cell? ⟨Z.heap.size,1,none⟩=some (.int .u8 b))∧(IsMid V2 g (j*88)∧midOf V2 g (j*88)=posA q))∧Below Y.heap.size Y V2)) (by kernel_rfl) ?_ (fun hHeld=>?_)
    · (try dsimp only);(refine HS.out _ ?_;repeat (first | exact Below.refl _ _ | assumption | refine bl_drew7 ?_ | refine bl_then7 ?_ (by assumption)))
    (refine tk 0 (oi:=oTe0) (v:=?_) rfl (fun _ _ _ h=>h) (.inl ⟨by rfl,?_⟩) (by assumption) ?_;rotate_left;(focus (intro w hSw;(try dsimp only at hSw);go_simp;try (with_reducible rfl)));try simp only [Act.put,List.setIfInBounds_toArray,List.set_cons_zero,List.set_cons_succ])
    (refine tk 1 (oi:=oTe1) (v:=?_) rfl (fun _ _ _ h=>h) (.inl ⟨by rfl,?_⟩) (by assumption) ?_;rotate_left;(focus (intro w hSw;(try dsimp only at hSw);go_simp;try (with_reducible rfl)));try simp only [Act.put,List.setIfInBounds_toArray,List.set_cons_zero,List.set_cons_succ])
    (refine tk 2 (oi:=oTe2) (v:=?_) rfl (fun _ _ _ h=>h) (.inl ⟨by rfl,?_⟩) (by assumption) ?_;rotate_left;(focus (intro w hSw;(try dsimp only at hSw);go_simp;try (with_reducible rfl)));try simp only [Act.put,List.setIfInBounds_toArray,List.set_cons_zero,List.set_cons_succ])
    (refine tk 3 (oi:=oTe3) (v:=?_) rfl (fun _ _ _ h=>h) (.inl ⟨by rfl,?_⟩) (by assumption) ?_;rotate_left;(focus (intro w hSw;(try dsimp only at hSw);go_simp;try (with_reducible rfl)));try simp only [Act.put,List.setIfInBounds_toArray,List.set_cons_zero,List.set_cons_succ])
    (refine tk 4 (oi:=oTe4) (v:=?_) rfl (fun _ _ _ h=>h) (.inl ⟨by rfl,?_⟩) (by assumption) ?_;rotate_left;(focus (intro w hSw;(try dsimp only at hSw);go_simp;try (with_reducible rfl)));try simp only [Act.put,List.setIfInBounds_toArray,List.set_cons_zero,List.set_cons_succ])
    refine wpAnyH_ready (rs:=[5]) (by kernel_rfl) (by simp) ?_
    refine AllReadyH.cons (o:=oTe5) rfl (fun K hK=>?_) AllReadyH.nil
    go_simp
    refine (HRO.out _).mono ?_
    rintro e V3 ⟨rfl,h3⟩
    refine hK.out _ _ ?_ (fun hHeld=>?_)
    · (try dsimp only);(refine HS.out _ ?_;repeat (first | exact Below.refl _ _ | assumption | refine bl_drew7 ?_ | refine bl_then7 ?_ (by assumption)))
    clear hK K
    try simp only [Act.put,List.setIfInBounds_toArray,List.set_cons_zero,List.set_cons_succ]
    (refine tk 6 (oi:=oTe6) (v:=?_) rfl (fun _ _ _ h=>h) (.inl ⟨by rfl,?_⟩) (by assumption) ?_;rotate_left;(focus (intro w hSw;(try dsimp only at hSw);go_simp;try (with_reducible rfl)));try simp only [Act.put,List.setIfInBounds_toArray,List.set_cons_zero,List.set_cons_succ])
    (refine tk 7 (oi:=oTe7) (v:=?_) rfl (fun _ _ _ h=>h) (.inl ⟨by rfl,?_⟩) (by assumption) ?_;rotate_left;(focus (intro w hSw;(try dsimp only at hSw);go_simp;try (with_reducible rfl)));try simp only [Act.put,List.setIfInBounds_toArray,List.set_cons_zero,List.set_cons_succ])
    first | (refine tk 8 (oi:=oTe8) (v:=?_) rfl (fun _ _ _ h=>h) (.inl ⟨by rfl,?_⟩) (by assumption) ?_;rotate_left;(focus (intro w hSw;(try dsimp only at hSw);go_simp;try (with_reducible rfl)));try simp only [Act.put,List.setIfInBounds_toArray,List.set_cons_zero,List.set_cons_succ]) | (refine tk 8 (oi:=oTe8) (v:=undef) rfl (fun _ _ _ h=>h) (.inr ⟨by rfl,rfl⟩) (by assumption) ?_;try simp only [Act.put,List.setIfInBounds_toArray,List.set_cons_zero,List.set_cons_succ])
    first | (refine tk 9 (oi:=oTe9) (v:=?_) rfl (fun _ _ _ h=>h) (.inl ⟨by rfl,?_⟩) (by assumption) ?_;rotate_left;(focus (intro w hSw;(try dsimp only at hSw);go_simp;try (with_reducible rfl)));try simp only [Act.put,List.setIfInBounds_toArray,List.set_cons_zero,List.set_cons_succ]) | (refine tk 9 (oi:=oTe9) (v:=undef) rfl (fun _ _ _ h=>h) (.inr ⟨by rfl,rfl⟩) (by assumption) ?_;try simp only [Act.put,List.setIfInBounds_toArray,List.set_cons_zero,List.set_cons_succ])
    first | (refine tk 10 (oi:=oTe10) (v:=?_) rfl (fun _ _ _ h=>h) (.inl ⟨by rfl,?_⟩) (by assumption) ?_;rotate_left;(focus (intro w hSw;(try dsimp only at hSw);go_simp;try (with_reducible rfl)));try simp only [Act.put,List.setIfInBounds_toArray,List.set_cons_zero,List.set_cons_succ]) | (refine tk 10 (oi:=oTe10) (v:=undef) rfl (fun _ _ _ h=>h) (.inr ⟨by rfl,rfl⟩) (by assumption) ?_;try simp only [Act.put,List.setIfInBounds_toArray,List.set_cons_zero,List.set_cons_succ])
    first | (refine tk 11 (oi:=oTe11) (v:=?_) rfl (fun _ _ _ h=>h) (.inl ⟨by rfl,?_⟩) (by assumption) ?_;rotate_left;(focus (intro w hSw;(try dsimp only at hSw);go_simp;try (with_reducible rfl)));try simp only [Act.put,List.setIfInBounds_toArray,List.set_cons_zero,List.set_cons_succ]) | (refine tk 11 (oi:=oTe11) (v:=undef) rfl (fun _ _ _ h=>h) (.inr ⟨by rfl,rfl⟩) (by assumption) ?_;try simp only [Act.put,List.setIfInBounds_toArray,List.set_cons_zero,List.set_cons_succ])
    first | (refine tk 12 (oi:=oTe12) (v:=?_) rfl (fun _ _ _ h=>h) (.inl ⟨by rfl,?_⟩) (by assumption) ?_;rotate_left;(focus (intro w hSw;(try dsimp only at hSw);go_simp;try (with_reducible rfl)));try simp only [Act.put,List.setIfInBounds_toArray,List.set_cons_zero,List.set_cons_succ]) | (refine tk 12 (oi:=oTe12) (v:=undef) rfl (fun _ _ _ h=>h) (.inr ⟨by rfl,rfl⟩) (by assumption) ?_;try simp only [Act.put,List.setIfInBounds_toArray,List.set_cons_zero,List.set_cons_succ])
    first | (refine tk 13 (oi:=oTe13) (v:=?_) rfl (fun _ _ _ h=>h) (.inl ⟨by rfl,?_⟩) (by assumption) ?_;rotate_left;(focus (intro w hSw;(try dsimp only at hSw);go_simp;try (with_reducible rfl)));try simp only [Act.put,List.setIfInBounds_toArray,List.set_cons_zero,List.set_cons_succ]) | (refine tk 13 (oi:=oTe13) (v:=undef) rfl (fun _ _ _ h=>h) (.inr ⟨by rfl,rfl⟩) (by assumption) ?_;try simp only [Act.put,List.setIfInBounds_toArray,List.set_cons_zero,List.set_cons_succ])
    first | (refine tk 14 (oi:=oTe14) (v:=?_) rfl (fun _ _ _ h=>h) (.inl ⟨by rfl,?_⟩) (by assumption) ?_;rotate_left;(focus (intro w hSw;(try dsimp only at hSw);go_simp;try (with_reducible rfl)));try simp only [Act.put,List.setIfInBounds_toArray,List.set_cons_zero,List.set_cons_succ]) | (refine tk 14 (oi:=oTe14) (v:=undef) rfl (fun _ _ _ h=>h) (.inr ⟨by rfl,rfl⟩) (by assumption) ?_;try simp only [Act.put,List.setIfInBounds_toArray,List.set_cons_zero,List.set_cons_succ])
    first | (refine tk 15 (oi:=oTe15) (v:=?_) rfl (fun _ _ _ h=>h) (.inl ⟨by rfl,?_⟩) (by assumption) ?_;rotate_left;(focus (intro w hSw;(try dsimp only at hSw);go_simp;try (with_reducible rfl)));try simp only [Act.put,List.setIfInBounds_toArray,List.set_cons_zero,List.set_cons_succ]) | (refine tk 15 (oi:=oTe15) (v:=undef) rfl (fun _ _ _ h=>h) (.inr ⟨by rfl,rfl⟩) (by assumption) ?_;try simp only [Act.put,List.setIfInBounds_toArray,List.set_cons_zero,List.set_cons_succ])
    first
    | (refine tk 16 (oi:=oTe16) (v:=undef) rfl (fun _ _ _ h=>h) (.inr ⟨by rfl,rfl⟩) (by assumption) ?_;try simp only [Act.put,List.setIfInBounds_toArray,List.set_cons_zero,List.set_cons_succ])
    | refine wpAnyH_ready (rs := [16]) (by kernel_rfl) (by simp) ?_
      refine AllReadyH.cons (o:=oTe16) rfl (fun K hK=>?_) AllReadyH.nil
      go_simp
      refine (HLI.out _ (HT.out _ (HBY.out.trans (hHeld.2.mono HBY.out.size)))).mono ?_
      rintro e V4 ⟨vl,rfl,ho,h4⟩
      obtain ⟨va,vc,rfl,_⟩:=moves_slice ho
      rw [HLQ.out]
      refine hK.out _ _ ?_ (fun hHeld=>?_)
      · (try dsimp only);(refine HS.out _ ?_;repeat (first | exact Below.refl _ _ | assumption | refine bl_drew7 ?_ | refine bl_then7 ?_ (by assumption)))
      clear hK K
      try simp only [Act.put,List.setIfInBounds_toArray,List.set_cons_zero,List.set_cons_succ]
    first | (refine tk 17 (oi:=oTe17) (v:=?_) rfl (fun _ _ _ h=>h) (.inl ⟨by rfl,?_⟩) (by assumption) ?_;rotate_left;(focus (intro w hSw;(try dsimp only at hSw);go_simp;try (with_reducible rfl)));try simp only [Act.put,List.setIfInBounds_toArray,List.set_cons_zero,List.set_cons_succ]) | (refine tk 17 (oi:=oTe17) (v:=undef) rfl (fun _ _ _ h=>h) (.inr ⟨by rfl,rfl⟩) (by assumption) ?_;try simp only [Act.put,List.setIfInBounds_toArray,List.set_cons_zero,List.set_cons_succ])
    first | (refine tk 18 (oi:=oTe18) (v:=?_) rfl (fun _ _ _ h=>h) (.inl ⟨by rfl,?_⟩) (by assumption) ?_;rotate_left;(focus (intro w hSw;(try dsimp only at hSw);go_simp;try (with_reducible rfl)));try simp only [Act.put,List.setIfInBounds_toArray,List.set_cons_zero,List.set_cons_succ]) | (refine tk 18 (oi:=oTe18) (v:=undef) rfl (fun _ _ _ h=>h) (.inr ⟨by rfl,rfl⟩) (by assumption) ?_;try simp only [Act.put,List.setIfInBounds_toArray,List.set_cons_zero,List.set_cons_succ])
    first | (refine tk 19 (oi:=oTe19) (v:=?_) rfl (fun _ _ _ h=>h) (.inl ⟨by rfl,?_⟩) (by assumption) ?_;rotate_left;(focus (intro w hSw;(try dsimp only at hSw);go_simp;try (with_reducible rfl)));try simp only [Act.put,List.setIfInBounds_toArray,List.set_cons_zero,List.set_cons_succ]) | (refine tk 19 (oi:=oTe19) (v:=undef) rfl (fun _ _ _ h=>h) (.inr ⟨by rfl,rfl⟩) (by assumption) ?_;try simp only [Act.put,List.setIfInBounds_toArray,List.set_cons_zero,List.set_cons_succ])
    (refine tk 20 (oi:=oTe20) (v:=?_) rfl (fun _ _ _ h=>h) (.inl ⟨by rfl,?_⟩) (by assumption) ?_;rotate_left;(focus (intro w hSw;(try dsimp only at hSw);go_simp;try (with_reducible rfl)));try simp only [Act.put,List.setIfInBounds_toArray,List.set_cons_zero,List.set_cons_succ])
    (refine tk 21 (oi:=oTe21) (v:=?_) rfl (fun _ _ _ h=>h) (.inl ⟨by rfl,?_⟩) (by assumption) ?_;rotate_left;(focus (intro w hSw;(try dsimp only at hSw);go_simp;try (with_reducible rfl)));try simp only [Act.put,List.setIfInBounds_toArray,List.set_cons_zero,List.set_cons_succ])
    first | (refine tk 22 (oi:=oTe22) (v:=?_) rfl (fun _ _ _ h=>h) (.inl ⟨by rfl,?_⟩) (by assumption) ?_;rotate_left;(focus (intro w hSw;(try dsimp only at hSw);go_simp;try (with_reducible rfl)));try simp only [Act.put,List.setIfInBounds_toArray,List.set_cons_zero,List.set_cons_succ]) | (refine tk 22 (oi:=oTe22) (v:=undef) rfl (fun _ _ _ h=>h) (.inr ⟨by rfl,rfl⟩) (by assumption) ?_;try simp only [Act.put,List.setIfInBounds_toArray,List.set_cons_zero,List.set_cons_succ])
    first | (refine tk 23 (oi:=oTe23) (v:=?_) rfl (fun _ _ _ h=>h) (.inl ⟨by rfl,?_⟩) (by assumption) ?_;rotate_left;(focus (intro w hSw;(try dsimp only at hSw);go_simp;try (with_reducible rfl)));try simp only [Act.put,List.setIfInBounds_toArray,List.set_cons_zero,List.set_cons_succ]) | (refine tk 23 (oi:=oTe23) (v:=undef) rfl (fun _ _ _ h=>h) (.inr ⟨by rfl,rfl⟩) (by assumption) ?_;try simp only [Act.put,List.setIfInBounds_toArray,List.set_cons_zero,List.set_cons_succ])
    first | (refine tk 24 (oi:=oTe24) (v:=?_) rfl (fun _ _ _ h=>h) (.inl ⟨by rfl,?_⟩) (by assumption) ?_;rotate_left;(focus (intro w hSw;(try dsimp only at hSw);go_simp;try (with_reducible rfl)));try simp only [Act.put,List.setIfInBounds_toArray,List.set_cons_zero,List.set_cons_succ]) | (refine tk 24 (oi:=oTe24) (v:=undef) rfl (fun _ _ _ h=>h) (.inr ⟨by rfl,rfl⟩) (by assumption) ?_;try simp only [Act.put,List.setIfInBounds_toArray,List.set_cons_zero,List.set_cons_succ])
    first | (refine tk 25 (oi:=oTe25) (v:=?_) rfl (fun _ _ _ h=>h) (.inl ⟨by rfl,?_⟩) (by assumption) ?_;rotate_left;(focus (intro w hSw;(try dsimp only at hSw);go_simp;try (with_reducible rfl)));try simp only [Act.put,List.setIfInBounds_toArray,List.set_cons_zero,List.set_cons_succ]) | (refine tk 25 (oi:=oTe25) (v:=undef) rfl (fun _ _ _ h=>h) (.inr ⟨by rfl,rfl⟩) (by assumption) ?_;try simp only [Act.put,List.setIfInBounds_toArray,List.set_cons_zero,List.set_cons_succ])
    first | (refine tk 26 (oi:=oTe26) (v:=?_) rfl (fun _ _ _ h=>h) (.inl ⟨by rfl,?_⟩) (by assumption) ?_;rotate_left;(focus (intro w hSw;(try dsimp only at hSw);go_simp;try (with_reducible rfl)));try simp only [Act.put,List.setIfInBounds_toArray,List.set_cons_zero,List.set_cons_succ]) | (refine tk 26 (oi:=oTe26) (v:=undef) rfl (fun _ _ _ h=>h) (.inr ⟨by rfl,rfl⟩) (by assumption) ?_;try simp only [Act.put,List.setIfInBounds_toArray,List.set_cons_zero,List.set_cons_succ])
    first | (refine tk 27 (oi:=oTe27) (v:=?_) rfl (fun _ _ _ h=>h) (.inl ⟨by rfl,?_⟩) (by assumption) ?_;rotate_left;(focus (intro w hSw;(try dsimp only at hSw);go_simp;try (with_reducible rfl)));try simp only [Act.put,List.setIfInBounds_toArray,List.set_cons_zero,List.set_cons_succ]) | (refine tk 27 (oi:=oTe27) (v:=undef) rfl (fun _ _ _ h=>h) (.inr ⟨by rfl,rfl⟩) (by assumption) ?_;try simp only [Act.put,List.setIfInBounds_toArray,List.set_cons_zero,List.set_cons_succ])
    first | (refine tk 28 (oi:=oTe28) (v:=?_) rfl (fun _ _ _ h=>h) (.inl ⟨by rfl,?_⟩) (by assumption) ?_;rotate_left;(focus (intro w hSw;(try dsimp only at hSw);go_simp;try (with_reducible rfl)));try simp only [Act.put,List.setIfInBounds_toArray,List.set_cons_zero,List.set_cons_succ]) | (refine tk 28 (oi:=oTe28) (v:=undef) rfl (fun _ _ _ h=>h) (.inr ⟨by rfl,rfl⟩) (by assumption) ?_;try simp only [Act.put,List.setIfInBounds_toArray,List.set_cons_zero,List.set_cons_succ])
    first | (refine tk 29 (oi:=oTe29) (v:=?_) rfl (fun _ _ _ h=>h) (.inl ⟨by rfl,?_⟩) (by assumption) ?_;rotate_left;(focus (intro w hSw;(try dsimp only at hSw);go_simp;try (with_reducible rfl)));try simp only [Act.put,List.setIfInBounds_toArray,List.set_cons_zero,List.set_cons_succ]) | (refine tk 29 (oi:=oTe29) (v:=undef) rfl (fun _ _ _ h=>h) (.inr ⟨by rfl,rfl⟩) (by assumption) ?_;try simp only [Act.put,List.setIfInBounds_toArray,List.set_cons_zero,List.set_cons_succ])
    first | (refine tk 30 (oi:=oTe30) (v:=?_) rfl (fun _ _ _ h=>h) (.inl ⟨by rfl,?_⟩) (by assumption) ?_;rotate_left;(focus (intro w hSw;(try dsimp only at hSw);go_simp;try (with_reducible rfl)));try simp only [Act.put,List.setIfInBounds_toArray,List.set_cons_zero,List.set_cons_succ]) | (refine tk 30 (oi:=oTe30) (v:=undef) rfl (fun _ _ _ h=>h) (.inr ⟨by rfl,rfl⟩) (by assumption) ?_;try simp only [Act.put,List.setIfInBounds_toArray,List.set_cons_zero,List.set_cons_succ])
    first | (refine tk 31 (oi:=oTe31) (v:=?_) rfl (fun _ _ _ h=>h) (.inl ⟨by rfl,?_⟩) (by assumption) ?_;rotate_left;(focus (intro w hSw;(try dsimp only at hSw);go_simp;try (with_reducible rfl)));try simp only [Act.put,List.setIfInBounds_toArray,List.set_cons_zero,List.set_cons_succ]) | (refine tk 31 (oi:=oTe31) (v:=undef) rfl (fun _ _ _ h=>h) (.inr ⟨by rfl,rfl⟩) (by assumption) ?_;try simp only [Act.put,List.setIfInBounds_toArray,List.set_cons_zero,List.set_cons_succ])
    (refine tk 32 (oi:=oTe32) (v:=?_) rfl (fun _ _ _ h=>h) (.inl ⟨by rfl,?_⟩) (by assumption) ?_;rotate_left;(focus (intro w hSw;(try dsimp only at hSw);go_simp;try (with_reducible rfl)));try simp only [Act.put,List.setIfInBounds_toArray,List.set_cons_zero,List.set_cons_succ])
    refine wpAnyH_done (by kernel_rfl) ?_ _
    have HE:=hideIt (HRY.out.trans (hHeld.2.mono HRY.out.size))
    go_wp2
    go_roundg (l.length - (j+1))
    case measure=>omega
    case rel=>exact ⟨j+1,by omega,by go_num,HE.out⟩
end Go.Proofs.YteocjaihaegmoaaGreatDoor
namespace Go.Proofs.YteocjaihaegmoaaGreatDoor
open Go Go.RowKit
theorem topEnds_walk (n:Nat→Int) (wl:List Int) (hn:PosOk n) (hw0:∀ i,0≤wl.getD i 0∧wl.getD i 0≤255) (v:Value) (w:World) (hv:WayAt w v wl) (hT:Tab w):Calls Tryz.prog 3 #[.agg (posA n),v] w fun e w' => e = .returned (.bool true)∧Below w.heap.size w w' :=
 topEnds_of (fun V hT=>stirs_any next_ok text_mate V hT) n hn wl hw0 v w hT hv
end Go.Proofs.YteocjaihaegmoaaGreatDoor
