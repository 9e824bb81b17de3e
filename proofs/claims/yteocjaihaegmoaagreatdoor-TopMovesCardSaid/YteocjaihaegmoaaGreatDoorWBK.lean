/- Parts of the proof: AF, AG, AH, AI, AJ, AK, AL, AM. -/
import Derived.Test.YteocjaihaegmoaaGreatDoorWBJ
set_option linter.unusedVariables false
set_option maxHeartbeats 16000000
set_option maxRecDepth 100000
namespace Go.Proofs.YteocjaihaegmoaaGreatDoor
open Go Go.RowKit
@[go_sem] theorem isMov_drew (w : World) (g : Nat) : IsMov w.drew g = IsMov w g := rfl
@[go_sem] theorem movNow_drew (w : World) (g : Nat) : movNow w.drew g = movNow w g := rfl
@[go_sem] theorem movWas_drew (w : World) (g : Nat) : movWas w.drew g = movWas w g := rfl
/-- What the mover's men has: its block, and its own copy of the move. -/
structure MenP (W:World) (g:Nat) (q n:Nat→Int) (m:Mv) (tk:Int) (b:Nat) (V:World):Prop where
 at_:MovAt V g q n m tk
 mv:V.heap[b]?=some (.cells m.cells.toArray 49 (0,0))
 ne:g<b
 low:Below g W V
theorem MenP.grow {W:World} {g:Nat} {q n:Nat→Int} {m:Mv} {tk:Int} {b:Nat} {V V' : World} (h:MenP W g q n m tk b V) (hb:Below V.heap.size V V'):MenP W g q n m tk b V' :=
 ⟨h.at_.grow hb,(hb.block _ (Array.getElem?_eq_some_iff.1 h.mv).1).trans h.mv,h.ne,h.low.trans (hb.mono (Nat.le_of_lt h.at_.lt))⟩
theorem MenP.set {W:World} {g:Nat} {q n:Nat→Int} {m:Mv} {tk:Int} {b:Nat} {V:World} (h:MenP W g q n m tk b V) (i:Nat) (hi:i<88) (k:IntKind) (hk:kindAt i=k) (x:Int):MenP W g (upd q i x) n m tk b (V.setCell ⟨g,i,none⟩ (.int k x)) :=
 ⟨h.at_.setK i hi k hk x,(Below.heap_setCell _ _ _ _ (by have:=h.ne;show b≠g;omega)).trans h.mv,h.ne,h.low.setCell (p:=⟨g,i,none⟩) lR _⟩
theorem MenP.drew {W:World} {g:Nat} {q n:Nat→Int} {m:Mv} {tk:Int} {b:Nat} {V:World} (h:MenP W g q n m tk b V):MenP W g q n m tk b V.drew:=⟨h.at_,h.mv,h.ne,h.low.drew⟩
theorem MenP.move {W:World} {g:Nat} {q n:Nat→Int} {m:Mv} {tk:Int} {b:Nat} {V:World} (h:MenP W g q n m tk b V) :
 V.cell? ⟨b,0,none⟩=some (.int .i8 m.f)∧V.cell? ⟨b,1,none⟩=some (.int .i8 m.t)∧V.cell? ⟨b,2,none⟩=some (.int .u8 m.p)∧V.cell? ⟨b,3,none⟩=some (.int .u8 m.d)∧V.cell? ⟨b,4,none⟩=some (.bool m.c):=mv_cell h.mv
theorem setCells_other (b k:Nat) (hk:k≠b):∀ (vs:List Value) (o:Nat) (w:World),(w.setCells b o vs).heap[k]?=w.heap[k]?
 | [],_,_=>rfl
 | v :: vs, o, w => by
   rw [World.setCells,setCells_other b k hk vs (o+1)]
   simp only [World.setCell]
   rw [Array.getElem?_modify,if_neg (fun h=>hk h.symm)]
theorem MenP.put {W:World} {g:Nat} {q n:Nat→Int} {m:Mv} {tk:Int} {b:Nat} {V:World} (h:MenP W g q n m tk b V) (r:Nat→Int):MenP W g r n m tk b (putNow V g r) :=
 ⟨h.at_.put r,(setCells_other g b (by have:=h.ne;omega) _ _ V).trans h.mv,h.ne,belowPut h.low lR r⟩
theorem mmenA (n:Nat→Int) (hn:PosOk n) (t:Int) (ht:n 78=t) (h01:t=0∨t=1) (m:Mv) (hc:CastOk n m) (tk:Int) (g:Nat) (W:World) (h:MovAt W g n n m tk) :
 Calls Tryz.prog 34 #[.pointer (some ⟨g,0,none⟩)] W fun e w' => e = .returned (.tuple #[])∧MovAt w' g (menN n m tk) n m tk∧Below g W w' := by
 have HGO:=hI (cgoalsM_any n t ht h01 m hc)
 have HN:=hI (show menN n m tk=upd (upd (upd (upd n (1+m.f.toNat) 0) (1+m.t.toNat) 0) (1+(homeC t+kGoal (sideM m)).toNat) (n (1+m.f.toNat))) (1+(homeC t+rGoal (sideM m)).toNat) (n (1+m.t.toNat)) by unfold menN menA;rw [if_pos hc.c,ht])
 have hg:=goal_ix (n:=n) (by omega) (sideM m)
 rw [ht] at hg
 obtain ⟨h1,h2,h3,h4,h5,h6,h7,h8⟩:=hc
 rw [ht] at h5 h6 h7 h8
 obtain ⟨⟨kg0,kg1⟩,⟨rg0,rg1⟩⟩:=hg
 generalize homeC t+kGoal (sideM m)=kg at *
 generalize homeC t+rGoal (sideM m)=rg at *
 obtain ⟨v0,v1,v2,v3,v4,v5⟩:=h.mv
 obtain ⟨Y,hY⟩:∃ Y,W.alloc (.cells #[.int .i8 m.f,.int .i8 m.t,.int .u8 m.p,.int .u8 m.d,.bool m.c] 49)=Y:=⟨_,rfl⟩
 have hYm:MenP W g n n m tk W.heap.size Y:=by
  obtain ⟨a,b⟩:=mvBox_at hY
  exact ⟨h.below b h.lt,a,h.lt,b.mono (Nat.le_of_lt h.lt)⟩
 obtain ⟨mf,mt,mp,md,mc⟩:=m
 dsimp only at *
 subst h1 h2 h3
 have f0:0≤mf:=by omega
 have f1:mf<64:=by omega
 have t0:0≤mt:=by omega
 have t1:mt<64:=by omega
 have HY:=hI hY
 have HGB:=hI (fun (V:World) (hb:Below Y.heap.size Y V)=>(show ((IsMov V g∧movNow V g=posA n∧movWas V g=posA n)∧V.cell? ⟨W.heap.size,0,none⟩=some (.int .i8 mf)∧V.cell? ⟨W.heap.size,1,none⟩=some (.int .i8 mt)∧V.cell? ⟨W.heap.size,2,none⟩=some (.int .u8 0)∧V.cell? ⟨W.heap.size,3,none⟩=some (.int .u8 0)∧V.cell? ⟨W.heap.size,4,none⟩=some (.bool true))∧Below Y.heap.size Y V from ⟨⟨(hYm.grow hb).at_.rules,(hYm.grow hb).move⟩,hb⟩))
 have HG:=hI (fun (V:World) (hb:Below Y.heap.size Y V)=>hYm.grow hb)
 obtain ⟨⟨_,y0,y1,y2,y3,y4⟩,_⟩:=HGB.out Y bR
 clear hY hYm h h5 h6 h7 h8
 go_enter Tryz.func34,Tryz.ntmps34
 go_wp2_with (rw [HY.out])
 go_region_held3 (fun V=>((IsMov V g∧movNow V g=posA n∧movWas V g=posA n)∧V.cell? ⟨W.heap.size,0,none⟩=some (.int .i8 mf)∧V.cell? ⟨W.heap.size,1,none⟩=some (.int .i8 mt)∧V.cell? ⟨W.heap.size,2,none⟩=some (.int .u8 0)∧V.cell? ⟨W.heap.size,3,none⟩=some (.int .u8 0)∧V.cell? ⟨W.heap.size,4,none⟩=some (.bool true))∧Below Y.heap.size Y V) ((refine HGB.out _ ?_;repeat (first | exact bR | assumption | refine bD ?_ | refine bT ?_ (by assumption) | refine bl_new7 ?_))) ((go_at_call 89;refine (HGO.out _).mono ?_;rintro e w31 ⟨rfl,h1⟩))
 all_goals
  have hq:=And.right ‹(_∧_∧_)∧Below Y.heap.size Y _›
  have hV:=HG.out w31 hq
  obtain ⟨c0,c1,c2,c3,c4⟩:=hV.move
  dsimp only at c0 c1 c2 c3 c4
  have cf:=hV.at_.board (1+mf.toNat) (by omega)
  have ct:=hV.at_.board (1+mt.toNat) (by omega)
  have ff:=hV.at_.free (1+mf.toNat)
  have ft:=hV.at_.free (1+mt.toNat)
  clear HGB HG hq h1 y0 y1 y2 y3 y4
  have hA:=hV.set (1+mf.toNat) (by omega) .u8 (kB (by omega)) 0
  obtain ⟨a0,a1,a2,a3,a4⟩:=hA.move
  dsimp only at a0 a1 a2 a3 a4
  have at' := hA.at_.board (1+mt.toNat) (by omega)
  have ft' := hA.at_.free (1+mt.toNat)
  have hB:=hA.set (1+mt.toNat) (by omega) .u8 (kB (by omega)) 0
  have HB:=hI hB
  generalize n (1+mf.toNat)=nf at cf
  generalize n (1+mt.toNat)=nt at ct
  generalize upd n (1+mf.toNat) 0 (1+mt.toNat)=nt' at at'
  clear hA hB
  obtain ⟨V2,hV2⟩:∃ V2,((w31.setCell ⟨g,1+mf.toNat,none⟩ (.int .u8 0)).setCell ⟨g,1+mt.toNat,none⟩ (.int .u8 0)).drew=V2:=⟨_,rfl⟩
  have hC:MenP W g (upd (upd n (1+mf.toNat) 0) (1+mt.toNat) 0) n ⟨mf,mt,0,0,true⟩ tk W.heap.size V2:=by rw [← hV2];exact HB.out.drew
  have HV2:=hI hV2
  clear hV2 hV HB
  obtain ⟨b0,b1,b2,b3,b4⟩:=hC.move
  dsimp only at b0 b1 b2 b3 b4
  have wf:=hC.at_.from mf.toNat (by omega)
  have wt:=hC.at_.from mt.toNat (by omega)
  obtain ⟨x,hx⟩:∃ x,n (1+mf.toNat)=x:=⟨_,rfl⟩
  obtain ⟨y,hy⟩:∃ y,n (1+mt.toNat)=y:=⟨_,rfl⟩
  rw [hx] at wf HN
  rw [hy] at wt HN
  have ck:=hC.at_.board (1+kg.toNat) (by omega)
  have fk:=hC.at_.free (1+kg.toNat)
  have hD:=hC.set (1+kg.toNat) (by omega) .u8 (kB (by omega)) x
  obtain ⟨d0,d1,d2,d3,d4⟩:=hD.move
  dsimp only at d0 d1 d2 d3 d4
  have cr:=hD.at_.board (1+rg.toNat) (by omega)
  have fr:=hD.at_.free (1+rg.toNat)
  have wt' := hD.at_.from mt.toNat (by omega)
  rw [hy] at wt'
  have hE:=hD.set (1+rg.toNat) (by omega) .u8 (kB (by omega)) y
  have HE:=hI hE
  generalize upd (upd n (1+mf.toNat) 0) (1+mt.toNat) 0 (1+kg.toNat)=z1 at ck
  generalize upd (upd (upd n (1+mf.toNat) 0) (1+mt.toNat) 0) (1+kg.toNat) x (1+rg.toNat)=z2 at cr
  clear hC hD hE hx hy
  go_wp2
  go_region
  all_goals
   go_wp2_with (rw [HV2.out])
   go_region
   all_goals
    go_wp2
    go_end0
    exact ⟨rfl,by rw [HN.out];exact HE.out.at_.drew,HE.out.low.drew⟩
theorem mmenB (n:Nat→Int) (hn:PosOk n) (t:Nat) (ht1:t≤1) (ht:n 78=t) (m:Mv) (f0:0≤m.f) (f1:m.f<64) (t0:0≤m.t) (t1:m.t<64) (hc:m.c=false) (hp:m.p=0) (k:Nat) (hd:m.d=k) (k0:1≤k) (k5:k≤5) (hh:n (66+6*t+k)≠0) (tk:Int) (g:Nat) (W:World) (h:MovAt W g n n m tk) :
 Calls Tryz.prog 34 #[.pointer (some ⟨g,0,none⟩)] W fun e w' => e = .returned (.tuple #[])∧MovAt w' g (menN n m tk) n m tk∧Below g W w' := by
 have HTA:=hI (show ∀ w,Calls Tryz.prog 90 #[.agg (posA n),.int .u8 (t:Int),.int .u8 (k:Int)] w fun e w' => e = .returned (.tuple #[.agg (posA (takN n t k)),.bool true])∧Below w.heap.size w w' from fun w=>by
  have ha:takB n t k=true:=by unfold takB;rw [(fits_iff t k).2 ⟨ht1,k0,k5⟩,Bool.true_and,Bool.not_eq_true',beq_eq_false_iff_ne];exact hh
  have:=tak_any n hn t k (by omega) (by omega) w
  rwa [ha] at this)
 have HN:=hI (show menN n m tk=upd (takN n t k) (1+m.t.toNat) (makeI t k) by
  unfold menN menB
  have hmk:makeI (t:Int) (k:Int)=8*t+k:=by unfold makeI;rcases (show t=0∨t=1 by omega) with rfl | rfl <;> simp <;> omega
  rw [if_neg (by rw [hc];decide),if_pos (by rw [hd];omega),ht,hd,hmk];rfl)
 have HMK:=hI (make_any (t:Int) (k:Int) (by omega) (by omega) (by omega) (by omega))
 obtain ⟨v0,v1,v2,v3,v4,v5⟩:=h.mv
 obtain ⟨Y,hY⟩:∃ Y,W.alloc (.cells #[.int .i8 m.f,.int .i8 m.t,.int .u8 m.p,.int .u8 m.d,.bool m.c] 49)=Y:=⟨_,rfl⟩
 have hYm:MenP W g n n m tk W.heap.size Y:=by
  obtain ⟨a,b⟩:=mvBox_at hY
  exact ⟨h.below b h.lt,a,h.lt,b.mono (Nat.le_of_lt h.lt)⟩
 obtain ⟨mf,mt,mp,md,mc⟩:=m
 dsimp only at *
 subst hc hp hd
 have e1:((k:Int)==0)=false:=beq_eq_false_iff_ne.2 (by omega)
 have e2:((k:Int) != 0)=true:=by rw [bne,e1];rfl
 have HY:=hI hY
 have HT:=hI ht
 have hr:=hYm.at_.rules
 obtain ⟨y0,y1,y2,y3,y4⟩:=hYm.move
 dsimp only at y0 y1 y2 y3 y4
 have c78:Y.cell? ⟨g,78,none⟩=some (.int .u8 (t:Int)):=by rw [← HT.out];exact hYm.at_.cell 78 (by decide)
 have HG:=hI (fun (V:World) (hb:Below Y.heap.size Y V)=>hYm.grow hb)
 obtain ⟨r0,r1,r2⟩:=hr
 obtain ⟨r3,r4,r5⟩:=hYm.at_.drew.rules
 clear hY hYm h hh
 go_enter Tryz.func34,Tryz.ntmps34
 go_upto_region 11 with (rw [HY.out])
 go_cut [] (fun wx=>MenP W g (takN n t k) n ⟨mf,mt,0,k,false⟩ tk W.heap.size wx)
 case first =>
  go_region_with ((go_at_call 90;refine (HTA.out _).mono ?_;rintro e w31 ⟨rfl,h1⟩;have hV:=HG.out w31 (bT (bD bR) h1);obtain ⟨q0,q1,q2⟩:=hV.at_.rules;obtain ⟨q3,q4,q5⟩:=hV.at_.drew.rules))
  all_goals
   go_wp2_with fail
   go_meet
   exact hV.put _
 case rest =>
  have p78:wc.cell? ⟨g,78,none⟩=some (.int .u8 (t:Int)):=by
   have:=hcut.at_.cell 78 (by decide)
   rwa [(Far.refl n).tk t k 78 (by omega),HT.out] at this
  obtain ⟨p0,p1,p2,p3,p4⟩:=hcut.move
  dsimp only at p0 p1 p2 p3 p4
  have ck:=hcut.at_.board (1+mt.toNat) (by omega)
  have fk:=hcut.at_.free (1+mt.toNat)
  have HE:=hI (hcut.drew.set (1+mt.toNat) (by omega) .u8 (kB (by omega)) (makeI t k))
  generalize takN n t k (1+mt.toNat)=z at ck
  clear hcut r0 r1 r2 r3 r4 r5 y0 y1 y2 y3 y4 c78
  go_wp2
  go_region_with ((go_at_call 91;refine (HMK.out _).mono ?_;rintro e w32 ⟨rfl,rfl⟩))
  all_goals
   go_wp2
   go_end0
   exact ⟨rfl,by rw [HN.out];exact HE.out.at_,HE.out.low⟩
theorem mmenC (n:Nat→Int) (hn:PosOk n) (t:Nat) (ht1:t≤1) (ht:n 78=t) (m:Mv) (f0:0≤m.f) (f1:m.f<64) (t0:0≤m.t) (t1:m.t<64) (hc:m.c=false) (hd:m.d=0) (p0:0≤m.p) (p1:m.p≤6) (tk:Int) (k1:tk<64) (g:Nat) (W:World) (h:MovAt W g n n m tk) :
 Calls Tryz.prog 34 #[.pointer (some ⟨g,0,none⟩)] W fun e w' => e = .returned (.tuple #[])∧MovAt w' g (menN n m tk) n m tk∧Below g W w' := by
 have HN:=hI (show menN n m tk=menC n m tk by unfold menN;rw [if_neg (by rw [hc];decide),if_neg (fun h=>h hd)])
 have HNP:=hI (show m.p≠0→menC n m tk=upd (upd (upd (menC0 n tk) (1+m.f.toNat) 0) (1+m.t.toNat) (n (1+m.f.toNat))) (1+m.t.toNat) (makeI t m.p) from fun hp=>by
  have hmk:makeI (t:Int) m.p=8*t+m.p:=by unfold makeI;split <;> omega
  unfold menC
  rw [if_pos hp,ht,hmk])
 have HN0:=hI (show m.p=0→menC n m tk=upd (upd (menC0 n tk) (1+m.f.toNat) 0) (1+m.t.toNat) (n (1+m.f.toNat)) from fun hp=>by unfold menC;rw [if_neg (fun h=>h hp)])
 have HC0:=hI (show menC0 n tk=if 0≤tk then upd n (1+tk.toNat) 0 else n from rfl)
 have HMK:=hI (make_any (t:Int) m.p (by omega) (by omega) (by omega) (by omega))
 have h78:menC0 n tk 78=t:=by
  unfold menC0;split
  · rw [upd_ne _ (by omega)];exact ht
  · exact ht
 obtain ⟨v0,v1,v2,v3,v4,v5⟩:=h.mv
 obtain ⟨Y,hY⟩:∃ Y,W.alloc (.cells #[.int .i8 m.f,.int .i8 m.t,.int .u8 m.p,.int .u8 m.d,.bool m.c] 49)=Y:=⟨_,rfl⟩
 have hYm:MenP W g n n m tk W.heap.size Y:=by
  obtain ⟨a,b⟩:=mvBox_at hY
  exact ⟨h.below b h.lt,a,h.lt,b.mono (Nat.le_of_lt h.lt)⟩
 obtain ⟨mf,mt,mp,md,mc⟩:=m
 dsimp only at *
 subst hc hd
 have HY:=hI hY
 have H78:=hI h78
 obtain ⟨y0,y1,y2,y3,y4⟩:=hYm.move
 dsimp only at y0 y1 y2 y3 y4
 obtain ⟨_,_,_,_,_,y5⟩:=hYm.at_.mv
 have HYM:=hI hYm
 obtain ⟨q,hq⟩:∃ q,menC0 n tk=q:=⟨_,rfl⟩
 rw [hq] at HNP HN0 HC0 H78
 clear hY hYm h hq h78
 go_enter Tryz.func34,Tryz.ntmps34
 go_upto_if 14 with (rw [HY.out])
 go_cut [] (fun wx=>MenP W g q n ⟨mf,mt,mp,0,false⟩ tk W.heap.size wx)
 case first =>
  by_cases hk:0≤tk
  · have dk : decide (tk ≥ 0) = true := decide_eq_true hk
    have HE:=hI (HC0.out.trans (if_pos hk))
    have ck:=HYM.out.at_.board (1+tk.toNat) (by omega)
    have fk:=HYM.out.at_.free (1+tk.toNat)
    generalize n (1+tk.toNat)=z at ck
    go_wp2
    go_region
    all_goals
     go_wp2_with fail
     go_meet
     rw [HE.out];exact (HYM.out.set (1+tk.toNat) (by omega) .u8 (kB (by omega)) 0).drew
  · have dk : decide (tk ≥ 0) = false := decide_eq_false hk
    have HE:=hI (HC0.out.trans (if_neg hk))
    go_wp2_with fail
    go_meet
    rw [HE.out];exact HYM.out
 case rest =>
  obtain ⟨b0,b1,b2,b3,b4⟩:=hcut.move
  dsimp only at b0 b1 b2 b3 b4
  have wf:=hcut.at_.from mf.toNat (by omega)
  obtain ⟨x,hx⟩:∃ x,n (1+mf.toNat)=x:=⟨_,rfl⟩
  rw [hx] at wf HNP HN0
  have cf:=hcut.at_.board (1+mf.toNat) (by omega)
  have ff:=hcut.at_.free (1+mf.toNat)
  have hA:=hcut.set (1+mf.toNat) (by omega) .u8 (kB (by omega)) 0
  obtain ⟨d0,d1,d2,d3,d4⟩:=hA.move
  dsimp only at d0 d1 d2 d3 d4
  have wf' := hA.at_.from mf.toNat (by omega)
  rw [hx] at wf'
  have ct:=hA.at_.board (1+mt.toNat) (by omega)
  have ft:=hA.at_.free (1+mt.toNat)
  have hB:=(hA.set (1+mt.toNat) (by omega) .u8 (kB (by omega)) x).drew
  obtain ⟨V,hV⟩:∃ V,((wc.setCell ⟨g,1+mf.toNat,none⟩ (.int .u8 0)).setCell ⟨g,1+mt.toNat,none⟩ (.int .u8 x)).drew=V:=⟨_,rfl⟩
  rw [hV] at hB
  have HV:=hI hV
  obtain ⟨a0,a1,a2,a3,a4⟩:=hB.move
  dsimp only at a0 a1 a2 a3 a4
  have g78:V.cell? ⟨g,78,none⟩=some (.int .u8 (t:Int)):=by
   have:=hB.at_.cell 78 (by decide)
   rwa [upd_ne _ (by omega),upd_ne _ (by omega),H78.out] at this
  have et:=hB.at_.board (1+mt.toNat) (by omega)
  have gt:=hB.at_.free (1+mt.toNat)
  have HE0:=hI hB
  have HE1:=hI (hB.drew.set (1+mt.toNat) (by omega) .u8 (kB (by omega)) (makeI t mp))
  generalize upd (upd q (1+mf.toNat) 0) (1+mt.toNat) x (1+mt.toNat)=z1 at et
  generalize upd q (1+mf.toNat) 0 (1+mt.toNat)=z2 at ct
  generalize q (1+mf.toNat)=z3 at cf
  clear hcut hA hB hV hx y0 y1 y2 y3 y4 y5
  go_wp2
  go_region
  all_goals
   cases e1:(mp != 0)
   · have HE := hideIt (HN.out.trans (HN0.out (by simpa using e1)))
     go_wp2_with (rw [HV.out])
     go_end0
     exact ⟨rfl,by rw [HE.out];exact HE0.out.at_,HE0.out.low⟩
   · have HE := hideIt (HN.out.trans (HNP.out (by simpa using e1)))
     go_wp2_with (rw [HV.out])
     go_region_with ((go_at_call 91;refine (HMK.out _).mono ?_;rintro e w32 ⟨rfl,rfl⟩))
     all_goals
      go_wp2
      go_end0
      exact ⟨rfl,by rw [HE.out];exact HE1.out.at_,HE1.out.low⟩
theorem mmen_any (n:Nat→Int) (hn:PosOk n) (t:Int) (ht:n 78=t) (h01:t=0∨t=1) (m:Mv) (tk:Int) (hm:MvOk n m tk) (g:Nat) (W:World) (h:MovAt W g n n m tk) :
 Calls Tryz.prog 34 #[.pointer (some ⟨g,0,none⟩)] W fun e w' => e = .returned (.tuple #[])∧MovAt w' g (menN n m tk) n m tk∧Below g W w' := by
 have hT:n 78=((t.toNat:Nat):Int):=by omega
 cases hc:m.c with
 | true=>exact mmenA n hn t ht h01 m (hm.cast hc).1 tk g W h
 | false =>
   by_cases hd:m.d=0
   · exact mmenC n hn t.toNat (by omega) hT m hm.f0 hm.f1 hm.t0 hm.t1 hc hd hm.p0 hm.p1 tk hm.k1 g W h
   · obtain ⟨_, hp, _, hh⟩ := hm.drop hd
     have:=hm.d0;have:=hm.d1
     exact mmenB n hn t.toNat (by omega) hT m hm.f0 hm.f1 hm.t0 hm.t1 hc hp m.d.toNat (by omega) (by omega) (by omega) (by rw [ht] at hh;exact hh) tk g W h
/-- What the mover's pocket has: its block, and its own pointer to it. -/
structure PocP (W:World) (g:Nat) (q n:Nat→Int) (m:Mv) (tk:Int) (b:Nat) (V:World):Prop where
 at_:MovAt V g q n m tk
 bx:V.heap[b]?=some (.cells #[.pointer (some ⟨g,0,none⟩)] 65 (0,0))
 ne:g<b
 low:Below g W V
theorem PocP.grow {W:World} {g:Nat} {q n:Nat→Int} {m:Mv} {tk:Int} {b:Nat} {V V' : World} (h:PocP W g q n m tk b V) (hb:Below V.heap.size V V'):PocP W g q n m tk b V' :=
 ⟨h.at_.grow hb,(hb.block _ (Array.getElem?_eq_some_iff.1 h.bx).1).trans h.bx,h.ne,h.low.trans (hb.mono (Nat.le_of_lt h.at_.lt))⟩
theorem PocP.set {W:World} {g:Nat} {q n:Nat→Int} {m:Mv} {tk:Int} {b:Nat} {V:World} (h:PocP W g q n m tk b V) (i:Nat) (hi:i<88) (k:IntKind) (hk:kindAt i=k) (x:Int):PocP W g (upd q i x) n m tk b (V.setCell ⟨g,i,none⟩ (.int k x)) :=
 ⟨h.at_.setK i hi k hk x,(Below.heap_setCell _ _ _ _ (by have:=h.ne;show b≠g;omega)).trans h.bx,h.ne,h.low.setCell (p:=⟨g,i,none⟩) lR _⟩
theorem PocP.drew {W:World} {g:Nat} {q n:Nat→Int} {m:Mv} {tk:Int} {b:Nat} {V:World} (h:PocP W g q n m tk b V):PocP W g q n m tk b V.drew:=⟨h.at_,h.bx,h.ne,h.low.drew⟩
theorem PocP.put {W:World} {g:Nat} {q n:Nat→Int} {m:Mv} {tk:Int} {b:Nat} {V:World} (h:PocP W g q n m tk b V) (r:Nat→Int):PocP W g r n m tk b (putNow V g r) :=
 ⟨h.at_.put r,(setCells_other g b (by have:=h.ne;omega) _ _ V).trans h.bx,h.ne,belowPut h.low lR r⟩
theorem PocP.box {W:World} {g:Nat} {q n:Nat→Int} {m:Mv} {tk:Int} {b:Nat} {V:World} (h:PocP W g q n m tk b V):V.cell? ⟨b,0,none⟩=some (.pointer (some ⟨g,0,none⟩)):=by
 rw [cell_of_row V b 0 _ _ _ h.bx];rfl
theorem PocP.move {W:World} {g:Nat} {q n:Nat→Int} {m:Mv} {tk:Int} {b:Nat} {V:World} (h:PocP W g q n m tk b V) :
 V.cell? ⟨g,176,none⟩=some (.int .i8 m.f)∧V.cell? ⟨g,177,none⟩=some (.int .i8 m.t)∧V.cell? ⟨g,178,none⟩=some (.int .u8 m.p)∧V.cell? ⟨g,179,none⟩=some (.int .u8 m.d)∧V.cell? ⟨g,180,none⟩=some (.bool m.c)∧V.cell? ⟨g,181,none⟩=some (.int .i64 tk):=h.at_.mv
theorem pocP_new {W:World} {g:Nat} {q n:Nat→Int} {m:Mv} {tk:Int} (h:MovAt W g q n m tk) {Y:World} (hY:W.alloc (.cells #[.pointer (some ⟨g,0,none⟩)] 65)=Y):PocP W g q n m tk W.heap.size Y:=by
 have hb:Below W.heap.size W Y:=by rw [← hY];exact bR.alloc lR _
 exact ⟨h.grow hb,by rw [← hY];exact World.alloc_heap_new W _,h.lt,hb.mono (Nat.le_of_lt h.lt)⟩
theorem marked_any {W:World} {g:Nat} {q n:Nat→Int} {m:Mv} {tk:Int} {b:Nat} {V:World} (h:PocP W g q n m tk b V) (hn:PosOk n) (s:Int) (s0:0≤s) (s1:s<64) :
 Calls Tryz.prog 92 #[.int .i64 s,.pointer (some ⟨b,0,none⟩)] V fun e w' => e = .returned (.bool (hasB (proB n) s))∧V=w' := by
 have c0:=h.box
 have c1:V.cell? ⟨g,153,none⟩=some (.int .u64 (u (proB n))):=by rw [← pro_u hn];exact h.at_.old 65 (by decide)
 have hz:=bit_test (proB n) s0 s1
 clear h
 go_enter Tryz.func92,Tryz.ntmps92
 go_wp2
 go_ret
 exact ⟨rB (by first | exact hz | rfl),rfl⟩
def HYPS (n q:Nat→Int):Prop:=q 0=n 0∧q 65=n 65∧q 78=n 78
theorem mpoc_no (q n:Nat→Int) (hq:PosOk q) (hn:PosOk n) (hh:HYPS n q) (m:Mv) (tk:Int) (hv:n 0≠2∨m.d≠0) (g:Nat) (W:World) (h:MovAt W g q n m tk) :
 Calls Tryz.prog 35 #[.pointer (some ⟨g,0,none⟩)] W fun e w' => e = .returned (.tuple #[])∧MovAt w' g (pocN n q m tk) n m tk∧Below g W w' := by
 have HN:=hI (show pocN n q m tk=q from if_pos hv)
 obtain ⟨Y,hY⟩:∃ Y,W.alloc (.cells #[.pointer (some ⟨g,0,none⟩)] 65)=Y:=⟨_,rfl⟩
 have hP:=pocP_new h hY
 have HY:=hI hY
 have c0:=hP.at_.board 0 (by decide)
 rw [hh.1] at c0
 have cb:=hP.box
 obtain ⟨v0,v1,v2,v3,v4,v5⟩:=hP.move
 have HP:=hI hP
 have HV:=hI hv
 obtain ⟨mf,mt,mp,md,mc⟩:=m
 dsimp only at *
 clear hY hP h hh hv
 generalize n 0=v at *
 cases e1:(v==2)
 · have e1' : (v != 2) = true := by rw [bne, e1]; rfl
   go_enter Tryz.func35,Tryz.ntmps35
   go_wp2_with (rw [HY.out])
   first | go_end0 | refine bodyPost_ret (results_none rfl _ _ _) rfl ?_
   exact ⟨rfl,by rw [HN.out];exact HP.out.at_,HP.out.low⟩
 · have e1' : (v != 2) = false := by rw [bne, e1]; rfl
   have e2:(md==0)=false:=beq_eq_false_iff_ne.2 (HV.out.resolve_left (fun h=>h (beq_iff_eq.1 e1)))
   have e2' : (md != 0)=true:=by rw [bne,e2];rfl
   go_enter Tryz.func35,Tryz.ntmps35
   go_wp2_with (rw [HY.out])
   first | go_end0 | refine bodyPost_ret (results_none rfl _ _ _) rfl ?_
   exact ⟨rfl,by rw [HN.out];exact HP.out.at_,HP.out.low⟩
theorem mpoc_c (q n:Nat→Int) (hq:PosOk q) (hn:PosOk n) (hh:HYPS n q) (m:Mv) (tk:Int) (hv:n 0=2) (t:Int) (ht:n 78=t) (h01:t=0∨t=1) (hc:CastOk n m) (g:Nat) (W:World) (h:MovAt W g q n m tk) :
 Calls Tryz.prog 35 #[.pointer (some ⟨g,0,none⟩)] W fun e w' => e = .returned (.tuple #[])∧MovAt w' g (pocN n q m tk) n m tk∧Below g W w' := by
 have HGO:=hI (cgoalsM_any n t ht h01 m hc)
 have hgi:=goal_ix (n:=n) (by omega) (sideM m)
 rw [ht] at hgi
 have HN:=hI (show pocN n q m tk=if hasB (proB n) m.t=true then upd q 65 (u ((proB n&&&~~~oneB m.t) ||| oneB (homeC t+rGoal (sideM m)))) else q by unfold pocN pocC;rw [if_neg (by rw [hv,hc.d];decide),if_pos hc.c,ht])
 obtain ⟨_,⟨rg0,rg1⟩⟩:=hgi
 have h1:=hc.f0;have h2:=hc.f1;have h3:=hc.t0;have h4:=hc.t1
 rw [ht] at h1 h2 h3 h4
 have f0:0≤m.f:=by omega
 have f1:m.f<64:=by omega
 have t0:0≤m.t:=by omega
 have t1:m.t<64:=by omega
 generalize homeC t+rGoal (sideM m)=rg at *
 generalize homeC t+kGoal (sideM m)=kg at *
 obtain ⟨Y,hY⟩:∃ Y,W.alloc (.cells #[.pointer (some ⟨g,0,none⟩)] 65)=Y:=⟨_,rfl⟩
 have hP:=pocP_new h hY
 have HMK:=hI (fun (V:World) (hV:PocP W g q n m tk W.heap.size V)=>marked_any hV hn m.t t0 t1)
 have hmc:=hc.c
 have hmd:=hc.d
 have hmp:=hc.p
 obtain ⟨mf,mt,mp,md,mc⟩:=m
 dsimp only at *
 subst hmc hmd hmp
 have HY:=hI hY
 have c0:=hP.at_.board 0 (by decide)
 rw [hh.1,hv] at c0
 have HGB:=hI (fun (V:World) (hb:Below Y.heap.size Y V)=>(show ((IsMov V g∧movNow V g=posA q∧movWas V g=posA n)∧V.cell? ⟨W.heap.size,0,none⟩=some (.pointer (some ⟨g,0,none⟩))∧V.cell? ⟨g,176,none⟩=some (.int .i8 mf)∧V.cell? ⟨g,177,none⟩=some (.int .i8 mt)∧V.cell? ⟨g,178,none⟩=some (.int .u8 0)∧V.cell? ⟨g,179,none⟩=some (.int .u8 0)∧V.cell? ⟨g,180,none⟩=some (.bool true))∧Below Y.heap.size Y V from
  ⟨⟨(hP.grow hb).at_.rules,(hP.grow hb).box,(hP.grow hb).move.1,(hP.grow hb).move.2.1,(hP.grow hb).move.2.2.1,(hP.grow hb).move.2.2.2.1,(hP.grow hb).move.2.2.2.2.1⟩,hb⟩))
 have HG:=hI (fun (V:World) (hb:Below Y.heap.size Y V)=>hP.grow hb)
 obtain ⟨⟨_,y0,y1,y2,y3,y4,y5⟩,_⟩:=HGB.out Y bR
 have HB:Hid (q 65=u (proB n)):=hh.2.1.trans (pro_u hn)
 generalize proB n=B at *
 have HW:=hI (pow_oneB mt t0 t1)
 have HW2:=hI (pow_oneB rg rg0 rg1)
 clear hY hP h h1 h2 h3 h4 hc hh hv ht h01
 go_enter Tryz.func35,Tryz.ntmps35
 go_wp2_with (rw [HY.out])
 go_region_held3 (fun V=>((IsMov V g∧movNow V g=posA q∧movWas V g=posA n)∧V.cell? ⟨W.heap.size,0,none⟩=some (.pointer (some ⟨g,0,none⟩))∧V.cell? ⟨g,176,none⟩=some (.int .i8 mf)∧V.cell? ⟨g,177,none⟩=some (.int .i8 mt)∧V.cell? ⟨g,178,none⟩=some (.int .u8 0)∧V.cell? ⟨g,179,none⟩=some (.int .u8 0)∧V.cell? ⟨g,180,none⟩=some (.bool true))∧Below Y.heap.size Y V) ((refine HGB.out _ ?_;repeat (first | exact bR | assumption | refine bD ?_ | refine bT ?_ (by assumption) | refine bl_new7 ?_))) ((go_at_call 89;refine (HGO.out _).mono ?_;rintro e w31 ⟨rfl,h1⟩))
 all_goals
  have hq:=And.right ‹(_∧_∧_)∧Below Y.heap.size Y _›
  have hV:=HG.out w31 hq
  have c65:w31.cell? ⟨g,65,none⟩=some (.int .u64 (u B)):=by rw [← HB.out];exact hV.at_.cell 65 (by decide)
  have f65:=hV.at_.free 65
  have hA:=(hV.set 65 (by decide) .u64 rfl (u (B&&&~~~oneB mt))).drew
  obtain ⟨V1,hV1⟩:∃ V1,(w31.setCell ⟨g,65,none⟩ (.int .u64 (u (B&&&~~~oneB mt)))).drew=V1:=⟨_,rfl⟩
  rw [hV1] at hA
  have a65:V1.cell? ⟨g,65,none⟩=some (.int .u64 (u (B&&&~~~oneB mt))):=by have:=hA.at_.cell 65 (by decide);rwa [upd_at] at this
  have g65:=hA.at_.free 65
  have ab:=hA.box
  have hC:=hA.set 65 (by decide) .u64 rfl (u ((B&&&~~~oneB mt) ||| oneB rg))
  rw [upd_upd] at hC
  have HV1:=hI hV1
  have HC:=hI hC
  have HV:=hI hV
  have HM:=hI (HMK.out w31 hV)
  have hw:=HW.out
  have hw2:=HW2.out
  clear hV1 hC hA hV HGB HG h1 hq
  cases hb:hasB B mt <;> rw [hb] at HM
  · have HN := hideIt (HN.out.trans (if_neg (by rw [hb]; decide)))
    go_wp2_with ((refine HM.out.mono ?_;rintro e w32 ⟨rfl,rfl⟩))
    first | go_end0 | refine bodyPost_ret (results_none rfl _ _ _) rfl ?_
    exact ⟨rfl,by rw [HN.out];exact HV.out.at_,HV.out.low⟩
  · have HN := hideIt (HN.out.trans (if_pos hb))
    go_wp2_with ((refine HM.out.mono ?_;rintro e w32 ⟨rfl,rfl⟩))
    go_region
    all_goals
     go_wp2_with (rw [HV1.out])
     first | go_end0 | refine bodyPost_ret (results_none rfl _ _ _) rfl ?_
     exact ⟨rfl,by rw [HN.out];exact HC.out.at_,HC.out.low⟩
theorem add65 (q:Nat→Int) (c k:Nat):addN q c k 65=q 65:=by
 unfold addN
 split
 · rename_i h
   unfold addB at h
   rw [Bool.and_eq_true,fits_iff] at h
   rw [upd_ne _ (by unfold poIx;omega)]
 · rfl
theorem mpoc_n (q n:Nat→Int) (hq:PosOk q) (hn:PosOk n) (hh:HYPS n q) (m:Mv) (tk:Int) (hv:n 0=2) (t:Nat) (ht1:t≤1) (ht:n 78=t) (f0:0≤m.f) (f1:m.f<64) (t0:0≤m.t) (t1:m.t<64) (hc:m.c=false) (hd:m.d=0) (k0:-1≤tk) (k1:tk<64) (g:Nat) (W:World) (h:MovAt W g q n m tk) :
 Calls Tryz.prog 35 #[.pointer (some ⟨g,0,none⟩)] W fun e w' => e = .returned (.tuple #[])∧MovAt w' g (pocN n q m tk) n m tk∧Below g W w' := by
 have HN:=hI (show pocN n q m tk=upd (pocT n q tk) 65 (u (marksB n m tk)) by unfold pocN;rw [if_neg (by omega),if_neg (by rw [hc];decide)])
 have HMB:=hI (show marksB n m tk=if m.p≠0∨hasB (proB n) m.f=true then marks0 n m tk ||| oneB m.t else marks0 n m tk from rfl)
 have HM0:=hI (show marks0 n m tk=(if 0≤tk then proB n&&&~~~oneB tk else proB n)&&&~~~oneB m.f from rfl)
 have HPT:=hI (show pocT n q tk=if 0≤tk then addN q t (tkK n tk).toNat else q by unfold pocT;rw [ht];rfl)
 have HTK:=hI (show tkK n tk=if hasB (proB n) tk=true∧n (1+tk.toNat)≠0 then 1 else kndI (n (1+tk.toNat)) from rfl)
 have HB:Hid (q 65=u (proB n)):=hh.2.1.trans (pro_u hn)
 have HADD:=hI (fun (k:Nat) (hk:k≤255)=>add_any q hq t k (by omega) hk)
 have HNU:=hI (fun (i:Nat) (hi:i≤64)=>hn.u8 i (by omega) (kB hi))
 have HFA:=hI (fun k=>(Far.refl q).ad t k)
 obtain ⟨Y,hY⟩:∃ Y,W.alloc (.cells #[.pointer (some ⟨g,0,none⟩)] 65)=Y:=⟨_,rfl⟩
 have hP:=pocP_new h hY
 have HMK:=hI (fun (r:Nat→Int) (V:World) (hV:PocP W g r n m tk W.heap.size V)=>marked_any hV hn)
 obtain ⟨mf,mt,mp,md,mc⟩:=m
 dsimp only at *
 subst hc hd
 have HY:=hI hY
 have c0:=hP.at_.board 0 (by decide)
 rw [hh.1,hv] at c0
 have cb:=hP.box
 obtain ⟨v0,v1,v2,v3,v4,v5⟩:=hP.move
 dsimp only at v0 v1 v2 v3 v4
 have HP:=hI hP
 have H78:Hid (q 78=t):=hh.2.2.trans ht
 obtain ⟨B,hBB⟩:∃ B,proB n=B:=⟨_,rfl⟩
 rw [hBB] at HMB HM0 HTK HB HMK
 clear hY hP h hh hv ht hBB
 obtain ⟨B1,hB1⟩:∃ B1,(if 0≤tk then B&&&~~~oneB tk else B)=B1:=⟨_,rfl⟩
 rw [hB1] at HM0
 have HB1:=hI hB1
 obtain ⟨r,hr⟩:∃ r,pocT n q tk=r:=⟨_,rfl⟩
 rw [hr] at HN HPT
 clear hB1 hr
 go_enter Tryz.func35,Tryz.ntmps35
 go_upto_if 80 with (rw [HY.out])
 go_cut [] (fun wx=>PocP W g (upd r 65 (u B1)) n ⟨mf,mt,mp,0,false⟩ tk W.heap.size wx)
 case first =>
  by_cases hk:0≤tk
  case neg =>
   have dk:decide (tk≥0)=false:=decide_eq_false hk
   have HE:=hI (show upd r 65 (u B1)=q by rw [HPT.out,if_neg hk,← HB1.out,if_neg hk,← HB.out,upd_same])
   go_wp2_with fail
   go_meet
   rw [HE.out];exact HP.out
  case pos =>
   have dk:decide (tk≥0)=true:=decide_eq_true hk
   have HPT:=hI (HPT.out.trans (if_pos hk))
   have HB1:=hI (HB1.out.symm.trans (if_pos hk))
   obtain ⟨x0,x1⟩:=HNU.out (1+tk.toNat) (by omega)
   have cx:=HP.out.at_.from tk.toNat (by omega)
   obtain ⟨x,hx⟩:∃ x,n (1+tk.toNat)=x:=⟨_,rfl⟩
   have HXX:=hI hx
   rw [hx] at cx HTK x0 x1
   have HKD:=hI (fun k=>kind_any x x0 x1 (Y.drewN k))
   have hkr:=knd_bd x
   have h6:0≤tkK n tk∧tkK n tk≤6:=by rw [HTK.out];split <;> omega
   obtain ⟨kk,hkk⟩:∃ kk:Nat,tkK n tk=kk:=⟨(tkK n tk).toNat,by omega⟩
   have HPT:=hI (show r=addN q t kk by rw [HPT.out,hkk];rfl)
   have HKK:=hI (hkk.symm.trans HTK.out)
   have HAD:=hI (HADD.out kk (by omega))
   obtain ⟨bM,hbM⟩:∃ b,(hasB B tk&&(x != 0))=b:=⟨_,rfl⟩
   have HbM:=hI hbM
   have hkk6:kk≤6:=by omega
   clear hx hkk hbM h6 HTK
   go_wp2_with fail
   go_quiet ((go_at_call 87;exact quietEq (HKD.out _)))
   obtain ⟨V,hV⟩:∃ V,Y.drewN nq=V:=⟨_,rfl⟩
   have hVP:PocP W g q n ⟨mf,mt,mp,0,false⟩ tk W.heap.size V:=by rw [← hV];exact HP.out.grow (blN _ _)
   rw [hV]
   have vb:=hVP.box
   obtain ⟨u0,u1,u2,u3,u4,u5⟩:=hVP.move
   have vx:=hVP.at_.from tk.toNat (by omega)
   rw [HXX.out] at vx
   have HVP:=hI hVP
   have HMA:=hI (fun k=>HMK.out q (V.drewN k) (HVP.out.grow (blN _ _)) tk hk k1)
   clear hV hVP c0 cb v0 v1 v2 v3 v4 v5 cx
   go_upto_region 10 with fail
   go_cut [110] (fun s110 wx=>s110=.bool bM∧PocP W g q n ⟨mf,mt,mp,0,false⟩ tk W.heap.size wx)
   case first =>
    cases e1:hasB B tk <;> rw [e1] at HMA HbM
    · go_quiet ((go_at_call 92; exact quietEq (HMA.out _)))
      go_wp2_with fail
      go_meet
      exact ⟨by rw [← HbM.out];rfl,HVP.out.grow (blN _ _)⟩
    · go_quiet ((go_at_call 92; exact quietEq (HMA.out _)))
      go_wp2_with fail
      go_meet
      exact ⟨by rw [← HbM.out];rfl,HVP.out.grow (blN _ _)⟩
   case rest =>
    obtain ⟨rfl,hC⟩:=hcut
    have HC:=hI hC
    clear hC
    go_upto_if 110 with fail
    go_cut [6] (fun s6 wx=>s6=.int .u8 (kk:Int)∧PocP W g q n ⟨mf,mt,mp,0,false⟩ tk W.heap.size wx)
    case first =>
     cases bM
     · have HE := hideIt (show (kk : Int) = kndI x by
        rw [HKK.out,if_neg]
        rintro ⟨h1,h2⟩
        have:=HbM.out
        rw [h1,Bool.true_and] at this
        exact h2 (by simpa using this))
       go_wp2_with fail
       go_meet
       exact ⟨by rw [HE.out],HC.out⟩
     · have HE := hideIt (show (kk : Int) = 1 by
        rw [HKK.out,if_pos]
        have:=HbM.out
        rw [Bool.and_eq_true] at this
        exact ⟨this.1,by simpa using this.2⟩)
       go_wp2_with fail
       go_meet
       exact ⟨by rw [HE.out],HC.out⟩
    case rest =>
     obtain ⟨rfl,hC2⟩:=hcut
     have HC2:=hI hC2
     obtain ⟨r0,r1,r2⟩:=hC2.at_.rules
     obtain ⟨r3,r4,r5⟩:=hC2.drew.at_.rules
     have wb:=hC2.box
     have w78:wc.cell? ⟨g,78,none⟩=some (.int .u8 (t:Int)):=by rw [← H78.out];exact hC2.at_.cell 78 (by decide)
     have HG2:=hI (fun (V:World) (hb:Below wc.heap.size wc V)=>hC2.grow hb)
     clear hC2 vb u0 u1 u2 u3 u4 u5 vx
     go_upto_region 12 with fail
     go_cut [] (fun wx=>PocP W g r n ⟨mf,mt,mp,0,false⟩ tk W.heap.size wx)
     case first =>
      have HS:=hI (fun (V:World) (hb:Below wc.heap.size wc V)=>(show V.cell? ⟨W.heap.size,0,none⟩=some (.pointer (some ⟨g,0,none⟩))∧V.cell? ⟨g,78,none⟩=some (.int .u8 (t:Int))∧IsMov V g from ⟨(HG2.out V hb).box,by rw [← H78.out];exact (HG2.out V hb).at_.cell 78 (by decide),(HG2.out V hb).at_.is⟩))
      have HS2:=hI (fun (V:World) (hb:Below wc.heap.size wc V)=>(show (putNow V g (addN q t kk)).cell? ⟨W.heap.size,0,none⟩=some (.pointer (some ⟨g,0,none⟩))∧(putNow V g (addN q t kk)).cell? ⟨g,78,none⟩=some (.int .u8 (t:Int))∧IsMov (putNow V g (addN q t kk)) g from ⟨((HG2.out V hb).put _).box,by rw [← H78.out,← HFA.out kk 78 (by omega)];exact ((HG2.out V hb).put _).at_.cell 78 (by decide),((HG2.out V hb).put _).at_.is⟩))
      refine wp_region_held_drew (S:=(fun V=>V.cell? ⟨W.heap.size,0,none⟩=some (.pointer (some ⟨g,0,none⟩))∧V.cell? ⟨g,78,none⟩=some (.int .u8 (t:Int))∧IsMov V g)) (by kernel_rfl) ?_ (fun hHeld=>?_)
      · (try dsimp only);(first | (with_reducible (refine HS2.out _ ?_;(repeat (first | exact bR | assumption | refine bD ?_ | refine bT ?_ (by assumption)));done)) | (with_reducible (refine HS.out _ ?_;(repeat (first | exact bR | assumption | refine bD ?_ | refine bT ?_ (by assumption)));done)))
      refine wpAnyH_take (i:=0) (oi:={ dst:=some 111,op:=Op.load 65 (Operand.tmp 1),type:=65,pos := "after.go:103",after:=#[],guard:=none }) (v:=?_) rfl (by kernel_rfl) (by kernel_rfl) (by kernel_rfl) (fun _ _ _ h=>h) (Or.inl ⟨by rfl,?_⟩) (by assumption) ?_
      rotate_left
      · (intro w hSw;(try dsimp only at hSw);go_simp;try (with_reducible rfl))
      try simp only [Act.put,lA,lB,lC]
      refine wpAnyH_take (i:=1) (oi:={ dst:=some 112,op:=Op.load 65 (Operand.tmp 1),type:=65,pos := "after.go:103",after:=#[],guard:=none }) (v:=?_) rfl (by kernel_rfl) (by kernel_rfl) (by kernel_rfl) (fun _ _ _ h=>h) (Or.inl ⟨by rfl,?_⟩) (by assumption) ?_
      rotate_left
      · (intro w hSw;(try dsimp only at hSw);go_simp;try (with_reducible rfl))
      try simp only [Act.put,lA,lB,lC]
      refine wpAnyH_take (i:=2) (oi:={ dst:=some 113,op:=Op.nilCheck (Operand.tmp 112),type:=0,pos := "after.go:103",after:=#[{ on:=1,ground:=Ground.data }],guard:=none }) (v:=?_) rfl (by kernel_rfl) (by kernel_rfl) (by kernel_rfl) (fun _ _ _ h=>h) (Or.inl ⟨by rfl,?_⟩) (by assumption) ?_
      rotate_left
      · (intro w hSw;(try dsimp only at hSw);go_simp;try (with_reducible rfl))
      try simp only [Act.put,lA,lB,lC]
      refine wpAnyH_take (i:=3) (oi:={ dst:=some 114,op:=Op.fieldAddr 68 (Operand.tmp 113) 0,type:=0,pos := "after.go:103",after:=#[{ on:=2,ground:=Ground.data }],guard:=none }) (v:=?_) rfl (by kernel_rfl) (by kernel_rfl) (by kernel_rfl) (fun _ _ _ h=>h) (Or.inl ⟨by rfl,?_⟩) (by assumption) ?_
      rotate_left
      · (intro w hSw;(try dsimp only at hSw);go_simp;try (with_reducible rfl))
      try simp only [Act.put,lA,lB,lC]
      refine wpAnyH_take (i:=5) (oi:={ dst:=some 116,op:=Op.load 65 (Operand.tmp 1),type:=65,pos := "after.go:103",after:=#[],guard:=none }) (v:=?_) rfl (by kernel_rfl) (by kernel_rfl) (by kernel_rfl) (fun _ _ _ h=>h) (Or.inl ⟨by rfl,?_⟩) (by assumption) ?_
      rotate_left
      · (intro w hSw;(try dsimp only at hSw);go_simp;try (with_reducible rfl))
      try simp only [Act.put,lA,lB,lC]
      refine wpAnyH_take (i:=6) (oi:={ dst:=some 117,op:=Op.nilCheck (Operand.tmp 116),type:=0,pos := "after.go:103",after:=#[{ on:=5,ground:=Ground.data }],guard:=none }) (v:=?_) rfl (by kernel_rfl) (by kernel_rfl) (by kernel_rfl) (fun _ _ _ h=>h) (Or.inl ⟨by rfl,?_⟩) (by assumption) ?_
      rotate_left
      · (intro w hSw;(try dsimp only at hSw);go_simp;try (with_reducible rfl))
      try simp only [Act.put,lA,lB,lC]
      refine wpAnyH_take (i:=7) (oi:={ dst:=some 118,op:=Op.fieldAddr 68 (Operand.tmp 117) 0,type:=0,pos := "after.go:103",after:=#[{ on:=6,ground:=Ground.data }],guard:=none }) (v:=?_) rfl (by kernel_rfl) (by kernel_rfl) (by kernel_rfl) (fun _ _ _ h=>h) (Or.inl ⟨by rfl,?_⟩) (by assumption) ?_
      rotate_left
      · (intro w hSw;(try dsimp only at hSw);go_simp;try (with_reducible rfl))
      try simp only [Act.put,lA,lB,lC]
      refine wpAnyH_take (i:=8) (oi:={ dst:=some 119,op:=Op.fieldAddr 31 (Operand.tmp 118) 4,type:=0,pos := "after.go:103",after:=#[{ on:=7,ground:=Ground.data }],guard:=none }) (v:=?_) rfl (by kernel_rfl) (by kernel_rfl) (by kernel_rfl) (fun _ _ _ h=>h) (Or.inl ⟨by rfl,?_⟩) (by assumption) ?_
      rotate_left
      · (intro w hSw;(try dsimp only at hSw);go_simp;try (with_reducible rfl))
      try simp only [Act.put,lA,lB,lC]
      refine wpAnyH_take (i:=9) (oi:={ dst:=some 120,op:=Op.load 5 (Operand.tmp 119),type:=5,pos := "after.go:103",after:=#[{ on:=8,ground:=Ground.data }],guard:=none }) (v:=?_) rfl (by kernel_rfl) (by kernel_rfl) (by kernel_rfl) (fun _ _ _ h=>h) (Or.inl ⟨by rfl,?_⟩) (by assumption) ?_
      rotate_left
      · (intro w hSw;(try dsimp only at hSw);go_simp;try (with_reducible rfl))
      try simp only [Act.put,lA,lB,lC]
      refine wpAnyH_take (i:=10) (oi:={ dst:=some 121,op:=Op.move (Operand.tmp 6),type:=5,pos := "after.go:103",after:=#[],guard:=none }) (v:=?_) rfl (by kernel_rfl) (by kernel_rfl) (by kernel_rfl) (fun _ _ _ h=>h) (Or.inl ⟨by rfl,?_⟩) (by assumption) ?_
      rotate_left
      · (intro w hSw;(try dsimp only at hSw);go_simp;try (with_reducible rfl))
      try simp only [Act.put,lA,lB,lC]
      refine wpAnyH_ready (rs:=[4]) (by kernel_rfl) (by simp) ?_
      refine AllReadyH.cons (o:={ dst:=some 115,op:=Op.load 31 (Operand.tmp 114),type:=31,pos := "after.go:103",after:=#[{ on:=3,ground:=Ground.data }],guard:=none }) rfl (fun K hK=>?_) AllReadyH.nil
      go_simp
      refine hK.out _ _ ?_ (fun hHeld=>?_)
      · (try dsimp only);(first | (with_reducible (refine HS2.out _ ?_;(repeat (first | exact bR | assumption | refine bD ?_ | refine bT ?_ (by assumption)));done)) | (with_reducible (refine HS.out _ ?_;(repeat (first | exact bR | assumption | refine bD ?_ | refine bT ?_ (by assumption)));done)))
      clear hK K
      try simp only [Act.put,lA,lB,lC]
      refine wpAnyH_ready (rs:=[11]) (by kernel_rfl) (by simp) ?_
      refine AllReadyH.cons (o:={ dst:=some 122,op:=Op.call { callee:=Callee.value (Operand.func 93),args:=#[Operand.tmp 115,Operand.tmp 120,Operand.tmp 121],argTypes:=#[31,5,5] },type:=31,pos := "after.go:103",after:=#[{ on:=4,ground:=Ground.data },{ on:=9,ground:=Ground.data },{ on:=10,ground:=Ground.data }],guard:=none }) rfl (fun K hK=>?_) AllReadyH.nil
      go_simp
      refine (HAD.out _).mono ?_
      rintro e w31 ⟨rfl,h1⟩
      refine hK.out _ _ ?_ (fun hHeld=>?_)
      · (try dsimp only);(first | (with_reducible (refine HS2.out _ ?_;(repeat (first | exact bR | assumption | refine bD ?_ | refine bT ?_ (by assumption)));done)) | (with_reducible (refine HS.out _ ?_;(repeat (first | exact bR | assumption | refine bD ?_ | refine bT ?_ (by assumption)));done)))
      clear hK K
      try simp only [Act.put,lA,lB,lC]
      refine wpAnyH_take (i:=12) (oi:={ dst:=some 123,op:=Op.nilCheck (Operand.tmp 111),type:=0,pos := "after.go:103",after:=#[{ on:=0,ground:=Ground.data },{ on:=0,ground:=Ground.phase },{ on:=1,ground:=Ground.phase },{ on:=2,ground:=Ground.phase },{ on:=3,ground:=Ground.phase },{ on:=4,ground:=Ground.phase },{ on:=5,ground:=Ground.phase },{ on:=6,ground:=Ground.phase },{ on:=7,ground:=Ground.phase },{ on:=8,ground:=Ground.phase },{ on:=9,ground:=Ground.phase },{ on:=10,ground:=Ground.phase },{ on:=11,ground:=Ground.phase }],guard:=none }) (v:=?_) rfl (by kernel_rfl) (by kernel_rfl) (by kernel_rfl) (fun _ _ _ h=>h) (Or.inl ⟨by rfl,?_⟩) (by assumption) ?_
      rotate_left
      · (intro w hSw;(try dsimp only at hSw);go_simp;try (with_reducible rfl))
      try simp only [Act.put,lA,lB,lC]
      refine wpAnyH_take (i:=13) (oi:={ dst:=some 124,op:=Op.fieldAddr 68 (Operand.tmp 123) 0,type:=0,pos := "after.go:103",after:=#[{ on:=12,ground:=Ground.data },{ on:=0,ground:=Ground.phase },{ on:=1,ground:=Ground.phase },{ on:=2,ground:=Ground.phase },{ on:=3,ground:=Ground.phase },{ on:=4,ground:=Ground.phase },{ on:=5,ground:=Ground.phase },{ on:=6,ground:=Ground.phase },{ on:=7,ground:=Ground.phase },{ on:=8,ground:=Ground.phase },{ on:=9,ground:=Ground.phase },{ on:=10,ground:=Ground.phase },{ on:=11,ground:=Ground.phase }],guard:=none }) (v:=?_) rfl (by kernel_rfl) (by kernel_rfl) (by kernel_rfl) (fun _ _ _ h=>h) (Or.inl ⟨by rfl,?_⟩) (by assumption) ?_
      rotate_left
      · (intro w hSw;(try dsimp only at hSw);go_simp;try (with_reducible rfl))
      try simp only [Act.put,lA,lB,lC]
      refine wpAnyH_ready (rs:=[14]) (by kernel_rfl) (by simp) ?_
      refine AllReadyH.cons (o:={ dst:=none,op:=Op.store 31 (Operand.tmp 124) (Operand.tmp 122),type:=0,pos := "after.go:103",after:=#[{ on:=13,ground:=Ground.data },{ on:=11,ground:=Ground.data },{ on:=11,ground:=Ground.chain },{ on:=0,ground:=Ground.phase },{ on:=1,ground:=Ground.phase },{ on:=2,ground:=Ground.phase },{ on:=3,ground:=Ground.phase },{ on:=4,ground:=Ground.phase },{ on:=5,ground:=Ground.phase },{ on:=6,ground:=Ground.phase },{ on:=7,ground:=Ground.phase },{ on:=8,ground:=Ground.phase },{ on:=9,ground:=Ground.phase },{ on:=10,ground:=Ground.phase },{ on:=11,ground:=Ground.phase }],guard:=none }) rfl (fun K hK=>?_) AllReadyH.nil
      go_simp
      refine hK.out _ _ ?_ (fun hHeld=>?_)
      · (try dsimp only);(first | (with_reducible (refine HS2.out _ ?_;(repeat (first | exact bR | assumption | refine bD ?_ | refine bT ?_ (by assumption)));done)) | (with_reducible (refine HS.out _ ?_;(repeat (first | exact bR | assumption | refine bD ?_ | refine bT ?_ (by assumption)));done)))
      clear hK K
      try simp only [Act.put,lA,lB,lC]
      refine wpAnyH_done (by kernel_rfl) ?_ _
      go_wp2_with fail
      go_meet
      rw [HPT.out];exact (HG2.out w31 (bT (bD bR) h1)).put _
     case rest =>
      have p65:wc.cell? ⟨g,65,none⟩=some (.int .u64 (u B)):=by
       have:=hcut.at_.cell 65 (by decide)
       rwa [HPT.out,add65,HB.out] at this
      have f65:=hcut.at_.free 65
      have pb:=hcut.box
      obtain ⟨u0,u1,u2,u3,u4,u5⟩:=hcut.move
      have hw:=pow_oneB tk hk k1
      have HE:=hI (hcut.set 65 (by decide) .u64 rfl (u B1)).drew
      rw [HB1.out] at HE
      have HB1:=hI HB1.out
      clear hcut r0 r1 r2 r3 r4 r5 wb w78
      go_wp2
      go_region
      all_goals
       go_wp2_with fail
       go_meet
       rw [HB1.out];exact HE.out
 case rest =>
  have hC:=hcut
  have a65:wc.cell? ⟨g,65,none⟩=some (.int .u64 (u B1)):=by have:=hC.at_.cell 65 (by decide);rwa [upd_at] at this
  have b65:=hC.at_.free 65
  have ab:=hC.box
  obtain ⟨a0,a1,a2,a3,a4,a5⟩:=hC.move
  dsimp only at a0 a1 a2 a3 a4
  have hD:=(hC.set 65 (by decide) .u64 rfl (u (B1&&&~~~oneB mf))).drew
  rw [upd_upd,← HM0.out] at hD
  obtain ⟨V,hV⟩:∃ V,(wc.setCell ⟨g,65,none⟩ (.int .u64 (u (marks0 n ⟨mf,mt,mp,0,false⟩ tk)))).drew=V:=⟨_,rfl⟩
  rw [hV] at hD
  have HV:=hI (show (wc.setCell ⟨g,65,none⟩ (.int .u64 (u (B1&&&~~~oneB mf)))).drew=V by rw [← HM0.out];exact hV)
  have d65:V.cell? ⟨g,65,none⟩=some (.int .u64 (u (marks0 n ⟨mf,mt,mp,0,false⟩ tk))):=by have:=hD.at_.cell 65 (by decide);rwa [upd_at] at this
  have e65:=hD.at_.free 65
  have db:=hD.box
  obtain ⟨d0,d1,d2,d3,d4,d5⟩:=hD.move
  dsimp only at d0 d1 d2 d3 d4
  have HM:=hI (HMK.out _ V hD mf f0 f1)
  have hE:=(hD.set 65 (by decide) .u64 rfl (u (marks0 n ⟨mf,mt,mp,0,false⟩ tk ||| oneB mt))).drew
  rw [upd_upd] at hE
  have HD:=hI hD
  have HE:=hI hE
  have hw:=pow_oneB mf f0 f1
  have hw2:=pow_oneB mt t0 t1
  generalize marks0 n ⟨mf,mt,mp,0,false⟩ tk=K at *
  clear hcut hC hD hE hV c0 cb v0 v1 v2 v3 v4 v5
  go_wp2
  go_region
  all_goals
   cases e1:(mp != 0) <;> cases e2:hasB B mf
   case false.false =>
    rw [e2] at HM
    have HF:=hI (HMB.out.trans (if_neg (fun h=>h.elim (fun h=>h (by simpa using e1)) (fun h=>by rw [e2] at h;cases h))))
    go_wp2_with (first | rw [HV.out] | (refine HM.out.mono ?_;rintro e w32 ⟨rfl,rfl⟩))
    first | go_end0 | refine bodyPost_ret (results_none rfl _ _ _) rfl ?_
    exact ⟨rfl,by rw [HN.out,HF.out];exact HD.out.at_,HD.out.low⟩
   all_goals
    rw [e2] at HM
    have HF:=hI (HMB.out.trans (if_pos (by first | exact .inr e2 | exact .inl (by simpa using e1))))
    go_wp2_with (first | rw [HV.out] | (refine HM.out.mono ?_;rintro e w32 ⟨rfl,rfl⟩))
    go_region
    all_goals
     go_wp2
     first | go_end0 | refine bodyPost_ret (results_none rfl _ _ _) rfl ?_
     exact ⟨rfl,by rw [HN.out,HF.out];exact HE.out.at_,HE.out.low⟩
theorem men_65 {n:Nat→Int} (ht:n 78=0∨n 78=1) {m:Mv} {tk:Int} (hm:MvOk n m tk):menN n m tk 65=n 65:=by
 have:=hm.f0;have:=hm.f1;have:=hm.t0;have:=hm.t1;have:=hm.k1
 have g:=goal_ix ht (sideM m)
 have htk:∀ c k,takN n c k 65=n 65:=fun c k=>by
  unfold takN;split
  · rename_i h
    unfold takB at h
    rw [Bool.and_eq_true,fits_iff] at h
    rw [upd_ne _ (by unfold poIx;omega)]
  · rfl
 have hc0:menC0 n tk 65=n 65:=by unfold menC0;split;rw [upd_ne _ (by omega)];rfl
 unfold menN
 split
 · unfold menA;rw [upd_ne _ (by omega),upd_ne _ (by omega),upd_ne _ (by omega),upd_ne _ (by omega)]
 · split
   · unfold menB;rw [upd_ne _ (by omega),htk]
   · unfold menC; split
     · rw [upd_ne _ (by omega),upd_ne _ (by omega),upd_ne _ (by omega),hc0]
     · rw [upd_ne _ (by omega),upd_ne _ (by omega),hc0]
theorem mpoc_any (q n:Nat→Int) (hq:PosOk q) (hn:PosOk n) (hh:HYPS n q) (m:Mv) (tk:Int) (ht:n 78=0∨n 78=1) (hm:MvOk n m tk) (g:Nat) (W:World) (h:MovAt W g q n m tk) :
 Calls Tryz.prog 35 #[.pointer (some ⟨g,0,none⟩)] W fun e w' => e = .returned (.tuple #[])∧MovAt w' g (pocN n q m tk) n m tk∧Below g W w' := by
 by_cases hv:n 0=2
 · by_cases hd : m.d = 0
   · cases hc : m.c with
     | true=>exact mpoc_c q n hq hn hh m tk hv _ rfl ht (hm.cast hc).1 g W h
     | false=>exact mpoc_n q n hq hn hh m tk hv (n 78).toNat (by omega) (by omega) hm.f0 hm.f1 hm.t0 hm.t1 hc hd hm.k0 hm.k1 g W h
   · exact mpoc_no q n hq hn hh m tk (.inr hd) g W h
 · exact mpoc_no q n hq hn hh m tk (.inl hv) g W h
theorem cell_heap {w w' : World} {b k:Nat} (h:w'.heap[b]?=w.heap[b]?):w'.cell? ⟨b,k,none⟩=w.cell? ⟨b,k,none⟩:=by simp only [World.cell?,h]
theorem heap_set {w:World} {b k i:Nat} (h:b≠k) (v:Value):(w.setCell ⟨k,i,none⟩ v).heap[b]?=w.heap[b]?:=by
 simp only [World.setCell]
 rw [Array.getElem?_modify,if_neg (fun e=>h e.symm)]
theorem mblow_any (q n:Nat→Int) (hq:PosOk q) (h0:q 0=n 0) (m:Mv) (tk:Int) (t0:0≤m.t) (t1:m.t<64) (g:Nat) (W:World) (h:MovAt W g q n m tk) (hT:∀ V,Below g W V→Tab V) :
 Calls Tryz.prog 36 #[.pointer (some ⟨g,0,none⟩)] W fun e w' => e = .returned (.tuple #[])∧MovAt w' g (blowN n q m tk) n m tk∧Below g W w' := by
 have HN:=hI (show blowN n q m tk=if n 0=3∧0≤tk then wipeN q (blownB q m.t) else q from rfl)
 have c0:=h.board 0 (by decide)
 rw [h0] at c0
 obtain ⟨v0,v1,v2,v3,v4,v5⟩:=h.mv
 have HH:=hI h
 have HBL:=hI (blown_any q hq m.t t0 t1)
 have HLI:=hI (list_any (blownB q m.t) rfl)
 have HWA:=hI (wipeL_all q (blownB q m.t))
 have HLE:=hI (listB_length (blownB q m.t))
 have HSQ:=hI (fun s=>(mem_listB (blownB q m.t) s).1)
 obtain ⟨mf,mt,mp,md,mc⟩:=m
 dsimp only at *
 obtain ⟨v,hv⟩:∃ v,n 0=v:=⟨_,rfl⟩
 rw [hv] at HN c0
 generalize blownB q mt=B at *
 have HGB:=hI (fun (V:World) (hb:Below W.heap.size W V)=>(show ((IsMov V g∧movNow V g=posA q∧movWas V g=posA n)∧V.cell? ⟨g,177,none⟩=some (.int .i8 mt))∧Below W.heap.size W V from ⟨⟨(h.grow hb).rules,(h.grow hb).mv.2.1⟩,hb⟩))
 have HTT:=hI (fun V (hb:Below W.heap.size W V)=>hT V (hb.mono (Nat.le_of_lt h.lt)))
 obtain ⟨⟨⟨r0,r1,r2⟩,_⟩,_⟩:=HGB.out W bR
 clear h hT hv h0
 by_cases hA:v=3∧0≤tk
 case neg =>
  have HN:=hI (HN.out.trans (if_neg hA))
  cases e1:(v==3)
  · have e2 : (v != 3) = true := by rw [bne, e1]; rfl
    go_enter Tryz.func36,Tryz.ntmps36
    go_wp2
    first | go_end0 | refine bodyPost_ret (results_none rfl _ _ _) rfl ?_
    exact ⟨rfl,by rw [HN.out];exact HH.out,bR⟩
  · have e2 : (v != 3) = false := by rw [bne, e1]; rfl
    have dk:decide (tk<0)=true:=decide_eq_true (by have:=beq_iff_eq.1 e1;omega)
    go_enter Tryz.func36,Tryz.ntmps36
    go_wp2
    first | go_end0 | refine bodyPost_ret (results_none rfl _ _ _) rfl ?_
    exact ⟨rfl,by rw [HN.out];exact HH.out,bR⟩
 case pos =>
  have HN:=hI (HN.out.trans (if_pos hA))
  have e1:(v==3)=true:=beq_iff_eq.2 hA.1
  have e2:(v != 3)=false:=by rw [bne,e1];rfl
  have dk:decide (tk<0)=false:=decide_eq_false (by omega)
  clear hA
  have wm:IntKind.i64.wrap mt=mt:=i64_small (by omega) (by omega)
  go_enter Tryz.func36,Tryz.ntmps36
  go_upto_region 1 with fail
  go_region_held3 (fun V=>((IsMov V g∧movNow V g=posA q∧movWas V g=posA n)∧V.cell? ⟨g,177,none⟩=some (.int .i8 mt))∧Below W.heap.size W V) ((refine HGB.out _ ?_;repeat (first | exact bR | assumption | refine bD ?_ | refine bT ?_ (by assumption) | refine bl_new7 ?_))) ((first | (go_at_call 95;refine (HBL.out _).mono ?_;rintro e w31 ⟨rfl,h1⟩) | (go_at_call 94;refine (HLI.out _ (HTT.out _ (And.right ‹(_∧_)∧Below W.heap.size W _›))).mono ?_;rintro e w32 ⟨vl,rfl,hown,h2⟩;obtain ⟨a,c,rfl,hcell⟩:=owns_slice hown)))
  all_goals
   have hq2:=And.right ‹(_∧_)∧Below W.heap.size W _›
   have HM:=hI (HH.out.grow hq2)
   have HBB:=hI (hq2.mono (Nat.le_of_lt HH.out.lt))
   have HGL:=hI HH.out.lt
   have HOS:=hI hq2.size
   have HSZ:=hI (show W.heap.size≤w31.heap.size from Nat.le_trans (by simp) h1.size)
   have HC:=hI hcell
   have HL:=hI (fun (k:Nat) (hk:k<(listB B).length)=>(show 0≤(listB B)[k]∧(listB B)[k]<64 from has_sq (HSQ.out _ (List.getElem_mem hk))))
   clear hown h1 h2 hcell hq2 c0 v0 v1 v2 v3 v4 v5 r0 r1 r2
   obtain ⟨N,hN⟩:∃ N,(listB B).length=N:=⟨_,rfl⟩
   have HNN:=hI hN
   have hlen:N≤64:=by rw [← hN];exact HLE.out
   rw [hN]
   clear hN
   go_wp2
   go_loopg [30] N (fun gh i wr=>∃ k:Nat,k+gh=N∧i=.int .i64 k∧MovAt wr g (wipeL q ((listB B).take k)) n ⟨mf,mt,mp,md,mc⟩ tk∧Below g W wr∧∀ b,b≠g→wr.heap[b]?=w32.heap[b]?)
   case atStart=>exact ⟨0,by omega,rfl,by rw [List.take_zero,wipeL_nil];exact HM.out,HBB.out,fun _ _=>rfl⟩
   case round =>
    obtain ⟨k,hk,rfl,hw,hb,hrest⟩:=hrel
    by_cases hlt:k<N
    · have hkl : k < (listB B).length := by rw [HNN.out]; exact hlt
      obtain ⟨b,rfl,hbb,hbl,_,hce⟩:=HC.out k hkl
      obtain ⟨l0,l1⟩:=HL.out k hkl
      have HTK:=hI (List.take_succ_eq_append_getElem hkl)
      generalize (listB B)[k]=s at hce l0 l1 HTK
      have hbg:b≠g:=by have:=HGL.out;have:=HSZ.out;omega
      have cs:wr.cell? ⟨b,k,none⟩=some (.int .i64 s):=(cell_heap (hrest b hbg)).trans hce
      have i0:(0:Int)≤(k:Int):=by omega
      have i1:(k:Int)<(N:Int):=by omega
      have cg:=hw.board (1+s.toNat) (by omega)
      have fg:=hw.free (1+s.toNat)
      have HE:=hI (show MovAt (wr.setCell ⟨g,1+s.toNat,none⟩ (.int .u8 0)) g (wipeL q ((listB B).take (k+1))) n ⟨mf,mt,mp,md,mc⟩ tk from by rw [HTK.out,wipeL_snoc q _ s l0 l1];exact hw.setK (1+s.toNat) (by omega) .u8 (kB (by omega)) 0)
      have HEB:=hI (hb.setCell (p:=⟨g,1+s.toNat,none⟩) lR (.int .u8 0))
      have HER:=hI (fun b' (h:b' ≠ g)=>(heap_set (i:=1+s.toNat) h (.int .u8 0)).trans (hrest b' h))
      generalize wipeL q ((listB B).take k) (1+s.toNat)=z at cg
      clear hw hb hrest hce HTK
      go_wp2
      go_roundg (N - (k+1))
      case measure=>omega
      case rel=>exact ⟨k+1,by omega,by go_num,HE.out,HEB.out,HER.out⟩
    · obtain rfl : k = N := by omega
      have HE:=hI (show MovAt wr g (wipeL q (listB B)) n ⟨mf,mt,mp,md,mc⟩ tk by rw [← HNN.out,List.take_length] at hw;exact hw)
      have HEB:=hI hb
      clear hw hb hrest
      go_wp2
      first | go_end0 | refine bodyPost_ret (results_none rfl _ _ _) rfl ?_
      exact ⟨rfl,by rw [HN.out,← HWA.out];exact HE.out,HEB.out⟩
theorem rig1_no' {q:Nat→Int} {m:Mv} {tk:Int} {c side:Nat} (h:¬(0≤q (79+2*c+side)∧q (79+2*c+side)≤7)):rig1 q m tk c side=q:=if_neg (fun h2=>h ⟨h2.1,h2.2.1⟩)
theorem rig1_is {q:Nat→Int} {m:Mv} {tk:Int} {c side:Nat} (h:0≤q (79+2*c+side)∧q (79+2*c+side)≤7):rig1 q m tk c side=if goneB q m tk c (56*(c:Int)+q (79+2*c+side))=true then upd q (79+2*c+side) (-1) else q:=by
 unfold rig1
 by_cases hg:goneB q m tk c (56*(c:Int)+q (79+2*c+side))=true
 · rw [if_pos ⟨h.1,h.2,hg⟩,if_pos hg]
 · rw [if_neg (fun h=>hg h.2.2),if_neg hg]
theorem mrights_any (q n:Nat→Int) (hq:PosOk q) (hn:PosOk n) (h78:q 78=n 78) (t:Nat) (ht1:t≤1) (ht:n 78=t) (m:Mv) (tk:Int) (f0:0≤m.f) (f1:m.f<64) (g:Nat) (W:World) (h:MovAt W g q n m tk) (hT:∀ V,Below g W V→Tab V) :
 Calls Tryz.prog 37 #[.pointer (some ⟨g,0,none⟩)] W fun e w' => e = .returned (.tuple #[])∧MovAt w' g (rigN n q m tk) n m tk∧Below g W w' := by
 have HN:=hI (rigN_is n q m tk)
 have HOK:=hI (fun k hk=>rigS_ok (rig0_ok hq (show n 78=0∨n 78=1 by omega) m) m tk k hk)
 have HR0:=hI (show rig0 n q m=if movK n m=6∧m.d=0 then upd (upd q (79+2*t) (-1)) (80+2*t) (-1) else q by unfold rig0;rw [ht];rfl)
 have HKD:=hI (mkind_any q n hn m tk f0 f1 g)
 have HTT:=hI hT
 have hk1:kindAt (79+2*t)=.i8:=by rcases (show t=0∨t=1 by omega) with rfl | rfl <;> rfl
 have hk2:kindAt (80+2*t)=.i8:=by rcases (show t=0∨t=1 by omega) with rfl | rfl <;> rfl
 obtain ⟨v0,v1,v2,v3,v4,v5⟩:=h.mv
 have HH:=hI h
 have H78:Hid (q 78=t):=h78.trans ht
 have HMK:=hI (show movK n m=if m.d≠0 then m.d else kndI (n (1+m.f.toNat)) from rfl)
 obtain ⟨mf,mt,mp,md,mc⟩:=m
 dsimp only at *
 obtain ⟨q0,hq0⟩:∃ q0,rig0 n q ⟨mf,mt,mp,md,mc⟩=q0:=⟨_,rfl⟩
 rw [hq0] at HN HOK HR0
 obtain ⟨k,hk⟩:∃ k,movK n ⟨mf,mt,mp,md,mc⟩=k:=⟨_,rfl⟩
 rw [hk] at HR0 HKD
 clear h hT hq0 hk h78 ht
 go_enter Tryz.func37,Tryz.ntmps37
 go_upto_region 0 with fail
 obtain ⟨bK,hbK⟩:∃ b,((k==6)&&(md==0))=b:=⟨_,rfl⟩
 have HbK:=hI hbK
 clear hbK
 go_cut [18] (fun s18 wx=>s18=.bool bK∧MovAt wx g q n ⟨mf,mt,mp,md,mc⟩ tk∧Below g W wx)
 case first =>
  go_wp2_with fail
  refine (HKD.out _ HH.out).mono ?_
  rintro e V ⟨rfl,kk,rfl⟩
  obtain ⟨V,hV⟩:∃ V,W.drewN kk=V:=⟨_,rfl⟩
  have hVw:MovAt V g q n ⟨mf,mt,mp,md,mc⟩ tk:=by rw [← hV];exact HH.out.grow (blN _ _)
  have bV:Below g W V:=by rw [← hV];exact (blN _ _).mono (Nat.le_of_lt HH.out.lt)
  rw [hV]
  obtain ⟨u0,u1,u2,u3,u4,u5⟩:=hVw.mv
  dsimp only at u0 u1 u2 u3 u4
  have HE:=hI hVw
  clear hV hVw v0 v1 v2 v3 v4 v5
  cases e1:(k==6)
  · go_wp2_with fail
    go_meet
    exact ⟨by rw [← HbK.out,e1];rfl,HE.out,bV⟩
  · cases e2 : (md == 0)
    · go_wp2_with fail
      go_meet
      exact ⟨by rw [← HbK.out,e1,e2];rfl,HE.out,bV⟩
    · go_wp2_with fail
      go_meet
      exact ⟨by rw [← HbK.out,e1,e2];rfl,HE.out,bV⟩
 case rest =>
  obtain ⟨rfl,hW,bW⟩:=hcut
  have HW:=hI hW
  have HBW:=hI bW
  have c78:wc.cell? ⟨g,78,none⟩=some (.int .u8 (t:Int)):=by rw [← H78.out];exact hW.cell 78 (by decide)
  clear hW bW
  go_upto_if 18 with fail
  go_cut [] (fun wx=>MovAt wx g q0 n ⟨mf,mt,mp,md,mc⟩ tk∧Below g W wx)
  case first =>
   cases bK
   · have HE := hideIt (HR0.out.trans (if_neg (fun h => by have := HbK.out; rw [h.1, h.2] at this; cases this)))
     go_wp2_with fail
     go_meet
     rw [HE.out];exact ⟨HW.out,HBW.out⟩
   · have HE := hideIt (HR0.out.trans (if_pos (by have := HbK.out; rw [Bool.and_eq_true, beq_iff_eq, beq_iff_eq] at this; exact this)))
     have ti0:(0:Int)≤t:=by omega
     have ti1:(t:Int)<2:=by omega
     have d1:wc.cell? ⟨g,79+t*2,none⟩=some (.int .i8 (q (79+2*t))):=by rw [← hk1,show 79+t*2=79+2*t by omega];exact HW.out.cell (79+2*t) (by omega)
     have f1' := HW.out.free (79+t*2)
     have hA:=HW.out.setK (79+2*t) (by omega) .i8 hk1 (-1)
     rw [show 79+2*t=79+t*2 by omega] at hA
     have d2:(wc.setCell ⟨g,79+t*2,none⟩ (.int .i8 (-1))).cell? ⟨g,79+t*2+1,none⟩=some (.int .i8 (upd q (79+t*2) (-1) (80+2*t))):=by
      have:=hA.cell (80+2*t) (by omega);rw [hk2] at this;rw [show 79+t*2+1=80+2*t by omega];exact this
     have f2' := hA.free (79+t*2+1)
     have hB:=hA.setK (80+2*t) (by omega) .i8 hk2 (-1)
     rw [show 80+2*t=79+t*2+1 by omega] at hB
     have HE:=hI (show q0=upd (upd q (79+t*2) (-1)) (79+t*2+1) (-1) by rw [HE.out,show 79+2*t=79+t*2 by omega,show 80+2*t=79+t*2+1 by omega])
     have HF:=hI hB.drew
     have HFB:=hI (((HBW.out.setCell (p:=⟨g,79+t*2,none⟩) lR (.int .i8 (-1))).setCell (p:=⟨g,79+t*2+1,none⟩) lR (.int .i8 (-1))).drew)
     generalize upd q (79+t*2) (-1) (80+2*t)=z2 at d2
     generalize q (79+2*t)=z1 at d1
     clear hA hB
     go_wp2
     go_region
     all_goals
      go_wp2_with fail
      go_meet
      rw [HE.out];exact ⟨HF.out,HFB.out⟩
  case rest =>
   have HC:=hI hcut
   clear hcut c78
   go_wp2
   go_loopg [2] 2 (fun gh i wr=>∃ c:Nat,c+gh=2∧i=.int .u8 c∧MovAt wr g (rigS q0 ⟨mf,mt,mp,md,mc⟩ tk (2*c)) n ⟨mf,mt,mp,md,mc⟩ tk∧Below g W wr)
   case atStart=>exact ⟨0,rfl,rfl,HC.out.1,HC.out.2⟩
   case round =>
    obtain ⟨c,hgc,rfl,hw,hb⟩:=hrel
    by_cases hc:c<2
    case neg =>
     obtain rfl:c=2:=by omega
     have HE:=hI hw
     have HEB:=hI hb
     clear hw hb
     go_wp2
     first | go_end0 | refine bodyPost_ret (results_none rfl _ _ _) rfl ?_
     exact ⟨rfl,by rw [HN.out];exact HE.out,HEB.out⟩
    case pos =>
     have dc:decide ((c:Int)≤1)=true:=decide_eq_true (by omega)
     have hok:=HOK.out (2*c) (by omega)
     have HBF:=hI (fun w hT=>bfind_any _ hok (c:Int) 6 w hT)
     obtain ⟨r0,r1,r2⟩:=hw.rules
     have HWR:=hI hw
     have HBR:=hI hb
     clear hw hb
     go_wp2_with fail
     refine (HBF.out _ (HTT.out _ HBR.out)).mono ?_
     rintro e V ⟨rfl,hbV⟩
     have hV:=HWR.out.grow hbV
     have bV:=HBR.out.trans (hbV.mono (Nat.le_of_lt HWR.out.lt))
     have ka:kindAt (79+2*c)=.i8:=by rcases (show c=0∨c=1 by omega) with rfl | rfl <;> rfl
     have kb:kindAt (80+2*c)=.i8:=by rcases (show c=0∨c=1 by omega) with rfl | rfl <;> rfl
     have HR1:=hI (show rigS q0 ⟨mf,mt,mp,md,mc⟩ tk (2*c+1)=rig1 (rigS q0 ⟨mf,mt,mp,md,mc⟩ tk (2*c)) ⟨mf,mt,mp,md,mc⟩ tk c 0 by
      show rig1 (rigS q0 ⟨mf,mt,mp,md,mc⟩ tk (2*c)) ⟨mf,mt,mp,md,mc⟩ tk ((2*c) / 2) ((2*c) % 2)=_
      rw [show (2*c) / 2=c by omega,show (2*c) % 2=0 by omega])
     have upd1_ne:rig1 (rigS q0 ⟨mf,mt,mp,md,mc⟩ tk (2*c)) ⟨mf,mt,mp,md,mc⟩ tk c 0 (79+2*c+1)=rigS q0 ⟨mf,mt,mp,md,mc⟩ tk (2*c) (80+2*c):=by
      unfold rig1;split
      · rw [upd_ne _ (by omega),show 79+2*c+1=80+2*c by omega]
      · rw [show 79+2*c+1=80+2*c by omega]
     obtain ⟨x0,x1⟩:=hok.i8 (79+2*c) (by omega) ka
     obtain ⟨y0,y1⟩:=hok.i8 (80+2*c) (by omega) kb
     have ca:V.cell? ⟨g,79+c*2,none⟩=some (.int .i8 (rigS q0 ⟨mf,mt,mp,md,mc⟩ tk (2*c) (79+2*c))):=by rw [← ka,show 79+c*2=79+2*c by omega];exact hV.cell (79+2*c) (by omega)
     have cb:V.cell? ⟨g,79+c*2+1,none⟩=some (.int .i8 (rigS q0 ⟨mf,mt,mp,md,mc⟩ tk (2*c) (80+2*c))):=by rw [← kb,show 79+c*2+1=80+2*c by omega];exact hV.cell (80+2*c) (by omega)
     obtain ⟨a0,ha0⟩:∃ a,rigS q0 ⟨mf,mt,mp,md,mc⟩ tk (2*c) (79+2*c)=a:=⟨_,rfl⟩
     obtain ⟨a1,ha1⟩:∃ a,rigS q0 ⟨mf,mt,mp,md,mc⟩ tk (2*c) (80+2*c)=a:=⟨_,rfl⟩
     rw [ha0] at ca x0 x1
     rw [ha1] at cb y0 y1
     have HA0:=hI ha0
     have HA1:=hI ha1
     have HUN:=hI upd1_ne
     have hKb:-1≤firstB (ofN (rigS q0 ⟨mf,mt,mp,md,mc⟩ tk (2*c)) (c:Int) 6)∧firstB (ofN (rigS q0 ⟨mf,mt,mp,md,mc⟩ tk (2*c)) (c:Int) 6)<64:=by
      rcases first_cases (ofN (rigS q0 ⟨mf,mt,mp,md,mc⟩ tk (2*c)) (c:Int) 6) with ⟨_,h⟩ | ⟨i,hi,_,_,h⟩ <;> rw [h] <;> omega
     obtain ⟨K,hK⟩:∃ K,firstB (ofN (rigS q0 ⟨mf,mt,mp,md,mc⟩ tk (2*c)) (c:Int) 6)=K:=⟨_,rfl⟩
     rw [hK] at hKb ⊢
     obtain ⟨K0,K1⟩:=hKb
     have HKK:=hI hK
     have HK8:=hI (fun (h:¬ K<0)=>(Int.tdiv_eq_ediv_of_nonneg (by omega):K.tdiv 8=K / 8))
     have HMK:=hI (show ∀ w,Calls Tryz.prog 91 #[.int .u8 (c:Int),.int .u8 4] w fun e w' => e = .returned (.int .u8 (8*(c:Int)+4))∧w=w' from fun w=>by
      have:=make_any (c:Int) 4 (by omega) (by omega) (by omega) (by omega) w
      rwa [show makeI (c:Int) 4=8*c+4 by unfold makeI;split <;> omega] at this)
     have c0i:(0:Int)≤c:=by omega
     have c1i:(c:Int)<2:=by omega
     have ix0:∀ w,(Instr.index 27 (.agg #[.int .i8 a0,.int .i8 a1]) (.int .i64 0)).run Tryz.prog w=.ok (.int .i8 a0) w:=fun _=>by kernel_rfl
     have ix1:∀ w,(Instr.index 27 (.agg #[.int .i8 a0,.int .i8 a1]) (.int .i64 1)).run Tryz.prog w=.ok (.int .i8 a1) w:=fun _=>by kernel_rfl
     have HV:=hI hV
     have HBV:=hI bV
     clear hV bV hbV ha0 ha1 hK upd1_ne hok r0 r1 r2
     go_wp2
     go_loopg [47] 2 (fun gh i wr=>∃ d:Nat,d+gh=2∧i=.int .i64 d∧MovAt wr g (rigS q0 ⟨mf,mt,mp,md,mc⟩ tk (2*c+d)) n ⟨mf,mt,mp,md,mc⟩ tk∧Below g W wr)
     case atStart=>exact ⟨0,rfl,rfl,HV.out,HBV.out⟩
     case round =>
      obtain ⟨d,hgd,rfl,hw,hb⟩:=hrel
      rcases (show d=0∨d=1∨d=2 by omega) with rfl | rfl | rfl
      · have HNX := hideIt (show rigS q0 ⟨mf, mt, mp, md, mc⟩ tk (2 * c + 0 + 1) = rig1 (rigS q0 ⟨mf, mt, mp, md, mc⟩ tk (2 * c + 0)) ⟨mf, mt, mp, md, mc⟩ tk c 0 by
         show rig1 (rigS q0 ⟨mf,mt,mp,md,mc⟩ tk (2*c+0)) ⟨mf,mt,mp,md,mc⟩ tk ((2*c+0) / 2) ((2*c+0) % 2)=_
         rw [show (2*c+0) / 2=c by omega,show (2*c+0) % 2=0 by omega])
        have HF:=hI (show rigS q0 ⟨mf,mt,mp,md,mc⟩ tk (2*c+0) (79+2*c+0)=a0 from by exact HA0.out)
        have HOF:=hI (rigS_of q0 ⟨mf,mt,mp,md,mc⟩ tk (c:Int) 6 (2*c+0))
        have HOC:=hI (rigS_of q0 ⟨mf,mt,mp,md,mc⟩ tk (c:Int) 6 (2*c))
        have hqd:=HOK.out (2*c+0) (by omega)
        obtain ⟨qd,hqq⟩:∃ qd,rigS q0 ⟨mf,mt,mp,md,mc⟩ tk (2*c+0)=qd:=⟨_,rfl⟩
        rw [hqq] at HNX HF HOF hqd hw
        have HKE:=hI (show firstB (ofN qd (c:Int) 6)=K by rw [HOF.out,← HOC.out];exact HKK.out)
        clear hqq
        have HW2:=hI hw
        have HB2:=hI hb
        have kk1:kindAt (79+2*c+0)=.i8:=by rcases (show c=0∨c=1 by omega) with rfl | rfl <;> rfl
        have kk3:79+2*c+0=79+c*2:=by omega
        have kk2:kindAt (79+c*2)=.i8:=by rw [← kk3];exact kk1
        have cst:wr.cell? ⟨g,79+c*2,none⟩=some (.int .i8 a0):=by rw [← kk1,← HF.out,show 79+c*2=79+2*c+0 by omega];exact hw.cell _ (by omega)
        have fst:=hw.free (79+c*2)
        obtain ⟨u0,u1,u2,u3,u4,u5⟩:=hw.mv
        dsimp only at u0 u1 u2 u3 u4
        by_cases hfr:0≤a0∧a0≤7
        case neg =>
         have HNX:=hI (HNX.out.trans (rig1_no' (by rw [HF.out];exact hfr)))
         clear hw hb
         cases ef:decide (a0<0)
         · have eg : decide (7 < a0) = true := decide_eq_true (by have := of_decide_eq_false ef; omega)
           go_wp2
           go_roundg 1
           case measure=>omega
           case rel=>exact ⟨1,rfl,by go_num,by rw [show 2*c+1=2*c+0+1 by omega,HNX.out];exact HW2.out,HB2.out⟩
         · go_wp2
           go_roundg 1
           case measure=>omega
           case rel=>exact ⟨1,rfl,by go_num,by rw [show 2*c+1=2*c+0+1 by omega,HNX.out];exact HW2.out,HB2.out⟩
        case pos =>
         have HNX:=hI (HNX.out.trans (rig1_is (by rw [HF.out];exact hfr)))
         obtain ⟨hf0,hf7⟩:=hfr
         have ef:decide (a0<0)=false:=decide_eq_false (by omega)
         have eg:decide (7<a0)=false:=decide_eq_false (by omega)
         have s0:0≤56*(c:Int)+a0:=by omega
         have s1:56*(c:Int)+a0<64:=by omega
         have wa:=IntWalk.i64_in (56*(c:Int)) (by omega)
         have wb:=IntWalk.i64_in (56*(c:Int)+a0) (by omega)
         have wd:=IntWalk.i64_in (7*(c:Int)) (by omega)
         have cx:=hw.board (1+(56*(c:Int)+a0).toNat) (by omega)
         obtain ⟨G,hG⟩:∃ G,goneB qd ⟨mf,mt,mp,md,mc⟩ tk c (56*(c:Int)+a0)=G:=⟨_,rfl⟩
         rw [HF.out,hG] at HNX
         unfold goneB at hG
         rw [HKE.out] at hG
         dsimp only at hG
         obtain ⟨x,hx⟩:∃ x,qd (1+(56*(c:Int)+a0).toNat)=x:=⟨_,rfl⟩
         rw [hx] at cx hG
         clear hw hb hx
         rcases gone_ways _ _ _ _ _ _ _ hG with ⟨g0,ea⟩ | ⟨g0,ea,eb,ec⟩ | ⟨g0,ea,eb,ed⟩ | ⟨g0,ea,eb,ed,ee⟩ | ⟨g0,ea,eb,ed,ee,ei⟩ | ⟨g0,ea,eb,ed,ee,ei⟩ | ⟨g0,ea,eb,ec,ed⟩ | ⟨g0,ea,eb,ec,ed,ee⟩ | ⟨g0,ea,eb,ec,ed,ee,ei⟩ | ⟨g0,ea,eb,ec,ed,ee,ei⟩
         all_goals
          clear hG
          have HNX:=hI (HNX.out.trans (by rw [g0]))
          try have hK8:K.tdiv 8=K / 8:=HK8.out (by have:=of_decide_eq_false ed;omega)
          try have wk:=IntWalk.i64_in (K / 8) (by omega)
          try have en:(K / 8 != 7*(c:Int))=_:=congrArg not ee
          try have ex:(x != 8*(c:Int)+4)=_:=congrArg not ei
          clear g0
          go_wp2
          go_quiet ((go_at_call 91;exact quietEq (HMK.out _)))
          go_wp2
          go_roundg 1
          case measure=>omega
          case rel =>
           refine ⟨1,rfl,by go_num,?_,?_⟩
           · rw [show 2 * c + 1 = 2 * c + 0 + 1 by omega, HNX.out]
             first | exact HW2.out.grow (blN _ _) | (rw [if_pos trivial,kk3];exact (HW2.out.grow (blN _ _)).setK (79+c*2) (by omega) .i8 kk2 (-1)) | (rw [if_neg (by simp)];exact HW2.out.grow (blN _ _))
           · first | exact HB2.out.trans ((blN _ _).mono (Nat.le_of_lt HW2.out.lt)) | exact (HB2.out.trans ((blN _ _).mono (Nat.le_of_lt HW2.out.lt))).setCell (p:=⟨g,79+c*2,none⟩) lR _
      · have HNX := hideIt (show rigS q0 ⟨mf, mt, mp, md, mc⟩ tk (2 * c + 1 + 1) = rig1 (rigS q0 ⟨mf, mt, mp, md, mc⟩ tk (2 * c + 1)) ⟨mf, mt, mp, md, mc⟩ tk c 1 by
         show rig1 (rigS q0 ⟨mf,mt,mp,md,mc⟩ tk (2*c+1)) ⟨mf,mt,mp,md,mc⟩ tk ((2*c+1) / 2) ((2*c+1) % 2)=_
         rw [show (2*c+1) / 2=c by omega,show (2*c+1) % 2=1 by omega])
        have HF:=hI (show rigS q0 ⟨mf,mt,mp,md,mc⟩ tk (2*c+1) (79+2*c+1)=a1 from by rw [HR1.out,HUN.out];exact HA1.out)
        have HOF:=hI (rigS_of q0 ⟨mf,mt,mp,md,mc⟩ tk (c:Int) 6 (2*c+1))
        have HOC:=hI (rigS_of q0 ⟨mf,mt,mp,md,mc⟩ tk (c:Int) 6 (2*c))
        have hqd:=HOK.out (2*c+1) (by omega)
        obtain ⟨qd,hqq⟩:∃ qd,rigS q0 ⟨mf,mt,mp,md,mc⟩ tk (2*c+1)=qd:=⟨_,rfl⟩
        rw [hqq] at HNX HF HOF hqd hw
        have HKE:=hI (show firstB (ofN qd (c:Int) 6)=K by rw [HOF.out,← HOC.out];exact HKK.out)
        clear hqq
        have HW2:=hI hw
        have HB2:=hI hb
        have kk1:kindAt (79+2*c+1)=.i8:=by rcases (show c=0∨c=1 by omega) with rfl | rfl <;> rfl
        have kk3:79+2*c+1=79+c*2+1:=by omega
        have kk2:kindAt (79+c*2+1)=.i8:=by rw [← kk3];exact kk1
        have cst:wr.cell? ⟨g,79+c*2+1,none⟩=some (.int .i8 a1):=by rw [← kk1,← HF.out,show 79+c*2+1=79+2*c+1 by omega];exact hw.cell _ (by omega)
        have fst:=hw.free (79+c*2+1)
        obtain ⟨u0,u1,u2,u3,u4,u5⟩:=hw.mv
        dsimp only at u0 u1 u2 u3 u4
        by_cases hfr:0≤a1∧a1≤7
        case neg =>
         have HNX:=hI (HNX.out.trans (rig1_no' (by rw [HF.out];exact hfr)))
         clear hw hb
         cases ef:decide (a1<0)
         · have eg : decide (7 < a1) = true := decide_eq_true (by have := of_decide_eq_false ef; omega)
           go_wp2
           go_roundg 0
           case measure=>omega
           case rel=>exact ⟨2,rfl,by go_num,by rw [show 2*c+2=2*c+1+1 by omega,HNX.out];exact HW2.out,HB2.out⟩
         · go_wp2
           go_roundg 0
           case measure=>omega
           case rel=>exact ⟨2,rfl,by go_num,by rw [show 2*c+2=2*c+1+1 by omega,HNX.out];exact HW2.out,HB2.out⟩
        case pos =>
         have HNX:=hI (HNX.out.trans (rig1_is (by rw [HF.out];exact hfr)))
         obtain ⟨hf0,hf7⟩:=hfr
         have ef:decide (a1<0)=false:=decide_eq_false (by omega)
         have eg:decide (7<a1)=false:=decide_eq_false (by omega)
         have s0:0≤56*(c:Int)+a1:=by omega
         have s1:56*(c:Int)+a1<64:=by omega
         have wa:=IntWalk.i64_in (56*(c:Int)) (by omega)
         have wb:=IntWalk.i64_in (56*(c:Int)+a1) (by omega)
         have wd:=IntWalk.i64_in (7*(c:Int)) (by omega)
         have cx:=hw.board (1+(56*(c:Int)+a1).toNat) (by omega)
         obtain ⟨G,hG⟩:∃ G,goneB qd ⟨mf,mt,mp,md,mc⟩ tk c (56*(c:Int)+a1)=G:=⟨_,rfl⟩
         rw [HF.out,hG] at HNX
         unfold goneB at hG
         rw [HKE.out] at hG
         dsimp only at hG
         obtain ⟨x,hx⟩:∃ x,qd (1+(56*(c:Int)+a1).toNat)=x:=⟨_,rfl⟩
         rw [hx] at cx hG
         clear hw hb hx
         rcases gone_ways _ _ _ _ _ _ _ hG with ⟨g0,ea⟩ | ⟨g0,ea,eb,ec⟩ | ⟨g0,ea,eb,ed⟩ | ⟨g0,ea,eb,ed,ee⟩ | ⟨g0,ea,eb,ed,ee,ei⟩ | ⟨g0,ea,eb,ed,ee,ei⟩ | ⟨g0,ea,eb,ec,ed⟩ | ⟨g0,ea,eb,ec,ed,ee⟩ | ⟨g0,ea,eb,ec,ed,ee,ei⟩ | ⟨g0,ea,eb,ec,ed,ee,ei⟩
         all_goals
          clear hG
          have HNX:=hI (HNX.out.trans (by rw [g0]))
          try have hK8:K.tdiv 8=K / 8:=HK8.out (by have:=of_decide_eq_false ed;omega)
          try have wk:=IntWalk.i64_in (K / 8) (by omega)
          try have en:(K / 8 != 7*(c:Int))=_:=congrArg not ee
          try have ex:(x != 8*(c:Int)+4)=_:=congrArg not ei
          clear g0
          go_wp2
          go_quiet ((go_at_call 91;exact quietEq (HMK.out _)))
          go_wp2
          go_roundg 0
          case measure=>omega
          case rel =>
           refine ⟨2,rfl,by go_num,?_,?_⟩
           · rw [show 2 * c + 2 = 2 * c + 1 + 1 by omega, HNX.out]
             first | exact HW2.out.grow (blN _ _) | (rw [if_pos trivial,kk3];exact (HW2.out.grow (blN _ _)).setK (79+c*2+1) (by omega) .i8 kk2 (-1)) | (rw [if_neg (by simp)];exact HW2.out.grow (blN _ _))
           · first | exact HB2.out.trans ((blN _ _).mono (Nat.le_of_lt HW2.out.lt)) | exact (HB2.out.trans ((blN _ _).mono (Nat.le_of_lt HW2.out.lt))).setCell (p:=⟨g,79+c*2+1,none⟩) lR _
      · have HE := hideIt hw
        have HEB:=hI hb
        clear hw hb
        go_wp2
        go_roundg (1 - c)
        case measure=>omega
        case rel=>exact ⟨c+1,by omega,by go_num,by rw [show 2*(c+1)=2*c+2 by omega];exact HE.out,HEB.out⟩
theorem pass_ways (n q:Nat→Int) (m:Mv):passI n q m=if movK n m≠1∨m.d≠0∨(m.t - m.f≠16∧m.f - m.t≠16) then -1 else
 if m.f / 8≠7*n 78+1∧m.f / 8≠7*n 78 - 1 then -1 else
 if (pawnB (n 78) ((m.f+m.t) / 2)&&&ofN q (1 - n 78) 1==0#64)=true then -1 else (m.f+m.t) / 2:=rfl
theorem i8_mid {x:Int} (h0:-128≤x) (h1:x≤127):IntKind.i8.wrap x=x:=IntWalk.i8_in _ (by omega)
theorem mpass_any (q n:Nat→Int) (hq:PosOk q) (hn:PosOk n) (h78:q 78=n 78) (t:Nat) (ht1:t≤1) (ht:n 78=t) (m:Mv) (tk:Int) (f0:0≤m.f) (f1:m.f<64) (t0:0≤m.t) (t1:m.t<64) (g:Nat) (W:World) (h:MovAt W g q n m tk) :
 Calls Tryz.prog 38 #[.pointer (some ⟨g,0,none⟩)] W fun e w' => e = .returned (.tuple #[])∧MovAt w' g (upd q 83 (passI n q m)) n m tk∧Below g W w' := by
 have HP:=hI (pass_ways n q m)
 rw [ht] at HP
 have HKD:=hI (fun r V (hV:MovAt V g r n m tk)=>mkind_any r n hn m tk f0 f1 g V hV)
 have c83:=h.cell 83 (by decide)
 have f83:=h.free 83
 obtain ⟨Z,hZ⟩:∃ Z,W.setCell ⟨g,83,none⟩ (.int .i8 (-1))=Z:=⟨_,rfl⟩
 have hZw:MovAt Z g (upd q 83 (-1)) n m tk:=by rw [← hZ];exact h.setK 83 (by decide) .i8 rfl (-1)
 have bZ:Below g W Z:=by rw [← hZ];exact (Below.refl g W).setCell (p:=⟨g,83,none⟩) lR _
 have HQ1:PosOk (upd q 83 (-1)):=upd_ok hq (wfi8 (by decide) (by decide))
 have HOF:=hI (of_any _ HQ1 (1 - (t:Int)) 1)
 have HSAME:=hI (show ofN (upd q 83 (-1)) (1 - (t:Int)) 1=ofN q (1 - (t:Int)) 1 from selN_same _ _ _ (fun j hj=>upd_ne _ (by omega) _) 64 (Nat.le_refl 64))
 rw [HSAME.out] at HOF
 have HPW:=hI (pawn_any (t:Int) ((m.f+m.t) / 2))
 have HKE:=hI (fun k=>HKD.out _ (Z.drewN k) (hZw.grow (blN Z k)))
 have HG:=hI (fun V (hb:Below Z.heap.size Z V)=>(show MovAt V g (upd q 83 (-1)) n m tk∧Below g W V from ⟨hZw.grow hb,bZ.trans (hb.mono (Nat.le_of_lt hZw.lt))⟩))
 have HZ:=hI hZ
 obtain ⟨mf,mt,mp,md,mc⟩:=m
 dsimp only at *
 have HF:=hI (fun V (hb:Below Z.heap.size Z V)=>(show V.cell? ⟨g,78,none⟩=some (.int .u8 (t:Int))∧V.cell? ⟨g,176,none⟩=some (.int .i8 mf)∧V.cell? ⟨g,177,none⟩=some (.int .i8 mt)∧V.cell? ⟨g,179,none⟩=some (.int .u8 md)∧(IsMov V g∧movNow V g=posA (upd q 83 (-1))∧movWas V g=posA n) from
  ⟨by rw [← ht,← h78];have:=(hZw.grow hb).cell 78 (by decide);rwa [upd_ne _ (by decide)] at this,(hZw.grow hb).mv.1,(hZw.grow hb).mv.2.1,(hZw.grow hb).mv.2.2.2.1,(hZw.grow hb).rules⟩))
 obtain ⟨z0,z1,z2,z3,z4,z5,z6⟩:=HF.out Z bR
 obtain ⟨k,hk⟩:∃ k,movK n ⟨mf,mt,mp,md,mc⟩=k:=⟨_,rfl⟩
 rw [hk] at HP HKE
 obtain ⟨ps,hps⟩:∃ ps,passI n q ⟨mf,mt,mp,md,mc⟩=ps:=⟨_,rfl⟩
 rw [hps] at HP ⊢
 have w1:IntKind.i8.wrap (mt - mf)=mt - mf:=i8_mid (by omega) (by omega)
 have w2:IntKind.i8.wrap (mf - mt)=mf - mt:=i8_mid (by omega) (by omega)
 clear hZ hZw bZ h hk hps HKD h78 HQ1
 generalize q 83=y83 at c83
 by_cases hA:k≠1∨md≠0∨(mt - mf≠16∧mf - mt≠16)
 case pos =>
  have HP:=hI (HP.out.trans (if_pos hA))
  rcases (show (k==1)=false∨((k==1)=true∧(md==0)=false)∨((k==1)=true∧(md==0)=true∧(mt - mf==16)=false∧(mf - mt==16)=false) by
   simp only [beq_eq_false_iff_ne,beq_iff_eq];omega) with e1 | ⟨e1,e2⟩ | ⟨e1,e2,e3,e4⟩
  all_goals
   have b1:(k != 1)=_:=congrArg not e1
   try have b2:(md != 0)=_:=congrArg not e2
   try have b3:(mt - mf != 16)=_:=congrArg not e3
   try have b4:(mf - mt != 16)=_:=congrArg not e4
   clear hA
   go_enter Tryz.func38,Tryz.ntmps38
   go_wp2_with (rw [HZ.out])
   go_quiet ((go_at_call 96;exact Calls.quiet_of (HKE.out _)))
   go_wp2
   first | go_end0 | refine bodyPost_ret (results_none rfl _ _ _) rfl ?_
   exact ⟨rfl,by rw [HP.out];exact (HG.out _ (blN _ _)).1,(HG.out _ (blN _ _)).2⟩
 case neg =>
  have HP:=hI (HP.out.trans (if_neg hA))
  have e1:(k==1)=true:=by rw [beq_iff_eq];omega
  have e2:(md==0)=true:=by rw [beq_iff_eq];omega
  have b1:(k != 1)=_:=congrArg not e1
  have b2:(md != 0)=_:=congrArg not e2
  have hs:(mt - mf=16)∨(mf - mt=16):=by omega
  have wq:IntKind.i8.wrap (mf.tdiv 8)=mf / 8:=by rw [Int.tdiv_eq_ediv_of_nonneg (by omega)];exact i8_mid (by omega) (by omega)
  have w7:IntKind.i8.wrap (7*(t:Int))=7*t:=i8_mid (by omega) (by omega)
  have w8:IntKind.i8.wrap (7*(t:Int)+1)=7*t+1:=i8_mid (by omega) (by omega)
  have w9:IntKind.i8.wrap (7*(t:Int) - 1)=7*t - 1:=i8_mid (by omega) (by omega)
  have w10:IntKind.i8.wrap (mf+mt)=mf+mt:=i8_mid (by omega) (by omega)
  have w11:IntKind.i8.wrap ((mf+mt).tdiv 2)=(mf+mt) / 2:=by rw [Int.tdiv_eq_ediv_of_nonneg (by omega)];exact i8_mid (by omega) (by omega)
  have w12:IntKind.i64.wrap ((mf+mt) / 2)=(mf+mt) / 2:=i64_small (by omega) (by omega)
  have w13:IntKind.u8.wrap (1 - (t:Int))=1 - t:=IntWalk.u8_in _ (by omega)
  obtain ⟨s,hss⟩:∃ s,(mf+mt) / 2=s:=⟨_,rfl⟩
  rw [hss] at HP w11 w12 HPW
  have s0:0≤s:=by omega
  have s1:s<64:=by omega
  obtain ⟨b5,hb5⟩:∃ b,(mt - mf==16)=b:=⟨_,rfl⟩
  obtain ⟨b6,hb6⟩:∃ b,(mf - mt==16)=b:=⟨_,rfl⟩
  have hor:b5=true∨(b5=false∧b6=true):=by
   rcases hs with h | h
   · exact .inl (by rw [← hb5];exact beq_iff_eq.2 h)
   · by_cases h2 : mt - mf = 16
     · exact .inl (by rw [← hb5];exact beq_iff_eq.2 h2)
     · exact .inr ⟨by rw [← hb5];exact beq_eq_false_iff_ne.2 h2,by rw [← hb6];exact beq_iff_eq.2 h⟩
  clear hA hs hss
  have HZW:=hI (HG.out)
  go_enter Tryz.func38,Tryz.ntmps38
  go_upto_region 1 with (rw [HZ.out])
  go_cut [46] (fun s46 wx=>s46=.bool false∧Below Z.heap.size Z wx)
  case first =>
   rcases hor with rfl | ⟨rfl,rfl⟩
   all_goals
    have b7:(mt - mf != 16)=_:=congrArg not hb5
    have b8:(mf - mt != 16)=_:=congrArg not hb6
    go_quiet ((go_at_call 96;exact Calls.quiet_of (HKE.out _)))
    go_wp2_with fail
    go_meet
    exact ⟨rfl,blN _ _⟩
  case rest =>
   obtain ⟨rfl,hq⟩:=hcut
   obtain ⟨z0,z1,z2,z3,z4,z5,z6⟩:=HF.out _ hq
   have HQ:=hI hq
   by_cases hB:mf / 8≠7*(t:Int)+1∧mf / 8≠7*(t:Int) - 1
   case pos =>
    have HP:=hI (HP.out.trans (if_pos hB))
    have e5:(mf / 8 != 7*(t:Int)+1)=true:=by rw [bne_iff_ne];exact hB.1
    have e6:(mf / 8 != 7*(t:Int) - 1)=true:=by rw [bne_iff_ne];exact hB.2
    clear hB
    go_wp2
    first | go_end0 | refine bodyPost_ret (results_none rfl _ _ _) rfl ?_
    exact ⟨rfl,by rw [HP.out];exact (HG.out _ HQ.out).1,(HG.out _ HQ.out).2⟩
   case neg =>
    have HP:=hI (HP.out.trans (if_neg hB))
    go_upto_region 3 with fail
    go_cut [73] (fun s73 wx=>s73=.bool false∧wx=wc)
    case first =>
     cases e5:(mf / 8==7*(t:Int)+1)
     · have b9 : (mf / 8 != 7 * (t : Int) + 1) = _ := congrArg not e5
       have e6:(mf / 8 != 7*(t:Int) - 1)=false:=by
        have h5:=beq_eq_false_iff_ne.1 e5
        rw [bne_eq_false_iff_eq]
        omega
       clear hB
       go_wp2_with fail
       go_meet
       exact ⟨rfl,rfl⟩
     · have b9 : (mf / 8 != 7 * (t : Int) + 1) = _ := congrArg not e5
       clear hB
       go_wp2_with fail
       go_meet
       exact ⟨rfl,rfl⟩
    case rest =>
     obtain ⟨rfl,rfl⟩:=hcut
     clear hB hor hb5 hb6
     go_wp2
     go_quiet (fail)
     obtain ⟨V,hV⟩:∃ V,wc.drewN nq=V:=⟨_,rfl⟩
     have hqV:Below Z.heap.size Z V:=by rw [← hV];exact HQ.out.trans ((blN _ _).mono HQ.out.size)
     rw [hV]
     have HGB:=hI (fun (X:World) (hb:Below V.heap.size V X)=>(show (X.cell? ⟨g,78,none⟩=some (.int .u8 (t:Int))∧(IsMov X g∧movNow X g=posA (upd q 83 (-1))∧movWas X g=posA n))∧Below V.heap.size V X from (fun hh=>⟨⟨(HF.out X hh).1,(HF.out X hh).2.2.2.2⟩,hb⟩) (hqV.trans (hb.mono hqV.size))))
     have HQV:=hI hqV
     clear hV hqV z0 z1 z2 z3 z4 z5 z6
     obtain ⟨⟨z0,z4,z5,z6⟩,_⟩:=HGB.out V bR
     obtain ⟨A,hA⟩:∃ A,pawnB (t:Int) s=A:=⟨_,rfl⟩
     obtain ⟨B,hB⟩:∃ B,ofN q (1 - (t:Int)) 1=B:=⟨_,rfl⟩
     rw [hA,hB] at HP
     rw [hA] at HPW
     rw [hB] at HOF
     clear hA hB HSAME
     have hn0:=nz_u (A&&&B)
     go_wp2
     go_region_held3 (fun X=>(X.cell? ⟨g,78,none⟩=some (.int .u8 (t:Int))∧(IsMov X g∧movNow X g=posA (upd q 83 (-1))∧movWas X g=posA n))∧Below V.heap.size V X) ((refine HGB.out _ ?_;repeat (first | exact bR | assumption | refine bD ?_ | refine bT ?_ (by assumption) | refine bl_new7 ?_))) ((first | (go_at_call 98;refine (HPW.out _).mono ?_;rintro e w31 ⟨rfl,h1⟩) | (go_at_call 99;refine (HOF.out _).mono ?_;rintro e w32 ⟨rfl,h2⟩)))
     all_goals
      have hq3:=And.right ‹(_∧_)∧Below V.heap.size V _›
      have hq4:=HQV.out.trans (hq3.mono HQV.out.size)
      obtain ⟨hE,hEB⟩:=HG.out _ hq4
      have c83:=hE.cell 83 (by decide)
      have f83:=hE.free 83
      have HE:=hI hE
      have HEB:=hI hEB
      have HE2:=hI (hE.setK 83 (by decide) .i8 rfl s)
      rw [upd_upd] at HE2
      have HEB2:=hI (hEB.setCell (p:=⟨g,83,none⟩) lR (.int .i8 s))
      clear hE hEB hq3 hq4
      generalize upd q 83 (-1) 83=y at c83
      cases e9:(A&&&B==0#64)
      · have HP := hideIt (HP.out.trans (if_neg (by rw [e9]; decide)))
        rw [e9] at hn0
        go_wp2
        first | go_end0 | refine bodyPost_ret (results_none rfl _ _ _) rfl ?_
        exact ⟨rfl,by rw [HP.out];exact HE2.out,HEB2.out⟩
      · have HP := hideIt (HP.out.trans (if_pos e9))
        rw [e9] at hn0
        go_wp2
        first | go_end0 | refine bodyPost_ret (results_none rfl _ _ _) rfl ?_
        exact ⟨rfl,by rw [HP.out];exact HE.out,HEB.out⟩
end Go.Proofs.YteocjaihaegmoaaGreatDoor
