/- Parts of the proof: AN, AR, AS, AT, IC, B5. -/
import Derived.Test.YteocjaihaegmoaaGreatDoorWAM
import Derived.Test.YteocjaihaegmoaaGreatDoorWBH
import Derived.Test.YteocjaihaegmoaaGreatDoorWBJ
import Derived.Test.YteocjaihaegmoaaGreatDoorWBK
import Derived.Test.YteocjaihaegmoaaGreatDoorWBL
set_option linter.unusedVariables false
set_option maxHeartbeats 16000000
set_option maxRecDepth 100000
namespace Go.Proofs.YteocjaihaegmoaaGreatDoor
open Go Go.RowKit
theorem tab_keep {w W V:World} (hT:Tab w) (h1:Below w.heap.size w W) {g:Nat} (hg:w.heap.size≤g) (hb:Below g W V):Tab V:=by
 intro k hk
 have h:=hT.below h1 lR k hk
 have hl:=World.block_lt_of_cell? _ _ (hT k hk)
 rw [hb.cell (p:=⟨0,k,none⟩) (by show 0<g;exact Nat.lt_of_lt_of_le hl hg)]
 exact h
theorem all_ok {n:Nat→Int} (ht:n 78=0∨n 78=1) (hv:n 0<9):∀ m∈allL n,m.Ok:=fun m hm=>(all_mvok ht hv hm).1.ok
theorem allL_len {n:Nat→Int}:(allL n).length≤1000000:=by
 have h1:=pseudo_len n
 have h2:=castleL_len n
 have h3:=dropL_len n (n 0).toNat (n 78).toNat
 unfold allL
 rw [List.length_append,List.length_append]
 have:(pseuL n).length≤20480:=by unfold pseuL;split;exact h1;exact Nat.zero_le _
 omega
/-- A step of a mover, as a value. -/
@[reducible] def mfn (f g : Nat) : Value := .func (.func f) #[.pointer (some ⟨g, 0, none⟩)] #[]
def movBuild (parts:Array (Nat × Value)):Sem Value:=Instr.build 68 parts
@[go_sem ↓] theorem build_mov (parts : Array (Nat × Value)) : Instr.build 68 parts = movBuild parts := rfl
theorem movBuilt (q n:Nat→Int) (a b c d tk:Int) (e:Bool):Program.built Tryz.prog 68 [(0,.agg (posA q)),(1,.agg (posA n)),(2,.agg #[.int .i8 a,.int .i8 b,.int .u8 c,.int .u8 d,.bool e]),(3,.int .i64 tk)]=some (movA q n ⟨a,b,c,d,e⟩ tk):=by kernel_rfl
@[go_sem] theorem run_movBuild (w : World) (q n : Nat → Int) (a b c d tk : Int) (e : Bool) : (movBuild #[(0, .agg (posA q)), (1, .agg (posA n)), (2, .agg #[.int .i8 a, .int .i8 b, .int .u8 c, .int .u8 d, .bool e]), (3, .int .i64 tk)]).run Tryz.prog w = .ok (.agg (movA q n ⟨a, b, c, d, e⟩ tk)) w :=
  run_build w _ _ _ (movBuilt q n a b c d tk e)
theorem amove_any (n:Nat→Int) (hn:PosOk n) (t:Nat) (ht1:t≤1) (ht:n 78=t) (hv:n 0<9) (m:Mv) (hml:m∈allL n) (w:World) (hT:Tab w):Calls Tryz.prog 14 #[.agg (posA n),.agg #[.int .i8 m.f,.int .i8 m.t,.int .u8 m.p,.int .u8 m.d,.bool m.c]] w fun e w' => e = .returned (.tuple #[.agg (posA (madeN n m)),.bool true])∧Below w.heap.size w w' := by
 have h01:(t:Int)=0∨(t:Int)=1:=by omega
 have h78:n 78=0∨n 78=1:=by omega
 obtain ⟨hm,_⟩:=all_mvok h78 hv hml
 have hok:=hm.ok
 have HAL:=hI (fun w hT=>aall_any n hn t ht h01 hv w hT)
 have HCT:=hI (fun w B v h=>contains_any (allL n) (all_ok h78 hv) allL_len m hok w B v h)
 rw [decide_eq_true hml] at HCT
 have HTK:=hI (fun w hT=>taken_any n hn t ht h01 hv m hok w hT)
 rw [← takenP_is h78 hv] at HTK
 have HMD:=hI (show madeN n m=turnN n (clkN n (upd (rigN n (blowN n (pocN n (menN n m (takenP n m)) m (takenP n m)) m (takenP n m)) m (takenP n m)) 83 (passI n (rigN n (blowN n (pocN n (menN n m (takenP n m)) m (takenP n m)) m (takenP n m)) m (takenP n m)) m)) m (takenP n m)) from rfl)
 generalize takenP n m=tk at *
 have f1' := men_far h78 hm
 have f3' := mov3_far h78 hm
 have o1:=men_ok hn h78 hm
 have o2:PosOk (pocN n (menN n m tk) m tk):=poc_ok o1
 have o3:PosOk (blowN n (pocN n (menN n m tk) m tk) m tk):=blow_ok o2
 have o4:PosOk (rigN n (blowN n (pocN n (menN n m tk) m tk) m tk) m tk):=rig_ok o3 h78
 have o5:=mov5_ok hn h78 hm
 have o6:PosOk (clkN n (mov5 n m tk) m tk):=clk_ok hn o5
 have S1:=hI (fun g W h=>mmen_any n hn t ht h01 m tk hm g W h)
 have S2:=hI (fun g W h=>mpoc_any (menN n m tk) n o1 hn ⟨f1' 0 (.inl rfl),men_65 h78 hm,f1' 78 (.inr (by decide))⟩ m tk h78 hm g W h)
 have S3:=hI (fun g W h hT=>mblow_any (pocN n (menN n m tk) m tk) n o2 (((f1'.trans poc_far) 0 (.inl rfl))) m tk hm.t0 hm.t1 g W h hT)
 have S4:=hI (fun g W h hT=>mrights_any (blowN n (pocN n (menN n m tk) m tk) m tk) n o3 hn (f3' 78 (.inr (by decide))) t ht1 ht m tk hm.f0 hm.f1 g W h hT)
 have S5:=hI (fun g W h=>mpass_any (rigN n (blowN n (pocN n (menN n m tk) m tk) m tk) m tk) n o4 hn (by rw [rig_side h78 78 (by omega)];exact f3' 78 (.inr (by decide))) t ht1 ht m tk hm.f0 hm.f1 hm.t0 hm.t1 g W h)
 have S6:=hI (fun g W h=>mclocks_any (mov5 n m tk) n o5 hn m tk hm.f0 hm.f1 (mov5_far h78 hm (.inr (.inr (by decide)))) (mov5_far h78 hm (.inr (.inr (by decide)))) (mov5_far h78 hm (.inr (.inl rfl))) h78 g W h)
 have S7:=hI (fun g W h hT=>mturn_any (clkN n (mov5 n m tk) m tk) n o6 hn m tk hm.f0 hm.f1 (by unfold clkN;rw [upd_ne _ (by decide),upd_ne _ (by decide)];exact mov5_far h78 hm (.inl rfl)) (by unfold clkN;rw [upd_ne _ (by decide),upd_ne _ (by decide)];exact mov5_far h78 hm (.inr (.inl rfl))) h78 g W h hT)
 have HM5:=hI (show upd (rigN n (blowN n (pocN n (menN n m tk) m tk) m tk) m tk) 83 (passI n (rigN n (blowN n (pocN n (menN n m tk) m tk) m tk) m tk) m)=mov5 n m tk from rfl)
 rw [HM5.out] at S5 HMD
 clear o1 o2 o3 o4 o5 o6 f1' f3' HM5 h78 h01
 obtain ⟨q1,hq1⟩:∃ q1,menN n m tk=q1:=⟨_,rfl⟩
 rw [hq1] at S1 S2 S3 S4 S5
 obtain ⟨q2,hq2⟩:∃ q2,pocN n q1 m tk=q2:=⟨_,rfl⟩
 rw [hq2] at S2 S3 S4 S5
 obtain ⟨q3,hq3⟩:∃ q3,blowN n q2 m tk=q3:=⟨_,rfl⟩
 rw [hq3] at S3 S4 S5
 obtain ⟨q4,hq4⟩:∃ q4,rigN n q3 m tk=q4:=⟨_,rfl⟩
 rw [hq4] at S4 S5
 obtain ⟨q5,hq5⟩:∃ q5,mov5 n m tk=q5:=⟨_,rfl⟩
 rw [hq5] at S5 S6 S7 HMD
 obtain ⟨q6,hq6⟩:∃ q6,clkN n q5 m tk=q6:=⟨_,rfl⟩
 rw [hq6] at S6 S7 HMD
 obtain ⟨q7,hq7⟩:∃ q7,turnN n q6=q7:=⟨_,rfl⟩
 rw [hq7] at S7 HMD
 clear hq1 hq2 hq3 hq4 hq5 hq6 hq7 hm hok hml
 obtain ⟨mf,mt,mp,md,mc⟩:=m
 dsimp only at *
 obtain ⟨X,hX⟩:∃ X,menX n ⟨mf,mt,mp,md,mc⟩ w=X:=⟨_,rfl⟩
 obtain ⟨xp,xm,xr,xb,xs⟩:=menX_at n _ w X hX
 have HX:=hI (show ((w.alloc (.cells (posA n) 31)).alloc (.cells #[.int .i8 mf,.int .i8 mt,.int .u8 mp,.int .u8 md,.bool mc] 49)).alloc (.cells (posA zeroN) 31)=X from hX)
 have hzp:=zeroPos
 have HTX:=hI (fun V (hb:Below X.heap.size X V)=>(hT.below xb lR).below hb lR)
 have HTG:=hI (fun g W V (hW:Below X.heap.size X W) (hg:w.heap.size≤g) (hb:Below g W V)=>tab_keep hT (xb.trans (hW.mono xb.size)) hg hb)
 have HGB:=hI (fun (V:World) (hb:Below X.heap.size X V)=>(show ((IsPos V w.heap.size∧rowOf V w.heap.size=posA n)∧V.cell? ⟨w.heap.size+1,0,none⟩=some (.int .i8 mf)∧V.cell? ⟨w.heap.size+1,1,none⟩=some (.int .i8 mt)∧V.cell? ⟨w.heap.size+1,2,none⟩=some (.int .u8 mp)∧V.cell? ⟨w.heap.size+1,3,none⟩=some (.int .u8 md)∧V.cell? ⟨w.heap.size+1,4,none⟩=some (.bool mc))∧Below X.heap.size X V from
  ⟨⟨(xp.below hb xp.lt).rules,mv_cell (m:=⟨mf,mt,mp,md,mc⟩) ((hb.block _ (Array.getElem?_eq_some_iff.1 xm).1).trans xm)⟩,hb⟩))
 have HR:=hI (fun (V:World) (hb:Below X.heap.size X V)=>xr.below hb xr.lt)
 have HXB:=hI xb
 have HXS:=hI xs
 obtain ⟨⟨⟨r0,r1⟩,m0,m1,m2,m3,m4⟩,_⟩:=HGB.out X bR
 clear hX xp xm xr xb xs hT
 go_enter Tryz.func14,Tryz.ntmps14
 go_wp2_with (rw [HX.out])
 go_region_held3 (fun V=>((IsPos V w.heap.size∧rowOf V w.heap.size=posA n)∧V.cell? ⟨w.heap.size+1,0,none⟩=some (.int .i8 mf)∧V.cell? ⟨w.heap.size+1,1,none⟩=some (.int .i8 mt)∧V.cell? ⟨w.heap.size+1,2,none⟩=some (.int .u8 mp)∧V.cell? ⟨w.heap.size+1,3,none⟩=some (.int .u8 md)∧V.cell? ⟨w.heap.size+1,4,none⟩=some (.bool mc))∧Below X.heap.size X V) ((refine HGB.out _ ?_;repeat (first | exact bR | assumption | refine bD ?_ | refine bT ?_ (by assumption) | refine bl_new7 ?_))) ((first | (go_at_call 32;refine (HAL.out _ (HTX.out _ (And.right ‹(_∧_)∧Below X.heap.size X _›))).mono ?_;rintro e w31 ⟨vl,rfl,hown,h1⟩) | (go_at_call 31;refine (HCT.out _ _ _ (by assumption)).mono ?_;rintro e w32 ⟨rfl,h2⟩)))
 all_goals
  have hq:=And.right ‹(_∧_)∧Below X.heap.size X _›
  obtain ⟨⟨⟨r0,r1⟩,m0,m1,m2,m3,m4⟩,_⟩:=HGB.out _ hq
  go_wp2
  go_region_held3 (fun V=>((IsPos V w.heap.size∧rowOf V w.heap.size=posA n)∧V.cell? ⟨w.heap.size+1,0,none⟩=some (.int .i8 mf)∧V.cell? ⟨w.heap.size+1,1,none⟩=some (.int .i8 mt)∧V.cell? ⟨w.heap.size+1,2,none⟩=some (.int .u8 mp)∧V.cell? ⟨w.heap.size+1,3,none⟩=some (.int .u8 md)∧V.cell? ⟨w.heap.size+1,4,none⟩=some (.bool mc))∧Below X.heap.size X V) ((refine HGB.out _ ?_;repeat (first | exact bR | assumption | refine bD ?_ | refine bT ?_ (by assumption) | refine bl_new7 ?_))) ((go_at_call 33;refine (HTK.out _ (HTX.out _ (And.right ‹(_∧_)∧Below X.heap.size X _›))).mono ?_;rintro e w33 ⟨rfl,h3⟩))
  all_goals
   have hq2:=And.right ‹(_∧_)∧Below X.heap.size X (World.alloc _ _)›
   obtain ⟨Y,hY⟩:∃ Y,w33.alloc (.cells (movA n n ⟨mf,mt,mp,md,mc⟩ tk) 68)=Y:=⟨_,rfl⟩
   have hM:MovAt Y w33.heap.size n n ⟨mf,mt,mp,md,mc⟩ tk:=by rw [← hY];exact heap_alloc_last w33 _
   have HGE:=hI (show w.heap.size≤w33.heap.size from Nat.le_trans (by rw [HXS.out];omega) (Nat.le_trans hq.size (Nat.le_trans (by simp) h3.size)))
   have HGT:=hI (show w.heap.size+2<w33.heap.size from Nat.lt_of_lt_of_le (by rw [HXS.out];omega) (Nat.le_trans hq.size (Nat.le_trans (by simp) h3.size)))
   rw [hY] at hq2 ⊢
   have HY0:=hI hq2
   have M0:=hI hM
   generalize w33.heap.size=g at *
   have B0:=hI (Below.refl g Y)
   have hmf:∀ (fn:Fn) (first cap:Array Value) (w:World),(Instr.makeFunc fn first cap).run Tryz.prog w=.ok (.func fn first cap) w:=fun _ _ _ _=>rfl
   have ix0:∀ w,(Instr.index 69 (.agg #[mfn 34 g,mfn 35 g,mfn 36 g,mfn 37 g,mfn 38 g,mfn 39 g,mfn 40 g]) (.int .i64 0)).run Tryz.prog w=.ok (mfn 34 g) w:=fun _=>by kernel_rfl
   have ix1:∀ w,(Instr.index 69 (.agg #[mfn 34 g,mfn 35 g,mfn 36 g,mfn 37 g,mfn 38 g,mfn 39 g,mfn 40 g]) (.int .i64 1)).run Tryz.prog w=.ok (mfn 35 g) w:=fun _=>by kernel_rfl
   have ix2:∀ w,(Instr.index 69 (.agg #[mfn 34 g,mfn 35 g,mfn 36 g,mfn 37 g,mfn 38 g,mfn 39 g,mfn 40 g]) (.int .i64 2)).run Tryz.prog w=.ok (mfn 36 g) w:=fun _=>by kernel_rfl
   have ix3:∀ w,(Instr.index 69 (.agg #[mfn 34 g,mfn 35 g,mfn 36 g,mfn 37 g,mfn 38 g,mfn 39 g,mfn 40 g]) (.int .i64 3)).run Tryz.prog w=.ok (mfn 37 g) w:=fun _=>by kernel_rfl
   have ix4:∀ w,(Instr.index 69 (.agg #[mfn 34 g,mfn 35 g,mfn 36 g,mfn 37 g,mfn 38 g,mfn 39 g,mfn 40 g]) (.int .i64 4)).run Tryz.prog w=.ok (mfn 38 g) w:=fun _=>by kernel_rfl
   have ix5:∀ w,(Instr.index 69 (.agg #[mfn 34 g,mfn 35 g,mfn 36 g,mfn 37 g,mfn 38 g,mfn 39 g,mfn 40 g]) (.int .i64 5)).run Tryz.prog w=.ok (mfn 39 g) w:=fun _=>by kernel_rfl
   have ix6:∀ w,(Instr.index 69 (.agg #[mfn 34 g,mfn 35 g,mfn 36 g,mfn 37 g,mfn 38 g,mfn 39 g,mfn 40 g]) (.int .i64 6)).run Tryz.prog w=.ok (mfn 40 g) w:=fun _=>by kernel_rfl
   unfold mfn at ix0 ix1 ix2 ix3 ix4 ix5 ix6
   clear hq2 hM hY hq h3 m0 m1 m2 m3 m4 r0 r1
   go_wp2
   refine wp_loop_rounds 8 ?_
   rw [rounds_succ]
   go_wp2_with fail
   refine (S1.out g _ M0.out).mono ?_
   rintro e V1 ⟨rfl,hm,hb⟩
   have M1:=hI hm
   have B1:=hI (B0.out.trans hb)
   clear hm hb
   go_wp2_with fail
   rw [rounds_succ]
   go_wp2_with fail
   refine (S2.out g _ M1.out).mono ?_
   rintro e V2 ⟨rfl,hm,hb⟩
   have M2:=hI hm
   have B2:=hI (B1.out.trans hb)
   clear hm hb
   go_wp2_with fail
   rw [rounds_succ]
   go_wp2_with fail
   refine (S3.out g _ M2.out (fun V hb=>HTG.out g _ V HY0.out HGE.out (B2.out.trans hb))).mono ?_
   rintro e V3 ⟨rfl,hm,hb⟩
   have M3:=hI hm
   have B3:=hI (B2.out.trans hb)
   clear hm hb
   go_wp2_with fail
   rw [rounds_succ]
   go_wp2_with fail
   refine (S4.out g _ M3.out (fun V hb=>HTG.out g _ V HY0.out HGE.out (B3.out.trans hb))).mono ?_
   rintro e V4 ⟨rfl,hm,hb⟩
   have M4:=hI hm
   have B4:=hI (B3.out.trans hb)
   clear hm hb
   go_wp2_with fail
   rw [rounds_succ]
   go_wp2_with fail
   refine (S5.out g _ M4.out).mono ?_
   rintro e V5 ⟨rfl,hm,hb⟩
   have M5:=hI hm
   have B5:=hI (B4.out.trans hb)
   clear hm hb
   go_wp2_with fail
   rw [rounds_succ]
   go_wp2_with fail
   refine (S6.out g _ M5.out).mono ?_
   rintro e V6 ⟨rfl,hm,hb⟩
   have M6:=hI hm
   have B6:=hI (B5.out.trans hb)
   clear hm hb
   go_wp2_with fail
   rw [rounds_succ]
   go_wp2_with fail
   refine (S7.out g _ M6.out (fun V hb=>HTG.out g _ V HY0.out HGE.out (B6.out.trans hb))).mono ?_
   rintro e V7 ⟨rfl,hm,hb⟩
   have M7:=hI hm
   have B7:=hI (B6.out.trans hb)
   clear hm hb
   go_wp2_with fail
   rw [rounds_succ]
   obtain ⟨p0,p1,_⟩:=M7.out.rules
   have hres:=(HR.out Y HY0.out).below B7.out HGT.out
   obtain ⟨p2,p3⟩:=hres.rules
   have HRES:=hI hres
   have HBE:=hI (below_setRow (b:=w.heap.size+2) (HXB.out.trans ((HY0.out.mono HXB.out.size).trans (B7.out.mono HGE.out))) (by omega) (posA q7))
   clear hres
   go_wp2
   refine bodyPost_ret (v:=.tuple #[.agg (posA q7),.bool true]) (pos_result2 Tryz.results14 _ _ _ _ _ rfl rfl (HRES.out.setRow _)) rfl ⟨ret_val (by rw [HMD.out]),HBE.out⟩
theorem has_any (n:Nat→Int) (hn:PosOk n) (c:Int) (w:World) (hT:Tab w):Calls Tryz.prog 67 #[.agg (posA n),.int .u8 c] w fun e w' => e = .returned (.bool (hasK n c))∧Below w.heap.size w w' := by
 obtain ⟨X,hX⟩:∃ X,w.alloc (.cells (posA n) 31)=X:=⟨_,rfl⟩
 obtain ⟨p0,hb⟩:=box1 w n X hX
 have HF:=hI (bfind_any n hn c 6 X (hT.below hb lR))
 have HX:=hI hX
 obtain ⟨i0,r0⟩:=p0.rules
 have HH:=hI (show hasK n c=decide (0≤firstB (ofN n c 6)) from rfl)
 clear hX p0
 go_enter Tryz.func67,Tryz.ntmps67
 go_wp2_with (rw [HX.out])
 refine HF.out.mono ?_
 rintro e V ⟨rfl,h1⟩
 generalize firstB (ofN n c 6)=k at *
 go_wp2
 go_ret
 exact ⟨rB HH.out.symm,bT hb h1⟩
theorem leaves_ways (R H C A H' E D res:Bool) (h:((!R || (H&&!(C&&(!A || H'))))&&(!E || !D))=res) :
 (res=true∧R=false∧E=false)∨(res=(!D)∧R=false∧E=true)∨(res=false∧R=true∧H=false)∨(res=true∧R=true∧H=true∧C=false∧E=false)∨(res=(!D)∧R=true∧H=true∧C=false∧E=true) ∨
 (res=false∧R=true∧H=true∧C=true∧A=false)∨(res=false∧R=true∧H=true∧C=true∧A=true∧H' = true)∨(res=true∧R=true∧H=true∧C=true∧A=true∧H' = false∧E=false)∨(res=(!D)∧R=true∧H=true∧C=true∧A=true∧H' = false∧E=true):=by
 subst h
 cases R <;> cases H <;> cases C <;> cases A <;> cases H' <;> cases E <;> simp
theorem well_any (n:Nat→Int) (hn:PosOk n) (t:Nat) (ht1:t≤1) (ht:n 78=t) (hv:n 0<9) (m:Mv) (hml:m∈allL n) (w:World) (hT:Tab w):Calls Tryz.prog 73 #[.agg (posA n),mvV m] w fun e w' => e = .returned (.bool (wellB n m))∧Below w.heap.size w w' := by
 have h78:n 78=0∨n 78=1:=by omega
 obtain ⟨hm,_⟩:=all_mvok h78 hv hml
 have hq:PosOk (madeN n m):=movT_ok hn h78 hm
 have HMV:=hI (fun w hT=>amove_any n hn t ht1 ht hv m hml w hT)
 obtain ⟨v0,v1⟩:=hn.u8 0 (by decide) rfl
 have HRO:=hI (vroyalI_any (n 0) (t:Int) v0 v1 (by omega) (by omega))
 have HWE:=hI (show wellB n m=leavesB n (madeN n m) from rfl)
 obtain ⟨q,hqq⟩:∃ q,madeN n m=q:=⟨_,rfl⟩
 rw [hqq] at HMV HWE hq
 have HHA:=hI (fun c w hT=>has_any q hq c w hT)
 have HCK:=hI (fun (c:Int) (c0:0≤c) (c1:c≤1) w hT=>check_any q hq c c0 c1 w hT)
 have HLV:=hI (show leavesB n q=((!royI (n 0).toNat (t:Int).toNat || (hasK q t&&!(checkN q t&&(!(n 0==3) || hasK q (1 - t)))))&&(!(n 0==8) || !checkN q (1 - t))) by unfold leavesB royC;rw [ht])
 obtain ⟨mf,mt,mp,md,mc⟩:=m
 dsimp only at *
 obtain ⟨X,hX⟩:∃ X,box2m n ⟨mf,mt,mp,md,mc⟩ w=X:=⟨_,rfl⟩
 obtain ⟨xp,xm,xb,xs⟩:=box2m_at n _ w X hX
 have HX:=hI (show (w.alloc (.cells (posA n) 31)).alloc (.cells #[.int .i8 mf,.int .i8 mt,.int .u8 mp,.int .u8 md,.bool mc] 49)=X from hX)
 obtain ⟨m0,m1,m2,m3,m4⟩:=mv_cell (m:=⟨mf,mt,mp,md,mc⟩) xm
 dsimp only at m0 m1 m2 m3 m4
 obtain ⟨r0,r1⟩:=xp.rules
 have HTX:=hI (fun V (hb:Below X.heap.size X V)=>(hT.below xb lR).below hb lR)
 have HXP:=hI xp
 have HXB:=hI xb
 have w13:IntKind.u8.wrap (1 - (t:Int))=1 - t:=IntWalk.u8_in _ (by omega)
 have hzp:=zeroPos
 obtain ⟨v,hvv⟩:∃ v,n 0=v:=⟨_,rfl⟩
 have HV:=hI hvv
 have HTT:=hI ht
 rw [hvv] at HRO HLV
 generalize royI v.toNat (t:Int).toNat=R at *
 clear hX xp xm xb xs hT hml hm hq hqq hvv v0 v1 h78 hv ht
 go_enter Tryz.func73,Tryz.ntmps73
 go_wp2_with (rw [HX.out])
 refine (HMV.out _ (HTX.out _ bR)).mono ?_
 rintro e V ⟨rfl,hb⟩
 obtain ⟨Z,hZ⟩:∃ Z,V.alloc (.cells (posA zeroN) 31)=Z:=⟨_,rfl⟩
 obtain ⟨Y,hY⟩:∃ Y,Z.setRow V.heap.size (posA q)=Y:=⟨_,rfl⟩
 have hzat:PosAt Z V.heap.size zeroN:=by rw [← hZ];exact PosAt.new V zeroN
 have hyq:PosAt Y V.heap.size q:=by rw [← hY];exact hzat.setRow q
 have hbZ:Below X.heap.size X Z:=by rw [← hZ];exact hb.alloc hb.size _
 have hbY:Below X.heap.size X Y:=by rw [← hY];exact below_setRow hbZ hb.size _
 obtain ⟨z0,z1⟩:=hzat.rules
 have HF:=hI (fun (U:World) (hU:Below Y.heap.size Y U)=>(show (U.cell? ⟨w.heap.size,0,none⟩=some (.int .u8 v)∧U.cell? ⟨w.heap.size,78,none⟩=some (.int .u8 (t:Int)))∧(IsPos U V.heap.size∧rowOf U V.heap.size=posA q) from
  (fun hh=>⟨⟨by rw [← HV.out];exact hh.board 0 (by decide),by rw [← HTT.out];exact hh.cell 78 (by decide)⟩,(hyq.below hU hyq.lt).rules⟩) (HXP.out.below (hbY.trans (hU.mono hbY.size)) HXP.out.lt)))
 have HTU:=hI (fun (U:World) (hU:Below Y.heap.size Y U)=>HTX.out U (hbY.trans (hU.mono hbY.size)))
 have HBU:=hI (fun (U:World) (hU:Below Y.heap.size Y U)=>(HXB.out.trans ((hbY.trans (hU.mono hbY.size)).mono HXB.out.size):Below w.heap.size w U))
 have HZ:=hI hZ
 have HY:=hI hY
 have hR:=Below.refl Y.heap.size Y
 obtain ⟨⟨c0,c1⟩,c2,c3⟩:=HF.out Y hR
 clear hZ hY hzat hyq hbZ hbY hb m0 m1 m2 m3 m4 r0 r1
 obtain ⟨res,hres⟩:∃ res,leavesB n q=res:=⟨_,rfl⟩
 rw [hres] at HWE HLV
 have HW2:=hI HWE.out.symm
 clear hres HWE
 rcases leaves_ways _ _ _ _ _ _ _ _ HLV.out.symm with ⟨er,e1,e2⟩ | ⟨er,e1,e2⟩ | ⟨er,e1,e2⟩ | ⟨er,e1,e2,e3,e4⟩ | ⟨er,e1,e2,e3,e4⟩ | ⟨er,e1,e2,e3,e4⟩ | ⟨er,e1,e2,e3,e4,e5⟩ | ⟨er,e1,e2,e3,e4,e5,e6⟩ | ⟨er,e1,e2,e3,e4,e5,e6⟩
 all_goals
  have HER:=hI er
  rw [e1] at HRO
  have n3:(v != 3)=!(v==3):=rfl
  have n8:(v != 8)=!(v==8):=rfl
  try have n3' : (v != 3)=_:=congrArg not e4
  try have n8' : (v != 8)=_:=congrArg not e2
  try have n8' : (v != 8)=_:=congrArg not e4
  try have n8' : (v != 8)=_:=congrArg not e6
  clear er n3 n8
  go_wp2_with (first | rw [HZ.out] | rw [HY.out] | (go_at_call 66;refine (HRO.out _).mono ?_;rintro e U ⟨rfl,h1⟩;have hR:=bT hR h1;obtain ⟨⟨c0,c1⟩,c2,c3⟩:=HF.out _ hR) | (go_at_call 67;refine (HHA.out _ _ (HTU.out _ hR)).mono ?_;rintro e U ⟨rfl,h1⟩;have hR:=bT hR h1;obtain ⟨⟨c0,c1⟩,c2,c3⟩:=HF.out _ hR) | (go_at_call 20;refine (HCK.out _ (by omega) (by omega) _ (HTU.out _ hR)).mono ?_;rintro e U ⟨rfl,h1⟩;have hR:=bT hR h1;obtain ⟨⟨c0,c1⟩,c2,c3⟩:=HF.out _ hR))
  go_ret
  exact ⟨rB (by rw [← HW2.out,HER.out]),HBU.out _ hR⟩
theorem allL_len5 {n:Nat→Int}:(allL n).length≤50000:=by
 have h1:=pseudo_len n
 have h2:=castleL_len n
 have h3:=dropL_len n (n 0).toNat (n 78).toNat
 unfold allL
 rw [List.length_append,List.length_append]
 have:(pseuL n).length≤20480:=by unfold pseuL;split;exact h1;exact Nat.zero_le _
 omega
theorem w2_any (n:Nat→Int) (hn:PosOk n) (t:Nat) (ht1:t≤1) (ht:n 78=t) (hv:n 0<9) (m:Mv) (hml:m∈allL n) (b:Nat) (w:World) (hb:PosAt w b n) (hT:Tab w) :
 Calls Tryz.prog 72 #[mvV m,.pointer (some ⟨b,0,none⟩)] w fun e w' => e = .returned (.bool (wellB n m))∧Below w.heap.size w w' := by
 obtain ⟨X,hX⟩:∃ X,w.alloc (.cells #[.int .i8 m.f,.int .i8 m.t,.int .u8 m.p,.int .u8 m.d,.bool m.c] 49)=X:=⟨_,rfl⟩
 obtain ⟨q0,hbX⟩:=mvBox_at hX
 obtain ⟨m0,m1,m2,m3,m4⟩:=mv_cell q0
 obtain ⟨i0,r0⟩:=(hb.below hbX hb.lt).rules
 have HW:=hI (well_any n hn t ht1 ht hv m hml X (hT.below hbX lR))
 have HX:=hI hX
 clear hX q0 hb hT hml hv ht
 go_enter Tryz.func72,Tryz.ntmps72
 go_wp2_with (rw [HX.out])
 refine HW.out.mono ?_
 rintro e V ⟨rfl,h1⟩
 go_wp2
 go_ret
 exact ⟨rfl,bT hbX h1⟩
theorem w3_any (n:Nat→Int) (hn:PosOk n) (t:Int) (ht:n 78=t) (h01:t=0∨t=1) (hv:n 0<9) (m:Mv) (hm:m.Ok) (b:Nat) (w:World) (hb:PosAt w b n) (hT:Tab w) :
 Calls Tryz.prog 74 #[mvV m,.pointer (some ⟨b,0,none⟩)] w fun e w' => e = .returned (.bool (takesB n m))∧Below w.heap.size w w' := by
 have hte:takesB n m=decide (0≤takenN n m):=by unfold takesB;rw [takenP_is (by omega) hv]
 obtain ⟨X,hX⟩:∃ X,w.alloc (.cells #[.int .i8 m.f,.int .i8 m.t,.int .u8 m.p,.int .u8 m.d,.bool m.c] 49)=X:=⟨_,rfl⟩
 obtain ⟨q0,hbX⟩:=mvBox_at hX
 obtain ⟨m0,m1,m2,m3,m4⟩:=mv_cell q0
 obtain ⟨i0,r0⟩:=(hb.below hbX hb.lt).rules
 have HW:=hI (takes_any n hn t ht h01 hv m hm X (hT.below hbX lR))
 have HX:=hI hX
 have HTE:=hI hte
 clear hX q0 hb hT hv ht hte
 go_enter Tryz.func74,Tryz.ntmps74
 go_wp2_with (rw [HX.out])
 refine HW.out.mono ?_
 rintro e V ⟨rfl,h1⟩
 go_wp2
 go_ret
 exact ⟨rB HTE.out.symm,bT hbX h1⟩
theorem neg_any (m:Mv) (f:Nat) (lb:Array Value) (r:Bool) (eg:∀ args w,(callFunc f args).run Tryz.prog w=.ok (.enter f args) w) (b:Nat) (w:World) (hb:w.cell? ⟨b,0,none⟩=some (.func (.func f) #[] lb))
 (hc:∀ X,Below w.heap.size w X→Calls Tryz.prog f (#[mvV m] ++ lb) X fun e W' => e = .returned (.bool r)∧Below X.heap.size X W') :
 Calls Tryz.prog 71 #[mvV m,.pointer (some ⟨b,0,none⟩)] w fun e w' => e = .returned (.bool (!r))∧Below w.heap.size w w' := by
 obtain ⟨X,hX⟩:∃ X,w.alloc (.cells #[.int .i8 m.f,.int .i8 m.t,.int .u8 m.p,.int .u8 m.d,.bool m.c] 49)=X:=⟨_,rfl⟩
 obtain ⟨q0,hbX⟩:=mvBox_at hX
 obtain ⟨m0,m1,m2,m3,m4⟩:=mv_cell q0
 have hbl:b<w.heap.size:=World.block_lt_of_cell? _ _ hb
 have cb:=(hbX.cell (p:=⟨b,0,none⟩) hbl).trans hb
 have HC:=hI (hc X hbX)
 have HX:=hI hX
 clear hX q0 hb hc
 go_enter Tryz.func71,Tryz.ntmps71
 go_wp2_with (rw [HX.out])
 refine HC.out.mono ?_
 rintro e V ⟨rfl,h1⟩
 go_wp2
 go_ret
 exact ⟨rfl,bT hbX h1⟩
theorem keep_any (l:List Mv) (hlen:l.length≤50000) (f:Nat) (lb:Array Value) (p:Mv→Bool) (eg:∀ args w,(callFunc f args).run Tryz.prog w=.ok (.enter f args) w) (w:World) (B:Nat) (v:Value) (h:OwnsM w B v l) (hp:AsksM w.heap.size w f lb p l) :
 Calls Tryz.prog 68 #[v,.func (.func f) #[] lb] w fun e w' => ∃ v',e=.returned v' ∧ OwnsM w' w.heap.size v' (l.filter p)∧Below w.heap.size w w' := by
 obtain ⟨X,hX⟩:∃ X,w.alloc (.cells #[.func (.func f) #[] lb] 100)=X:=⟨_,rfl⟩
 have hbX:Below w.heap.size w X:=by rw [← hX];exact bR.alloc lR _
 have cX:X.cell? ⟨w.heap.size,0,none⟩=some (.func (.func f) #[] lb):=by rw [← hX];exact World.cell?_alloc_new ..
 have hsz:w.heap.size<X.heap.size:=by rw [← hX];simp
 have HCL:=hI (clone_any l hlen X B v (h.kept hbX lR))
 have hff:(fun m:Mv=>!(!p m))=p:=by funext m;cases p m <;> rfl
 have HDF:=hI (fun (V:World) (hV:Below X.heap.size X V) (v' : Value) (ho:OwnsM V X.heap.size v' l)=>(by
  have:=delf_any l (by omega) 71 #[.pointer (some ⟨w.heap.size,0,none⟩)] (fun m=>!p m) (enters_of Tryz.func71 (by kernel_rfl) rfl) V X.heap.size v' ho hV.size (fun m hm W hW=>by
   have hXW:=hV.trans hW
   exact neg_any m f lb (p m) eg w.heap.size W ((hXW.cell (p:=⟨w.heap.size,0,none⟩) hsz).trans cX) (fun Z hZ=>hp m hm Z (hbX.trans ((hXW.trans (hZ.mono hXW.size)).mono hbX.size))))
  rw [hff] at this
  exact this:Calls Tryz.prog 69 #[v',.func (.func 71) #[] #[.pointer (some ⟨w.heap.size,0,none⟩)]] V fun e w' => ∃ v'',e=.returned v'' ∧ OwnsM w' X.heap.size v'' (l.filter p)∧Below X.heap.size V w'))
 have hmf:∀ (fn:Fn) (first cap:Array Value) (w:World),(Instr.makeFunc fn first cap).run Tryz.prog w=.ok (.func fn first cap) w:=fun _ _ _ _=>rfl
 have HX:=hI hX
 have HS:=hI hsz
 clear hX cX h hp hff hsz
 go_enter Tryz.func68,Tryz.ntmps68
 go_wp2_with (rw [HX.out])
 refine HCL.out.mono ?_
 rintro e V ⟨v',rfl,ho,h1⟩
 obtain ⟨a',c',rfl⟩:=ho.len
 have HDF:=hI (HDF.out V h1 _ ho)
 go_wp2_with fail
 refine HDF.out.mono ?_
 rintro e V2 ⟨v'',rfl,ho2,h2⟩
 go_wp2
 go_ret
 exact ⟨_,rfl,ho2.less (Nat.le_of_lt HS.out),hbX.trans ((h1.trans h2).mono hbX.size)⟩
theorem would_any (n:Nat→Int) (hn:PosOk n) (t:Nat) (ht1:t≤1) (ht:n 78=t) (hv:n 0<9) (w:World) (hT:Tab w):Calls Tryz.prog 28 #[.agg (posA n)] w fun e w' => ∃ v,e=.returned v∧OwnsM w' w.heap.size v (wouldL n)∧Below w.heap.size w w' := by
 have h78:n 78=0∨n 78=1:=by omega
 have h01:(t:Int)=0∨(t:Int)=1:=by omega
 have hth:thereN n=true:=by unfold thereN;rw [decide_eq_true hv,decide_eq_true (show n 78≤1 by omega)];rfl
 have HWD:=hI (show wouldL n=if royI (n 0).toNat (t:Int).toNat=true∧hasK n t=false then [] else if n 0=4∧(would0 n).any (takesB n)=true then (would0 n).filter (takesB n) else would0 n by
  unfold wouldL royC
  rw [ht]
  by_cases h:royI (n 0).toNat (t:Int).toNat=true∧hasK n t=false
  · rw [if_pos (.inr h),if_pos h]
  · rw [if_neg h, if_neg]
    rintro (h2 | h2)
    · rw [hth] at h2;cases h2
    · exact h h2)
 obtain ⟨v0,v1⟩:=hn.u8 0 (by decide) rfl
 have HRO:=hI (vroyalI_any (n 0) (t:Int) v0 v1 (by omega) (by omega))
 have HHA:=hI (fun w hT=>has_any n hn (t:Int) w hT)
 have HAL:=hI (fun w hT=>aall_any n hn t ht h01 hv w hT)
 have HL0:(would0 n).length≤50000:=Nat.le_trans (List.length_filter_le _ _) allL_len5
 obtain ⟨X,hX⟩:∃ X,w.alloc (.cells (posA n) 31)=X:=⟨_,rfl⟩
 obtain ⟨p0,hb⟩:=box1 w n X hX
 have HTX:=hI (fun V (h:Below X.heap.size X V)=>(hT.below hb lR).below h lR)
 have HK1:=hI (fun (U:World) (hU:Below X.heap.size X U) (B:Nat) (v:Value) (ho:OwnsM U B v (allL n)) =>
  keep_any (allL n) allL_len5 72 #[.pointer (some ⟨w.heap.size,0,none⟩)] (wellB n) (enters_of Tryz.func72 (by kernel_rfl) rfl) U B v ho
   (fun m hm W hW=>w2_any n hn t ht1 ht hv m hm w.heap.size W (p0.below (hU.trans (hW.mono hU.size)) p0.lt) (HTX.out W (hU.trans (hW.mono hU.size)))))
 have hmo:∀ m∈would0 n,m.Ok:=fun m hm=>all_ok h78 hv m (List.mem_filter.1 hm).1
 have HAS3:=hI (fun (U:World) (hU:Below X.heap.size X U)=>(show AsksM U.heap.size U 74 #[.pointer (some ⟨w.heap.size,0,none⟩)] (takesB n) (would0 n) from
  (fun m hm W hW=>w3_any n hn t ht h01 hv m (hmo m hm) w.heap.size W (p0.below (hU.trans (hW.mono hU.size)) p0.lt) (HTX.out W (hU.trans (hW.mono hU.size))))))
 have HCF:=hI (fun (U:World) (hU:Below X.heap.size X U) (B:Nat) (v:Value) (ho:OwnsM U B v (would0 n)) =>
  contf_any (would0 n) (by omega) 74 #[.pointer (some ⟨w.heap.size,0,none⟩)] (takesB n) (enters_of Tryz.func74 (by kernel_rfl) rfl) U B v ho (HAS3.out U hU))
 have HK2:=hI (fun (U:World) (hU:Below X.heap.size X U) (B:Nat) (v:Value) (ho:OwnsM U B v (would0 n)) =>
  keep_any (would0 n) HL0 74 #[.pointer (some ⟨w.heap.size,0,none⟩)] (takesB n) (enters_of Tryz.func74 (by kernel_rfl) rfl) U B v ho (HAS3.out U hU))
 have HF:=hI (fun (U:World) (hU:Below X.heap.size X U)=>(show (U.cell? ⟨w.heap.size,0,none⟩=some (.int .u8 (n 0))∧U.cell? ⟨w.heap.size,78,none⟩=some (.int .u8 (t:Int)))∧(IsPos U w.heap.size∧rowOf U w.heap.size=posA n) from
  (fun hh=>⟨⟨hh.board 0 (by decide),by rw [← ht];exact hh.cell 78 (by decide)⟩,hh.rules⟩) (p0.below hU p0.lt)))
 have HBX:=hI hb
 have HSX:=hI hb.size
 have hmf:∀ (fn:Fn) (first cap:Array Value) (w:World),(Instr.makeFunc fn first cap).run Tryz.prog w=.ok (.func fn first cap) w:=fun _ _ _ _=>rfl
 have hR:=Below.refl X.heap.size X
 obtain ⟨⟨c0,c1⟩,c2,c3⟩:=HF.out X hR
 have HX:=hI hX
 have HD0:=hI (show (allL n).filter (wellB n)=would0 n from rfl)
 rw [HD0.out] at HK1
 clear hX p0 hb hT HL0 hmo hth h78 h01
 obtain ⟨v,hvv⟩:∃ v,n 0=v:=⟨_,rfl⟩
 rw [hvv] at HWD HRO HF c0
 generalize royI v.toNat (t:Int).toNat=R at *
 generalize hasK n t=H at *
 generalize wouldL n=out at *
 clear hvv hv ht v0 v1
 rcases (show (R=true∧H=false)∨(R=true∧H=true)∨R=false by cases R <;> cases H <;> simp) with ⟨rfl,rfl⟩ | ⟨rfl,rfl⟩ | rfl
 · have HE := hideIt (HWD.out.trans (if_pos ⟨rfl, rfl⟩))
   go_enter Tryz.func28,Tryz.ntmps28
   go_wp2_with (first | rw [HX.out] | (go_at_call 66;refine (HRO.out _).mono ?_;rintro e U ⟨rfl,h1⟩;have hR:=bT hR h1;obtain ⟨⟨c0,c1⟩,c2,c3⟩:=HF.out _ hR) | (go_at_call 67;refine (HHA.out _ (HTX.out _ hR)).mono ?_;rintro e U ⟨rfl,h1⟩;have hR:=bT hR h1;obtain ⟨⟨c0,c1⟩,c2,c3⟩:=HF.out _ hR))
   go_ret
   exact ⟨_,rfl,by rw [HE.out];exact World.ownsRow_nil _ _ _ _,HBX.out.trans (hR.mono HSX.out)⟩
 all_goals
  have HE:=hI (HWD.out.trans (if_neg (by simp)))
  clear HWD
  go_enter Tryz.func28,Tryz.ntmps28
  go_upto_region 4 with (first | rw [HX.out] | (go_at_call 66;refine (HRO.out _).mono ?_;rintro e U ⟨rfl,h1⟩;have hR:=bT hR h1;obtain ⟨⟨c0,c1⟩,c2,c3⟩:=HF.out _ hR) | (go_at_call 67;refine (HHA.out _ (HTX.out _ hR)).mono ?_;rintro e U ⟨rfl,h1⟩;have hR:=bT hR h1;obtain ⟨⟨c0,c1⟩,c2,c3⟩:=HF.out _ hR))
  go_wp2_with fail
  refine (HAL.out _ (HTX.out _ hR)).mono ?_
  rintro e U1 ⟨v1,rfl,o1,h1⟩
  obtain ⟨a1,k1,rfl⟩:=o1.len
  have hR:=bT hR h1
  obtain ⟨⟨c0,c1⟩,c2,c3⟩:=HF.out _ hR
  have HK:=hI (HK1.out U1 hR _ _ o1)
  go_wp2_with fail
  refine HK.out.mono ?_
  rintro e U2 ⟨v2,rfl,o2,h2⟩
  have HS1:=hI (Nat.le_trans HSX.out hR.size)
  obtain ⟨a2,k2,rfl⟩:=o2.len
  have hR:=bT hR h2
  obtain ⟨⟨c0,c1⟩,c2,c3⟩:=HF.out _ hR
  have HCF:=hI (HCF.out U2 hR _ _ o2)
  clear h1 h2 o1 HK
  by_cases hv4:v=4
  · have e4 : (v == 4) = true := beq_iff_eq.2 hv4
    cases ha:(would0 n).any (takesB n)
    · have HE := hideIt (HE.out.trans (if_neg (fun h => by rw [ha] at h; cases h.2)))
      rw [ha] at HCF
      have HO2:=hI o2
      clear ha hv4 o2
      go_wp2_with fail
      refine HCF.out.mono ?_
      rintro e U3 ⟨rfl,h3⟩
      have ho:=HO2.out.kept h3 lR
      have hR:=bT hR h3
      clear h3
      go_wp2
      go_ret
      exact ⟨_,rfl,by rw [HE.out];exact ho.less HS1.out,HBX.out.trans (hR.mono HSX.out)⟩
    · have HE := hideIt (HE.out.trans (if_pos ⟨hv4, ha⟩))
      rw [ha] at HCF
      have HO2:=hI o2
      clear ha hv4 o2
      go_wp2_with fail
      refine HCF.out.mono ?_
      rintro e U3 ⟨rfl,h3⟩
      have ho:=HO2.out.kept h3 lR
      have hR:=bT hR h3
      have HK:=hI (HK2.out U3 hR _ _ ho)
      have HS3:=hI (Nat.le_trans HSX.out hR.size)
      clear h3 ho
      go_wp2_with fail
      refine HK.out.mono ?_
      rintro e U4 ⟨v4,rfl,o4,h4⟩
      have hR:=bT hR h4
      clear h4
      go_wp2
      go_ret
      exact ⟨_,rfl,by rw [HE.out];exact o4.less HS3.out,HBX.out.trans (hR.mono HSX.out)⟩
  · have e4 : (v == 4) = false := beq_eq_false_iff_ne.2 hv4
    have HE:=hI (HE.out.trans (if_neg (fun h=>hv4 h.1)))
    have HO2:=hI o2
    clear hv4 o2
    go_wp2
    go_ret
    exact ⟨_,rfl,by rw [HE.out];exact HO2.out.less HS1.out,HBX.out.trans (hR.mono HSX.out)⟩
abbrev oMv0:Oper:={ dst:=some 6,op:=Op.load 31 (Operand.tmp 2),type:=31,pos := "ref.go:153",after:=#[],guard:=none }
abbrev oMv1:Oper:={ dst:=some 7,op:=Op.call { callee:=Callee.value (Operand.func 42),args:=#[Operand.tmp 6],argTypes:=#[31] },type:=41,pos := "ref.go:153",after:=#[{ on:=0,ground:=Ground.data }],guard:=none }
abbrev oMv2:Oper:={ dst:=some 8,op:=Op.load 49 (Operand.tmp 3),type:=49,pos := "ref.go:153",after:=#[],guard:=none }
abbrev oMv3:Oper:={ dst:=some 9,op:=Op.call { callee:=Callee.value (Operand.func 41),args:=#[Operand.tmp 7,Operand.tmp 8],argTypes:=#[41,49] },type:=4,pos := "ref.go:153",after:=#[{ on:=1,ground:=Ground.data },{ on:=2,ground:=Ground.data },{ on:=1,ground:=Ground.chain }],guard:=none }
abbrev oMv4:Oper:={ dst:=some 10,op:=Op.unOp UnOp.not 4 (Operand.tmp 9),type:=4,pos := "ref.go:153",after:=#[{ on:=3,ground:=Ground.data }],guard:=none }
theorem move16_any (n:Nat→Int) (hn:PosOk n) (t:Nat) (ht1:t≤1) (ht:n 78=t) (hv:n 0<9) (m:Mv) (hml:m∈allL n) (w:World):Calls Tryz.prog 15 #[.agg (posA n),.agg #[.int .i8 m.f,.int .i8 m.t,.int .u8 m.p,.int .u8 m.d,.bool m.c]] w fun e w' => e = .returned (.tuple #[.agg (posA (madeN n m)),.bool true])∧Below w.heap.size w w' := by
 have h01:(t:Int)=0∨(t:Int)=1:=by omega
 have h78:n 78=0∨n 78=1:=by omega
 obtain ⟨hm,hcc⟩:=all_mvok h78 hv hml
 have HAL:=hI (fun w=>all16_any n hn t ht h01 hv w)
 have HHS:=hI (fun w B v h=>has13_any (allL n) (all_ok h78 hv) allL_len m hm.ok w B v h)
 rw [decide_eq_true hml] at HHS
 have HMD:=hI (fun w=>made16_any n hn t ht1 ht hv m hm hcc w)
 generalize madeN n m=q at *
 clear hm hcc hml h01 h78 ht
 obtain ⟨mf,mt,mp,md,mc⟩:=m
 dsimp only at *
 obtain ⟨X,hX⟩:∃ X,menX n ⟨mf,mt,mp,md,mc⟩ w=X:=⟨_,rfl⟩
 obtain ⟨xp,xm,xr,xb,xs⟩:=menX_at n _ w X hX
 have HX:=hI (show ((w.alloc (.cells (posA n) 31)).alloc (.cells #[.int .i8 mf,.int .i8 mt,.int .u8 mp,.int .u8 md,.bool mc] 49)).alloc (.cells (posA zeroN) 31)=X from hX)
 have hzp:=zeroPos
 have HS:=hI (fun V2 (hb:Below X.heap.size X V2)=>(show ((IsPos V2 w.heap.size∧rowOf V2 w.heap.size=posA n)∧V2.cell? ⟨w.heap.size+1,0,none⟩=some (.int .i8 mf)∧V2.cell? ⟨w.heap.size+1,1,none⟩=some (.int .i8 mt)∧V2.cell? ⟨w.heap.size+1,2,none⟩=some (.int .u8 mp)∧V2.cell? ⟨w.heap.size+1,3,none⟩=some (.int .u8 md)∧V2.cell? ⟨w.heap.size+1,4,none⟩=some (.bool mc))∧Below X.heap.size X V2 from
  ⟨⟨(xp.below hb xp.lt).rules,mv_cell (m:=⟨mf,mt,mp,md,mc⟩) ((hb.block _ (Array.getElem?_eq_some_iff.1 xm).1).trans xm)⟩,hb⟩))
 have HR:=hI (fun V2 (hb:Below X.heap.size X V2)=>xr.below hb xr.lt)
 have HXB:=hI xb
 clear hX xp xm xr xb xs
 go_enter Tryz.func15,Tryz.ntmps15
 go_wp2_with (rw [HX.out])
 refine wp_region_held_drew (S:=(fun V2=>((IsPos V2 w.heap.size∧rowOf V2 w.heap.size=posA n)∧V2.cell? ⟨w.heap.size+1,0,none⟩=some (.int .i8 mf)∧V2.cell? ⟨w.heap.size+1,1,none⟩=some (.int .i8 mt)∧V2.cell? ⟨w.heap.size+1,2,none⟩=some (.int .u8 mp)∧V2.cell? ⟨w.heap.size+1,3,none⟩=some (.int .u8 md)∧V2.cell? ⟨w.heap.size+1,4,none⟩=some (.bool mc))∧Below X.heap.size X V2)) (by kernel_rfl) ?_ (fun hHeld=>?_)
 · (try dsimp only);(refine HS.out _ ?_;repeat (first | exact bR | assumption | refine bD ?_ | refine bT ?_ (by assumption)))
 (refine tl 0 (oi:=oMv0) (v:=?_) ?_ ?_;rotate_left;(focus (intro w hSw;(try dsimp only at hSw);go_simp;try (with_reducible rfl)));try simp only [Act.put,lA,lB,lC])
 (refine tl 2 (oi:=oMv2) (v:=?_) ?_ ?_;rotate_left;(focus (intro w hSw;(try dsimp only at hSw);go_simp;try (with_reducible rfl)));try simp only [Act.put,lA,lB,lC])
 refine wpAnyH_ready (rs:=[1]) (by kernel_rfl) (by simp) ?_
 refine AllReadyH.cons (o:=oMv1) rfl (fun K hK=>?_) AllReadyH.nil
 go_simp
 refine (HAL.out _).mono ?_
 rintro e V3 ⟨vl,rfl,ho,h3⟩
 refine hK.out _ _ ?_ (fun hHeld=>?_)
 · (try dsimp only);(refine HS.out _ ?_;repeat (first | exact bR | assumption | refine bD ?_ | refine bT ?_ (by assumption)))
 clear hK K
 try simp only [Act.put,lA,lB,lC]
 refine wpAnyH_ready (rs:=[3]) (by kernel_rfl) (by simp) ?_
 refine AllReadyH.cons (o:=oMv3) rfl (fun K hK=>?_) AllReadyH.nil
 go_simp
 refine (HHS.out _ _ _ ho).mono ?_
 rintro e V4 ⟨rfl,h4⟩
 refine hK.out _ _ ?_ (fun hHeld=>?_)
 · (try dsimp only);(refine HS.out _ ?_;repeat (first | exact bR | assumption | refine bD ?_ | refine bT ?_ (by assumption)))
 clear hK K
 try simp only [Act.put,lA,lB,lC]
 (refine tl 4 (oi:=oMv4) (v:=?_) ?_ ?_;rotate_left;(focus (intro w hSw;(try dsimp only at hSw);go_simp;try (with_reducible rfl)));try simp only [Act.put,lA,lB,lC])
 refine wpAnyH_done (by kernel_rfl) ?_ _
 obtain ⟨⟨⟨i0,r0⟩,m0,m1,m2,m3,m4⟩,hb4⟩:=hHeld
 clear h3 h4 ho
 go_wp2_with fail
 refine (HMD.out _).mono ?_
 rintro e V5 ⟨rfl,h5⟩
 have hb5:=bT hb4 h5
 have hz:=HR.out V5 hb5
 obtain ⟨j0,s0⟩:=hz.rules
 have HB5:=hI hb5
 have HZ:=hI hz
 clear i0 r0 m0 m1 m2 m3 m4 hb4 h5 hb5 hz
 go_wp2
 refine bodyPost_ret (v:=.tuple #[.agg (posA q),.bool true]) (pos_result2 Tryz.results15 _ _ _ _ _ rfl rfl (HZ.out.setRow _)) rfl ⟨rfl,below_setRow (HXB.out.trans (HB5.out.mono HXB.out.size)) (by omega) _⟩
theorem king17_any (n:Nat→Int) (hn:PosOk n) (c:Int) (w:World):Calls Tryz.prog 56 #[.agg (posA n),.int .u8 c] w fun e w' => e = .returned (.int .i64 (kSqC n c))∧Below w.heap.size w w' := by
 obtain ⟨X,hX⟩:∃ X,w.alloc (.cells (posA n) 31)=X:=⟨_,rfl⟩
 obtain ⟨p0,hb⟩:=box1 w n X hX
 have HF:=hI (find8_any n hn c 6 (by decide) X)
 have HX:=hI hX
 obtain ⟨i0,r0⟩:=p0.rules
 have HH:=hI (show kSqC n c=firstB (ofN n c 6) from rfl)
 clear hX p0
 go_enter Tryz.func56,Tryz.ntmps56
 go_wp2_with (rw [HX.out])
 refine HF.out.mono ?_
 rintro e V ⟨rfl,h1⟩
 go_wp2
 go_ret
 exact ⟨ret_int HH.out.symm,bT hb h1⟩
theorem lt_has (q:Nat→Int) (c:Int):decide (kSqC q c<0)=!hasK q c:=by
 unfold hasK kSqC
 rw [Bool.eq_iff_iff,Bool.not_eq_true',decide_eq_true_iff,decide_eq_false_iff_not];omega
theorem leaves_ways2 (R H C A H' E D res:Bool) (h:((!R || (H&&!(C&&(!A || H'))))&&(!E || !D))=res) :
 (res=true∧R=false∧E=false)∨(res=(!D)∧R=false∧E=true) ∨
 (res=false∧R=true∧H=false∧A=false)∨(res=false∧R=true∧H=false∧A=true) ∨
 (res=true∧R=true∧H=true∧A=true∧H' = false∧E=false)∨(res=(!D)∧R=true∧H=true∧A=true∧H' = false∧E=true) ∨
 (res=false∧R=true∧H=true∧A=false∧C=true)∨(res=false∧R=true∧H=true∧A=true∧H' = true∧C=true) ∨
 (res=true∧R=true∧H=true∧A=false∧C=false∧E=false)∨(res=(!D)∧R=true∧H=true∧A=false∧C=false∧E=true) ∨
 (res=true∧R=true∧H=true∧A=true∧H' = true∧C=false∧E=false)∨(res=(!D)∧R=true∧H=true∧A=true∧H' = true∧C=false∧E=true):=by
 subst h
 cases R <;> cases H <;> cases C <;> cases A <;> cases H' <;> cases E <;> simp
theorem leaves17_any (n q:Nat→Int) (hn:PosOk n) (hq:PosOk q) (t:Nat) (ht1:t≤1) (ht:n 78=t) (w:World):Calls Tryz.prog 79 #[.agg (posA n),.agg (posA q)] w fun e w' => e = .returned (.bool (leavesB n q))∧Below w.heap.size w w' := by
 obtain ⟨v0,v1⟩:=hn.u8 0 (by decide) rfl
 have HRO:=hI (rroyalI_any (n 0) (t:Int) v0 v1 (by omega) (by omega))
 have HKI:=hI (fun c w=>king17_any q hq c w)
 have HCK:=hI (fun (c:Int) (c0:0≤c) (c1:c≤1) w=>check8_any q hq c c0 c1 w)
 have HLV:=hI (show leavesB n q=((!royI (n 0).toNat (t:Int).toNat || (hasK q t&&!(checkN q t&&(!(n 0==3) || hasK q (1 - t)))))&&(!(n 0==8) || !checkN q (1 - t))) by unfold leavesB royC;rw [ht])
 have L1:=lt_has q t
 have L2:=lt_has q (1 - (t:Int))
 obtain ⟨X,hX⟩:∃ X,(w.alloc (.cells (posA n) 31)).alloc (.cells (posA q) 31)=X:=⟨_,rfl⟩
 obtain ⟨xp,xq,xb⟩:=box2 w n q X hX
 have HX:=hI hX
 obtain ⟨v,hvv⟩:∃ v,n 0=v:=⟨_,rfl⟩
 have HF:=hI (fun (U:World) (hU:Below X.heap.size X U)=>(show (U.cell? ⟨w.heap.size,0,none⟩=some (.int .u8 v)∧U.cell? ⟨w.heap.size,78,none⟩=some (.int .u8 (t:Int)))∧(IsPos U (w.heap.size+1)∧rowOf U (w.heap.size+1)=posA q) from
  (fun hh=>⟨⟨by rw [← hvv];exact hh.board 0 (by decide),by rw [← ht];exact hh.cell 78 (by decide)⟩,(xq.below hU xq.lt).rules⟩) (xp.below hU xp.lt)))
 have HBX:=hI xb
 have w13:IntKind.u8.wrap (1 - (t:Int))=1 - t:=IntWalk.u8_in _ (by omega)
 rw [hvv] at HRO HLV
 generalize royI v.toNat (t:Int).toNat=R at *
 obtain ⟨res,hres⟩:∃ res,leavesB n q=res:=⟨_,rfl⟩
 rw [hres] at HLV ⊢
 have hR:=Below.refl X.heap.size X
 obtain ⟨⟨c0,c1⟩,c2,c3⟩:=HF.out X hR
 clear hX xp xq xb hvv v0 v1 ht hres
 rcases leaves_ways2 _ _ _ _ _ _ _ _ HLV.out.symm with ⟨er,e1,e6⟩ | ⟨er,e1,e6⟩ | ⟨er,e1,e2,e3⟩ | ⟨er,e1,e2,e3⟩ | ⟨er,e1,e2,e3,e4,e6⟩ | ⟨er,e1,e2,e3,e4,e6⟩ | ⟨er,e1,e2,e3,e5⟩ | ⟨er,e1,e2,e3,e4,e5⟩ | ⟨er,e1,e2,e3,e5,e6⟩ | ⟨er,e1,e2,e3,e5,e6⟩ | ⟨er,e1,e2,e3,e4,e5,e6⟩ | ⟨er,e1,e2,e3,e4,e5,e6⟩
 all_goals
  have HER:=hI er
  rw [e1] at HRO
  try have n8' : (v != 8)=_:=congrArg not e6
  try rw [e2] at L1
  try rw [e4] at L2
  clear er
  go_enter Tryz.func79,Tryz.ntmps79
  go_wp2_with (rw [HX.out])
  go_quiet (fail)
  obtain ⟨V,hV⟩:∃ V,X.drewN nq=V:=⟨_,rfl⟩
  have hR:Below X.heap.size X V:=by rw [← hV];exact blN _ _
  rw [hV]
  clear hV c0 c1 c2 c3
  obtain ⟨⟨c0,c1⟩,c2,c3⟩:=HF.out V hR
  by_cases hH:hasK q (1 - (t:Int))=true
  all_goals
   try rw [hH] at L2
   try rw [Bool.not_eq_true] at hH
   try rw [hH] at L2
   go_wp2_with (first | (go_at_call 78;refine (HRO.out _).mono ?_;rintro e U ⟨rfl,rfl⟩) | (go_at_call 56;refine (HKI.out _ _).mono ?_;rintro e U ⟨rfl,h1⟩;have hR:=bT hR h1;obtain ⟨⟨c0,c1⟩,c2,c3⟩:=HF.out _ hR) | (go_at_call 25;refine (HCK.out _ (by omega) (by omega) _).mono ?_;rintro e U ⟨rfl,h1⟩;have hR:=bT hR h1;obtain ⟨⟨c0,c1⟩,c2,c3⟩:=HF.out _ hR))
   go_ret
   exact ⟨rB (by rw [HER.out]),HBX.out.trans (hR.mono HBX.out.size)⟩
end Go.Proofs.YteocjaihaegmoaaGreatDoor
