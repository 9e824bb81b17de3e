/- Parts of the proof: TF, TH, TJ, TK, TL, TM. -/
import Derived.Test.YteocjaihaegmoaaGreatDoorWAM
import Derived.Test.YteocjaihaegmoaaGreatDoorWBC
import Derived.Test.YteocjaihaegmoaaGreatDoorWBE
set_option linter.unusedVariables false
set_option maxHeartbeats 16000000
set_option maxRecDepth 100000
namespace Go.Proofs.YteocjaihaegmoaaGreatDoor
open Go Go.RowKit
theorem there13_any (n:Nat→Int) (hn:PosOk n) (t:Int) (ht:n 78=t) (h01:t=0∨t=1) (hv:n 0<9) (w:World):Calls Tryz.prog 23 #[.agg (posA n)] w fun e w' => e = .returned (.bool true)∧Below w.heap.size w w' := by
 obtain ⟨X,hX⟩:∃ X,w.alloc (.cells (posA n) 31)=X:=⟨_,rfl⟩
 obtain ⟨p0,hb⟩:=box1 w n X hX
 obtain ⟨i0,r0⟩:=p0.rules
 have c78:X.cell? ⟨w.heap.size,78,none⟩=some (.int .u8 t):=by rw [← ht];exact p0.cell 78 (by decide)
 have c0:X.cell? ⟨w.heap.size,0,none⟩=some (.int .u8 (n 0)):=p0.board 0 (by decide)
 have d1:decide (n 0<9)=true:=decide_eq_true hv
 have d2:decide (t<2)=true:=decide_eq_true (by omega)
 have HX:=hI hX
 have HP:=hI p0
 clear hX p0
 go_enter Tryz.func23,Tryz.ntmps23
 go_wp2_with (first | rw [HX.out])
 go_ret
 exact ⟨rfl,hb⟩
theorem empty13_any (n:Nat→Int) (hn:PosOk n) (s:Int) (s0:0≤s) (s1:s<64) (w:World):Calls Tryz.prog 142 #[.agg (posA n),.int .i64 s] w fun e w' => e = .returned (.bool (!isB (n (1+s.toNat))))∧Below w.heap.size w w' := by
 obtain ⟨X,hX⟩:∃ X,w.alloc (.cells (posA n) 31)=X:=⟨_,rfl⟩
 obtain ⟨p0,hb⟩:=box1 w n X hX
 obtain ⟨i0,r0⟩:=p0.rules
 have c1:=p0.board (1+s.toNat) (by omega)
 obtain ⟨v0,v1⟩:=hn.u8 (1+s.toNat) (by omega) (kB (by omega))
 have hz:(kndI (n (1+s.toNat))==0)=!isB (n (1+s.toNat)):=by
  cases hi:isB (n (1+s.toNat)) with
  | true=>have:=knd_pos hi;exact beq_eq_false_iff_ne.2 (by omega)
  | false=>rw [knd_none hi];rfl
 generalize n (1+s.toNat)=x at *
 have HX:=hI hX
 have HP:=hI p0
 clear hX p0
 have HZ:=hI hz
 clear hz
 go_enter Tryz.func142,Tryz.ntmps142
 go_wp2_with (first | rw [HX.out] | (go_at_call 63;refine (k8_any x v0 v1 _).mono ?_;rintro e w2 ⟨rfl,rfl⟩))
 go_ret
 exact ⟨rB HZ.out,hb⟩
theorem own13_any (n:Nat→Int) (hn:PosOk n) (s c:Int) (s0:0≤s) (s1:s<64) (w:World):Calls Tryz.prog 129 #[.agg (posA n),.int .i64 s,.int .u8 c] w fun e w' => e = .returned (.bool (ownP n s c))∧Below w.heap.size w w' := by
 obtain ⟨X,hX⟩:∃ X,w.alloc (.cells (posA n) 31)=X:=⟨_,rfl⟩
 obtain ⟨p0,hb⟩:=box1 w n X hX
 obtain ⟨i0,r0⟩:=p0.rules
 obtain ⟨v0,v1⟩:=hn.u8 (1+s.toNat) (by omega) (kB (by omega))
 have HR:=hI (show ownP n s c=(isB (n (1+s.toNat))&&(n (1+s.toNat) / 8==c)) from rfl)
 have HE:=hI (empty13_any n hn s s0 s1)
 have HX:=hI hX
 have HP:=hI p0
 clear hX p0
 cases hi:isB (n (1+s.toNat)) with
 | false =>
   rw [hi] at HR HE
   clear hi
   go_enter Tryz.func129,Tryz.ntmps129
   go_wp2_with (first | rw [HX.out])
   refine (HE.out _).mono ?_
   rintro e Y ⟨rfl,h1⟩
   have hb:=hb.trans (h1.mono hb.size)
   clear h1
   go_wp2
   go_ret
   exact ⟨rB HR.out.symm,hb⟩
 | true =>
   rw [hi] at HR HE
   clear hi
   have HC:=hI (c8_any _ v0 v1)
   go_enter Tryz.func129,Tryz.ntmps129
   go_wp2_with (first | rw [HX.out])
   refine (HE.out _).mono ?_
   rintro e Y ⟨rfl,h1⟩
   have c1:=(HP.out.below h1 HP.out.lt).board (1+s.toNat) (by omega)
   have hb:=hb.trans (h1.mono hb.size)
   clear h1
   generalize n (1+s.toNat)=x at *
   go_wp2_with (go_at_call 64;refine (HC.out _).mono ?_;rintro e w2 ⟨rfl,rfl⟩)
   go_ret
   exact ⟨rB HR.out.symm,hb⟩
theorem up13_any (c:Int) (hc:c=0∨c=1) (w:World):Calls Tryz.prog 143 #[.int .u8 c] w fun e w' => e = .returned (.int .i64 (8 - 16*c))∧w=w' := by
 rcases hc with rfl | rfl
 · go_enter Tryz.func143, Tryz.ntmps143
   go_wp2
   go_ret
   exact ⟨rfl,rfl⟩
 · go_enter Tryz.func143, Tryz.ntmps143
   go_wp2
   go_ret
   exact ⟨rfl,rfl⟩
theorem rank13_any (c s:Int) (hc:c=0∨c=1) (s0:0≤s) (s1:s<64) (w:World):Calls Tryz.prog 161 #[.int .u8 c,.int .i64 s] w fun e w' => e = .returned (.int .i64 (rankC c s))∧w=w' := by
 rcases hc with rfl | rfl
 · go_enter Tryz.func161, Tryz.ntmps161
   go_wp2
   go_ret
   exact ⟨rfl,rfl⟩
 · go_enter Tryz.func161, Tryz.ntmps161
   go_wp2
   go_ret
   exact ⟨rfl,rfl⟩
theorem ahead_up {t s:Int} (h01:t=0∨t=1):aheadC t s=s+(8 - 16*t):=by
 unfold aheadC;rcases h01 with rfl | rfl
 · rw [if_neg (by decide)];omega
 · rw [if_pos rfl];omega
theorem pawn13_any (n:Nat→Int) (hn:PosOk n) (t:Int) (h01:t=0∨t=1) (ht:n 78=t) (a b:Int) (a0:0≤a) (a1:a<64) (b0:0≤b) (b1:b<64) (w:World):Calls Tryz.prog 197 #[.agg (posA n),.int .i64 a,.int .i64 b] w fun e w' => e = .returned (.bool (rpawnP n a b))∧Below w.heap.size w w' := by
 obtain ⟨X,hX⟩:∃ X,w.alloc (.cells (posA n) 31)=X:=⟨_,rfl⟩
 obtain ⟨p0,hb⟩:=box1 w n X hX
 have HU:=hI (ahead_up (s:=a) h01)
 have HRP:=hI (show rpawnP n a b=if hitI (n (1+a.toNat)) a b (allN n)=true then ownP n b (1 - t) || (n 83==b) else if b=aheadC t a then !isB (n (1+b.toNat)) else (b==aheadC t (aheadC t a))&&fromC n a&&!isB (n (1+(aheadC t a).toNat))&&!isB (n (1+b.toNat)) by unfold rpawnP;rw [ht])
 have HF:=hI (show fromC n a=((rankC t a==1) || ((rankC t a==0)&&(n 0==7)&&(t==0))) by unfold fromC;rw [ht])
 have HHIT:=hI (hits8_any n hn a b a0 a1 b0 b1)
 have HOWN:=hI (own13_any n hn b (1 - t) b0 b1)
 have HEB:=hI (empty13_any n hn b b0 b1)
 have HUP:=hI (up13_any t h01)
 have HRK:=hI (rank13_any t a h01 a0 a1)
 obtain ⟨s0,s1⟩:=hn.i8 83 (by decide) rfl
 have HP83:=hI (fun (W:World) (h:Below X.heap.size X W)=>(show W.cell? ⟨w.heap.size,83,none⟩=some (.int .i8 (n 83)) from (p0.below h p0.lt).cell 83 (by decide)))
 have HG:=hI (fun (W:World) (h:Below X.heap.size X W)=>(show IsPos W w.heap.size∧rowOf W w.heap.size=posA n∧W.cell? ⟨w.heap.size,78,none⟩=some (.int .u8 t)∧W.cell? ⟨w.heap.size,0,none⟩=some (.int .u8 (n 0)) from (fun p=>⟨p.is,p.row,by rw [← ht];exact p.cell 78 (by decide),p.board 0 (by decide)⟩) (p0.below h p0.lt)))
 have hR:Below X.heap.size X X:=bR
 obtain ⟨i0,r0,c78,c0⟩:=HG.out _ hR
 have HX:=hI hX
 have HP:=hI p0
 clear hX p0
 have HEA:=hI (fun h0 h1=>empty13_any n hn (a+(8 - 16*t)) h0 h1)
 rw [ahead_up (s:=aheadC t a) h01,HU.out] at HRP
 have hrk:0≤rankC t a∧rankC t a≤7:=by rcases rank_cases t a with ⟨_,e⟩ | ⟨_,e⟩ <;> omega
 obtain ⟨k0,k1⟩:=hrk
 have w1:=IntWalk.u8_in (1 - t) (by omega)
 have w2:=IntWalk.i64_in (a+(8 - 16*t)) (by omega)
 have w3:=IntWalk.i64_in (2*(8 - 16*t)) (by omega)
 have w4:=IntWalk.i64_in (a+2*(8 - 16*t)) (by omega)
 have HBQ:=hI (show (b==a+(8 - 16*t)+(8 - 16*t))=(b==a+2*(8 - 16*t)) by congr 1;omega)
 rw [HBQ.out] at HRP
 generalize rankC t a=r at *
 generalize isB (n (1+b.toNat))=ib at *
 generalize isB (n (1+(a+(8 - 16*t)).toNat))=ia at *
 generalize ownP n b (1 - t)=ob at *
 cases hh:hitI (n (1+a.toNat)) a b (allN n) with
 | true =>
   rw [hh] at HRP HHIT
   have HRP:=hI (HRP.out.trans (if_pos rfl))
   clear hh
   cases ob
   all_goals
    go_enter Tryz.func197,Tryz.ntmps197
    go_wp2_with (first | rw [HX.out] | (go_at_call 143;refine (HUP.out _).mono ?_;rintro e w2 ⟨rfl,rfl⟩) | (go_at_call 132;refine (HHIT.out _).mono ?_;rintro e w2 ⟨rfl,h1⟩;have hR:=bT hR h1;clear h1;obtain ⟨i0,r0,c78,c0⟩:=HG.out _ hR) | (go_at_call 161;refine (HRK.out _).mono ?_;rintro e w2 ⟨rfl,rfl⟩) | (go_at_call 129;refine (HOWN.out _).mono ?_;rintro e w2 ⟨rfl,h1⟩;have hR:=bT hR h1;clear h1;obtain ⟨i0,r0,c78,c0⟩:=HG.out _ hR;have c83:=HP83.out _ hR))
    go_ret
    exact ⟨rB (by rw [HRP.out];rfl),hb.trans (hR.mono hb.size)⟩
 | false =>
   rw [hh] at HRP HHIT
   have HRP:=hI (HRP.out.trans (if_neg (by decide)))
   clear hh
   by_cases hab:b=a+(8 - 16*t)
   · have HRP := hideIt (HRP.out.trans (if_pos hab))
     have ea:(b==a+(8 - 16*t))=true:=beq_iff_eq.2 hab
     clear hab
     go_enter Tryz.func197,Tryz.ntmps197
     go_wp2_with (first | rw [HX.out] | (go_at_call 143;refine (HUP.out _).mono ?_;rintro e w2 ⟨rfl,rfl⟩) | (go_at_call 132;refine (HHIT.out _).mono ?_;rintro e w2 ⟨rfl,h1⟩;have hR:=bT hR h1;clear h1;obtain ⟨i0,r0,c78,c0⟩:=HG.out _ hR) | (go_at_call 161;refine (HRK.out _).mono ?_;rintro e w2 ⟨rfl,rfl⟩) | (go_at_call 129;refine (HOWN.out _).mono ?_;rintro e w2 ⟨rfl,h1⟩;have hR:=bT hR h1;clear h1;obtain ⟨i0,r0,c78,c0⟩:=HG.out _ hR;have c83:=HP83.out _ hR))
     refine (HEB.out _).mono ?_
     rintro e w3 ⟨rfl,h1⟩
     have hR:=bT hR h1
     clear h1
     go_wp2
     go_ret
     exact ⟨rB HRP.out.symm,hb.trans (hR.mono hb.size)⟩
   · have HRP := hideIt (HRP.out.trans (if_neg hab))
     have ea:(b==a+(8 - 16*t))=false:=beq_eq_false_iff_ne.2 hab
     clear hab
     rcases (show (fromC n a=true∧((r==1)=true∨(r==1)=false∧(r==0)=true∧(n 0==7)=true∧(t==0)=true))∨(fromC n a=false∧(r==1)=false∧((r==0)=false∨(r==0)=true∧(n 0==7)=false∨(r==0)=true∧(n 0==7)=true∧(t==0)=false)) by
      rw [HF.out]
      cases (r==1) <;> cases (r==0) <;> cases (n 0==7) <;> cases (t==0) <;> simp) with ⟨hf,e1 | ⟨e1,e0,ev,et⟩⟩ | ⟨hf,e1,e0 | ⟨e0,ev⟩ | ⟨e0,ev,et⟩⟩
     all_goals
      rw [hf] at HRP
      cases hq:(b==a+2*(8 - 16*t)) <;> cases ia
      all_goals
       rw [hq] at HRP
       try have HEA:=hI (HEA.out (by have:=beq_iff_eq.1 hq;omega) (by have:=beq_iff_eq.1 hq;omega))
       clear hf
       go_enter Tryz.func197,Tryz.ntmps197
       go_wp2_with (first | rw [HX.out] | (go_at_call 143;refine (HUP.out _).mono ?_;rintro e w2 ⟨rfl,rfl⟩) | (go_at_call 132;refine (HHIT.out _).mono ?_;rintro e w2 ⟨rfl,h1⟩;have hR:=bT hR h1;clear h1;obtain ⟨i0,r0,c78,c0⟩:=HG.out _ hR) | (go_at_call 161;refine (HRK.out _).mono ?_;rintro e w2 ⟨rfl,rfl⟩) | (go_at_call 129;refine (HOWN.out _).mono ?_;rintro e w2 ⟨rfl,h1⟩;have hR:=bT hR h1;clear h1;obtain ⟨i0,r0,c78,c0⟩:=HG.out _ hR;have c83:=HP83.out _ hR) | (go_at_call 142;(first | (with_reducible refine (HEA.out _).mono ?_) | (with_reducible refine (HEB.out _).mono ?_));rintro e w2 ⟨rfl,h1⟩;have hR:=bT hR h1;clear h1;obtain ⟨i0,r0,c78,c0⟩:=HG.out _ hR))
       go_ret
       exact ⟨rB (by rw [HRP.out];rfl),hb.trans (hR.mono hb.size)⟩
theorem may13_any (n:Nat→Int) (hn:PosOk n) (t:Int) (h01:t=0∨t=1) (ht:n 78=t) (a b:Int) (a0:0≤a) (a1:a<64) (b0:0≤b) (b1:b<64) (w:World):Calls Tryz.prog 160 #[.agg (posA n),.int .i64 a,.int .i64 b] w fun e w' => e = .returned (.bool (mayP n a b))∧Below w.heap.size w w' := by
 obtain ⟨X,hX⟩:∃ X,w.alloc (.cells (posA n) 31)=X:=⟨_,rfl⟩
 obtain ⟨p0,hb⟩:=box1 w n X hX
 have HD:=hI (show mayP n a b=if a=b then false else if ownP n a t=false then false else if ownP n b t=true then false else
  if kndI (n (1+a.toNat))=1 then rpawnP n a b else
  if kndI (n (1+a.toNat))=6 then hitI (n (1+a.toNat)) a b (allN n)&&(!(n 0==3) || !isB (n (1+b.toNat))) else hitI (n (1+a.toNat)) a b (allN n) by unfold mayP;rw [ht])
 have HOA:=hI (own13_any n hn a t a0 a1)
 have HOB:=hI (own13_any n hn b t b0 b1)
 have HHIT:=hI (hits8_any n hn a b a0 a1 b0 b1)
 have HEB:=hI (empty13_any n hn b b0 b1)
 have HPW:=hI (pawn13_any n hn t h01 ht a b a0 a1 b0 b1)
 obtain ⟨v0,v1⟩:=hn.u8 (1+a.toNat) (by omega) (kB (by omega))
 have HKD:=hI (k8_any _ v0 v1)
 have HG:=hI (fun (W:World) (h:Below X.heap.size X W)=>(show IsPos W w.heap.size∧rowOf W w.heap.size=posA n∧W.cell? ⟨w.heap.size,78,none⟩=some (.int .u8 t)∧W.cell? ⟨w.heap.size,0,none⟩=some (.int .u8 (n 0))∧W.cell? ⟨w.heap.size,1+a.toNat,none⟩=some (.int .u8 (n (1+a.toNat))) from (fun p=>⟨p.is,p.row,by rw [← ht];exact p.cell 78 (by decide),p.board 0 (by decide),p.board _ (by omega)⟩) (p0.below h p0.lt)))
 have hR:Below X.heap.size X X:=bR
 obtain ⟨i0,r0,c78,c0,ca⟩:=HG.out _ hR
 have HX:=hI hX
 have HP:=hI p0
 clear hX p0
 generalize n (1+a.toNat)=x at *
 generalize isB (n (1+b.toNat))=ib at *
 by_cases hab:a=b
 · have HD := hideIt (HD.out.trans (if_pos hab))
   have ea:(a==b)=true:=beq_iff_eq.2 hab
   clear hab
   go_enter Tryz.func160,Tryz.ntmps160
   go_wp2_with (first | rw [HX.out])
   go_ret
   exact ⟨rB HD.out.symm,hb.trans (hR.mono hb.size)⟩
 have HD:=hI (HD.out.trans (if_neg hab))
 have ea:(a==b)=false:=beq_eq_false_iff_ne.2 hab
 clear hab
 cases hoa:ownP n a t with
 | false =>
   rw [hoa] at HD HOA
   have HD:=hI (HD.out.trans (if_pos rfl))
   clear hoa
   go_enter Tryz.func160,Tryz.ntmps160
   go_wp2_with (first | rw [HX.out] | (go_at_call_of 129 (Value.int IntKind.i64 a);refine (HOA.out _).mono ?_;rintro e w2 ⟨rfl,h1⟩;have hR:=bT hR h1;clear h1;obtain ⟨i0,r0,c78,c0,ca⟩:=HG.out _ hR) | (go_at_call_of 129 (Value.int IntKind.i64 b);refine (HOB.out _).mono ?_;rintro e w2 ⟨rfl,h1⟩;have hR:=bT hR h1;clear h1;obtain ⟨i0,r0,c78,c0,ca⟩:=HG.out _ hR))
   go_ret
   exact ⟨rB HD.out.symm,hb.trans (hR.mono hb.size)⟩
 | true =>
 rw [hoa] at HD HOA
 have HD:=hI (HD.out.trans (if_neg (by decide)))
 clear hoa
 cases hob:ownP n b t with
 | true =>
   rw [hob] at HD HOB
   have HD:=hI (HD.out.trans (if_pos rfl))
   clear hob
   go_enter Tryz.func160,Tryz.ntmps160
   go_wp2_with (first | rw [HX.out] | (go_at_call_of 129 (Value.int IntKind.i64 a);refine (HOA.out _).mono ?_;rintro e w2 ⟨rfl,h1⟩;have hR:=bT hR h1;clear h1;obtain ⟨i0,r0,c78,c0,ca⟩:=HG.out _ hR) | (go_at_call_of 129 (Value.int IntKind.i64 b);refine (HOB.out _).mono ?_;rintro e w2 ⟨rfl,h1⟩;have hR:=bT hR h1;clear h1;obtain ⟨i0,r0,c78,c0,ca⟩:=HG.out _ hR))
   go_ret
   exact ⟨rB HD.out.symm,hb.trans (hR.mono hb.size)⟩
 | false =>
 rw [hob] at HD HOB
 have HD:=hI (HD.out.trans (if_neg (by decide)))
 clear hob
 have hkb:=knd_bd x
 obtain ⟨kb0,kb6⟩:=hkb
 obtain ⟨k,hk⟩:∃ k,kndI x=k:=⟨_,rfl⟩
 rw [hk] at HD HKD kb0 kb6
 clear hk
 by_cases h1:k=1
 · have HD := hideIt (HD.out.trans (if_pos h1))
   subst h1
   go_enter Tryz.func160,Tryz.ntmps160
   go_wp2_with (first | rw [HX.out] | (go_at_call_of 129 (Value.int IntKind.i64 a);refine (HOA.out _).mono ?_;rintro e w2 ⟨rfl,h1⟩;have hR:=bT hR h1;clear h1;obtain ⟨i0,r0,c78,c0,ca⟩:=HG.out _ hR) | (go_at_call_of 129 (Value.int IntKind.i64 b);refine (HOB.out _).mono ?_;rintro e w2 ⟨rfl,h1⟩;have hR:=bT hR h1;clear h1;obtain ⟨i0,r0,c78,c0,ca⟩:=HG.out _ hR) | (go_at_call 63;refine (HKD.out _).mono ?_;rintro e w2 ⟨rfl,rfl⟩) | (go_at_call 197;refine (HPW.out _).mono ?_;rintro e w2 ⟨rfl,h1⟩;have hR:=bT hR h1;clear h1;obtain ⟨i0,r0,c78,c0,ca⟩:=HG.out _ hR))
   go_ret
   exact ⟨rB (by rw [HD.out];try rfl),hb.trans (hR.mono hb.size)⟩
 have HD:=hI (HD.out.trans (if_neg h1))
 have e1:(k==1)=false:=beq_eq_false_iff_ne.2 h1
 by_cases h6:k=6
 · have HD := hideIt (HD.out.trans (if_pos h6))
   subst h6
   clear h1 e1
   cases hh:hitI x a b (allN n) with
   | false =>
     rw [hh] at HD HHIT
     clear hh
     go_enter Tryz.func160,Tryz.ntmps160
     go_wp2_with (first | rw [HX.out] | (go_at_call_of 129 (Value.int IntKind.i64 a);refine (HOA.out _).mono ?_;rintro e w2 ⟨rfl,h1⟩;have hR:=bT hR h1;clear h1;obtain ⟨i0,r0,c78,c0,ca⟩:=HG.out _ hR) | (go_at_call_of 129 (Value.int IntKind.i64 b);refine (HOB.out _).mono ?_;rintro e w2 ⟨rfl,h1⟩;have hR:=bT hR h1;clear h1;obtain ⟨i0,r0,c78,c0,ca⟩:=HG.out _ hR) | (go_at_call 63;refine (HKD.out _).mono ?_;rintro e w2 ⟨rfl,rfl⟩) | (go_at_call 132;refine (HHIT.out _).mono ?_;rintro e w2 ⟨rfl,h1⟩;have hR:=bT hR h1;clear h1;obtain ⟨i0,r0,c78,c0,ca⟩:=HG.out _ hR))
     go_ret
     exact ⟨rB (by rw [HD.out];try rfl),hb.trans (hR.mono hb.size)⟩
   | true =>
     rw [hh] at HD HHIT
     clear hh
     cases hv:(n 0==3) with
     | false =>
       rw [hv] at HD
       have hv2:(n 0 != 3)=true:=by rw [bne,hv];rfl
       go_enter Tryz.func160,Tryz.ntmps160
       go_wp2_with (first | rw [HX.out] | (go_at_call_of 129 (Value.int IntKind.i64 a);refine (HOA.out _).mono ?_;rintro e w2 ⟨rfl,h1⟩;have hR:=bT hR h1;clear h1;obtain ⟨i0,r0,c78,c0,ca⟩:=HG.out _ hR) | (go_at_call_of 129 (Value.int IntKind.i64 b);refine (HOB.out _).mono ?_;rintro e w2 ⟨rfl,h1⟩;have hR:=bT hR h1;clear h1;obtain ⟨i0,r0,c78,c0,ca⟩:=HG.out _ hR) | (go_at_call 63;refine (HKD.out _).mono ?_;rintro e w2 ⟨rfl,rfl⟩) | (go_at_call 132;refine (HHIT.out _).mono ?_;rintro e w2 ⟨rfl,h1⟩;have hR:=bT hR h1;clear h1;obtain ⟨i0,r0,c78,c0,ca⟩:=HG.out _ hR))
       go_ret
       exact ⟨rB (by rw [HD.out];try rfl),hb.trans (hR.mono hb.size)⟩
     | true =>
       rw [hv] at HD
       have hv2:(n 0 != 3)=false:=by rw [bne,hv];rfl
       go_enter Tryz.func160,Tryz.ntmps160
       go_wp2_with (first | rw [HX.out] | (go_at_call_of 129 (Value.int IntKind.i64 a);refine (HOA.out _).mono ?_;rintro e w2 ⟨rfl,h1⟩;have hR:=bT hR h1;clear h1;obtain ⟨i0,r0,c78,c0,ca⟩:=HG.out _ hR) | (go_at_call_of 129 (Value.int IntKind.i64 b);refine (HOB.out _).mono ?_;rintro e w2 ⟨rfl,h1⟩;have hR:=bT hR h1;clear h1;obtain ⟨i0,r0,c78,c0,ca⟩:=HG.out _ hR) | (go_at_call 63;refine (HKD.out _).mono ?_;rintro e w2 ⟨rfl,rfl⟩) | (go_at_call 132;refine (HHIT.out _).mono ?_;rintro e w2 ⟨rfl,h1⟩;have hR:=bT hR h1;clear h1;obtain ⟨i0,r0,c78,c0,ca⟩:=HG.out _ hR) | (go_at_call 142;refine (HEB.out _).mono ?_;rintro e w2 ⟨rfl,h1⟩;have hR:=bT hR h1;clear h1;obtain ⟨i0,r0,c78,c0,ca⟩:=HG.out _ hR))
       go_ret
       exact ⟨rB (by rw [HD.out];try rfl),hb.trans (hR.mono hb.size)⟩
 have HD:=hI (HD.out.trans (if_neg h6))
 have e6:(k==6)=false:=beq_eq_false_iff_ne.2 h6
 clear h1 h6
 go_enter Tryz.func160,Tryz.ntmps160
 go_wp2_with (first | rw [HX.out] | (go_at_call_of 129 (Value.int IntKind.i64 a);refine (HOA.out _).mono ?_;rintro e w2 ⟨rfl,h1⟩;have hR:=bT hR h1;clear h1;obtain ⟨i0,r0,c78,c0,ca⟩:=HG.out _ hR) | (go_at_call_of 129 (Value.int IntKind.i64 b);refine (HOB.out _).mono ?_;rintro e w2 ⟨rfl,h1⟩;have hR:=bT hR h1;clear h1;obtain ⟨i0,r0,c78,c0,ca⟩:=HG.out _ hR) | (go_at_call 63;refine (HKD.out _).mono ?_;rintro e w2 ⟨rfl,rfl⟩) | (go_at_call 132;refine (HHIT.out _).mono ?_;rintro e w2 ⟨rfl,h1⟩;have hR:=bT hR h1;clear h1;obtain ⟨i0,r0,c78,c0,ca⟩:=HG.out _ hR))
 go_ret
 exact ⟨rB (by rw [HD.out];try rfl),hb.trans (hR.mono hb.size)⟩
theorem pseudo_ok (n:Nat→Int) (ht:n 78=0∨n 78=1):∀ m∈pseudoL n,m.Ok:=fun m hm=>mv_ok ((mem_pseudo n ht m).1 hm)
theorem pow_has (b:BitVec 64) (s:Int) (s0:0≤s) (s1:s<64):(bits .and .u64 (u b) (u (oneB s)) != 0)=hasB b s:=by
 rw [bits_and_u,nz_u]
 rw [Bool.eq_iff_iff,Bool.not_eq_true',beq_eq_false_iff_ne]
 constructor
 · intro h
   cases hh:hasB b s with
   | true=>rfl
   | false =>
     refine absurd (ext_has (fun k hk=>?_)) h
     rw [has_and,has_one,has_zero]
     by_cases e:(k:Int)=s
     · rw [e,hh];rfl
     · rw [decide_eq_false (by omega),Bool.and_false]
 · intro h e
   have:=congrArg (fun x=>hasB x s) e
   rw [has_and,has_one,has_zero,h,decide_eq_true (by omega)] at this
   cases this
theorem is_sq {n:Nat→Int} {m:Mv} (h:isP n m=true):(0≤m.f∧m.f<64)∧(0≤m.t∧m.t<64):=by
 unfold isP at h
 simp only [Bool.and_eq_true,Bool.not_eq_true',beq_iff_eq,decide_eq_true_iff] at h
 obtain ⟨⟨⟨⟨⟨h1,h2⟩,sa⟩,sb⟩,h5⟩,h6⟩:=h
 exact ⟨sa,sb⟩
theorem taken_any (n:Nat→Int) (hn:PosOk n) (t:Int) (ht:n 78=t) (h01:t=0∨t=1) (hv:n 0<9) (m:Mv) (hm:m.Ok) (w:World) (hT:Tab w) :
 Calls Tryz.prog 33 #[.agg (posA n),.agg #[.int .i8 m.f,.int .i8 m.t,.int .u8 m.p,.int .u8 m.d,.bool m.c]] w fun e w' => e = .returned (.int .i64 (takenN n m))∧Below w.heap.size w w' := by
 obtain ⟨X0,hX0⟩:∃ X0,w.alloc (.cells (posA n) 31)=X0:=⟨_,rfl⟩
 obtain ⟨p0,hb0⟩:=box1 w n X0 hX0
 obtain ⟨X,hX⟩:∃ X,X0.alloc (.cells #[.int .i8 m.f,.int .i8 m.t,.int .u8 m.p,.int .u8 m.d,.bool m.c] 49)=X:=⟨_,rfl⟩
 obtain ⟨q0,hb1⟩:=mvBox_at hX
 have hXs:X0.heap.size=w.heap.size+1:=by rw [← hX0];simp
 have p1:=p0.below hb1 p0.lt
 have hb:=hb0.trans (hb1.mono hb0.size)
 rw [hXs] at q0
 have HWHO:=hI (who_any n hn t ht h01 hv)
 have HPL:=hI (fun w hT=>plist_any n hn t ht h01 hv w hT)
 have HT:=hI (hT.below hb lR)
 have HP:=hI p1
 have HQ:=hI q0
 have HX0:=hI hX0
 have HX:=hI hX
 have HMEM:=hI (mem_pseudo n (by omega) m)
 have HOK:=hI (pseudo_ok n (by omega))
 have HLEN:=hI (pseudo_len n)
 have HTK:=hI (show takenN n m=if isP n m=true then takenG n m else -1 from rfl)
 have HTG:=hI (show takenG n m=if hasB (othB n) m.t=true then m.t else if kndI (n (1+m.f.toNat))=1∧m.f % 8≠m.t % 8 then aheadC (1 - t) m.t else -1 by unfold takenG;rw [ht])
 have HSQ:=hI (@is_sq n m)
 have hR:Below X.heap.size X X:=bR
 have HG:=hI (fun (W:World) (h:Below X.heap.size X W)=>(show (IsPos W w.heap.size∧rowOf W w.heap.size=posA n)∧W.cell? ⟨w.heap.size,78,none⟩=some (.int .u8 t)∧(W.cell? ⟨w.heap.size+1,0,none⟩=some (.int .i8 m.f)∧W.cell? ⟨w.heap.size+1,1,none⟩=some (.int .i8 m.t)∧W.cell? ⟨w.heap.size+1,2,none⟩=some (.int .u8 m.p)∧W.cell? ⟨w.heap.size+1,3,none⟩=some (.int .u8 m.d)∧W.cell? ⟨w.heap.size+1,4,none⟩=some (.bool m.c))∧PosAt W w.heap.size n from (fun p=>⟨p.rules,by rw [← ht];exact p.cell 78 (by decide),mv_cell ((h.block _ (Array.getElem?_eq_some_iff.1 q0).1).trans q0),p⟩) (p1.below h p1.lt)))
 have HGB:=hI (fun (W:World) (h:Below X.heap.size X W)=>(show ((IsPos W w.heap.size∧rowOf W w.heap.size=posA n)∧(W.cell? ⟨w.heap.size+1,0,none⟩=some (.int .i8 m.f)∧W.cell? ⟨w.heap.size+1,1,none⟩=some (.int .i8 m.t)∧W.cell? ⟨w.heap.size+1,2,none⟩=some (.int .u8 m.p)∧W.cell? ⟨w.heap.size+1,3,none⟩=some (.int .u8 m.d)∧W.cell? ⟨w.heap.size+1,4,none⟩=some (.bool m.c)))∧Below X.heap.size X W from ⟨⟨(p1.below h p1.lt).rules,mv_cell ((h.block _ (Array.getElem?_eq_some_iff.1 q0).1).trans q0)⟩,h⟩))
 have HM:=hI hm
 have HB:=hI hb
 have HXS:=hI hXs
 clear hm hX0 hX q0 p0 p1 hb0 hb1 hT hb hXs
 obtain ⟨⟨i0,r0⟩,c78,⟨m0,m1,m2,m3,m4⟩,_⟩:=HG.out _ hR
 go_enter Tryz.func33,Tryz.ntmps33
 go_wp2_with (first | rw [HX0.out] | rw [HX.out])
 rw [HXS.out]
 refine (HWHO.out _).mono ?_
 rintro e w1 ⟨rfl,h1⟩
 have hR:=bT hR h1
 clear h1 i0 r0 c78 m0 m1 m2 m3 m4
 have zs:=zSide
 obtain ⟨Y0,hY0⟩:∃ Y0,w1.alloc (.cells (sideA zeroN 0#64 0#64) 111)=Y0:=⟨_,rfl⟩
 obtain ⟨pY0,hbY0⟩:=sideBox w1 zeroN _ _ Y0 hY0
 have st:=run_storeSide (n:=n) (a:=ownB n) (b:=othB n) pY0 (sideA_size _ _ _)
 obtain ⟨Y,hY⟩:∃ Y,Y0.setRow w1.heap.size (sideA n (ownB n) (othB n))=Y:=⟨_,rfl⟩
 have pY:SideAt Y w1.heap.size n (ownB n) (othB n):=by rw [← hY];exact pY0.setRow _ _ _
 have hbY:Below w1.heap.size w1 Y:=by rw [← hY];exact below_setRow hbY0 lR _
 have hR:=bT hR hbY
 have HY0:=hI hY0
 have HY:=hI hY
 have HPY:=hI pY
 clear hY hY0 pY0 hbY0 pY hbY
 go_wp2_with (first | rw [HY0.out] | rw [HY.out])
 refine wp_region_held_drew (S:=(fun W=>((IsPos W w.heap.size∧rowOf W w.heap.size=posA n)∧(W.cell? ⟨w.heap.size+1,0,none⟩=some (.int .i8 m.f)∧W.cell? ⟨w.heap.size+1,1,none⟩=some (.int .i8 m.t)∧W.cell? ⟨w.heap.size+1,2,none⟩=some (.int .u8 m.p)∧W.cell? ⟨w.heap.size+1,3,none⟩=some (.int .u8 m.d)∧W.cell? ⟨w.heap.size+1,4,none⟩=some (.bool m.c)))∧Below X.heap.size X W)) (by kernel_rfl) ?_ (fun hHeld=>?_)
 · (try dsimp only);(refine HGB.out _ ?_;repeat (first | exact bR | assumption | refine bD ?_ | refine bT ?_ (by assumption)))
 refine wpAnyH_take (i:=0) (oi:={ dst:=some 13,op:=Op.move (Operand.tmp 6),type:=4,pos := "pseudo.go:143",after:=#[],guard:=none }) (v:=?_) rfl (by kernel_rfl) (by kernel_rfl) (by kernel_rfl) (fun _ _ _ h=>h) (Or.inl ⟨by rfl,?_⟩) (by assumption) ?_
 rotate_left
 · (intro w hSw;(try dsimp only at hSw);go_simp;try (with_reducible rfl))
 try simp only [Act.put,lA,lB,lC]
 refine wpAnyH_take (i:=1) (oi:={ dst:=some 14,op:=Op.unOp UnOp.not 4 (Operand.tmp 13),type:=4,pos := "pseudo.go:143",after:=#[{ on:=0,ground:=Ground.data }],guard:=none }) (v:=?_) rfl (by kernel_rfl) (by kernel_rfl) (by kernel_rfl) (fun _ _ _ h=>h) (Or.inl ⟨by rfl,?_⟩) (by assumption) ?_
 rotate_left
 · (intro w hSw;(try dsimp only at hSw);go_simp;try (with_reducible rfl))
 try simp only [Act.put,lA,lB,lC]
 refine wpAnyH_take (i:=2) (oi:={ dst:=some 15,op:=Op.move (Operand.tmp 14),type:=4,pos := "pseudo.go:143",after:=#[{ on:=1,ground:=Ground.data }],guard:=none }) (v:=?_) rfl (by kernel_rfl) (by kernel_rfl) (by kernel_rfl) (fun _ _ _ h=>h) (Or.inl ⟨by rfl,?_⟩) (by assumption) ?_
 rotate_left
 · (intro w hSw;(try dsimp only at hSw);go_simp;try (with_reducible rfl))
 try simp only [Act.put,lA,lB,lC]
 refine wpAnyH_take (i:=3) (oi:={ dst:=some 16,op:=Op.load 31 (Operand.tmp 2),type:=31,pos := "pseudo.go:143",after:=#[{ on:=2,ground:=Ground.guard }],guard:=some (2,false) }) (v:=?_) rfl (by kernel_rfl) (by kernel_rfl) (by kernel_rfl) (fun _ _ _ h=>h) (Or.inl ⟨by rfl,?_⟩) (by assumption) ?_
 rotate_left
 · (intro w hSw;(try dsimp only at hSw);go_simp;try (with_reducible rfl))
 try simp only [Act.put,lA,lB,lC]
 refine wpAnyH_take (i:=5) (oi:={ dst:=some 18,op:=Op.load 49 (Operand.tmp 3),type:=49,pos := "pseudo.go:143",after:=#[{ on:=2,ground:=Ground.guard }],guard:=some (2,false) }) (v:=?_) rfl (by kernel_rfl) (by kernel_rfl) (by kernel_rfl) (fun _ _ _ h=>h) (Or.inl ⟨by rfl,?_⟩) (by assumption) ?_
 rotate_left
 · (intro w hSw;(try dsimp only at hSw);go_simp;try (with_reducible rfl))
 try simp only [Act.put,lA,lB,lC]
 refine wpAnyH_ready (rs:=[4]) (by kernel_rfl) (by simp) ?_
 refine AllReadyH.cons (o:={ dst:=some 17,op:=Op.call { callee:=Callee.value (Operand.func 83),args:=#[Operand.tmp 16],argTypes:=#[31] },type:=41,pos := "pseudo.go:143",after:=#[{ on:=3,ground:=Ground.data },{ on:=2,ground:=Ground.chain },{ on:=2,ground:=Ground.guard }],guard:=some (2,false) }) rfl (fun K hK=>?_) AllReadyH.nil
 go_simp
 refine (HPL.out _ (HT.out.below (And.right ‹((IsPos _ _∧_)∧_)∧_›) lR)).mono ?_
 rintro e wa ⟨pv,rfl,hown,hba⟩
 refine hK.out _ _ ?_ (fun hHeld=>?_)
 · (try dsimp only);(refine HGB.out _ ?_;repeat (first | exact bR | assumption | refine bD ?_ | refine bT ?_ (by assumption)))
 clear hK K
 try simp only [Act.put,lA,lB,lC]
 refine wpAnyH_ready (rs:=[6]) (by kernel_rfl) (by simp) ?_
 refine AllReadyH.cons (o:={ dst:=some 19,op:=Op.call { callee:=Callee.value (Operand.func 31),args:=#[Operand.tmp 17,Operand.tmp 18],argTypes:=#[41,49] },type:=4,pos := "pseudo.go:143",after:=#[{ on:=4,ground:=Ground.data },{ on:=5,ground:=Ground.data },{ on:=4,ground:=Ground.chain },{ on:=2,ground:=Ground.guard }],guard:=some (2,false) }) rfl (fun K hK=>?_) AllReadyH.nil
 go_simp
 refine (contains_any (pseudoL n) HOK.out (Nat.le_trans HLEN.out (by decide)) m HM.out _ _ pv hown).mono ?_
 rintro e wb ⟨rfl,hbb⟩
 refine hK.out _ _ ?_ (fun hHeld=>?_)
 · (try dsimp only);(refine HGB.out _ ?_;repeat (first | exact bR | assumption | refine bD ?_ | refine bT ?_ (by assumption)))
 clear hK K
 try simp only [Act.put,lA,lB,lC]
 refine wpAnyH_take (i:=7) (oi:={ dst:=some 20,op:=Op.unOp UnOp.not 4 (Operand.tmp 19),type:=4,pos := "pseudo.go:143",after:=#[{ on:=6,ground:=Ground.data },{ on:=2,ground:=Ground.guard }],guard:=some (2,false) }) (v:=?_) rfl (by kernel_rfl) (by kernel_rfl) (by kernel_rfl) (fun _ _ _ h=>h) (Or.inl ⟨by rfl,?_⟩) (by assumption) ?_
 rotate_left
 · (intro w hSw;(try dsimp only at hSw);go_simp;try (with_reducible rfl))
 try simp only [Act.put,lA,lB,lC]
 refine wpAnyH_take (i:=8) (oi:={ dst:=some 21,op:=Op.pick (Operand.tmp 15) (Operand.const (Value.bool true)) (Operand.tmp 20),type:=4,pos := "pseudo.go:143",after:=#[{ on:=2,ground:=Ground.data },{ on:=7,ground:=Ground.data }],guard:=none }) (v:=?_) rfl (by kernel_rfl) (by kernel_rfl) (by kernel_rfl) (fun _ _ _ h=>h) (Or.inl ⟨by rfl,?_⟩) (by assumption) ?_
 rotate_left
 · (intro w hSw;(try dsimp only at hSw);go_simp;try (with_reducible rfl))
 try simp only [Act.put,lA,lB,lC]
 refine wpAnyH_done (by kernel_rfl) ?_ _
 have hRb:=bT (bT (bD hR) hba) hbb
 have pYb:=HPY.out.below (bT (bT (bD bR) hba) hbb) HPY.out.lt
 obtain ⟨⟨i0,r0⟩,c78,⟨m0,m1,m2,m3,m4⟩,pb⟩:=HG.out _ hRb
 have HRB:=hI (HB.out.trans (hRb.mono HB.out.size))
 have HPB:=hI pb
 have k89:=pYb.oth
 have HMEM:=hI (show decide (m∈pseudoL n)=isP n m by rw [Bool.eq_iff_iff,decide_eq_true_iff];exact HMEM.out)
 rw [HMEM.out]
 clear hR hRb pb pYb hown hba hbb
 cases hP:isP n m with
 | false =>
   have HTK:=hI (HTK.out.trans (if_neg (by rw [hP];decide)))
   clear hP
   go_wp2
   go_ret
   exact ⟨ret_int HTK.out.symm,HRB.out⟩
 | true =>
   have HTK:=hI ((HTK.out.trans (if_pos hP)).trans HTG.out)
   obtain ⟨⟨f0,f1⟩,⟨t0,t1⟩⟩:=HSQ.out hP
   have cs:=HPB.out.board (1+m.f.toNat) (by omega)
   obtain ⟨v0,v1⟩:=hn.u8 (1+m.f.toNat) (by omega) (kB (by omega))
   have HKD:=hI (kind_any _ v0 v1)
   have hw:=pow_oneB m.t t0 t1
   have hph:(u (othB n&&&oneB m.t) != 0)=hasB (othB n) m.t:=by rw [← pow_has (othB n) m.t t0 t1,bits_and_u]
   have HAH:=hI (ahead_any (1 - t) m.t (by omega) t0 t1)
   generalize n (1+m.f.toNat)=x at *
   clear hP
   cases ho:hasB (othB n) m.t with
   | true =>
     rw [ho] at hph
     have HTK:=hI (HTK.out.trans (if_pos ho))
     clear ho
     go_wp2
     go_ret
     exact ⟨ret_int HTK.out.symm,HRB.out⟩
   | false =>
     rw [ho] at hph
     have HTK:=hI (HTK.out.trans (if_neg (by rw [ho];decide)))
     clear ho
     by_cases hk:kndI x=1
     · rw [hk] at HKD
       have W1:IntKind.u8.wrap (1 - t)=1 - t:=IntWalk.u8_in _ (by omega)
       by_cases hf:m.f % 8=m.t % 8
       · have HTK := hideIt (HTK.out.trans (if_neg (fun h => h.2 hf)))
         clear hk
         go_wp2_with ((go_at_call 87;refine (HKD.out _).mono ?_;rintro e w2 ⟨rfl,rfl⟩))
         go_ret
         exact ⟨ret_int HTK.out.symm,HRB.out⟩
       · have HTK := hideIt (HTK.out.trans (if_pos ⟨hk, hf⟩))
         clear hk
         go_wp2_with (first | (go_at_call 87;refine (HKD.out _).mono ?_;rintro e w2 ⟨rfl,rfl⟩) | (go_at_call 88;refine (HAH.out _).mono ?_;rintro e w2 ⟨rfl,rfl⟩))
         go_ret
         exact ⟨ret_int HTK.out.symm,HRB.out⟩
     · have HTK := hideIt (HTK.out.trans (if_neg (fun h => hk h.1)))
       have e1:(kndI x==1)=false:=beq_eq_false_iff_ne.2 hk
       clear hk
       go_wp2_with ((go_at_call 87;refine (HKD.out _).mono ?_;rintro e w2 ⟨rfl,rfl⟩))
       go_ret
       exact ⟨ret_int HTK.out.symm,HRB.out⟩
theorem takes_any (n:Nat→Int) (hn:PosOk n) (t:Int) (ht:n 78=t) (h01:t=0∨t=1) (hv:n 0<9) (m:Mv) (hm:m.Ok) (w:World) (hT:Tab w) :
 Calls Tryz.prog 75 #[.agg (posA n),.agg #[.int .i8 m.f,.int .i8 m.t,.int .u8 m.p,.int .u8 m.d,.bool m.c]] w fun e w' => e = .returned (.bool (decide (0≤takenN n m)))∧Below w.heap.size w w' := by
 obtain ⟨X0,hX0⟩:∃ X0,w.alloc (.cells (posA n) 31)=X0:=⟨_,rfl⟩
 obtain ⟨p0,hb0⟩:=box1 w n X0 hX0
 obtain ⟨X,hX⟩:∃ X,X0.alloc (.cells #[.int .i8 m.f,.int .i8 m.t,.int .u8 m.p,.int .u8 m.d,.bool m.c] 49)=X:=⟨_,rfl⟩
 obtain ⟨q0,hb1⟩:=mvBox_at hX
 have hXs:X0.heap.size=w.heap.size+1:=by rw [← hX0];simp
 obtain ⟨i0,r0⟩:=(p0.below hb1 p0.lt).rules
 have hb:=hb0.trans (hb1.mono hb0.size)
 rw [hXs] at q0
 obtain ⟨m0,m1,m2,m3,m4⟩:=mv_cell q0
 have HTK:=hI (taken_any n hn t ht h01 hv m hm X (hT.below hb lR))
 have HX0:=hI hX0
 have HX:=hI hX
 have HXS:=hI hXs
 clear hX0 hX q0 p0 hb0 hb1 hT hXs
 go_enter Tryz.func75,Tryz.ntmps75
 go_wp2_with (first | rw [HX0.out] | (rw [HX.out];try rw [HXS.out]))
 refine HTK.out.mono ?_
 rintro e Y ⟨rfl,h1⟩
 have hb:=hb.trans (h1.mono hb.size)
 clear h1 i0 r0 m0 m1 m2 m3 m4
 go_wp2
 go_ret
 exact ⟨rfl,hb⟩
theorem has13_any (l:List Mv) (hok:∀ m∈l,m.Ok) (hlen:l.length≤1000000) (m:Mv) (hm:m.Ok) (w:World) (B:Nat) (v:Value) (h:OwnsM w B v l) :
 Calls Tryz.prog 41 #[v,.agg #[.int .i8 m.f,.int .i8 m.t,.int .u8 m.p,.int .u8 m.d,.bool m.c]] w fun e w' => e = .returned (.bool (decide (m∈l)))∧Below w.heap.size w w' := by
 obtain ⟨a,c,rfl,hc⟩:=moves_slice h
 obtain ⟨X,hX⟩:∃ X,w.alloc (.cells #[.int .i8 m.f,.int .i8 m.t,.int .u8 m.p,.int .u8 m.d,.bool m.c] 49)=X:=⟨_,rfl⟩
 obtain ⟨q0,hb⟩:=mvBox_at hX
 have HC:=hI hc
 have HOK:=hI hok
 have HX:=hI hX
 have HQ:=hI q0
 have HB:=hI hb
 have HM:=hI hm
 obtain ⟨n,hn⟩:∃ n,l.length=n:=⟨_,rfl⟩
 have HN:=hI hn
 rw [hn] at hlen ⊢
 clear hc hok hX q0 hb hn h
 go_enter Tryz.func41,Tryz.ntmps41
 go_wp2_with (first | rw [HX.out])
 go_loopw [5] (fun i wr=>∃ k:Nat,k≤n∧i=.int .i64 k∧m ∉ l.take k∧Below X.heap.size X wr) (fun i _=>n - (intOf i).toNat)
 case atStart=>exact ⟨0,by omega,rfl,by simp,bR⟩
 case round =>
  obtain ⟨k,hk,rfl,hnm,hr⟩:=hrel
  by_cases hlt:k<n
  · have hkl : k < l.length := by rw [HN.out]; exact hlt
    obtain ⟨g,rfl,_,hgl,p0,p1,p2,p3,p4⟩:=HC.out k hkl
    have hmk:=HOK.out l[k] (List.getElem_mem hkl)
    have HNM:=hI (not_mem_take hkl hnm)
    have HMEM:=hI (List.getElem_mem hkl)
    generalize l[k]=z at p0 p1 p2 p3 p4 hmk HNM HMEM
    have hwx:Below w.heap.size w wr:=HB.out.trans (hr.mono HB.out.size)
    have p0:=(hwx.cell (p:=⟨g,k*5,none⟩) hgl).trans p0
    have p1:=(hwx.cell (p:=⟨g,k*5+1,none⟩) hgl).trans p1
    have p2:=(hwx.cell (p:=⟨g,k*5+2,none⟩) hgl).trans p2
    have p3:=(hwx.cell (p:=⟨g,k*5+3,none⟩) hgl).trans p3
    have p4:=(hwx.cell (p:=⟨g,k*5+4,none⟩) hgl).trans p4
    obtain ⟨q0,q1,q2,q3,q4⟩:=mv_cell ((hr.block _ (Array.getElem?_eq_some_iff.1 HQ.out).1).trans HQ.out)
    have ne:=eql_mvc z m hmk HM.out
    have i0:(0:Int)≤(k:Int):=by omega
    have i1:(k:Int)<(n:Int):=by omega
    by_cases he:z=m
    · rw [decide_eq_true he] at ne
      have HE:=hI he
      clear hmk hkl he hnm
      go_wp2
      go_quiet (fail)
      go_wp2
      go_ret
      exact ⟨rB (by rw [decide_eq_true (by rw [← HE.out];exact HMEM.out)]),hwx.trans ((blN15 _ _).mono hwx.size)⟩
    · rw [decide_eq_false he] at ne
      have HNM:=hI (HNM.out (fun e=>he e.symm))
      clear hmk hkl he hnm
      go_wp2
      go_quiet (fail)
      go_wp2
      go_roundw
      case rel=>exact ⟨k+1,by omega,by go_num,HNM.out,hr.trans ((blN15 _ _).mono hr.size)⟩
      case measure=>simp [intOf];omega
  · obtain rfl : k = n := by omega
    have HE:=hI (show m ∉ l by rw [← HN.out,List.take_length] at hnm;exact hnm)
    clear hnm
    go_wp2
    go_ret
    exact ⟨rB (by rw [decide_eq_false HE.out]),HB.out.trans (hr.mono HB.out.size)⟩
theorem owns_sliceU {w:World} {B:Nat} {v:Value} {l:List Int} (h:OwnsU w B v l):∃ a c,v=.slice a l.length c∧(∀ k (hk:k<l.length),∃ g,a=some ⟨g,0,none⟩∧B≤g∧g<w.heap.size∧(∃ cs m,w.heap[g]?=some (.cells cs 5 m))∧w.cell? ⟨g,k,none⟩=some (.int .u8 (l[k]))):=by
 rcases h.form with ⟨hl,a,c,rfl⟩ | ⟨g,c,rfl,hg,hgl,hne,hcell,_⟩
 · subst hl;exact ⟨a,c,rfl,fun k hk=>absurd hk (Nat.not_lt_zero k)⟩
 · exact ⟨_,c,rfl,fun k hk=>⟨g,rfl,hg,hgl,ownsU_type h,hcell k hk⟩⟩
theorem not_mem_takeI {l:List Int} {m:Int} {k:Nat} (hk:k<l.length) (h:m ∉ l.take k) (hne:l[k]≠m):m ∉ l.take (k+1):=by
 rw [List.take_succ_eq_append_getElem hk,List.mem_append,List.mem_singleton]
 rintro (h2 | h2)
 · exact h h2
 · exact hne h2.symm
theorem contains_dec (l:List Int) (x:Int):l.contains x=decide (x∈l):=by rw [Bool.eq_iff_iff,List.contains_iff_mem,decide_eq_true_iff]
theorem prom13_any (v:Nat) (hv:v≤255) (x:Int) (w:World):Calls Tryz.prog 184 #[.int .u8 (v:Int),.int .u8 x] w fun e w' => e = .returned (.bool (decide (x∈promL v)))∧Below w.heap.size w w' := by
 have HP:=hI (rpromotes_any v hv)
 have hlen : (promL v).length ≤ 5 := by unfold promL; split; · decide
                                        · split <;> decide
 go_enter Tryz.func184,Tryz.ntmps184
 go_wp2_with (go_at_call 162;refine (HP.out _).mono ?_;rintro e w1 ⟨pv,rfl,hown,hb⟩)
 obtain ⟨a,c,rfl,hc⟩:=owns_sliceU hown
 have HCC:=hI hc
 have HB:=hI hb
 generalize hL:promL v=l at *
 have HL:=hI hL
 obtain ⟨n,hn⟩:∃ n,l.length=n:=⟨_,rfl⟩
 have HN:=hI hn
 rw [hn] at hlen ⊢
 clear hown hc hb hL hn
 go_wp2
 go_loopw [6] (fun i wr=>∃ k:Nat,k≤n∧i=.int .i64 k∧x ∉ l.take k∧wr=w1) (fun i _=>n - (intOf i).toNat)
 case atStart=>exact ⟨0,by omega,rfl,by simp,rfl⟩
 case round =>
  obtain ⟨k,hk,rfl,hnm,rfl⟩:=hrel
  by_cases hlt:k<n
  · have hkl : k < l.length := by rw [HN.out]; exact hlt
    obtain ⟨g,rfl,_,_,_,p0⟩:=HCC.out k hkl
    have HNM:=hI (not_mem_takeI hkl hnm)
    have HMEM:=hI (List.getElem_mem hkl)
    generalize l[k]=z at p0 HNM HMEM
    by_cases he:z=x
    · have HE := hideIt he
      have e1:(z==x)=true:=beq_iff_eq.2 he
      clear hkl he hnm
      go_wp2
      go_ret
      exact ⟨rB (by rw [HL.out];exact (decide_eq_true (by rw [← HE.out];exact HMEM.out)).symm),HB.out⟩
    · have HNM := hideIt (HNM.out he)
      have e1:(z==x)=false:=beq_eq_false_iff_ne.2 he
      clear hkl he hnm
      go_wp2
      go_roundw
      case rel=>exact ⟨k+1,by omega,by go_num,HNM.out,trivial⟩
      case measure=>simp [intOf];omega
  · obtain rfl : k = n := by omega
    have HE:=hI (show x ∉ l by rw [← HN.out,List.take_length] at hnm;exact hnm)
    clear hnm
    go_wp2
    go_ret
    exact ⟨rB (by rw [HL.out];exact (decide_eq_false HE.out).symm),HB.out⟩
theorem is13_any (n:Nat→Int) (hn:PosOk n) (t:Int) (ht:n 78=t) (h01:t=0∨t=1) (hv:n 0<9) (m:Mv) (hm:m.Ok) (f0:0≤m.f) (f1:m.f<64) (t0:0≤m.t) (t1:m.t<64) (w:World) :
 Calls Tryz.prog 141 #[.agg (posA n),.agg #[.int .i8 m.f,.int .i8 m.t,.int .u8 m.p,.int .u8 m.d,.bool m.c]] w fun e w' => e = .returned (.bool (isP n m))∧Below w.heap.size w w' := by
 obtain ⟨mf,mt,mp,md,mc⟩:=m
 dsimp only at f0 f1 t0 t1 ⊢
 have HD:=hI (show isP n (⟨mf,mt,mp,md,mc⟩:Mv)=(!mc&&(md==0)&&true&&true&&mayP n mf mt&&(if kndI (n (1+mf.toNat))=1∧rankC t mt=7 then decide (mp∈promL (n 0).toNat) else mp==0)) by unfold isP;dsimp only;rw [decide_eq_true (show 0≤mf∧mf<64 from ⟨f0,f1⟩),decide_eq_true (show 0≤mt∧mt<64 from ⟨t0,t1⟩),ht,contains_dec])
 obtain ⟨z0,z1⟩:=hn.u8 0 (by decide) rfl
 have HTH:=hI (there13_any n hn t ht h01 hv)
 have HMY:=hI (may13_any n hn t h01 ht mf mt f0 f1 t0 t1)
 have HRK:=hI (rank13_any t mt h01 t0 t1)
 have HPR:=hI (prom13_any (n 0).toNat (by omega) mp)
 rw [show (((n 0).toNat:Nat):Int)=n 0 by omega] at HPR
 have d1:decide (mf<0)=false:=decide_eq_false (by omega)
 have d2:decide (63<mf)=false:=decide_eq_false (by omega)
 have d3:decide (mt<0)=false:=decide_eq_false (by omega)
 have d4:decide (63<mt)=false:=decide_eq_false (by omega)
 obtain ⟨X0,hX0⟩:∃ X0,w.alloc (.cells (posA n) 31)=X0:=⟨_,rfl⟩
 obtain ⟨p0,hb0⟩:=box1 w n X0 hX0
 obtain ⟨X,hX⟩:∃ X,X0.alloc (.cells #[.int .i8 mf,.int .i8 mt,.int .u8 mp,.int .u8 md,.bool mc] 49)=X:=⟨_,rfl⟩
 obtain ⟨q0,hb1⟩:=mvBox_at (m:=⟨mf,mt,mp,md,mc⟩) hX
 have hXs:X0.heap.size=w.heap.size+1:=by rw [← hX0];simp
 have p1:=p0.below hb1 p0.lt
 have hb:=hb0.trans (hb1.mono hb0.size)
 rw [hXs] at q0
 have hR:Below X.heap.size X X:=bR
 have HG:=hI (fun (W:World) (h:Below X.heap.size X W)=>(show (IsPos W w.heap.size∧rowOf W w.heap.size=posA n)∧W.cell? ⟨w.heap.size,78,none⟩=some (.int .u8 t)∧W.cell? ⟨w.heap.size,0,none⟩=some (.int .u8 (n 0))∧(W.cell? ⟨w.heap.size+1,0,none⟩=some (.int .i8 mf)∧W.cell? ⟨w.heap.size+1,1,none⟩=some (.int .i8 mt)∧W.cell? ⟨w.heap.size+1,2,none⟩=some (.int .u8 mp)∧W.cell? ⟨w.heap.size+1,3,none⟩=some (.int .u8 md)∧W.cell? ⟨w.heap.size+1,4,none⟩=some (.bool mc))∧W.cell? ⟨w.heap.size,1+mf.toNat,none⟩=some (.int .u8 (n (1+mf.toNat))) from (fun p=>⟨p.rules,by rw [← ht];exact p.cell 78 (by decide),p.board 0 (by decide),mv_cell ((h.block _ (Array.getElem?_eq_some_iff.1 q0).1).trans q0),p.board _ (by omega)⟩) (p1.below h p1.lt)))
 obtain ⟨⟨i0,r0⟩,c78,c0,⟨m0,m1,m2,m3,m4⟩,ca⟩:=HG.out _ hR
 obtain ⟨v0,v1⟩:=hn.u8 (1+mf.toNat) (by omega) (kB (by omega))
 have HX0:=hI hX0
 have HX:=hI hX
 have HXS:=hI hXs
 have HB:=hI hb
 clear hX0 hX q0 p0 p1 hb0 hb1 hXs hb
 have HKD:=hI (k8_any _ v0 v1)
 generalize n (1+mf.toNat)=x at *
 cases mc with
 | true =>
   have HD:=hI (show isP n (⟨mf,mt,mp,md,true⟩:Mv)=false by rw [HD.out];rfl)
   go_enter Tryz.func141,Tryz.ntmps141
   go_wp2_with (first | rw [HX0.out] | (rw [HX.out];try rw [HXS.out]))
   go_quiet (fail)
   have hR:=bT hR (blN15 X nq)
   obtain ⟨⟨i0,r0⟩,c78,c0,⟨m0,m1,m2,m3,m4⟩,ca⟩:=HG.out _ hR
   go_wp2_with (first | (go_at_call 23;refine (HTH.out _).mono ?_;rintro e w2 ⟨rfl,h1⟩;have hR:=bT hR h1;clear h1;obtain ⟨⟨i0,r0⟩,c78,c0,⟨m0,m1,m2,m3,m4⟩,ca⟩:=HG.out _ hR))
   go_ret
   exact ⟨rB (by rw [HD.out];try rfl),HB.out.trans (hR.mono HB.out.size)⟩
 | false =>
 cases hd:(md==0) with
 | false =>
   have hd2:(md != 0)=true:=by rw [bne,hd];rfl
   have HD:=hI (show isP n (⟨mf,mt,mp,md,false⟩:Mv)=false by rw [HD.out,hd];rfl)
   go_enter Tryz.func141,Tryz.ntmps141
   go_wp2_with (first | rw [HX0.out] | (rw [HX.out];try rw [HXS.out]))
   go_quiet (fail)
   have hR:=bT hR (blN15 X nq)
   obtain ⟨⟨i0,r0⟩,c78,c0,⟨m0,m1,m2,m3,m4⟩,ca⟩:=HG.out _ hR
   go_wp2_with (first | (go_at_call 23;refine (HTH.out _).mono ?_;rintro e w2 ⟨rfl,h1⟩;have hR:=bT hR h1;clear h1;obtain ⟨⟨i0,r0⟩,c78,c0,⟨m0,m1,m2,m3,m4⟩,ca⟩:=HG.out _ hR))
   go_ret
   exact ⟨rB (by rw [HD.out];try rfl),HB.out.trans (hR.mono HB.out.size)⟩
 | true =>
 have hd2:(md != 0)=false:=by rw [bne,hd];rfl
 cases hmy:mayP n mf mt with
 | false =>
   have HD:=hI (show isP n (⟨mf,mt,mp,md,false⟩:Mv)=false by rw [HD.out,hd,hmy];rfl)
   rw [hmy] at HMY
   clear hmy
   go_enter Tryz.func141,Tryz.ntmps141
   go_wp2_with (first | rw [HX0.out] | (rw [HX.out];try rw [HXS.out]))
   go_quiet (fail)
   have hR:=bT hR (blN15 X nq)
   obtain ⟨⟨i0,r0⟩,c78,c0,⟨m0,m1,m2,m3,m4⟩,ca⟩:=HG.out _ hR
   go_wp2_with (first | (go_at_call 23;refine (HTH.out _).mono ?_;rintro e w2 ⟨rfl,h1⟩;have hR:=bT hR h1;clear h1;obtain ⟨⟨i0,r0⟩,c78,c0,⟨m0,m1,m2,m3,m4⟩,ca⟩:=HG.out _ hR) | (go_at_call 160;refine (HMY.out _).mono ?_;rintro e w2 ⟨rfl,h1⟩;have hR:=bT hR h1;clear h1;obtain ⟨⟨i0,r0⟩,c78,c0,⟨m0,m1,m2,m3,m4⟩,ca⟩:=HG.out _ hR))
   go_ret
   exact ⟨rB (by rw [HD.out];try rfl),HB.out.trans (hR.mono HB.out.size)⟩
 | true =>
 rw [hmy] at HMY
 by_cases hk:kndI x=1
 · by_cases hr : rankC t mt = 7
   · have HD := hideIt (show isP n (⟨mf, mt, mp, md, false⟩ : Mv) = decide (mp ∈ promL (n 0).toNat) by rw [HD.out, hd, hmy, if_pos ⟨hk, hr⟩]; rfl)
     rw [hk] at HKD
     rw [hr] at HRK
     clear hk hr hmy
     go_enter Tryz.func141,Tryz.ntmps141
     go_wp2_with (first | rw [HX0.out] | (rw [HX.out];try rw [HXS.out]))
     go_quiet (fail)
     have hR:=bT hR (blN15 X nq)
     obtain ⟨⟨i0,r0⟩,c78,c0,⟨m0,m1,m2,m3,m4⟩,ca⟩:=HG.out _ hR
     go_wp2_with (first | (go_at_call 23;refine (HTH.out _).mono ?_;rintro e w2 ⟨rfl,h1⟩;have hR:=bT hR h1;clear h1;obtain ⟨⟨i0,r0⟩,c78,c0,⟨m0,m1,m2,m3,m4⟩,ca⟩:=HG.out _ hR) | (go_at_call 160;refine (HMY.out _).mono ?_;rintro e w2 ⟨rfl,h1⟩;have hR:=bT hR h1;clear h1;obtain ⟨⟨i0,r0⟩,c78,c0,⟨m0,m1,m2,m3,m4⟩,ca⟩:=HG.out _ hR) | (go_at_call 63;refine (HKD.out _).mono ?_;rintro e w2 ⟨rfl,rfl⟩) | (go_at_call 161;refine (HRK.out _).mono ?_;rintro e w2 ⟨rfl,rfl⟩) | (go_at_call 184;refine (HPR.out _).mono ?_;rintro e w2 ⟨rfl,h1⟩;have hR:=bT hR h1;clear h1;obtain ⟨⟨i0,r0⟩,c78,c0,⟨m0,m1,m2,m3,m4⟩,ca⟩:=HG.out _ hR))
     go_ret
     exact ⟨rB (by rw [HD.out];try rfl),HB.out.trans (hR.mono HB.out.size)⟩
   · have HD := hideIt (show isP n (⟨mf, mt, mp, md, false⟩ : Mv) = (mp == 0) by rw [HD.out, hd, hmy, if_neg (fun h => hr h.2)]; rfl)
     rw [hk] at HKD
     have e7:(rankC t mt != 7)=true:=by simpa using hr
     clear hk hr hmy
     go_enter Tryz.func141,Tryz.ntmps141
     go_wp2_with (first | rw [HX0.out] | (rw [HX.out];try rw [HXS.out]))
     go_quiet (fail)
     have hR:=bT hR (blN15 X nq)
     obtain ⟨⟨i0,r0⟩,c78,c0,⟨m0,m1,m2,m3,m4⟩,ca⟩:=HG.out _ hR
     go_wp2_with (first | (go_at_call 23;refine (HTH.out _).mono ?_;rintro e w2 ⟨rfl,h1⟩;have hR:=bT hR h1;clear h1;obtain ⟨⟨i0,r0⟩,c78,c0,⟨m0,m1,m2,m3,m4⟩,ca⟩:=HG.out _ hR) | (go_at_call 160;refine (HMY.out _).mono ?_;rintro e w2 ⟨rfl,h1⟩;have hR:=bT hR h1;clear h1;obtain ⟨⟨i0,r0⟩,c78,c0,⟨m0,m1,m2,m3,m4⟩,ca⟩:=HG.out _ hR) | (go_at_call 63;refine (HKD.out _).mono ?_;rintro e w2 ⟨rfl,rfl⟩) | (go_at_call 161;refine (HRK.out _).mono ?_;rintro e w2 ⟨rfl,rfl⟩))
     go_ret
     exact ⟨rB (by rw [HD.out];try rfl),HB.out.trans (hR.mono HB.out.size)⟩
 · have HD := hideIt (show isP n (⟨mf, mt, mp, md, false⟩ : Mv) = (mp == 0) by rw [HD.out, hd, hmy, if_neg (fun h => hk h.1)]; rfl)
   have e1:(kndI x != 1)=true:=by simpa using hk
   clear hk hmy
   go_enter Tryz.func141,Tryz.ntmps141
   go_wp2_with (first | rw [HX0.out] | (rw [HX.out];try rw [HXS.out]))
   go_quiet (fail)
   have hR:=bT hR (blN15 X nq)
   obtain ⟨⟨i0,r0⟩,c78,c0,⟨m0,m1,m2,m3,m4⟩,ca⟩:=HG.out _ hR
   go_wp2_with (first | (go_at_call 23;refine (HTH.out _).mono ?_;rintro e w2 ⟨rfl,h1⟩;have hR:=bT hR h1;clear h1;obtain ⟨⟨i0,r0⟩,c78,c0,⟨m0,m1,m2,m3,m4⟩,ca⟩:=HG.out _ hR) | (go_at_call 160;refine (HMY.out _).mono ?_;rintro e w2 ⟨rfl,h1⟩;have hR:=bT hR h1;clear h1;obtain ⟨⟨i0,r0⟩,c78,c0,⟨m0,m1,m2,m3,m4⟩,ca⟩:=HG.out _ hR) | (go_at_call 63;refine (HKD.out _).mono ?_;rintro e w2 ⟨rfl,rfl⟩))
   go_ret
   exact ⟨rB (by rw [HD.out];try rfl),HB.out.trans (hR.mono HB.out.size)⟩
theorem oth_isB {n:Nat→Int} (ht:n 78=0∨n 78=1) {m:Mv} (h:isP n m=true):hasB (othB n) m.t=isB (n (1+m.t.toNat)):=by
 have h0:=h
 unfold isP at h
 simp only [Bool.and_eq_true,Bool.not_eq_true',beq_iff_eq,decide_eq_true_iff] at h
 obtain ⟨⟨⟨⟨⟨h1,h2⟩,sa⟩,sb⟩,h5⟩,h6⟩:=h
 rw [has_oth n m.t sb.1 sb.2]
 have hb:ownP n m.t (n 78)=false:=by
  unfold mayP at h5
  split at h5
  · cases h5
  · split at h5
    · cases h5
    · split at h5
      · cases h5
      · rename_i h;simpa using h
 have:=own_oth n ht m.t
 rw [hb,Bool.false_or] at this
 exact this
theorem taken13_any (n:Nat→Int) (hn:PosOk n) (t:Int) (ht:n 78=t) (h01:t=0∨t=1) (hv:n 0<9) (m:Mv) (hm:m.Ok) (f0:0≤m.f) (f1:m.f<64) (t0:0≤m.t) (t1:m.t<64) (w:World) :
 Calls Tryz.prog 80 #[.agg (posA n),.agg #[.int .i8 m.f,.int .i8 m.t,.int .u8 m.p,.int .u8 m.d,.bool m.c]] w fun e w' => e = .returned (.int .i64 (takenN n m))∧Below w.heap.size w w' := by
 have HTK:=hI (show takenN n m=if isP n m=true then takenG n m else -1 from rfl)
 have HTG:=hI (show takenG n m=if hasB (othB n) m.t=true then m.t else if kndI (n (1+m.f.toNat))=1∧m.f % 8≠m.t % 8 then aheadC (1 - t) m.t else -1 by unfold takenG;rw [ht])
 have HIS:=hI (is13_any n hn t ht h01 hv m hm f0 f1 t0 t1)
 have HEM:=hI (empty13_any n hn m.t t0 t1)
 have HUP:=hI (up13_any t h01)
 have HOT:=hI (@oth_isB n (by omega) m)
 have hah:=ahead_up (t:=1 - t) (s:=m.t) (by omega)
 obtain ⟨X0,hX0⟩:∃ X0,w.alloc (.cells (posA n) 31)=X0:=⟨_,rfl⟩
 obtain ⟨p0,hb0⟩:=box1 w n X0 hX0
 obtain ⟨X,hX⟩:∃ X,X0.alloc (.cells #[.int .i8 m.f,.int .i8 m.t,.int .u8 m.p,.int .u8 m.d,.bool m.c] 49)=X:=⟨_,rfl⟩
 obtain ⟨q0,hb1⟩:=mvBox_at hX
 have hXs:X0.heap.size=w.heap.size+1:=by rw [← hX0];simp
 have p1:=p0.below hb1 p0.lt
 have hb:=hb0.trans (hb1.mono hb0.size)
 rw [hXs] at q0
 have hR:Below X.heap.size X X:=bR
 have HG:=hI (fun (W:World) (h:Below X.heap.size X W)=>(show (IsPos W w.heap.size∧rowOf W w.heap.size=posA n)∧W.cell? ⟨w.heap.size,78,none⟩=some (.int .u8 t)∧W.cell? ⟨w.heap.size,0,none⟩=some (.int .u8 (n 0))∧(W.cell? ⟨w.heap.size+1,0,none⟩=some (.int .i8 m.f)∧W.cell? ⟨w.heap.size+1,1,none⟩=some (.int .i8 m.t)∧W.cell? ⟨w.heap.size+1,2,none⟩=some (.int .u8 m.p)∧W.cell? ⟨w.heap.size+1,3,none⟩=some (.int .u8 m.d)∧W.cell? ⟨w.heap.size+1,4,none⟩=some (.bool m.c))∧W.cell? ⟨w.heap.size,1+m.f.toNat,none⟩=some (.int .u8 (n (1+m.f.toNat))) from (fun p=>⟨p.rules,by rw [← ht];exact p.cell 78 (by decide),p.board 0 (by decide),mv_cell ((h.block _ (Array.getElem?_eq_some_iff.1 q0).1).trans q0),p.board _ (by omega)⟩) (p1.below h p1.lt)))
 obtain ⟨⟨i0,r0⟩,c78,c0,⟨m0,m1,m2,m3,m4⟩,ca⟩:=HG.out _ hR
 obtain ⟨v0,v1⟩:=hn.u8 (1+m.f.toNat) (by omega) (kB (by omega))
 have HX0:=hI hX0
 have HX:=hI hX
 have HXS:=hI hXs
 have HB:=hI hb
 clear hX0 hX q0 p0 p1 hb0 hb1 hXs hb
 have HKD:=hI (k8_any _ v0 v1)
 generalize n (1+m.f.toNat)=x at *
 cases hP:isP n m with
 | false =>
   have HTK:=hI (HTK.out.trans (if_neg (by rw [hP];decide)))
   rw [hP] at HIS
   clear hP
   go_enter Tryz.func80,Tryz.ntmps80
   go_wp2_with (first | rw [HX0.out] | (rw [HX.out];try rw [HXS.out]) | (go_at_call 141;refine (HIS.out _).mono ?_;rintro e w2 ⟨rfl,h1⟩;have hR:=bT hR h1;clear h1;obtain ⟨⟨i0,r0⟩,c78,c0,⟨m0,m1,m2,m3,m4⟩,ca⟩:=HG.out _ hR))
   go_ret
   exact ⟨ret_int HTK.out.symm,HB.out.trans (hR.mono HB.out.size)⟩
 | true =>
   have HTK:=hI ((HTK.out.trans (if_pos hP)).trans HTG.out)
   have HTK:=hI (show takenN n m=if isB (n (1+m.t.toNat))=true then m.t else if kndI x=1∧m.f % 8≠m.t % 8 then aheadC (1 - t) m.t else -1 by rw [HTK.out,HOT.out hP])
   rw [hP] at HIS
   clear hP
   generalize isB (n (1+m.t.toNat))=ib at *
   cases ib with
   | true =>
     have HTK:=hI (HTK.out.trans (if_pos rfl))
     go_enter Tryz.func80,Tryz.ntmps80
     go_wp2_with (first | rw [HX0.out] | (rw [HX.out];try rw [HXS.out]) | (go_at_call 141;refine (HIS.out _).mono ?_;rintro e w2 ⟨rfl,h1⟩;have hR:=bT hR h1;clear h1;obtain ⟨⟨i0,r0⟩,c78,c0,⟨m0,m1,m2,m3,m4⟩,ca⟩:=HG.out _ hR) | (go_at_call 142;refine (HEM.out _).mono ?_;rintro e w2 ⟨rfl,h1⟩;have hR:=bT hR h1;clear h1;obtain ⟨⟨i0,r0⟩,c78,c0,⟨m0,m1,m2,m3,m4⟩,ca⟩:=HG.out _ hR))
     go_ret
     exact ⟨ret_int HTK.out.symm,HB.out.trans (hR.mono HB.out.size)⟩
   | false =>
     have HTK:=hI (HTK.out.trans (if_neg (by decide)))
     by_cases hk:kndI x=1
     · rw [hk] at HKD
       by_cases hf:m.f % 8=m.t % 8
       · have HTK := hideIt (HTK.out.trans (if_neg (fun h => h.2 hf)))
         clear hk
         go_enter Tryz.func80,Tryz.ntmps80
         go_wp2_with (first | rw [HX0.out] | (rw [HX.out];try rw [HXS.out]) | (go_at_call 141;refine (HIS.out _).mono ?_;rintro e w2 ⟨rfl,h1⟩;have hR:=bT hR h1;clear h1;obtain ⟨⟨i0,r0⟩,c78,c0,⟨m0,m1,m2,m3,m4⟩,ca⟩:=HG.out _ hR) | (go_at_call 142;refine (HEM.out _).mono ?_;rintro e w2 ⟨rfl,h1⟩;have hR:=bT hR h1;clear h1;obtain ⟨⟨i0,r0⟩,c78,c0,⟨m0,m1,m2,m3,m4⟩,ca⟩:=HG.out _ hR) | (go_at_call 63;refine (HKD.out _).mono ?_;rintro e w2 ⟨rfl,rfl⟩))
         go_ret
         exact ⟨ret_int HTK.out.symm,HB.out.trans (hR.mono HB.out.size)⟩
       · have HTK := hideIt ((HTK.out.trans (if_pos ⟨hk, hf⟩)).trans hah)
         clear hk hah
         go_enter Tryz.func80,Tryz.ntmps80
         go_wp2_with (first | rw [HX0.out] | (rw [HX.out];try rw [HXS.out]) | (go_at_call 141;refine (HIS.out _).mono ?_;rintro e w2 ⟨rfl,h1⟩;have hR:=bT hR h1;clear h1;obtain ⟨⟨i0,r0⟩,c78,c0,⟨m0,m1,m2,m3,m4⟩,ca⟩:=HG.out _ hR) | (go_at_call 142;refine (HEM.out _).mono ?_;rintro e w2 ⟨rfl,h1⟩;have hR:=bT hR h1;clear h1;obtain ⟨⟨i0,r0⟩,c78,c0,⟨m0,m1,m2,m3,m4⟩,ca⟩:=HG.out _ hR) | (go_at_call 63;refine (HKD.out _).mono ?_;rintro e w2 ⟨rfl,rfl⟩) | (go_at_call 143;refine (HUP.out _).mono ?_;rintro e w2 ⟨rfl,rfl⟩))
         go_ret
         exact ⟨ret_int (by rw [HTK.out];omega),HB.out.trans (hR.mono HB.out.size)⟩
     · have HTK := hideIt (HTK.out.trans (if_neg (fun h => hk h.1)))
       have e1:(kndI x==1)=false:=beq_eq_false_iff_ne.2 hk
       clear hk
       go_enter Tryz.func80,Tryz.ntmps80
       go_wp2_with (first | rw [HX0.out] | (rw [HX.out];try rw [HXS.out]) | (go_at_call 141;refine (HIS.out _).mono ?_;rintro e w2 ⟨rfl,h1⟩;have hR:=bT hR h1;clear h1;obtain ⟨⟨i0,r0⟩,c78,c0,⟨m0,m1,m2,m3,m4⟩,ca⟩:=HG.out _ hR) | (go_at_call 142;refine (HEM.out _).mono ?_;rintro e w2 ⟨rfl,h1⟩;have hR:=bT hR h1;clear h1;obtain ⟨⟨i0,r0⟩,c78,c0,⟨m0,m1,m2,m3,m4⟩,ca⟩:=HG.out _ hR) | (go_at_call 63;refine (HKD.out _).mono ?_;rintro e w2 ⟨rfl,rfl⟩))
       go_ret
       exact ⟨ret_int HTK.out.symm,HB.out.trans (hR.mono HB.out.size)⟩
theorem rowP_len (n:Nat→Int) (a:Int) (k:Nat):(rowP n a k).length≤k*5:=by
 unfold rowP
 have:=flat_len (fun b:Nat=>if mayP n a b=true then promM n a b else []) 5 (fun b=>by
  split
  · exact prom_len n a b
  · simp) (List.range k)
 rwa [List.length_range] at this
theorem rpseudoK_len (n:Nat→Int) (k:Nat):(rpseudoK n k).length≤k*320:=by
 unfold rpseudoK
 have:=flat_len (fun a:Nat=>rowP n a 64) 320 (fun a=>by have:=rowP_len n a 64;omega) (List.range k)
 rwa [List.length_range] at this
theorem OwnsM.lt {w:World} {B:Nat} {v:Value} {l:List Mv} (h:OwnsM w B v l) {g:Nat} (hg:v.ownBlock=some g):g<w.heap.size:=by
 obtain ⟨_,cs,m,hc⟩:=h.row hg
 exact (Array.getElem?_eq_some_iff.1 hc).1
/-- The reference's move in its block, and the slice that grows. -/
def RowS (X:World) (B6:Nat) (a b:Int) (acc:List Mv) (v:Value) (W:World):Prop :=
 OwnsM W X.heap.size v acc∧(∃ p,W.heap[B6]?=some (.cells (mvP a b p).cells.toArray 49 (0,0)))∧v.ownBlock≠some B6∧Below X.heap.size X W
/-- The same while the kinds are gone through. -/
def RowQ (X:World) (B6:Nat) (a b:Int) (ml:List Mv) (L:List Int) (pa:Option Addr) (w4:World) (q:Nat) (v:Value) (W:World):Prop :=
 OwnsM W X.heap.size v (ml ++ (L.take q).map (fun k=>mvP a b k))∧(∃ p,W.heap[B6]?=some (.cells (mvP a b p).cells.toArray 49 (0,0)))∧v.ownBlock≠some B6∧Below X.heap.size X W∧(∀ g,pa=some ⟨g,0,none⟩→W.heap[g]?=w4.heap[g]?)
theorem list13_any (n:Nat→Int) (hn:PosOk n) (t:Int) (ht:n 78=t) (h01:t=0∨t=1) (hv:n 0<9) (w:World) :
 Calls Tryz.prog 101 #[.agg (posA n)] w fun e w' => ∃ v,e=.returned v∧OwnsM w' w.heap.size v (rpseudoK n 64)∧Below w.heap.size w w' := by
 obtain ⟨i0,hi,hz0,hz1,hz2⟩:=info_parts infoM
 obtain ⟨X,hX⟩:∃ X,w.alloc (.cells (posA n) 31)=X:=⟨_,rfl⟩
 obtain ⟨p0,hb⟩:=box1 w n X hX
 obtain ⟨q0,r0⟩:=p0.rules
 have HX:=hI hX
 have HP:=hI p0
 have HI:=hI hi
 have HTH:=hI (there13_any n hn t ht h01 hv)
 have HG:=hI (fun (W:World) (h:Below X.heap.size X W)=>(show (IsPos W w.heap.size∧rowOf W w.heap.size=posA n)∧W.cell? ⟨w.heap.size,78,none⟩=some (.int .u8 t)∧W.cell? ⟨w.heap.size,0,none⟩=some (.int .u8 (n 0)) from (fun p=>⟨p.rules,by rw [← ht];exact p.cell 78 (by decide),p.board 0 (by decide)⟩) (p0.below h p0.lt)))
 have HGB:=hI (fun (W:World) (h:Below X.heap.size X W) (i:Nat) (hi:i<64)=>(p0.below h p0.lt).board (1+i) (by omega))
 have HMAY:=hI (fun (a b:Nat) (ha:a<64) (hb:b<64)=>may13_any n hn t h01 ht (a:Int) (b:Int) (by omega) (by omega) (by omega) (by omega))
 have HRK:=hI (fun (b:Nat) (hb:b<64)=>rank13_any t (b:Int) h01 (by omega) (by omega))
 obtain ⟨z0,z1⟩:=hn.u8 0 (by decide) rfl
 have HPR:=hI (rpromotes_any (n 0).toNat (by omega))
 rw [show (((n 0).toNat:Nat):Int)=n 0 by omega] at HPR
 have HB:=hI hb
 clear hX p0 hi hb
 go_enter Tryz.func101,Tryz.ntmps101
 go_wp2_with (first | rw [HX.out])
 refine (HTH.out _).mono ?_
 rintro e w1 ⟨rfl,h1⟩
 have HR1:=hI h1
 clear h1 q0 r0
 go_wp2
 go_loopg [3,4] 64 (fun g v i wr=>∃ a:Nat,a+g=64∧i=.int .i64 a∧OwnsM wr X.heap.size v (rpseudoK n a)∧Below X.heap.size X wr)
 case atStart=>exact ⟨0,rfl,rfl,World.ownsRow_nil _ _ _ _,HR1.out⟩
 case round =>
  clear HR1
  obtain ⟨a,hga,rfl,hown,hr⟩:=hrel
  by_cases ha:a<64
  · have da : decide ((a : Int) < 64) = true := decide_eq_true (by omega)
    have HACC:=hI (rpseudoK_succ n a)
    have hal:=rpseudoK_len n a
    generalize rpseudoK n a=acc at *
    have HOWN:=hI hown
    have HR:=hI hr
    clear hown hr
    go_wp2
    go_loopg [3,5] 64 (fun g2 v i wy=>∃ b:Nat,b+g2=64∧i=.int .i64 b∧OwnsM wy X.heap.size v (acc ++ rowP n a b)∧Below X.heap.size X wy)
    case atStart=>exact ⟨0,rfl,rfl,by show OwnsM _ _ _ (acc ++ []);rw [List.append_nil];exact HOWN.out,HR.out⟩
    case round =>
     clear HOWN HR
     obtain ⟨b,hgb,rfl,hown,hr⟩:=hrel
     by_cases hb:b<64
     · have db : decide ((b : Int) < 64) = true := decide_eq_true (by omega)
       have HROW:=hI (rowP_succ n a b)
       have hrl:=rowP_len n a b
       generalize rowP n a b=row at *
       have HM:=hI (HMAY.out a b ha hb)
       obtain ⟨⟨q0,r0⟩,c78,c0⟩:=HG.out _ hr
       cases hmy:mayP n a b with
       | false =>
         have HROW:=hI (show rowP n a (b+1)=row by rw [HROW.out,hmy,if_neg (by decide),List.append_nil])
         rw [hmy] at HM
         have HOWN:=hI hown
         clear hmy hown
         go_wp2_with fail
         refine (HM.out _).mono ?_
         rintro e w2 ⟨rfl,h1⟩
         have hr2:=hr.trans (h1.mono hr.size)
         have HOWN:=hI (HOWN.out.kept h1 lR)
         clear h1 hr q0 r0 c78 c0
         go_wp2
         go_roundg (64 - (b+1))
         case measure=>omega
         case rel=>exact ⟨b+1,by omega,by go_num,by rw [HROW.out];exact HOWN.out,hr2⟩
       | true =>
         have HROW:=hI (show rowP n a (b+1)=row ++ promM n a b by rw [HROW.out,hmy,if_pos rfl])
         rw [hmy] at HM
         have HOWN:=hI hown
         clear hmy hown
         go_wp2_with fail
         refine (HM.out _).mono ?_
         rintro e w2 ⟨rfl,h1⟩
         have hr2:=hr.trans (h1.mono hr.size)
         have hown:=HOWN.out.kept h1 lR
         clear h1 hr q0 r0 c78 c0
         obtain ⟨Z,hZ⟩:∃ Z,w2.alloc (.cells #[.int .i8 (a:Int),.int .i8 (b:Int),.int .u8 0,.int .u8 0,.bool false] 49)=Z:=⟨_,rfl⟩
         have hbZ:Below w2.heap.size w2 Z:=by rw [← hZ];exact bR.alloc lR _
         have hm:Z.heap[w2.heap.size]?=some (.cells (mvP a b 0).cells.toArray 49 (0,0)):=by rw [← hZ];exact World.alloc_heap_new w2 _
         have hrs:=HB.out
         have hRZ:=hr2.trans (hbZ.mono hr2.size)
         have HRS:=hI (show RowS X w2.heap.size a b (acc ++ row) u3 Z from ⟨hown.kept hbZ lR,⟨0,hm⟩,fun e=>by have:=hown.lt e;omega,hRZ⟩)
         have df:Z.cell? ⟨w2.heap.size,0,none⟩=some (.int .i8 (a:Int)):=(mv_cell hm).1
         have dt:Z.cell? ⟨w2.heap.size,1,none⟩=some (.int .i8 (b:Int)):=(mv_cell hm).2.1
         have dp:Z.cell? ⟨w2.heap.size,2,none⟩=some (.int .u8 0):=(mv_cell hm).2.2.1
         have dd:Z.cell? ⟨w2.heap.size,3,none⟩=some (.int .u8 0):=(mv_cell hm).2.2.2.1
         have dc:Z.cell? ⟨w2.heap.size,4,none⟩=some (.bool false):=(mv_cell hm).2.2.2.2
         obtain ⟨⟨q0,r0⟩,c78,c0⟩:=HG.out _ hRZ
         have ca:=HGB.out _ hRZ a ha
         obtain ⟨v0,v1⟩:=hn.u8 (1+a) (by omega) (kB (by omega))
         have W1:IntKind.i8.wrap (a:Int)=a:=IntWalk.i8_in _ (by omega)
         have W2:IntKind.i8.wrap (b:Int)=b:=IntWalk.i8_in _ (by omega)
         have HKD:=hI (k8_any _ v0 v1)
         have HRKB:=hI (HRK.out b hb)
         have HPM:=hI (show promM n a b=if kndI (n (1+a))=1∧rankC t b=7 then (promL (n 0).toNat).map (fun k=>mvP a b k) else [mvP a b 0] by unfold promM;rw [ht];rfl)
         have HZ:=hI hZ
         have hsz:=hr2.size
         have hszZ:=hRZ.size
         have hlen:(acc ++ row).length≤20480:=by rw [List.length_append];omega
         generalize hml:acc ++ row=ml at *
         have HML:=hI hml
         generalize n (1+a)=x at *
         clear hZ hbZ hm hown hml hRZ
         by_cases hk:kndI x=1∧rankC t b=7
         · obtain ⟨hk1, hk7⟩ := hk
           have HPM:=hI (HPM.out.trans (if_pos ⟨hk1,hk7⟩))
           rw [hk1] at HKD
           rw [hk7] at HRKB
           have hpl : (promL (n 0).toNat).length ≤ 5 := by unfold promL; split; · decide
                                                           · split <;> decide
           have hpb:∀ x∈promL (n 0).toNat,2≤x∧x≤6:=fun x hx=>promL_bd hx
           clear hk1 hk7
           generalize promL (n 0).toNat=L at *
           have HPB:=hI hpb
           clear hpb
           go_wp2_with (first | rw [HZ.out] | (go_at_call 63;refine (HKD.out _).mono ?_;rintro e w3 ⟨rfl,rfl⟩) | (go_at_call 161;refine (HRKB.out _).mono ?_;rintro e w3 ⟨rfl,rfl⟩) | (go_at_call 162;refine (HPR.out _).mono ?_;rintro e w4 ⟨pv,rfl,hop,h1⟩))
           obtain ⟨pa,pc,rfl,hpc⟩:=owns_sliceU hop
           have hrw4:=HRS.out.2.2.2.trans (h1.mono HRS.out.2.2.2.size)
           have HQ0:=hI (show RowQ X w2.heap.size a b ml L pa w4 0 u3 w4 from ⟨by rw [List.take_zero,List.map_nil,List.append_nil];exact HRS.out.1.kept h1 lR,HRS.out.2.1.imp fun p hp=>(h1.block _ (Array.getElem?_eq_some_iff.1 hp).1).trans hp,HRS.out.2.2.1,hrw4,fun _ _=>rfl⟩)
           have hB6:w2.heap.size<Z.heap.size:=by obtain ⟨p,hp⟩:=HRS.out.2.1;exact (Array.getElem?_eq_some_iff.1 hp).1
           have HPC:=hI hpc
           clear hop h1 hpc hrw4 HRS df dt dp dd dc
           go_wp2
           go_loopg [3,8] L.length (fun g3 v i wz=>∃ q:Nat,q+g3=L.length∧i=.int .i64 q∧RowQ X w2.heap.size a b ml L pa w4 q v wz)
           case atStart=>exact ⟨0,Nat.zero_add _,rfl,HQ0.out⟩
           case round =>
            clear HQ0
            obtain ⟨q,hgq,rfl,hown,⟨p,hm⟩,hne,hr,hpg⟩:=hrel
            by_cases hq:q<L.length
            · obtain ⟨g, rfl, hgB, hgl, ⟨cs, mm, hcg⟩, hcell⟩ := HPC.out q hq
              have hcl:=(cell_same (hpg g rfl) q).trans hcell
              have hyb:=HPB.out _ (List.getElem_mem hq)
              have HTS:=hI (map_take_succ (fun k=>mvP (a:Int) (b:Int) k) L q hq)
              generalize L[q]=y at *
              have dq:decide ((q:Int)<(L.length:Int))=true:=decide_eq_true (by omega)
              obtain ⟨W2,hW2⟩:∃ W2,wr.setCell ⟨w2.heap.size,2,none⟩ (.int .u8 y)=W2:=⟨_,rfl⟩
              have hm2:W2.heap[w2.heap.size]?=some (.cells (mvP a b y).cells.toArray 49 (0,0)):=by rw [← hW2];exact set_mv hm y
              have hown2:OwnsM W2 X.heap.size u3 (ml ++ (L.take q).map (fun k=>mvP a b k)):=by rw [← hW2];exact hown.same (fun g' hg' => Below.heap_setCell _ _ _ _ (by rintro (e:g' = w2.heap.size);subst e;exact hne hg'))
              have hr2' : Below X.heap.size X W2:=by rw [← hW2];exact hr.setCell (p:=⟨w2.heap.size,2,none⟩) hsz _
              have hg2:W2.heap[g]?=w4.heap[g]?:=by rw [← hW2];exact (Below.heap_setCell _ _ _ _ (by show g≠w2.heap.size;omega)).trans (hpg g rfl)
              have hB62:=(Array.getElem?_eq_some_iff.1 hm2).1
              have hgl2:g<W2.heap.size:=(Array.getElem?_eq_some_iff.1 (hg2.trans hcg)).1
              have hng:u3.ownBlock≠some g:=fun e=>by
               obtain ⟨_,cs2,m2,hc2⟩:=hown2.row e
               rw [hg2,hcg] at hc2
               injection hc2 with hc2
               injection hc2 with _ ht2
               exact absurd ht2 (by decide)
              have df:W2.cell? ⟨w2.heap.size,0,none⟩=some (.int .i8 (a:Int)):=(mv_cell hm2).1
              have dt:W2.cell? ⟨w2.heap.size,1,none⟩=some (.int .i8 (b:Int)):=(mv_cell hm2).2.1
              have dp:W2.cell? ⟨w2.heap.size,2,none⟩=some (.int .u8 y):=(mv_cell hm2).2.2.1
              have dd:W2.cell? ⟨w2.heap.size,3,none⟩=some (.int .u8 0):=(mv_cell hm2).2.2.2.1
              have dc:W2.cell? ⟨w2.heap.size,4,none⟩=some (.bool false):=(mv_cell hm2).2.2.2.2
              have ep:wr.cell? ⟨w2.heap.size,2,none⟩=some (.int .u8 p):=(mv_cell hm).2.2.1
              have ef:wr.frozen? ⟨w2.heap.size,2,none⟩=false:=by simp [World.frozen?,hm]
              have hszW:=hr2'.size
              have hlq:(ml ++ (L.take q).map (fun k=>mvP (a:Int) (b:Int) k)).length≤20500:=by rw [List.length_append,List.length_map,List.length_take];omega
              generalize hmq:ml ++ (L.take q).map (fun k=>mvP (a:Int) (b:Int) k)=mq at *
              have HMQ:=hI hmq
              have HW2:=hI hW2
              have hown:=hown2
              have HNG:=hI hng
              have HNE:=hI hne
              have HM2:=hI hm2
              have HG2:=hI hg2
              clear hmq hW2 hm hr hpg hcell hng hne hm2 hg2
              go_wp2_with (first | rw [HW2.out] | (at_builtin;refine wpList_append_new _ rfl _ _ 41 rfl X.heap.size 49 i0 (.agg #[.int .i8 0,.int .i8 0,.int .u8 0,.int .u8 0,.bool false]) 5 5 Tryz.underlying41 HI.out hz0 hz1 hz2 rfl (by decide) u3 _ _ rfl (World.ownsRow.alloc hown _) ⟨W2.heap.size,0,none⟩ 1 1 (mvP (a:Int) (b:Int) y).cells rfl rfl (cells5_new _ _ _ _ _ _ _) (by simp [mvP,Mv.cells,Value.oneCell']) (by unfold maxLen;omega) (by omega) (by simp;omega) (by decide) ?_;intro v' w5 hown' hgrow3 hnew))
              go_roundg (L.length - (q+1))
              case measure=>omega
              case rel =>
               refine ⟨q+1,by omega,by go_num,?_,⟨y,?_⟩,?_,OwnsM.grown hown2 hr2' hszW _ hgrow3,?_⟩
               · rw [← HTS.out,← List.append_assoc,HMQ.out];exact OwnsM.app hown'
               · exact ((hgrow3.block _ (by simp;omega) (fun e=>HNE.out e.symm)).trans (Below.heap_alloc _ _ _ hB62)).trans HM2.out
               · rcases hnew with h | h
                 · rw [h];exact HNE.out
                 · rw [h];simp;omega
               · rintro g' e
                 cases e
                 exact ((hgrow3.block _ (by simp;omega) (fun e=>HNG.out e.symm)).trans (Below.heap_alloc _ _ _ hgl2)).trans HG2.out
            · obtain rfl : q = L.length := by omega
              rw [List.take_length] at hown
              have HE:=hI (show OwnsM wr X.heap.size u3 (acc ++ rowP n a (b+1))∧Below X.heap.size X wr from ⟨by rw [HROW.out,← List.append_assoc,HML.out,HPM.out];exact hown,hr⟩)
              clear hown hm hr hpg
              go_wp2
              go_roundg (64 - (b+1))
              case measure=>omega
              case rel=>exact ⟨b+1,by omega,by go_num,HE.out⟩
         · have HPM := hideIt (HPM.out.trans (if_neg hk))
           by_cases hk1:kndI x=1
           · have e7 : (rankC t b != 7) = true := by simpa using fun h => hk ⟨hk1, h⟩
             rw [hk1] at HKD
             clear hk hk1
             have hown:=HRS.out.1
             go_wp2_with (first | rw [HZ.out] | (go_at_call 63;refine (HKD.out _).mono ?_;rintro e w3 ⟨rfl,rfl⟩) | (go_at_call 161;refine (HRKB.out _).mono ?_;rintro e w3 ⟨rfl,rfl⟩) | (at_builtin;refine wpList_append_new _ rfl _ _ 41 rfl X.heap.size 49 i0 (.agg #[.int .i8 0,.int .i8 0,.int .u8 0,.int .u8 0,.bool false]) 5 5 Tryz.underlying41 HI.out hz0 hz1 hz2 rfl (by decide) u3 _ _ rfl (World.ownsRow.alloc hown _) ⟨Z.heap.size,0,none⟩ 1 1 (mvP (a:Int) (b:Int) 0).cells rfl rfl (cells5_new _ _ _ _ _ _ _) (by simp [mvP,Mv.cells,Value.oneCell']) (by unfold maxLen;omega) (by omega) (by simp;omega) (by decide) ?_;intro v' w5 hown' hgrow3 hnew))
             go_roundg (64 - (b+1))
             case measure=>omega
             case rel=>exact ⟨b+1,by omega,by go_num,by rw [HROW.out,← List.append_assoc,HML.out,HPM.out];exact OwnsM.app hown',OwnsM.grown hown HRS.out.2.2.2 HRS.out.2.2.2.size _ hgrow3⟩
           · have e1 : (kndI x != 1) = true := by simpa using hk1
             clear hk hk1
             have hown:=HRS.out.1
             go_wp2_with (first | rw [HZ.out] | (go_at_call 63;refine (HKD.out _).mono ?_;rintro e w3 ⟨rfl,rfl⟩) | (go_at_call 161;refine (HRKB.out _).mono ?_;rintro e w3 ⟨rfl,rfl⟩) | (at_builtin;refine wpList_append_new _ rfl _ _ 41 rfl X.heap.size 49 i0 (.agg #[.int .i8 0,.int .i8 0,.int .u8 0,.int .u8 0,.bool false]) 5 5 Tryz.underlying41 HI.out hz0 hz1 hz2 rfl (by decide) u3 _ _ rfl (World.ownsRow.alloc hown _) ⟨Z.heap.size,0,none⟩ 1 1 (mvP (a:Int) (b:Int) 0).cells rfl rfl (cells5_new _ _ _ _ _ _ _) (by simp [mvP,Mv.cells,Value.oneCell']) (by unfold maxLen;omega) (by omega) (by simp;omega) (by decide) ?_;intro v' w5 hown' hgrow3 hnew))
             go_roundg (64 - (b+1))
             case measure=>omega
             case rel=>exact ⟨b+1,by omega,by go_num,by rw [HROW.out,← List.append_assoc,HML.out,HPM.out];exact OwnsM.app hown',OwnsM.grown hown HRS.out.2.2.2 HRS.out.2.2.2.size _ hgrow3⟩
     · obtain rfl : b = 64 := by omega
       go_wp2
       go_roundg (64 - (a+1))
       case measure=>omega
       case rel=>exact ⟨a+1,by omega,by go_num,by rw [HACC.out];exact hown,hr⟩
  · obtain rfl : a = 64 := by omega
    go_wp2
    go_ret
    exact ⟨_,rfl,hown.less HB.out.size,HB.out.trans (hr.mono HB.out.size)⟩
end Go.Proofs.YteocjaihaegmoaaGreatDoor
