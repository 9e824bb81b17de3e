/- Parts of the proof: T2, T3. -/
import Derived.Test.YteocjaihaegmoaaGreatDoorWAH
import Derived.Test.YteocjaihaegmoaaGreatDoorWAO
import Derived.Deep.LoopGhost
import Derived.IntWalk
set_option linter.unusedVariables false
set_option maxHeartbeats 16000000
set_option maxRecDepth 100000
namespace Go.Proofs.YteocjaihaegmoaaGreatDoor
open Go Go.RowKit
theorem c8_any (x:Int) (x0:0≤x) (x1:x≤255) (w:World):Calls Tryz.prog 64 #[.int .u8 x] w fun e w' => e = .returned (.int .u8 (x / 8))∧w=w' := by
 go_enter Tryz.func64,Tryz.ntmps64
 go_wp2
 go_ret
 exact ⟨rfl,rfl⟩
theorem abs8_any (x:Int) (x0:-100≤x) (x1:x≤100) (w:World):Calls Tryz.prog 175 #[.int .i64 x] w fun e w' => e = .returned (.int .i64 (absI x))∧w=w' := by
 by_cases h:x<0
 · have E := hideIt (show absI x = -x from if_pos h)
   go_enter Tryz.func175,Tryz.ntmps175
   go_wp2
   go_ret
   exact ⟨ret_int E.out.symm,rfl⟩
 · have E := hideIt (show absI x = x from if_neg h)
   go_enter Tryz.func175,Tryz.ntmps175
   go_wp2
   go_ret
   exact ⟨ret_int E.out.symm,rfl⟩
theorem sgn8_any (x:Int) (x0:-100≤x) (x1:x≤100) (w:World):Calls Tryz.prog 203 #[.int .i64 x] w fun e w' => e = .returned (.int .i64 (sgnI x))∧w=w' := by
 by_cases h:x<0
 · have E := hideIt (show sgnI x = -1 from if_pos h)
   go_enter Tryz.func203,Tryz.ntmps203
   go_wp2
   go_ret
   exact ⟨ret_int E.out.symm,rfl⟩
 · by_cases h2 : 0 < x
   · have E := hideIt (show sgnI x = 1 by unfold sgnI; rw [if_neg h, if_pos h2])
     go_enter Tryz.func203,Tryz.ntmps203
     go_wp2
     go_ret
     exact ⟨ret_int E.out.symm,rfl⟩
   · have E := hideIt (show sgnI x = 0 by unfold sgnI; rw [if_neg h, if_neg h2])
     go_enter Tryz.func203,Tryz.ntmps203
     go_wp2
     go_ret
     exact ⟨ret_int E.out.symm,rfl⟩
theorem beside_any (a b:Int) (a0:0≤a) (a1:a<64) (b0:0≤b) (b1:b<64) (w:World):Calls Tryz.prog 131 #[.int .i64 a,.int .i64 b] w fun e w' => e = .returned (.bool (hasB (kingB a) b))∧w=w' := by
 have R:=hI (beside_is a0 a1 b0 b1)
 cases e1:(a != b) with
 | false =>
   have R:=hI (show besideB a b=false by unfold besideB;rw [e1];rfl)
   go_enter Tryz.func131,Tryz.ntmps131
   go_wp2
   go_ret
   exact ⟨rB (by rw [← beside_is a0 a1 b0 b1,R.out]),rfl⟩
 | true =>
   cases e2:decide (absI (a / 8 - b / 8)≤1) with
   | false =>
     have R:=hI (show besideB a b=false by unfold besideB;rw [e1,e2];rfl)
     go_enter Tryz.func131,Tryz.ntmps131
     go_wp2_with fail
     refine (abs8_any _ (by omega) (by omega) _).mono ?_
     rintro e w2 ⟨rfl,rfl⟩
     go_wp2
     go_ret
     exact ⟨rB (by rw [← beside_is a0 a1 b0 b1,R.out]),rfl⟩
   | true =>
     have R:=hI (show besideB a b=decide (absI (a % 8 - b % 8)≤1) by unfold besideB;rw [e1,e2];rfl)
     go_enter Tryz.func131,Tryz.ntmps131
     go_wp2_with fail
     refine (abs8_any _ (by omega) (by omega) _).mono ?_
     rintro e w2 ⟨rfl,rfl⟩
     go_wp2_with fail
     refine (abs8_any _ (by omega) (by omega) _).mono ?_
     rintro e w2 ⟨rfl,rfl⟩
     go_wp2
     go_ret
     exact ⟨rB (by rw [← beside_is a0 a1 b0 b1,R.out]),rfl⟩
theorem is8_any (n:Nat→Int) (hn:PosOk n) (s:Nat) (hs:s<64) (c k:Int) (w:World):Calls Tryz.prog 130 #[.agg (posA n),.int .i64 (s:Int),.int .u8 c,.int .u8 k] w fun e w' => e = .returned (.bool (isN n (s:Int) c k))∧Below w.heap.size w w' := by
 obtain ⟨X,hX⟩:∃ X,w.alloc (.cells (posA n) 31)=X:=⟨_,rfl⟩
 obtain ⟨p0,hb⟩:=box1 w n X hX
 have a1:=p0.board (1+s) (by omega)
 obtain ⟨v0,v1⟩:=hn.u8 (1+s) (by omega) (kB (by omega))
 have HX:=hI hX
 clear hX p0
 have H:=hI (show isN n (s:Int) c k=((kndI (n (1+s))==k)&&(n (1+s) / 8==c)) from rfl)
 generalize n (1+s)=x at a1 v0 v1 H
 cases e1:(kndI x==k) with
 | false =>
   have R:=hI (show isN n (s:Int) c k=false by rw [H.out,e1];rfl)
   go_enter Tryz.func130,Tryz.ntmps130
   go_wp2_with (first | rw [HX.out] | (go_at_call 63;refine (k8_any x v0 v1 _).mono ?_;rintro e w2 ⟨rfl,rfl⟩))
   go_ret
   exact ⟨rB R.out.symm,hb⟩
 | true =>
   have R:=hI (show isN n (s:Int) c k=(x / 8==c) by rw [H.out,e1];rfl)
   go_enter Tryz.func130,Tryz.ntmps130
   go_wp2_with (first | rw [HX.out] | (go_at_call 63;refine (k8_any x v0 v1 _).mono ?_;rintro e w2 ⟨rfl,rfl⟩) | (go_at_call 64;refine (c8_any x v0 v1 _).mono ?_;rintro e w2 ⟨rfl,rfl⟩))
   go_ret
   exact ⟨rB R.out.symm,hb⟩
/-- The first of a color's pieces of a kind. -/
theorem first_at (b:BitVec 64) (k:Nat) (hk:k<64) (h:hasB b (k:Int)=true) (hn:∀ j:Nat,j<k→hasB b (j:Int)=false):firstB b=(k:Int):=by
 refine first_has b _ h (fun x hx=>?_)
 have hs:=has_sq hx
 by_cases e:x<(k:Int)
 · have := hn x.toNat (by omega)
   rw [show ((x.toNat:Nat):Int)=x by omega,hx] at this;cases this
 · omega
theorem first_no (b:BitVec 64) (h:∀ j:Nat,j<64→hasB b (j:Int)=false):firstB b=-1:=by
 have:b=0#64:=by
  apply ext_has;intro k hk;rw [h k hk,has_zero]
 rw [this];rfl
theorem find8_any (n:Nat→Int) (hn:PosOk n) (c k:Int) (hk:1≤k) (w:World):Calls Tryz.prog 128 #[.agg (posA n),.int .u8 c,.int .u8 k] w fun e w' => e = .returned (.int .i64 (firstB (ofN n c k)))∧Below w.heap.size w w' := by
 obtain ⟨X,hX⟩:∃ X,w.alloc (.cells (posA n) 31)=X:=⟨_,rfl⟩
 obtain ⟨p0,hb⟩:=box1 w n X hX
 have HX:=hI hX
 have HP:=hI p0
 have HK:=hI hk
 clear hX p0 hk
 go_enter Tryz.func128,Tryz.ntmps128
 go_wp2_with (first | rw [HX.out])
 go_loopw [7] (fun i wr=>∃ j:Nat,j≤64∧i=.int .i64 j∧Hid (∀ t:Nat,t<j→hasB (ofN n c k) (t:Int)=false)∧Below X.heap.size X wr) (fun i _=>64 - (intOf i).toNat)
 case atStart=>exact ⟨0,by omega,rfl,hI (fun t ht=>absurd ht (Nat.not_lt_zero _)),Below.refl _ _⟩
 case round =>
  obtain ⟨j,hj,rfl,hno,hr⟩:=hrel
  by_cases hlt:j<64
  · obtain ⟨i0, r0⟩ := (HP.out.below hr HP.out.lt).rules
    have HI:=hI (isN_of n (j:Int) c k HK.out (by omega) (by omega))
    cases hi:hasB (ofN n c k) (j:Int) with
    | true =>
      have HR:=hI (first_at _ j hlt hi hno.out)
      rw [hi] at HI
      clear hi
      go_wp2_with fail
      refine (is8_any n hn j hlt c k _).mono ?_
      rintro e w2 ⟨rfl,h1⟩
      have hr:=hr.trans (h1.mono hr.size)
      rw [HI.out]
      clear h1
      go_wp2
      go_ret
      exact ⟨ret_int HR.out.symm,hb.trans (hr.mono hb.size)⟩
    | false =>
      have hno2:Hid (∀ t:Nat,t<j+1→hasB (ofN n c k) (t:Int)=false):=hI (fun t ht=>by
       by_cases e:t=j
       · rw [e];exact hi
       · exact hno.out t (by omega))
      rw [hi] at HI
      clear hi hno
      go_wp2_with fail
      refine (is8_any n hn j hlt c k _).mono ?_
      rintro e w2 ⟨rfl,h1⟩
      have hr:=hr.trans (h1.mono hr.size)
      rw [HI.out]
      clear h1
      go_wp2
      go_roundw
      case rel=>exact ⟨j+1,by omega,by go_num,hno2,hr⟩
      case measure=>simp [intOf];omega
  · obtain rfl : j = 64 := by omega
    have HR:=hI (first_no _ hno.out)
    clear hno
    go_wp2
    go_ret
    exact ⟨ret_int HR.out.symm,hb.trans (hr.mono hb.size)⟩
/-- Is there nothing between two squares of a line? -/
def clearN (n:Nat→Int) (a b:Int):Bool:=(betB a b&&&allN n)==0#64
theorem clear_no (n:Nat→Int) {a b:Int} {t:Int} (t0:0≤t) (t1:t<64) (h:hasB (betB a b) t=true) (hi:isB (n (1+t.toNat))=true):clearN n a b=false:=by
 unfold clearN
 rw [beq_eq_false_iff_ne]
 intro e
 have:=and_zero_has e t h
 rw [has_all n t t0 t1,hi] at this;cases this
theorem clear_yes (n:Nat→Int) {a b:Int} (h:∀ t:Int,hasB (betB a b) t=true→isB (n (1+t.toNat))=false):clearN n a b=true:=by
 unfold clearN
 rw [beq_iff_eq]
 apply none_of
 intro s
 rw [has_and]
 cases hb:hasB (betB a b) s with
 | false=>rfl
 | true =>
   have hs:=has_sq hb
   rw [has_all n s hs.1 hs.2,h s hb];rfl
theorem clear8_any (n:Nat→Int) (hn:PosOk n) (a b:Int) (a0:0≤a) (a1:a<64) (b0:0≤b) (b1:b<64) (hl:(straightB a b || acrossB a b)=true) (w:World):Calls Tryz.prog 176 #[.agg (posA n),.int .i64 a,.int .i64 b] w fun e w' => e = .returned (.bool (clearN n a b))∧Below w.heap.size w w' := by
 obtain ⟨X,hX⟩:∃ X,w.alloc (.cells (posA n) 31)=X:=⟨_,rfl⟩
 obtain ⟨p0,hb⟩:=box1 w n X hX
 obtain ⟨G1,G2,G3⟩:=gap_is a0 a1 b0 b1 hl
 have HX:=hI hX
 have HP:=hI p0
 have K1:=hI G1
 have K2:=hI G2
 have K3:=hI G3
 have sb1:=sgnI_bd (b / 8 - a / 8)
 have sb2:=sgnI_bd (b % 8 - a % 8)
 have HS:=hI (show 8*sgnI (b / 8 - a / 8)+sgnI (b % 8 - a % 8)=stepA a b from rfl)
 have sb3:=stepA_bd a b
 clear hX p0 G1 G2 G3 hl
 go_enter Tryz.func176,Tryz.ntmps176
 go_wp2_with (first | rw [HX.out])
 refine (sgn8_any _ (by omega) (by omega) _).mono ?_
 rintro e w2 ⟨rfl,rfl⟩
 go_wp2_with fail
 refine (sgn8_any _ (by omega) (by omega) _).mono ?_
 rintro e w2 ⟨rfl,rfl⟩
 go_wp2
 rw [HS.out]
 generalize hst:stepA a b=st at K1 K2 K3 sb3 HS
 clear sb1 sb2 hst
 go_loopg [8] (gapN a b) (fun g i wr=>∃ j:Nat,j+g=gapN a b∧i=.int .i64 (a+st+st*(j:Int))∧Hid (∀ t:Nat,t<j→isB (n (1+(a+st+st*(t:Int)).toNat))=false)∧wr=X)
 case atStart=>exact ⟨0,by omega,by rw [show a+st+st*((0:Nat):Int)=a+st by simp],hI (fun t ht=>absurd ht (Nat.not_lt_zero _)),rfl⟩
 case round =>
  obtain ⟨j,hj,rfl,hno,rfl⟩:=hrel
  by_cases hlt:j<gapN a b
  · obtain ⟨s0, s1, s2⟩ := K1.out j hlt
    have HN:=hI (show a+st+st*(j:Int)+st=a+st+st*((j+1:Nat):Int) by rw [Int.natCast_add,Int.mul_add];simp;omega)
    have HB:=hI ((K3.out (a+st+st*(j:Int))).2 ⟨j,hlt,rfl⟩)
    have hd:(a+st+st*(j:Int) != b)=true:=bne_iff_ne.2 s2
    generalize hq:a+st+st*(j:Int)=q at s0 s1 hd HN HB
    have HQ:=hI hq
    have c1:=HP.out.board (1+q.toNat) (by omega)
    obtain ⟨v0,v1⟩:=hn.u8 (1+q.toNat) (by omega) (kB (by omega))
    clear s2 hq
    cases hi:isB (n (1+q.toNat)) with
    | true =>
      have HR:=hI (clear_no n s0 s1 HB.out hi)
      have hk:=knd_pos hi
      have hz:(kndI (n (1+q.toNat)) != 0)=true:=bne_iff_ne.2 (by omega)
      have HZ:=hI hz
      clear hi hk hz
      go_wp2_with fail
      refine (k8_any _ v0 v1 _).mono ?_
      rintro e w2 ⟨rfl,rfl⟩
      have hz:=HZ.out
      go_wp2
      go_ret
      exact ⟨rB HR.out.symm,hb⟩
    | false =>
      have hno2:Hid (∀ t:Nat,t<j+1→isB (n (1+(a+st+st*(t:Int)).toNat))=false):=hI (fun t ht=>by
       by_cases e:t=j
       · rw [e,HQ.out];exact hi
       · exact hno.out t (by omega))
      have HZ:=hI (knd_none hi)
      clear hi hno
      go_wp2_with fail
      refine (k8_any _ v0 v1 _).mono ?_
      rintro e w2 ⟨rfl,rfl⟩
      rw [HZ.out]
      go_wp2
      go_roundg (gapN a b - (j+1))
      case measure=>omega
      case rel=>exact ⟨j+1,by omega,by rw [HN.out],hno2,rfl⟩
  · obtain rfl : j = gapN a b := by omega
    have HR:=hI (clear_yes n (a:=a) (b:=b) (fun t ht=>by
     obtain ⟨k,hk,rfl⟩:=(K3.out t).1 ht
     exact hno.out k hk))
    rw [K2.out]
    clear hno
    go_wp2
    go_ret
    exact ⟨rB HR.out.symm,hb⟩
theorem hit_kind {x a b:Int} {occ:BitVec 64} {k:Int} (h:kndI x=k):hitI x a b occ=hasB (atkB k (colI x) a occ) b:=by unfold hitI;rw [h]
/-- What the reference asks of the ranks and files apart. -/
def askK (k c U A:Int) (cl:Bool):Bool :=
 if k=1 then (if c=0 then (U==1)&&(A==1) else (U==-1)&&(A==1)) else
 if k=2 then ((absI U==1)&&(A==2)) || ((absI U==2)&&(A==1)) else
 if k=4 then ((U==0) != (A==0))&&cl else
 if k=3 then ((absI U==A)&&decide (0<A))&&cl else
 if k=5 then (((U==0) != (A==0)) || ((absI U==A)&&decide (0<A)))&&cl else false
theorem ask_is {n:Nat→Int} {x a b:Int} (a0:0≤a) (a1:a<64) (b0:0≤b) (b1:b<64) {k c:Int} (hk:kndI x=k) (h6:k≠6) (hc:colI x=c) (h01:k=1→c=0∨c=1) :
 hitI x a b (allN n)=askK k c (b / 8 - a / 8) (absI (b % 8 - a % 8)) (clearN n a b):=by
 rw [hit_kind hk,hc]
 unfold atkB askK
 by_cases h1:k=1
 · rw [if_pos h1, if_pos h1]
   rcases h01 h1 with rfl | rfl
   · rw [if_pos rfl];exact (pawn0_is a0 a1 b0 b1).symm
   · rw [if_neg (by decide)];exact (pawn1_is a0 a1 b0 b1).symm
 rw [if_neg h1,if_neg h1]
 by_cases h2:k=2
 · rw [if_pos h2,if_pos h2];exact (knightH_is a0 a1 b0 b1).symm
 rw [if_neg h2,if_neg h2]
 by_cases h3:k=3
 · rw [if_pos h3,if_neg (by omega),if_pos h3,has_bish,← across_is a0 a1 b0 b1];rfl
 rw [if_neg h3,if_neg h3]
 by_cases h4:k=4
 · rw [if_pos h4,if_pos h4,has_rook,← straight_is a0 a1 b0 b1];rfl
 rw [if_neg h4,if_neg h4]
 by_cases h5:k=5
 · rw [if_pos h5,if_pos h5,has_queen,← all_rb,← straight_is a0 a1 b0 b1,← across_is a0 a1 b0 b1];rfl
 rw [if_neg h5,if_neg h5,if_neg h6,has_zero]
theorem hits8_any (n:Nat→Int) (hn:PosOk n) (a b:Int) (a0:0≤a) (a1:a<64) (b0:0≤b) (b1:b<64) (w:World):Calls Tryz.prog 132 #[.agg (posA n),.int .i64 a,.int .i64 b] w fun e w' => e = .returned (.bool (hitI (n (1+a.toNat)) a b (allN n)))∧Below w.heap.size w w' := by
 obtain ⟨X,hX⟩:∃ X,w.alloc (.cells (posA n) 31)=X:=⟨_,rfl⟩
 obtain ⟨p0,hb⟩:=box1 w n X hX
 obtain ⟨i0,r0⟩:=p0.rules
 have c1:=p0.board (1+a.toNat) (by omega)
 obtain ⟨v0,v1⟩:=hn.u8 (1+a.toNat) (by omega) (kB (by omega))
 have HX:=hI hX
 have hk:=knd_bd (n (1+a.toNat))
 have HAK:=hI (fun k c hk h6 hc h01=>ask_is (n:=n) (x:=n (1+a.toNat)) a0 a1 b0 b1 (k:=k) (c:=c) hk h6 hc h01)
 have HR6:=hI (fun h:kndI (n (1+a.toNat))=6=>(show hitI (n (1+a.toNat)) a b (allN n)=hasB (kingB a) b by rw [hit_kind h];rfl))
 have HPC:=hI (fun h:kndI (n (1+a.toNat))=1=>(show (colI (n (1+a.toNat))=0∧n (1+a.toNat) / 8=0)∨(colI (n (1+a.toNat))=1∧n (1+a.toNat) / 8=1) by
  have hi:isB (n (1+a.toNat))=true:=by
   cases hi:isB (n (1+a.toNat)) with
   | true=>rfl
   | false=>rw [knd_none hi] at h;exact absurd h (by decide)
  rcases isB_cases hi with ⟨_,_,h1,_,h2⟩ | ⟨_,_,h1,_,h2⟩
  · exact .inl ⟨h1,h2⟩
  · exact .inr ⟨h1,h2⟩))
 clear hX p0
 generalize n (1+a.toNat)=x at *
 obtain ⟨U,hU⟩:∃ U,b / 8 - a / 8=U:=⟨_,rfl⟩
 obtain ⟨A,hA⟩:∃ A,absI (b % 8 - a % 8)=A:=⟨_,rfl⟩
 obtain ⟨V,hV⟩:∃ V,absI U=V:=⟨_,rfl⟩
 obtain ⟨U0,U1⟩:-7≤U∧U≤7:=by omega
 obtain ⟨A0,A1⟩:0≤A∧A≤7:=by rw [← hA];exact absI_bd (by omega) (by omega)
 obtain ⟨V0,V1⟩:0≤V∧V≤7:=by rw [← hV];exact absI_bd (by omega) (by omega)
 have HLS:=hI (fun h:((U==0)==(A==0))=false=>(show (straightB a b || acrossB a b)=true by rw [show straightB a b=((U==0) != (A==0)) by unfold straightB upI asI;rw [hU,hA],bne,h];rfl))
 have HLA:=hI (fun (h:(V==A)=true) (h0:decide (0<A)=true)=>(show (straightB a b || acrossB a b)=true by rw [show acrossB a b=((V==A)&&decide (0<A)) by unfold acrossB upI asI;rw [hU,hA,hV],h,h0,Bool.and_self,Bool.or_true]))
 have HCL:=hI (fun h w=>clear8_any n hn a b a0 a1 b0 b1 h w)
 have HBE:=hI (fun w=>beside_any a b a0 a1 b0 b1 w)
 rw [hU,hA] at HAK
 rcases (show kndI x=0∨kndI x=1∨kndI x=2∨kndI x=3∨kndI x=4∨kndI x=5∨kndI x=6 by omega) with h | h | h | h | h | h | h
 ·
  have HA:=hI (show hitI x a b (allN n)=false from HAK.out 0 _ h (by decide) rfl (fun h=>absurd h (by decide)))
  have HK:=hI h
  cases hVA:(V==A)
  all_goals
   clear hk h
   go_enter Tryz.func132,Tryz.ntmps132
   go_wp2_with (first | rw [HX.out] | (go_at_call 175;refine (abs8_any _ (by omega) (by omega) _).mono ?_;rintro e w2 ⟨rfl,rfl⟩) | (go_at_call 63;refine (k8_any x v0 v1 _).mono ?_;rintro e w2 ⟨rfl,rfl⟩;rw [HK.out]) | (go_at_call 64;refine (c8_any x v0 v1 _).mono ?_;rintro e w2 ⟨rfl,rfl⟩))
   go_ret
   exact ⟨rB (by rw [HA.out]),hb⟩
 · rcases HPC.out h with ⟨hc, hd⟩ | ⟨hc, hd⟩
   ·
    have HA:=hI (show hitI x a b (allN n)=((U==1)&&(A==1)) from HAK.out 1 0 h (by decide) hc (fun _=>by decide))
    have HK:=hI h
    have HC:=hI hd
    cases hVA:(V==A) <;> cases hU1:(U==1)
    all_goals
     clear hk h hc hd
     go_enter Tryz.func132,Tryz.ntmps132
     go_wp2_with (first | rw [HX.out] | (go_at_call 175;refine (abs8_any _ (by omega) (by omega) _).mono ?_;rintro e w2 ⟨rfl,rfl⟩) | (go_at_call 63;refine (k8_any x v0 v1 _).mono ?_;rintro e w2 ⟨rfl,rfl⟩;rw [HK.out]) | (go_at_call 64;refine (c8_any x v0 v1 _).mono ?_;rintro e w2 ⟨rfl,rfl⟩;rw [HC.out]))
     go_ret
     exact ⟨rB (by rw [HA.out];simp only [hU1,Bool.true_and,Bool.false_and]),hb⟩
   ·
    have HA:=hI (show hitI x a b (allN n)=((U==-1)&&(A==1)) from HAK.out 1 1 h (by decide) hc (fun _=>by decide))
    have HK:=hI h
    have HC:=hI hd
    cases hVA:(V==A) <;> cases hU1:(U==-1)
    all_goals
     clear hk h hc hd
     go_enter Tryz.func132,Tryz.ntmps132
     go_wp2_with (first | rw [HX.out] | (go_at_call 175;refine (abs8_any _ (by omega) (by omega) _).mono ?_;rintro e w2 ⟨rfl,rfl⟩) | (go_at_call 63;refine (k8_any x v0 v1 _).mono ?_;rintro e w2 ⟨rfl,rfl⟩;rw [HK.out]) | (go_at_call 64;refine (c8_any x v0 v1 _).mono ?_;rintro e w2 ⟨rfl,rfl⟩;rw [HC.out]))
     go_ret
     exact ⟨rB (by rw [HA.out];simp only [hU1,Bool.true_and,Bool.false_and]),hb⟩
 ·
  have HA:=hI (show hitI x a b (allN n)=(((absI U==1)&&(A==2)) || ((absI U==2)&&(A==1))) from HAK.out 2 _ h (by decide) rfl (fun h=>absurd h (by decide)))
  have HK:=hI h
  cases hVA:(V==A) <;> cases hV1:(V==1) <;> cases hA2:(A==2) <;> cases hV2:(V==2)
  all_goals
   clear hk h
   go_enter Tryz.func132,Tryz.ntmps132
   go_wp2_with (first | rw [HX.out] | (go_at_call 175;refine (abs8_any _ (by omega) (by omega) _).mono ?_;rintro e w2 ⟨rfl,rfl⟩) | (go_at_call 63;refine (k8_any x v0 v1 _).mono ?_;rintro e w2 ⟨rfl,rfl⟩;rw [HK.out]) | (go_at_call 64;refine (c8_any x v0 v1 _).mono ?_;rintro e w2 ⟨rfl,rfl⟩))
   go_ret
   exact ⟨rB (by rw [HA.out];simp only [hV,hV1,hA2,hV2,Bool.true_and,Bool.false_and,Bool.and_true,Bool.and_false,Bool.true_or,Bool.false_or,Bool.or_false]),hb⟩
 ·
  have HA:=hI (show hitI x a b (allN n)=(((absI U==A)&&decide (0<A))&&clearN n a b) from HAK.out 3 _ h (by decide) rfl (fun h=>absurd h (by decide)))
  have HK:=hI h
  cases hVA:(V==A) <;> cases hA0:decide (0<A)
  all_goals
   try have HL:=hI (HLA.out hVA hA0)
   clear hk h
   go_enter Tryz.func132,Tryz.ntmps132
   go_wp2_with (first | rw [HX.out] | (go_at_call 175;refine (abs8_any _ (by omega) (by omega) _).mono ?_;rintro e w2 ⟨rfl,rfl⟩) | (go_at_call 63;refine (k8_any x v0 v1 _).mono ?_;rintro e w2 ⟨rfl,rfl⟩;rw [HK.out]) | (go_at_call 64;refine (c8_any x v0 v1 _).mono ?_;rintro e w2 ⟨rfl,rfl⟩) | (go_at_call 176;refine (HCL.out HL.out _).mono ?_;rintro e w2 ⟨rfl,h2⟩;have hb:=hb.trans (h2.mono hb.size);clear h2))
   go_ret
   exact ⟨rB (by rw [HA.out];simp only [hV,hVA,hA0,Bool.true_and,Bool.false_and,Bool.and_true,Bool.and_false]),hb⟩
 ·
  have HA:=hI (show hitI x a b (allN n)=(((U==0) != (A==0))&&clearN n a b) from HAK.out 4 _ h (by decide) rfl (fun h=>absurd h (by decide)))
  have HK:=hI h
  cases hVA:(V==A) <;> cases hST:((U==0)==(A==0))
  all_goals
   try have HL:=hI (HLS.out hST)
   clear hk h
   go_enter Tryz.func132,Tryz.ntmps132
   go_wp2_with (first | rw [HX.out] | (go_at_call 175;refine (abs8_any _ (by omega) (by omega) _).mono ?_;rintro e w2 ⟨rfl,rfl⟩) | (go_at_call 63;refine (k8_any x v0 v1 _).mono ?_;rintro e w2 ⟨rfl,rfl⟩;rw [HK.out]) | (go_at_call 64;refine (c8_any x v0 v1 _).mono ?_;rintro e w2 ⟨rfl,rfl⟩) | (go_at_call 176;refine (HCL.out HL.out _).mono ?_;rintro e w2 ⟨rfl,h2⟩;have hb:=hb.trans (h2.mono hb.size);clear h2))
   go_ret
   exact ⟨rB (by rw [HA.out];simp only [bne,hST,Bool.not_true,Bool.not_false,Bool.true_and,Bool.false_and]),hb⟩
 ·
  have HA:=hI (show hitI x a b (allN n)=((((U==0) != (A==0)) || ((absI U==A)&&decide (0<A)))&&clearN n a b) from HAK.out 5 _ h (by decide) rfl (fun h=>absurd h (by decide)))
  have HK:=hI h
  cases hVA:(V==A) <;> cases hST:((U==0)==(A==0)) <;> cases hA0:decide (0<A)
  all_goals
   first | have HL:=hI (HLS.out hST) | have HL:=hI (HLA.out hVA hA0) | skip
   clear hk h
   go_enter Tryz.func132,Tryz.ntmps132
   go_wp2_with (first | rw [HX.out] | (go_at_call 175;refine (abs8_any _ (by omega) (by omega) _).mono ?_;rintro e w2 ⟨rfl,rfl⟩) | (go_at_call 63;refine (k8_any x v0 v1 _).mono ?_;rintro e w2 ⟨rfl,rfl⟩;rw [HK.out]) | (go_at_call 64;refine (c8_any x v0 v1 _).mono ?_;rintro e w2 ⟨rfl,rfl⟩) | (go_at_call 176;refine (HCL.out HL.out _).mono ?_;rintro e w2 ⟨rfl,h2⟩;have hb:=hb.trans (h2.mono hb.size);clear h2))
   go_ret
   exact ⟨rB (by rw [HA.out];simp only [bne,hV,hST,hVA,hA0,Bool.not_true,Bool.not_false,Bool.true_and,Bool.false_and,Bool.and_true,Bool.and_false,Bool.or_true,Bool.or_false]),hb⟩
 ·
  have HA:=hI (HR6.out h)
  have HK:=hI h
  cases hVA:(V==A)
  all_goals
   clear hk h
   go_enter Tryz.func132,Tryz.ntmps132
   go_wp2_with (first | rw [HX.out] | (go_at_call 175;refine (abs8_any _ (by omega) (by omega) _).mono ?_;rintro e w2 ⟨rfl,rfl⟩) | (go_at_call 63;refine (k8_any x v0 v1 _).mono ?_;rintro e w2 ⟨rfl,rfl⟩;rw [HK.out]) | (go_at_call 64;refine (c8_any x v0 v1 _).mono ?_;rintro e w2 ⟨rfl,rfl⟩) | (go_at_call 131;refine (HBE.out _).mono ?_;rintro e w2 ⟨rfl,rfl⟩))
   go_ret
   exact ⟨rB (by rw [HA.out]),hb⟩
end Go.Proofs.YteocjaihaegmoaaGreatDoor
