/- Parts of the proof: H4, H5, H6. -/
import Derived.Test.YteocjaihaegmoaaGreatDoorWAF
import Derived.Test.YteocjaihaegmoaaGreatDoorWAM
import Derived.Test.YteocjaihaegmoaaGreatDoorWAS
import Derived.Test.YteocjaihaegmoaaGreatDoorWAW
set_option linter.unusedVariables false
set_option maxHeartbeats 16000000
set_option maxRecDepth 100000
namespace Go.Proofs.YteocjaihaegmoaaGreatDoor
open Go Go.RowKit
def zero12:Array Value:=#[.int .u8 0,.int .u8 0,.int .u8 0,.int .u8 0,.int .u8 0,.int .u8 0,.int .u8 0,.int .u8 0,.int .u8 0,.int .u8 0,.int .u8 0,.int .u8 0]
theorem rowSix (n:Nat→Int) (c:Nat) (hc:c<2):(rowN n (66+c*6) 6).toArray=#[.int .u8 (n (66+c*6)),.int .u8 (n (66+c*6+1)),.int .u8 (n (66+c*6+2)),.int .u8 (n (66+c*6+3)),.int .u8 (n (66+c*6+4)),.int .u8 (n (66+c*6+5))]:=by
 rcases (show c=0∨c=1 by omega) with rfl | rfl <;> rfl
theorem zeroOk:PosOk zeroN:=fun i hi=>by
 unfold zeroN kindAt
 split <;> (try rfl)
 split <;> (try rfl)
 split <;> (try rfl)
 split <;> (try rfl)
 split <;> rfl
theorem kind_pk {i:Nat} (h:66≤i∧i≤78):kindAt i=.u8:=by
 unfold kindAt
 rw [if_neg (by omega),if_neg (by omega),if_pos (by omega)]
theorem size_pock (n:Nat→Int):(Tryz.prog.info? 25).map (·.size)=some (rowN n 66 12).length:=by
 unfold rowN
 rw [List.length_map,List.length_range];kernel_rfl
theorem lit_inj {n m:Nat→Int} {i:Nat} (h:litP n i=litP m i):n i=m i:=by unfold litP at h;injection h
theorem pockI_bd {n:Nat→Int} (hn:PosOk n):∀ k,k≤12→0≤pockI n k∧pockI n k≤255*k
 | 0,_=>⟨Int.le_refl _,Int.le_refl _⟩
 | k + 1, h => by
   have:=pockI_bd hn k (by omega)
   have:=hn.u8 (66+k) (by omega) (kind_pk (by omega))
   have e:pockI n (k+1)=pockI n k+n (66+k):=rfl
   rw [e];omega
def vPock0 (n:Nat→Int):Bool:=(List.range 12).all (fun k=>n (66+k)==0)
theorem keys_pock (n:Nat→Int) (hn:PosOk n) (d:Nat):Tryz.prog.keyLits (d+3) 25 (rowN n 66 12)=some (((List.range 2).map fun i=>(List.range 6).map (fun j=>litP n (66+i*6+j))).flatten) :=
 keys_rows n hn _ _ _ 66 2 6 d (by decide) Tryz.underlying25 (by kernel_rfl) Tryz.underlying24 (by kernel_rfl) (by kernel_rfl) (fun i hi=>by rw [kind_pk (by omega)];exact Tryz.underlying5)
theorem eql_pock (n:Nat→Int) (hn:PosOk n) (w:World):(binOp .eql 25 (.agg (rowN n 66 12).toArray) (.agg zero12)).run Tryz.prog w=.ok (.bool (vPock0 n)) w:=by
 have E:EqAt Tryz.prog (9997+3) 25:=run_equalIn_deep 9997 3 25 (by kernel_rfl)
 have f:∀ n,(Value.agg (rowN n 66 12).toArray).formed Tryz.prog 25=true:=by
  intro n
  have cP:Tryz.prog.cellsOf 25=12:=by kernel_rfl
  simp only [Value.formed,Tryz.underlying25,cP];rfl
 obtain ⟨r,h1,h2⟩:=E w (0+3) (0+3) (.agg (rowN n 66 12).toArray) (.agg (rowN zeroN 66 12).toArray) _ _ (f n) (f zeroN) (keys_pock n hn 0) (keys_pock zeroN zeroOk 0)
 have:r=vPock0 n:=by
  rw [Bool.eq_iff_iff,h2]
  unfold vPock0
  rw [List.all_eq_true]
  constructor
  · intro h k hk
    have hk:=List.mem_range.1 hk
    have h3:=congrArg (fun l=>l[k]?) h
    have e:∀ m:Nat→Int,(((List.range 2).map fun i=>(List.range 6).map (fun j=>litP m (66+i*6+j))).flatten)[k]?=some (litP m (66+k)):=by
     intro m
     rcases (show k=0∨k=1∨k=2∨k=3∨k=4∨k=5∨k=6∨k=7∨k=8∨k=9∨k=10∨k=11 by omega) with rfl | rfl | rfl | rfl | rfl | rfl | rfl | rfl | rfl | rfl | rfl | rfl <;> rfl
    rw [e,e,Option.some.injEq] at h3
    exact beq_iff_eq.2 (lit_inj h3)
  · intro h
    apply congrArg List.flatten
    apply List.map_congr_left
    intro i hi
    apply List.map_congr_left
    intro j hj
    have hi:=List.mem_range.1 hi
    have hj:=List.mem_range.1 hj
    have:=beq_iff_eq.1 (h (i*6+j) (List.mem_range.2 (by omega)))
    unfold litP
    rw [show 66+i*6+j=66+(i*6+j) by omega,this];rfl
 rw [run_eql_struct,show zero12=(rowN zeroN 66 12).toArray from rfl,h1,this];rfl
theorem index_pock (n:Nat→Int) (c:Nat) (hc:c<2) (w:World):(Instr.index 25 (.agg (rowN n 66 12).toArray) (.int .i64 (c:Int))).run Tryz.prog w=.ok (.agg (rowN n (66+c*6) 6).toArray) w:=by
 rcases (show c=0∨c=1 by omega) with rfl | rfl <;> kernel_rfl
theorem index_six (n:Nat→Int) (o k:Nat) (ho:o=66∨o=72) (hk:k<6) (w:World):(Instr.index 24 (.agg (rowN n o 6).toArray) (.int .i64 (k:Int))).run Tryz.prog w=.ok (.int .u8 (n (o+k))) w:=by
 have hc:(rowN n o 6)[k]?=some (.int .u8 (n (o+k))):=by
  unfold rowN
  rw [List.getElem?_map,List.getElem?_range hk]
  show some (cellP n (o+k))=_
  unfold cellP
  rw [kind_pk (by omega)]
 simp [Instr.index,part,go_sem,hc]
 intro h;omega
theorem vPockets_no {n:Nat→Int} (hp:pocB (n 0).toNat=true) (h:(∃ s:Nat,s<64∧vMarks n s=false)∨(n 66==0)=false∨(n 72==0)=false):vPockets n=false:=by
 unfold vPockets
 rw [hp,if_neg (by decide)]
 rcases h with ⟨s,hs,h⟩ | h | h
 · cases e : (List.range 64).all (vMarks n) with
   | false=>rfl
   | true=>rw [List.all_eq_true] at e;rw [e s (List.mem_range.2 hs)] at h;cases h
 · rw [h,Bool.false_and,Bool.and_false]
 · rw [h,Bool.false_and,Bool.and_false,Bool.and_false]
theorem vPockets_end {n:Nat→Int} (hp:pocB (n 0).toNat=true) (h:∀ s:Nat,s<64→vMarks n s=true) (h1:(n 66==0)=true) (h2:(n 72==0)=true):vPockets n=decide (vMen n≤32):=by
 unfold vPockets
 rw [hp,if_neg (by decide),h1,h2,Bool.true_and,Bool.true_and]
 have e:(List.range 64).all (vMarks n)=true:=by rw [List.all_eq_true];exact fun s hs=>h s (List.mem_range.1 hs)
 rw [e,Bool.true_and]
theorem vpock_any (n:Nat→Int) (hn:PosOk n) (w:World):Calls Tryz.prog 115 #[.agg (posA n)] w fun e w' => e = .returned (.bool (vPockets n))∧Below w.heap.size w w' := by
 obtain ⟨X,hX⟩:∃ X,w.alloc (.cells (posA n) 77)=X:=⟨_,rfl⟩
 obtain ⟨p0,hb⟩:=ask1 w n X hX
 obtain ⟨v0,v1⟩:=hn.u8 0 (by decide) rfl
 obtain ⟨v,hv⟩:∃ v:Nat,n 0=v:=⟨(n 0).toNat,by omega⟩
 have hv1:v≤255:=by omega
 obtain ⟨b,hbb⟩:∃ b:BitVec 64,n 65=u b:=of_wf (hn 65 (by decide))
 have HX:=hI hX
 have HB:=hI hb
 have HP:=hI p0
 have HF:=hI (fun (U:World) (hU:Below X.heap.size X U)=>(show U.cell? ⟨w.heap.size,0,none⟩=some (.int .u8 (v:Int))∧U.cell? ⟨w.heap.size,65,none⟩=some (.int .u64 (u b))∧AskAt U w.heap.size n from
  (fun hh=>⟨by rw [← hv];exact hh.board 0 (by decide),by rw [← hbb];exact hh.cell 65 (by decide),hh⟩) (p0.below hU p0.lt)))
 have HPW:=hI (fun w=>vpockets_any v hv1 w)
 have HNO:=hI (@vPockets_no n)
 have HEND:=hI (@vPockets_end n)
 have HV0:=hI (show pocB v=false→vPockets n=(vPock0 n&&(u b==0)) from fun h=>by unfold vPockets;rw [show (n 0).toNat=v by omega,h,if_pos rfl,hbb];rfl)
 rw [show (n 0).toNat=v by omega] at HNO HEND
 have HMK:=hI (fun (s:Nat)=>(show vMarks n s=(!hasB b s || (decide (2≤kndI (n (1+s)))&&decide (kndI (n (1+s))≤5))) by unfold vMarks;rw [hbb,ofInt_u]))
 have heq:=fun w=>eql_pock n hn w
 unfold zero12 at heq
 obtain ⟨c0,c65,ha⟩:=HF.out X bR
 have HA:=hI ha
 clear hX p0 hb hv v0 ha hbb
 obtain ⟨P,hP⟩:∃ P,pocB v=P:=⟨_,rfl⟩
 rw [hP] at HPW HV0 HNO HEND
 clear hP
 cases P
 · have HV := hideIt (HV0.out rfl)
   generalize vPock0 n=z at *
   cases z
   all_goals
    go_enter Tryz.func115,Tryz.ntmps115
    go_wp2_with (first | rw [HX.out] | ((with_reducible refine (HPW.out _).mono ?_);rintro e U ⟨rfl,h1⟩;have HR:=hI h1;obtain ⟨c0,c65,ha⟩:=HF.out _ h1;have HA:=hI ha;clear h1 ha) | (refine wpList_load_mid (by rfl) 25 _ rfl w.heap.size 66 rfl (rowN n 66 12) _ (HA.out.range 66 12 (by decide)) Tryz.underlying25 rfl (size_pock n) ?_))
    go_ret
    exact ⟨rB (by rw [HV.out];simp),HB.out.trans (HR.out.mono HB.out.size)⟩
 · have HNO2 := hideIt (fun (h : (∃ s : Nat, s < 64 ∧ vMarks n s = false) ∨ (n 66 == 0) = false ∨ (n 72 == 0) = false) => HNO.out rfl h)
   have HEND2:=hI (fun h1 h2 h3=>HEND.out rfl h1 h2 h3)
   clear HNO HEND HV0
   go_enter Tryz.func115,Tryz.ntmps115
   go_wp2_with (first | rw [HX.out] | ((with_reducible refine (HPW.out _).mono ?_);rintro e U ⟨rfl,h1⟩;have HR:=hI h1;obtain ⟨c0,c65,ha⟩:=HF.out _ h1;have HA:=hI ha;clear h1 ha) | (refine wpList_load_mid (by rfl) 22 _ rfl w.heap.size 1 rfl (rowN n 1 64) _ (HA.out.range 1 64 (by decide)) Tryz.underlying22 rfl (size_board n) ?_))
   go_loopw [3,30] (fun a i wr=>∃ j:Nat,j≤64∧i=.int .i64 j∧a=.int .i64 (cntP (fun s=>!(n (1+s)==0)) j)∧(∀ s:Nat,s<j→vMarks n s=true)∧Below X.heap.size X wr) (fun _ i _=>64 - (intOf i).toNat)
   case atStart=>exact ⟨0,by omega,rfl,rfl,fun s hs=>absurd hs (Nat.not_lt_zero s),HR.out⟩
   case round =>
    obtain ⟨j,hj,rfl,rfl,hall,hr⟩:=hrel
    have HALL:=hI hall
    clear hall
    by_cases hlt:j<64
    · have ix := fun w => index_board n j hlt w
      obtain ⟨x0,x1⟩:=hn.u8 (1+j) (by omega) (kB (by omega))
      have hle:=cntP_le (fun s=>!(n (1+s)==0)) j
      have HC:=hI (show cntP (fun s=>!(n (1+s)==0)) (j+1)=cntP (fun s=>!(n (1+s)==0)) j+(if (!(n (1+j)==0))=true then 1 else 0) from rfl)
      have HNX:=hI (fun h:vMarks n j=true=>(show ∀ d:Nat,d<j+1→vMarks n d=true from fun d hd=>by
       by_cases e:d=j
       · subst e;exact h
       · exact HALL.out d (by omega)))
      have HMN:=hI (fun h:vMarks n j=false=>HNO2.out (.inl ⟨j,hlt,h⟩))
      have HK:=hI (kind_any _ x0 x1 wr)
      have HM:=hI (HMK.out j)
      have bt:=bit_test b (s:=(j:Int)) (by omega) (by omega)
      rw [show ((j:Nat):Int).toNat=j from rfl] at bt
      obtain ⟨d0,d65,_⟩:=HF.out wr hr
      have HR:=hI hr
      clear hr x0 x1 c0 c65
      generalize cntP (fun s=>!(n (1+s)==0)) j=m at *
      generalize n (1+j)=x at *
      generalize kndI x=y at *
      generalize hasB b j=B at *
      cases g1:(x==0)
      all_goals
       rw [g1] at HC
       (try have g2:(x != 0)=true:=congrArg not g1)
       (try have g2:(x != 0)=false:=congrArg not g1)
       cases B
       · have HM2 := hideIt (HNX.out (HM.out.trans (by rfl)))
         go_wp2_with (refine HK.out.mono ?_;rintro e w2 ⟨rfl,rfl⟩)
         go_roundw
         case rel=>exact ⟨j+1,by omega,by go_num,by rw [HC.out];go_num,HM2.out,HR.out⟩
         case measure=>simp [intOf];omega
       · rcases (show y < 2 ∨ (2 ≤ y ∧ y ≤ 5) ∨ 5 < y by omega) with hy | ⟨hy, hy2⟩ | hy
         · have HM2 := hideIt (HMN.out (HM.out.trans (by rw [decide_eq_false (show ¬ 2 ≤ y by omega)]; rfl)))
           go_wp2_with (refine HK.out.mono ?_;rintro e w2 ⟨rfl,rfl⟩)
           go_ret
           exact ⟨rB HM2.out.symm,HB.out.trans (HR.out.mono HB.out.size)⟩
         · have HM2 := hideIt (HNX.out (HM.out.trans (by rw [decide_eq_true hy, decide_eq_true hy2]; rfl)))
           go_wp2_with (refine HK.out.mono ?_;rintro e w2 ⟨rfl,rfl⟩)
           go_roundw
           case rel=>exact ⟨j+1,by omega,by go_num,by rw [HC.out];go_num,HM2.out,HR.out⟩
           case measure=>simp [intOf];omega
         · have HM2 := hideIt (HMN.out (HM.out.trans (by rw [decide_eq_false (show ¬ y ≤ 5 by omega), Bool.and_false]; rfl)))
           go_wp2_with (refine HK.out.mono ?_;rintro e w2 ⟨rfl,rfl⟩)
           go_ret
           exact ⟨rB HM2.out.symm,HB.out.trans (HR.out.mono HB.out.size)⟩
    · obtain rfl : j = 64 := by omega
      obtain ⟨_,_,ha⟩:=HF.out wr hr
      have HA:=hI ha
      have HR:=hI hr
      have hle:=cntP_le (fun s=>!(n (1+s)==0)) 64
      have HVM:=hI (show vMen n=(cntP (fun s=>!(n (1+s)==0)) 64:Int)+pockI n 12 from rfl)
      generalize cntP (fun s=>!(n (1+s)==0)) 64=M at *
      clear hr ha c0 c65
      go_wp2_with (refine wpList_load_mid (by rfl) 25 _ rfl w.heap.size 66 rfl (rowN n 66 12) _ (HA.out.range 66 12 (by decide)) Tryz.underlying25 rfl (size_pock n) ?_)
      go_loopg [3,60] 2 (fun g a i wr=>∃ c:Nat,c+g=2∧i=.int .i64 c∧a=.int .i64 (M+pockI n (c*6))∧(∀ d:Nat,d<c→(n (66+d*6)==0)=true)∧Below X.heap.size X wr)
      case atStart=>exact ⟨0,by omega,rfl,by go_num,fun s hs=>absurd hs (Nat.not_lt_zero s),HR.out⟩
      case round =>
       obtain ⟨c,hc,rfl,rfl,hall,hr⟩:=hrel
       have HAL2:=hI hall
       have HR:=hI hr
       clear hall hr
       by_cases hlt:c<2
       · have ix := fun w => index_pock n c hlt w
         rw [rowSix n c hlt] at ix
         have ec:decide ((c:Int)<2)=true:=decide_eq_true (by omega)
         go_wp2
         obtain ⟨Y,hY⟩:∃ Y,Below X.heap.size X Y∧wr.alloc (Obj.cells #[Value.int IntKind.u8 (n (66+c*6)),Value.int IntKind.u8 (n (66+c*6+1)),Value.int IntKind.u8 (n (66+c*6+2)),Value.int IntKind.u8 (n (66+c*6+3)),Value.int IntKind.u8 (n (66+c*6+4)),Value.int IntKind.u8 (n (66+c*6+5))] 24)=Y:=⟨_,HR.out.alloc HR.out.size _,rfl⟩
         rw [hY.2]
         have HRY:=hI hY.1
         clear hY
         go_loopg [3,64] 6 (fun g a i wr=>∃ k:Nat,k+g=6∧i=.int .i64 k∧a=.int .i64 (M+pockI n (c*6+k))∧(0<k→(n (66+c*6)==0)=true)∧Below X.heap.size X wr)
         case atStart=>exact ⟨0,by omega,rfl,rfl,fun h=>absurd h (by decide),HRY.out⟩
         case round =>
          obtain ⟨k,hk,rfl,rfl,hz,hr⟩:=hrel
          have HZ:=hI hz
          have HR:=hI hr
          clear hz hr
          by_cases hlk:k<6
          · have ix2 := fun w => index_six n (66 + c * 6) k (by omega) hlk w
            rw [rowSix n c hlt] at ix2
            have HE:=hI (show pockI n (c*6+(k+1))=pockI n (c*6+k)+n (66+c*6+k) by rw [show 66+c*6+k=66+(c*6+k) by omega];rfl)
            obtain ⟨x0,x1⟩:=hn.u8 (66+c*6+k) (by omega) (kind_pk (by omega))
            obtain ⟨b0,b1⟩:=pockI_bd hn (c*6+k) (by omega)
            have HMN:=hI (fun h:(n (66+c*6)==0)=false=>HNO2.out (.inr (by
             rcases (show c=0∨c=1 by omega) with rfl | rfl
             · exact .inl h
             · exact .inr h)))
            have HX0:=hI (show k=0→n (66+c*6+k)=n (66+c*6) from fun h=>by subst h;rfl)
            generalize n (66+c*6+k)=x at *
            generalize pockI n (c*6+k)=S at *
            by_cases hk0:k=0
            · have hx := HX0.out hk0
              have e1:decide (k=0)=true:=decide_eq_true hk0
              have HK0:=hI hk0
              clear hk0
              by_cases hxx:0<x
              · have HM2 := hideIt (HMN.out (beq_eq_false_iff_ne.2 (by omega)))
                clear hx
                go_wp2
                go_ret
                exact ⟨rB HM2.out.symm,HB.out.trans (HR.out.mono HB.out.size)⟩
              · obtain rfl : x = 0 := by omega
                have HZ2:=hI (show (n (66+c*6)==0)=true from beq_iff_eq.2 hx.symm)
                clear hx
                go_wp2
                go_roundg (6 - (k+1))
                case measure=>omega
                case rel=>exact ⟨k+1,by omega,by go_num,by rw [HE.out];go_num,fun _=>HZ2.out,HR.out⟩
            · have hk1 : 0 < k := by omega
              have HZ2:=hI (HZ.out hk1)
              have e1:decide (k=0)=false:=decide_eq_false hk0
              go_wp2
              go_roundg (6 - (k+1))
              case measure=>omega
              case rel=>exact ⟨k+1,by omega,by go_num,by rw [HE.out];go_num,fun _=>HZ2.out,HR.out⟩
          · obtain rfl : k = 6 := by omega
            have HNX:=hI (show ∀ d:Nat,d<c+1→(n (66+d*6)==0)=true from fun d hd=>by
             by_cases e:d=c
             · subst e;exact HZ.out (by decide)
             · exact HAL2.out d (by omega))
            have HE:=hI (show pockI n ((c+1)*6)=pockI n (c*6+6) by rw [show (c+1)*6=c*6+6 by omega])
            go_wp2
            go_roundg (2 - (c+1))
            case measure=>omega
            case rel=>exact ⟨c+1,by omega,by go_num,by rw [HE.out],HNX.out,HR.out⟩
       · obtain rfl : c = 2 := by omega
         have HY:=hI (HEND2.out HALL.out (HAL2.out 0 (by decide)) (HAL2.out 1 (by decide)))
         rw [HVM.out] at HY
         obtain ⟨b0,b1⟩:=pockI_bd hn 12 (by decide)
         have HS:=hI (show pockI n (2*6)=pockI n 12 from rfl)
         generalize pockI n 12=S at *
         rw [HS.out]
         by_cases h32:(M:Int)+S≤32
         all_goals
          go_wp2
          go_ret
          exact ⟨rB (by rw [HY.out];simp [h32]),HB.out.trans (HR.out.mono HB.out.size)⟩
abbrev qr0:Oper:={ dst:=some 27,op:=Op.fieldAddr 77 (Operand.tmp 3) 0,type:=0,pos := "valid.go:152",after:=#[],guard:=none }
abbrev qr1:Oper:={ dst:=some 28,op:=Op.fieldAddr 31 (Operand.tmp 27) 0,type:=0,pos := "valid.go:152",after:=#[{ on:=0,ground:=Ground.data }],guard:=none }
abbrev qr2:Oper:={ dst:=some 29,op:=Op.load 5 (Operand.tmp 28),type:=5,pos := "valid.go:152",after:=#[{ on:=1,ground:=Ground.data }],guard:=none }
abbrev qr3:Oper:={ dst:=some 30,op:=Op.call { callee:=Callee.value (Operand.func 121),args:=#[Operand.tmp 29],argTypes:=#[5] },type:=4,pos := "valid.go:152",after:=#[{ on:=2,ground:=Ground.data }],guard:=none }
abbrev qr4:Oper:={ dst:=some 31,op:=Op.unOp UnOp.not 4 (Operand.tmp 30),type:=4,pos := "valid.go:152",after:=#[{ on:=3,ground:=Ground.data }],guard:=none }
abbrev qr5:Oper:={ dst:=some 32,op:=Op.move (Operand.tmp 31),type:=4,pos := "valid.go:152",after:=#[{ on:=4,ground:=Ground.data },{ on:=3,ground:=Ground.chain }],guard:=none }
abbrev qr6:Oper:={ dst:=some 33,op:=Op.move (Operand.tmp 9),type:=3,pos := "valid.go:152",after:=#[{ on:=5,ground:=Ground.guard }],guard:=some (5,false) }
abbrev qr7:Oper:={ dst:=some 34,op:=Op.move (Operand.tmp 8),type:=3,pos := "valid.go:152",after:=#[{ on:=5,ground:=Ground.guard }],guard:=some (5,false) }
abbrev qr8:Oper:={ dst:=some 35,op:=Op.binOp BinOp.lss 3 (Operand.tmp 33) (Operand.tmp 34) 3,type:=4,pos := "valid.go:152",after:=#[{ on:=6,ground:=Ground.data },{ on:=7,ground:=Ground.data },{ on:=5,ground:=Ground.guard }],guard:=some (5,false) }
abbrev qr9:Oper:={ dst:=some 36,op:=Op.pick (Operand.tmp 32) (Operand.const (Value.bool true)) (Operand.tmp 35),type:=4,pos := "valid.go:152",after:=#[{ on:=5,ground:=Ground.data },{ on:=8,ground:=Ground.data }],guard:=none }
abbrev qr10:Oper:={ dst:=some 37,op:=Op.move (Operand.tmp 36),type:=4,pos := "valid.go:152",after:=#[{ on:=9,ground:=Ground.data },{ on:=5,ground:=Ground.chain }],guard:=none }
abbrev qr11:Oper:={ dst:=some 38,op:=Op.move (Operand.tmp 9),type:=3,pos := "valid.go:152",after:=#[{ on:=10,ground:=Ground.guard }],guard:=some (10,false) }
abbrev qr12:Oper:={ dst:=some 39,op:=Op.move (Operand.tmp 8),type:=3,pos := "valid.go:152",after:=#[{ on:=10,ground:=Ground.guard }],guard:=some (10,false) }
abbrev qr13:Oper:={ dst:=some 40,op:=Op.binOp BinOp.add 3 (Operand.tmp 39) (Operand.const (Value.int IntKind.i64 7)) 3,type:=3,pos := "valid.go:152",after:=#[{ on:=12,ground:=Ground.data },{ on:=10,ground:=Ground.guard }],guard:=some (10,false) }
abbrev qr14:Oper:={ dst:=some 41,op:=Op.binOp BinOp.gtr 3 (Operand.tmp 38) (Operand.tmp 40) 3,type:=4,pos := "valid.go:152",after:=#[{ on:=11,ground:=Ground.data },{ on:=13,ground:=Ground.data },{ on:=10,ground:=Ground.guard }],guard:=some (10,false) }
abbrev qr15:Oper:={ dst:=some 42,op:=Op.pick (Operand.tmp 37) (Operand.const (Value.bool true)) (Operand.tmp 41),type:=4,pos := "valid.go:152",after:=#[{ on:=10,ground:=Ground.data },{ on:=14,ground:=Ground.data }],guard:=none }
abbrev qr16:Oper:={ dst:=some 43,op:=Op.move (Operand.tmp 42),type:=4,pos := "valid.go:152",after:=#[{ on:=15,ground:=Ground.data },{ on:=10,ground:=Ground.chain }],guard:=none }
abbrev qr17:Oper:={ dst:=some 44,op:=Op.move (Operand.tmp 8),type:=3,pos := "valid.go:152",after:=#[{ on:=16,ground:=Ground.guard }],guard:=some (16,false) }
abbrev qr18:Oper:={ dst:=some 45,op:=Op.move (Operand.tmp 7),type:=3,pos := "valid.go:152",after:=#[{ on:=16,ground:=Ground.guard }],guard:=some (16,false) }
abbrev qr19:Oper:={ dst:=some 46,op:=Op.binOp BinOp.add 3 (Operand.tmp 44) (Operand.tmp 45) 3,type:=3,pos := "valid.go:152",after:=#[{ on:=17,ground:=Ground.data },{ on:=18,ground:=Ground.data },{ on:=16,ground:=Ground.guard }],guard:=some (16,false) }
abbrev qr20:Oper:={ dst:=some 47,op:=Op.fieldAddr 77 (Operand.tmp 3) 0,type:=0,pos := "valid.go:152",after:=#[{ on:=16,ground:=Ground.guard }],guard:=some (16,false) }
abbrev qr21:Oper:={ dst:=some 48,op:=Op.fieldAddr 31 (Operand.tmp 47) 1,type:=0,pos := "valid.go:152",after:=#[{ on:=20,ground:=Ground.data },{ on:=16,ground:=Ground.guard }],guard:=some (16,false) }
abbrev qr22:Oper:={ dst:=some 49,op:=Op.indexAddr 22 (Operand.tmp 48) (Operand.tmp 46),type:=0,pos := "valid.go:152",after:=#[{ on:=21,ground:=Ground.data },{ on:=19,ground:=Ground.data },{ on:=16,ground:=Ground.guard }],guard:=some (16,false) }
abbrev qr23:Oper:={ dst:=some 50,op:=Op.load 5 (Operand.tmp 49),type:=5,pos := "valid.go:152",after:=#[{ on:=22,ground:=Ground.data },{ on:=16,ground:=Ground.guard }],guard:=some (16,false) }
abbrev qr24:Oper:={ dst:=some 51,op:=Op.move (Operand.tmp 1),type:=5,pos := "valid.go:152",after:=#[{ on:=16,ground:=Ground.guard }],guard:=some (16,false) }
abbrev qr25:Oper:={ dst:=some 52,op:=Op.call { callee:=Callee.value (Operand.func 91),args:=#[Operand.tmp 51,Operand.const (Value.int IntKind.u8 4)],argTypes:=#[5,5] },type:=5,pos := "valid.go:152",after:=#[{ on:=24,ground:=Ground.data },{ on:=16,ground:=Ground.chain },{ on:=16,ground:=Ground.guard }],guard:=some (16,false) }
abbrev qr26:Oper:={ dst:=some 53,op:=Op.binOp BinOp.neq 5 (Operand.tmp 50) (Operand.tmp 52) 5,type:=4,pos := "valid.go:152",after:=#[{ on:=23,ground:=Ground.data },{ on:=25,ground:=Ground.data },{ on:=16,ground:=Ground.guard }],guard:=some (16,false) }
abbrev qr27:Oper:={ dst:=some 54,op:=Op.pick (Operand.tmp 43) (Operand.const (Value.bool true)) (Operand.tmp 53),type:=4,pos := "valid.go:152",after:=#[{ on:=16,ground:=Ground.data },{ on:=26,ground:=Ground.data }],guard:=none }
theorem first_bdH (b:BitVec 64):-1≤firstB b∧firstB b<64:=by
 rcases first_cases b with ⟨_,h⟩ | ⟨i,hi,_,_,h⟩ <;> rw [h] <;> omega
theorem vright_any (n:Nat→Int) (hn:PosOk n) (hp:vPlain n=true) (c side:Nat) (hc:c≤1) (hs:side≤1) (w:World) (hT:Tab w):Calls Tryz.prog 168 #[.agg (posA n),.int .u8 (c:Int),.int .i64 (side:Int)] w fun e w' => e = .returned (.bool (vRight n c side))∧Below w.heap.size w w' := by
 obtain ⟨X,hX⟩:∃ X,w.alloc (.cells (posA n) 77)=X:=⟨_,rfl⟩
 obtain ⟨p0,hb⟩:=ask1 w n X hX
 obtain ⟨v0,v1⟩:=hn.u8 0 (by decide) rfl
 obtain ⟨v,hv⟩:∃ v:Nat,n 0=v:=⟨(n 0).toNat,by omega⟩
 have hv1:v≤255:=by omega
 have hff:=((vPlain_iff n).1 hp).2.2 c (by omega)
 have hff:=hff.1 side (by omega)
 unfold vFile at hff
 rw [Bool.not_eq_true',Bool.or_eq_false_iff,decide_eq_false_iff_not,decide_eq_false_iff_not] at hff
 have HX:=hI hX
 have HB:=hI hb
 have HF:=hI (fun (U:World) (hU:Below X.heap.size X U)=>(show U.cell? ⟨w.heap.size,0,none⟩=some (.int .u8 (v:Int))∧U.cell? ⟨w.heap.size,79+c*2+side,none⟩=some (.int .i8 (n (79+c*2+side)))∧IsAsk U w.heap.size∧rowOf U w.heap.size=posA n from
  (fun hh=>⟨by rw [← hv];exact hh.board 0 (by decide),by rw [hh.cell (79+c*2+side) (by omega),kind_rook (by omega) (by omega)],hh.rules⟩) (p0.below hU p0.lt)))
 have HBO:=hI (fun (j:Nat) (hj:j≤64) (U:World) (hU:Below X.heap.size X U)=>(show U.cell? ⟨w.heap.size,j,none⟩=some (.int .u8 (n j)) from (p0.below hU p0.lt).board j hj))
 have HCA:=hI (fun w=>vcastles_any v hv1 w)
 have HMK:=hI (fun w=>make_any (c:Int) 4 (by omega) (by omega) (by decide) (by decide) w)
 have HFD:=hI (bfind_any n hn (c:Int) 6 X (hT.below hb lR))
 have HW:=hI (show vRight n c side=(decide (n (79+c*2+side)<0) ||
 (casB v && !(decide (firstB (ofN n c 6) < 56 * c) || decide (56 * c + 7 < firstB (ofN n c 6))) && (n (1 + (56 * (c : Int) + n (79 + c * 2 + side)).toNat) == makeI c 4) &&
  (((v:Int)==1) || ((firstB (ofN n c 6)==56*c+4)&&(n (79+c*2+side)==7 - 7*side))) &&
  (if side=0 then decide (firstB (ofN n c 6) - 56*c<n (79+c*2+side)) else decide (n (79+c*2+side)<firstB (ofN n c 6) - 56*c)))) by unfold vRight vKingAt;rw [hv];rfl)
 have HKB:=hI (first_bdH (ofN n c 6))
 obtain ⟨c0,cf,ia,ra⟩:=HF.out X bR
 have HBX:∀ f:Int,n (79+c*2+side)=f→0≤f→f≤7→(n (1+(56*(c:Int)+f).toNat)≤255∧0≤n (1+(56*(c:Int)+f).toNat))∧∀ (U:World) (hU:Below X.heap.size X U),U.cell? ⟨w.heap.size,1+(56*(c:Int)+f).toNat,none⟩=some (.int .u8 (n (1+(56*(c:Int)+f).toNat))):=fun f _ f0 f7=>by
  obtain ⟨x0,x1⟩:=hn.u8 (1+(56*(c:Int)+f).toNat) (by omega) (kB (by omega))
  exact ⟨⟨x1,x0⟩,HBO.out _ (by omega)⟩
 have HBX:=hI HBX
 obtain ⟨f,hf⟩:∃ f,n (79+c*2+side)=f:=⟨_,rfl⟩
 have HFF:=hI hf
 rw [hf] at cf hff HF HW
 generalize firstB (ofN n c 6)=K at *
 clear hX p0 hb hv v0 hp hT hf
 by_cases hf0:f<0
 · have HW2 := hideIt (HW.out.trans (by rw [decide_eq_true hf0, Bool.true_or]))
   go_enter Tryz.func168,Tryz.ntmps168
   go_wp2_with (rw [HX.out])
   go_ret
   exact ⟨rB HW2.out.symm,HB.out⟩
 · obtain ⟨⟨x1, x0⟩, hbd⟩ := HBX.out f HFF.out (by omega) (by omega)
   have HBD:=hI hbd
   rw [decide_eq_false hf0,Bool.false_or] at HW
   generalize n (1+(56*(c:Int)+f).toNat)=x at *
   generalize makeI (c:Int) 4=mk at *
   generalize casB v=C at *
   have hf1:0≤f:=by omega
   have hf7:f≤7:=by omega
   have hfs:decide (f<0)=false:=decide_eq_false hf0
   have hk7:=HKB.out
   have w1:IntKind.i64.wrap (56*(c:Int))=56*c:=IntWalk.i64_in _ (by omega)
   have w2:IntKind.i64.wrap (56*(c:Int)+7)=56*c+7:=IntWalk.i64_in _ (by omega)
   have w3:IntKind.i64.wrap (56*(c:Int)+f)=56*c+f:=IntWalk.i64_in _ (by omega)
   have i1:(0:Int)≤56*c+f:=by omega
   have i2:56*(c:Int)+f<64:=by omega
   have HW:=hI HW.out
   clear hbd hff hf0 HBX HKB
   rcases (show (C=false)∨(C=true∧decide (K<56*c)=true)∨(C=true∧decide (K<56*c)=false∧decide (56*c+7<K)=true)∨(C=true∧decide (K<56*c)=false∧decide (56*c+7<K)=false∧(x==mk)=false)∨(C=true∧decide (K<56*c)=false∧decide (56*c+7<K)=false∧(x==mk)=true) by
    cases C <;> cases decide (K<56*c) <;> cases decide (56*c+7<K) <;> cases (x==mk) <;> simp) with e1 | ⟨e1,e2⟩ | ⟨e1,e2,e3⟩ | ⟨e1,e2,e3,e4⟩ | ⟨e1,e2,e3,e4⟩
   all_goals
    (try have e5:(x != mk)=false:=congrArg not e4)
    (try have e5:(x != mk)=true:=congrArg not e4)
    subst e1
    go_enter Tryz.func168,Tryz.ntmps168
    go_wp2_with (first | rw [HX.out] | (go_at_call 97;refine HFD.out.mono ?_;rintro e U ⟨rfl,h1⟩;have HR:=hI h1;clear c0 cf ia ra h1;obtain ⟨c0,cf,ia,ra⟩:=HF.out _ HR.out))
    refine wp_region_held_drew (S:=(fun W=>(W.cell? ⟨w.heap.size,0,none⟩=some (.int .u8 (v:Int))∧W.cell? ⟨w.heap.size,1+Int.toNat (56*(c:Int)+f),none⟩=some (.int .u8 x))∧Below X.heap.size X W)) (by kernel_rfl) ?_ (fun hHeld=>?_)
    · (try dsimp only);(refine ⟨⟨(HF.out _ ?_).1,HBD.out _ ?_⟩,?_⟩ <;> (repeat (first | exact bR | assumption | exact HR.out | refine bD ?_ | refine bT ?_ (by assumption))))
    (refine tl 0 (oi:=qr0) (v:=?_) ?_ ?_;rotate_left;(focus (intro w hSw;(try dsimp only at hSw);go_simp;try (with_reducible rfl)));try simp only [Act.put,lA,lB,lC])
    (refine tl 1 (oi:=qr1) (v:=?_) ?_ ?_;rotate_left;(focus (intro w hSw;(try dsimp only at hSw);go_simp;try (with_reducible rfl)));try simp only [Act.put,lA,lB,lC])
    (refine tl 2 (oi:=qr2) (v:=?_) ?_ ?_;rotate_left;(focus (intro w hSw;(try dsimp only at hSw);go_simp;try (with_reducible rfl)));try simp only [Act.put,lA,lB,lC])
    refine wpAnyH_ready (rs:=[3]) (by kernel_rfl) (by simp) ?_
    refine AllReadyH.cons (o:=qr3) rfl (fun K hK=>?_) AllReadyH.nil
    go_simp
    refine (HCA.out _).mono ?_
    rintro e wa ⟨rfl,hba⟩
    refine hK.out _ _ ?_ (fun hHeld=>?_)
    · (try dsimp only);(refine ⟨⟨(HF.out _ ?_).1,HBD.out _ ?_⟩,?_⟩ <;> (repeat (first | exact bR | assumption | exact HR.out | refine bD ?_ | refine bT ?_ (by assumption))))
    clear hK K
    try simp only [Act.put,lA,lB,lC]
    (refine tl 4 (oi:=qr4) (v:=?_) ?_ ?_;rotate_left;(focus (intro w hSw;(try dsimp only at hSw);go_simp;try (with_reducible rfl)));try simp only [Act.put,lA,lB,lC])
    (refine tl 5 (oi:=qr5) (v:=?_) ?_ ?_;rotate_left;(focus (intro w hSw;(try dsimp only at hSw);go_simp;try (with_reducible rfl)));try simp only [Act.put,lA,lB,lC])
    first | (refine tl 6 (oi:=qr6) (v:=?_) ?_ ?_;rotate_left;(focus (intro w hSw;(try dsimp only at hSw);go_simp;try (with_reducible rfl)));try simp only [Act.put,lA,lB,lC]) | (refine tr 6 (oi:=qr6) ?_;try simp only [Act.put,lA,lB,lC])
    first | (refine tl 7 (oi:=qr7) (v:=?_) ?_ ?_;rotate_left;(focus (intro w hSw;(try dsimp only at hSw);go_simp;try (with_reducible rfl)));try simp only [Act.put,lA,lB,lC]) | (refine tr 7 (oi:=qr7) ?_;try simp only [Act.put,lA,lB,lC])
    first | (refine tl 8 (oi:=qr8) (v:=?_) ?_ ?_;rotate_left;(focus (intro w hSw;(try dsimp only at hSw);go_simp;try (with_reducible rfl)));try simp only [Act.put,lA,lB,lC]) | (refine tr 8 (oi:=qr8) ?_;try simp only [Act.put,lA,lB,lC])
    (refine tl 9 (oi:=qr9) (v:=?_) ?_ ?_;rotate_left;(focus (intro w hSw;(try dsimp only at hSw);go_simp;try (with_reducible rfl)));try simp only [Act.put,lA,lB,lC])
    (refine tl 10 (oi:=qr10) (v:=?_) ?_ ?_;rotate_left;(focus (intro w hSw;(try dsimp only at hSw);go_simp;try (with_reducible rfl)));try simp only [Act.put,lA,lB,lC])
    first | (refine tl 11 (oi:=qr11) (v:=?_) ?_ ?_;rotate_left;(focus (intro w hSw;(try dsimp only at hSw);go_simp;try (with_reducible rfl)));try simp only [Act.put,lA,lB,lC]) | (refine tr 11 (oi:=qr11) ?_;try simp only [Act.put,lA,lB,lC])
    first | (refine tl 12 (oi:=qr12) (v:=?_) ?_ ?_;rotate_left;(focus (intro w hSw;(try dsimp only at hSw);go_simp;try (with_reducible rfl)));try simp only [Act.put,lA,lB,lC]) | (refine tr 12 (oi:=qr12) ?_;try simp only [Act.put,lA,lB,lC])
    first | (refine tl 13 (oi:=qr13) (v:=?_) ?_ ?_;rotate_left;(focus (intro w hSw;(try dsimp only at hSw);go_simp;try (with_reducible rfl)));try simp only [Act.put,lA,lB,lC]) | (refine tr 13 (oi:=qr13) ?_;try simp only [Act.put,lA,lB,lC])
    first | (refine tl 14 (oi:=qr14) (v:=?_) ?_ ?_;rotate_left;(focus (intro w hSw;(try dsimp only at hSw);go_simp;try (with_reducible rfl)));try simp only [Act.put,lA,lB,lC]) | (refine tr 14 (oi:=qr14) ?_;try simp only [Act.put,lA,lB,lC])
    (refine tl 15 (oi:=qr15) (v:=?_) ?_ ?_;rotate_left;(focus (intro w hSw;(try dsimp only at hSw);go_simp;try (with_reducible rfl)));try simp only [Act.put,lA,lB,lC])
    (refine tl 16 (oi:=qr16) (v:=?_) ?_ ?_;rotate_left;(focus (intro w hSw;(try dsimp only at hSw);go_simp;try (with_reducible rfl)));try simp only [Act.put,lA,lB,lC])
    first | (refine tl 17 (oi:=qr17) (v:=?_) ?_ ?_;rotate_left;(focus (intro w hSw;(try dsimp only at hSw);go_simp;try (with_reducible rfl)));try simp only [Act.put,lA,lB,lC]) | (refine tr 17 (oi:=qr17) ?_;try simp only [Act.put,lA,lB,lC])
    first | (refine tl 18 (oi:=qr18) (v:=?_) ?_ ?_;rotate_left;(focus (intro w hSw;(try dsimp only at hSw);go_simp;try (with_reducible rfl)));try simp only [Act.put,lA,lB,lC]) | (refine tr 18 (oi:=qr18) ?_;try simp only [Act.put,lA,lB,lC])
    first | (refine tl 19 (oi:=qr19) (v:=?_) ?_ ?_;rotate_left;(focus (intro w hSw;(try dsimp only at hSw);go_simp;try (with_reducible rfl)));try simp only [Act.put,lA,lB,lC]) | (refine tr 19 (oi:=qr19) ?_;try simp only [Act.put,lA,lB,lC])
    first | (refine tl 20 (oi:=qr20) (v:=?_) ?_ ?_;rotate_left;(focus (intro w hSw;(try dsimp only at hSw);go_simp;try (with_reducible rfl)));try simp only [Act.put,lA,lB,lC]) | (refine tr 20 (oi:=qr20) ?_;try simp only [Act.put,lA,lB,lC])
    first | (refine tl 21 (oi:=qr21) (v:=?_) ?_ ?_;rotate_left;(focus (intro w hSw;(try dsimp only at hSw);go_simp;try (with_reducible rfl)));try simp only [Act.put,lA,lB,lC]) | (refine tr 21 (oi:=qr21) ?_;try simp only [Act.put,lA,lB,lC])
    first | (refine tl 22 (oi:=qr22) (v:=?_) ?_ ?_;rotate_left;(focus (intro w hSw;(try dsimp only at hSw);go_simp;try (with_reducible rfl)));try simp only [Act.put,lA,lB,lC]) | (refine tr 22 (oi:=qr22) ?_;try simp only [Act.put,lA,lB,lC])
    first | (refine tl 23 (oi:=qr23) (v:=?_) ?_ ?_;rotate_left;(focus (intro w hSw;(try dsimp only at hSw);go_simp;try (with_reducible rfl)));try simp only [Act.put,lA,lB,lC]) | (refine tr 23 (oi:=qr23) ?_;try simp only [Act.put,lA,lB,lC])
    first | (refine tl 24 (oi:=qr24) (v:=?_) ?_ ?_;rotate_left;(focus (intro w hSw;(try dsimp only at hSw);go_simp;try (with_reducible rfl)));try simp only [Act.put,lA,lB,lC]) | (refine tr 24 (oi:=qr24) ?_;try simp only [Act.put,lA,lB,lC])
    first
    | (refine tr 25 (oi:=qr25) ?_;try simp only [Act.put,lA,lB,lC])
    | refine wpAnyH_ready (rs := [25]) (by kernel_rfl) (by simp) ?_
      refine AllReadyH.cons (o:=qr25) rfl (fun K hK=>?_) AllReadyH.nil
      go_simp
      refine (HMK.out _).mono ?_
      rintro e wb ⟨rfl,rfl⟩
      refine hK.out _ _ ?_ (fun hHeld=>?_)
      · (try dsimp only);(refine ⟨⟨(HF.out _ ?_).1,HBD.out _ ?_⟩,?_⟩ <;> (repeat (first | exact bR | assumption | exact HR.out | refine bD ?_ | refine bT ?_ (by assumption))))
      clear hK K
      try simp only [Act.put,lA,lB,lC]
    first | (refine tl 26 (oi:=qr26) (v:=?_) ?_ ?_;rotate_left;(focus (intro w hSw;(try dsimp only at hSw);go_simp;try (with_reducible rfl)));try simp only [Act.put,lA,lB,lC]) | (refine tr 26 (oi:=qr26) ?_;try simp only [Act.put,lA,lB,lC])
    (refine tl 27 (oi:=qr27) (v:=?_) ?_ ?_;rotate_left;(focus (intro w hSw;(try dsimp only at hSw);go_simp;try (with_reducible rfl)));try simp only [Act.put,lA,lB,lC])
    refine wpAnyH_done (by kernel_rfl) ?_ _
   iterate 4
    focus
     have HW2:=hI (show vRight n c side=false from HW.out.trans (by (try rw [e2]);(try rw [e3]);(try rw [e4]);simp))
     go_wp2
     go_ret
     exact ⟨rB HW2.out.symm,HB.out.trans ((And.right hHeld).mono HB.out.size)⟩
   have HW:=hI (show vRight n c side=((((v:Int)==1) || ((K - 56*c==4)&&(f==7 - 7*side)))&&(if side=0 then decide (K - 56*c<f) else decide (f<K - 56*c))) from HW.out.trans (by
    rw [e2,e3,e4,show (K==56*(c:Int)+4)=(K - 56*c==4) by rw [Bool.eq_iff_iff,beq_iff_eq,beq_iff_eq];omega];simp))
   have b1:0≤K - 56*(c:Int):=by rw [decide_eq_false_iff_not] at e2;omega
   have b2:K - 56*(c:Int)≤7:=by rw [decide_eq_false_iff_not] at e3;omega
   clear w1 w2 w3 i1 i2 e2 e3 e4 e5 hfs
   rcases (show (((v:Int)==1)=false∧(K - 56*(c:Int)==4)=false)∨(((v:Int)==1)=false∧(K - 56*(c:Int)==4)=true∧(f==7 - 7*(side:Int))=false)∨(((v:Int)==1)=false∧(K - 56*(c:Int)==4)=true∧(f==7 - 7*(side:Int))=true)∨((v:Int)==1)=true by
    cases ((v:Int)==1) <;> cases (K - 56*(c:Int)==4) <;> cases (f==7 - 7*(side:Int)) <;> simp) with ⟨g1,g2⟩ | ⟨g1,g2,g3⟩ | ⟨g1,g2,g3⟩ | g1
   all_goals
    (try have g4:((v:Int) != 1)=false:=congrArg not g1)
    (try have g4:((v:Int) != 1)=true:=congrArg not g1)
    (try have g5:(K - 56*(c:Int) != 4)=false:=congrArg not g2)
    (try have g5:(K - 56*(c:Int) != 4)=true:=congrArg not g2)
    (try have g6:(f != 7 - 7*(side:Int))=false:=congrArg not g3)
    (try have g6:(f != 7 - 7*(side:Int))=true:=congrArg not g3)
   iterate 2
    focus
     have HW2:=hI (show vRight n c side=false from HW.out.trans (by (try rw [g1]);(try rw [g2]);(try rw [g3]);simp))
     go_wp2
     go_ret
     exact ⟨rB HW2.out.symm,HB.out.trans ((And.right hHeld).mono HB.out.size)⟩
   all_goals
    have HW2:=hI (show vRight n c side=(if side=0 then decide (K - 56*c<f) else decide (f<K - 56*c)) from HW.out.trans (by (try rw [g1]);(try rw [g2]);(try rw [g3]);simp))
    clear HW
    rcases (show side=0∨side=1 by omega) with hs0 | hs0
    all_goals
     have HS:=hI hs0
     (try have j1:decide (side=0)=true:=decide_eq_true (by omega))
     (try have j1:decide (side=0)=false:=decide_eq_false (by omega))
     (try have j2:decide ((side:Int)=1)=true:=decide_eq_true (by omega))
     (try have j2:decide ((side:Int)=1)=false:=decide_eq_false (by omega))
     (try have j3:¬side=0:=by omega)
     (try have j4:(side:Int)=1:=by omega)
     generalize hq1:decide (K - 56*(c:Int)<f)=r1 at *
     generalize hq2:decide (f<K - 56*(c:Int))=r2 at *
     cases r1 <;> cases r2
     all_goals
      go_wp2
      go_ret
      exact ⟨rB (by rw [HW2.out];simp [HS.out]),HB.out.trans ((And.right hHeld).mono HB.out.size)⟩
theorem vRooks_no {n:Nat→Int} {c:Nat} (hc:c<2) (h:(vRight n c 0&&vRight n c 1)=false):vRooks n=false:=by
 unfold vRooks
 rcases (show c=0∨c=1 by omega) with rfl | rfl
 · rw [h];rfl
 · rw [Bool.and_assoc,h,Bool.and_false]
theorem vrooks_any (n:Nat→Int) (hn:PosOk n) (hp:vPlain n=true) (w:World) (hT:Tab w):Calls Tryz.prog 116 #[.agg (posA n)] w fun e w' => e = .returned (.bool (vRooks n))∧Below w.heap.size w w' := by
 obtain ⟨X,hX⟩:∃ X,w.alloc (.cells (posA n) 77)=X:=⟨_,rfl⟩
 obtain ⟨p0,hb⟩:=ask1 w n X hX
 have HX:=hI hX
 have HB:=hI hb
 have HF:=hI (fun (U:World) (hU:Below X.heap.size X U)=>(p0.below hU p0.lt).rules)
 have HRT:=hI (fun (c side:Nat) (hc:c<2) (hs:side≤1) (U:World) (hU:Below X.heap.size X U)=>vright_any n hn hp c side (by omega) hs U ((hT.below hb lR).below hU lR))
 have HNO:=hI (fun (c:Nat) (hc:c<2) h=>vRooks_no (n:=n) hc h)
 clear hX p0 hb hp hT
 go_enter Tryz.func116,Tryz.ntmps116
 go_wp2_with (rw [HX.out])
 go_loopg [3] 2 (fun g i wr=>∃ c:Nat,c+g=2∧i=.int .u8 c∧(∀ d:Nat,d<c→vRight n d 0=true∧vRight n d 1=true)∧Below X.heap.size X wr)
 case atStart=>exact ⟨0,rfl,rfl,fun s hs=>absurd hs (Nat.not_lt_zero s),bR⟩
 case round =>
  obtain ⟨c,hgc,rfl,hall,hr⟩:=hrel
  have HALL:=hI hall
  have HR:=hI hr
  clear hall hr
  by_cases hlt:c<2
  · obtain ⟨i0, r0⟩ := HF.out wr HR.out
    have H0:=hI (HRT.out c 0 hlt (by decide))
    have H1:=hI (HRT.out c 1 hlt (by decide))
    have HN:=hI (HNO.out c hlt)
    have HNX:=hI (fun h:vRight n c 0=true∧vRight n c 1=true=>(show ∀ d:Nat,d<c+1→vRight n d 0=true∧vRight n d 1=true from fun d hd=>by
     by_cases e:d=c
     · subst e;exact h
     · exact HALL.out d (by omega)))
    generalize vRight n c 0=a at *
    generalize vRight n c 1=b at *
    cases a
    · have HN2 := hideIt (HN.out rfl)
      go_wp2_with (refine (H0.out _ HR.out).mono ?_;rintro e U ⟨rfl,h1⟩;have HR2:=hI (bT HR.out h1);clear h1)
      go_ret
      exact ⟨rB HN2.out.symm,HB.out.trans (HR2.out.mono HB.out.size)⟩
    · cases b
      · have HN2 := hideIt (HN.out rfl)
        go_wp2_with fail
        refine (H0.out _ HR.out).mono ?_
        rintro e U ⟨rfl,h1⟩
        have HR2:=hI (bT HR.out h1)
        clear h1 i0 r0
        obtain ⟨i0,r0⟩:=HF.out U HR2.out
        go_wp2_with (refine (H1.out _ HR2.out).mono ?_;rintro e U2 ⟨rfl,h1⟩;have HR3:=hI (bT HR2.out h1);clear h1)
        go_ret
        exact ⟨rB HN2.out.symm,HB.out.trans (HR3.out.mono HB.out.size)⟩
      · have HN2 := hideIt (HNX.out ⟨rfl, rfl⟩)
        go_wp2_with fail
        refine (H0.out _ HR.out).mono ?_
        rintro e U ⟨rfl,h1⟩
        have HR2:=hI (bT HR.out h1)
        clear h1 i0 r0
        obtain ⟨i0,r0⟩:=HF.out U HR2.out
        go_wp2_with (refine (H1.out _ HR2.out).mono ?_;rintro e U2 ⟨rfl,h1⟩;have HR3:=hI (bT HR2.out h1);clear h1)
        go_roundg (2 - (c+1))
        case measure=>omega
        case rel=>exact ⟨c+1,by omega,by go_num,HN2.out,HR3.out⟩
  · obtain rfl : c = 2 := by omega
    have HY:=hI (show vRooks n=true by
     unfold vRooks
     rw [(HALL.out 0 (by decide)).1,(HALL.out 0 (by decide)).2,(HALL.out 1 (by decide)).1,(HALL.out 1 (by decide)).2];rfl)
    go_wp2
    go_ret
    exact ⟨rB HY.out.symm,HB.out.trans (HR.out.mono HB.out.size)⟩
def upV (t:Int):Int:=if t=1 then -8 else 8
def vPassB (n:Nat→Int) (s t:Int):Bool:=(s / 8==(if t=1 then 2 else 5))&&((n (1+s.toNat)==0)&&((n (1+(s+upV t).toNat)==0)&&(n (1+(s - upV t).toNat)==makeI (1 - t) 1)))
def vPassing (n:Nat→Int):Bool:=decide (n 83<0) || (vPassB n (n 83) (n 78)&&!(byN n (n 83) (n 78)&&&ofN n (n 78) 1==0#64))
def vCheck (n:Nat→Int):Bool:=!((n 0==8)&&checkN n (n 78))&&(((n 0==3)&&(vCount n (n 78) 6==0)) || !checkN n (1 - n 78))
theorem plain_facts {n:Nat→Int} (hn:PosOk n) (hp:vPlain n=true):n 0<9∧(n 78=0∨n 78=1)∧-1≤n 83∧n 83<64:=by
 have h:=((vPlain_iff n).1 hp).1
 unfold vHead at h
 rw [Bool.not_eq_true',Bool.or_eq_false_iff,Bool.or_eq_false_iff,Bool.or_eq_false_iff,decide_eq_false_iff_not,decide_eq_false_iff_not,decide_eq_false_iff_not,decide_eq_false_iff_not] at h
 obtain ⟨t0,t1⟩:=hn.u8 78 (by decide) rfl
 omega
theorem vpassing_any (n:Nat→Int) (hn:PosOk n) (hp:vPlain n=true) (w:World) (hT:Tab w):Calls Tryz.prog 117 #[.agg (posA n)] w fun e w' => e = .returned (.bool (vPassing n))∧Below w.heap.size w w' := by
 obtain ⟨X,hX⟩:∃ X,w.alloc (.cells (posA n) 77)=X:=⟨_,rfl⟩
 obtain ⟨p0,hb⟩:=ask1 w n X hX
 obtain ⟨_,h78,q0,q1⟩:=plain_facts hn hp
 obtain ⟨t,ht⟩:∃ t,n 78=t:=⟨_,rfl⟩
 obtain ⟨s,hs⟩:∃ s,n 83=s:=⟨_,rfl⟩
 have HX:=hI hX
 have HB:=hI hb
 have HF:=hI (fun (U:World) (hU:Below X.heap.size X U)=>(show U.cell? ⟨w.heap.size,78,none⟩=some (.int .u8 t)∧U.cell? ⟨w.heap.size,83,none⟩=some (.int .i8 s)∧IsAsk U w.heap.size∧rowOf U w.heap.size=posA n from
  (fun hh=>⟨by rw [← ht];exact hh.cell 78 (by decide),by rw [← hs];exact hh.cell 83 (by decide),hh.rules⟩) (p0.below hU p0.lt)))
 have HBO:=hI (fun (j:Int) (j0:0≤j) (hj:j<64)=>(show X.cell? ⟨w.heap.size,1+j.toNat,none⟩=some (.int .u8 (n (1+j.toNat))) from p0.board _ (by omega)))
 have HW:=hI (show vPassing n=(decide (s<0) || (vPassB n s t&&!(byN n s t&&&ofN n t 1==0#64))) by unfold vPassing;rw [hs,ht])
 have HTX:=hI (fun (U:World) (hU:Below X.heap.size X U)=>(hT.below hb lR).below hU lR)
 have HMK:=hI (fun w=>make_any (1 - t) 1 (by omega) (by omega) (by decide) (by decide) w)
 obtain ⟨ct,cs,ia,ra⟩:=HF.out X bR
 rw [hs] at q0 q1
 rw [ht] at h78
 clear hX p0 hb hp hT ht hs
 by_cases hs0:s<0
 · have HW2 := hideIt (show vPassing n = true from HW.out.trans (by rw [decide_eq_true hs0, Bool.true_or]))
   go_enter Tryz.func117,Tryz.ntmps117
   go_wp2_with (rw [HX.out])
   go_ret
   exact ⟨rB HW2.out.symm,HB.out⟩
 · have s0 : 0 ≤ s := by omega
   have HW:=hI (show vPassing n=(vPassB n s t&&!(byN n s t&&&ofN n t 1==0#64)) from HW.out.trans (by rw [decide_eq_false hs0,Bool.false_or]))
   have HBY:=hI (fun U hU=>by_any n hn s t s0 (by omega) (by omega) (by omega) U (HTX.out U hU))
   have HOF:=hI (fun U=>of_any n hn t 1 U)
   clear HTX
   have hsd:decide (s<0)=false:=decide_eq_false hs0
   clear hs0
   generalize hbb:byN n s t=by1 at *
   generalize hoo:ofN n t 1=of1 at *
   clear hbb hoo
   have t0:0≤t:=by omega
   have t1:t≤1:=by omega
   have wt:IntKind.u8.wrap (1 - t)=1 - t:=IntWalk.u8_in _ (by omega)
   clear h78
   have HW:=hI (show vPassing n=(((s / 8==(if t=1 then 2 else 5))&&((n (1+s.toNat)==0)&&((n (1+(s+upV t).toNat)==0)&&(n (1+(s - upV t).toNat)==makeI (1 - t) 1))))&&!(by1&&&of1==0#64)) from HW.out)
   generalize makeI (1 - t) 1=mk at *
   by_cases ht:t=1
   rotate_left
   · have ht1 : (t == 1) = false := beq_eq_false_iff_ne.2 ht
     unfold upV at HW
     rw [if_neg ht,if_neg ht] at HW
     clear ht
     by_cases hrk:s / 8=5
     · have d1 : (s / 8 == 5) = true := beq_iff_eq.2 hrk
       have d2:(s / 8 != 5)=false:=congrArg not d1
       have b1:=HBO.out s (by omega) (by omega)
       have b2:=HBO.out (s+8) (by omega) (by omega)
       have b3:=HBO.out (s - 8) (by omega) (by omega)
       have i1:(0:Int)≤s+8:=by omega
       have i2:(s+8:Int)<64:=by omega
       have i3:(0:Int)≤s - 8:=by omega
       have i4:(s - 8:Int)<64:=by omega
       have w1:IntKind.i64.wrap (s+8)=s+8:=IntWalk.i64_in _ (by omega)
       have w2:IntKind.i64.wrap (s - 8)=s - 8:=IntWalk.i64_in _ (by omega)
       rw [d1,Bool.true_and] at HW
       generalize n (1+s.toNat)=x1 at *
       generalize n (1+(s+8).toNat)=x2 at *
       generalize n (1+(s - 8).toNat)=x3 at *
       clear hrk d1 HBO
       rcases (show (x1==0)=false∨((x1==0)=true∧(x2==0)=false)∨((x1==0)=true∧(x2==0)=true∧(x3==mk)=false)∨((x1==0)=true∧(x2==0)=true∧(x3==mk)=true) by
        cases (x1==0) <;> cases (x2==0) <;> cases (x3==mk) <;> simp) with g1 | ⟨g1,g2⟩ | ⟨g1,g2,g3⟩ | ⟨g1,g2,g3⟩
       all_goals
        (try have q1:(x1 != 0)=true:=congrArg not g1)
        (try have q1:(x1 != 0)=false:=congrArg not g1)
        (try have q2:(x2 != 0)=true:=congrArg not g2)
        (try have q2:(x2 != 0)=false:=congrArg not g2)
        (try have q3:(x3 != mk)=true:=congrArg not g3)
        (try have q3:(x3 != mk)=false:=congrArg not g3)
        go_enter Tryz.func117,Tryz.ntmps117
        go_wp2_with (rw [HX.out])
        go_quiet ((go_at_call 91;exact quietEq (HMK.out _)))
        (try have hR:=bD (Below.refl X.heap.size X))
       iterate 3
        focus
         have HW2:=hI (show vPassing n=false from HW.out.trans (by rw [g1];(try rw [g2]);(try rw [g3]);simp))
         go_wp2
         go_ret
         exact ⟨rB HW2.out.symm,HB.out.trans ((blN _ _).mono HB.out.size)⟩
       have HW2:=hI (show vPassing n=!(by1&&&of1==0#64) from HW.out.trans (by rw [g1,g2,g3];simp))
       go_wp2_with fail
       go_region_held3 (fun V2=>((V2.cell? ⟨w.heap.size,78,none⟩=some (.int .u8 t)∧V2.cell? ⟨w.heap.size,83,none⟩=some (.int .i8 s))∧(IsAsk V2 w.heap.size∧rowOf V2 w.heap.size=posA n))∧Below X.heap.size X V2) ((refine (fun hb=>⟨⟨⟨(HF.out _ hb).1,(HF.out _ hb).2.1⟩,(HF.out _ hb).2.2⟩,hb⟩) ?_;repeat (first | exact bR | assumption | exact blN _ _ | refine bD ?_ | refine bT ?_ (by assumption)))) ((first | (go_at_call 125;refine (HBY.out _ (And.right ‹((_∧_)∧_)∧Below X.heap.size X _›)).mono ?_;rintro e w31 ⟨rfl,h1⟩) | (go_at_call 99;refine (HOF.out _).mono ?_;rintro e w32 ⟨rfl,h2⟩)))
       have hR:=And.right ‹((_∧_)∧_)∧Below X.heap.size X w32›
       go_wp2
       go_ret
       exact ⟨rB (by rw [HW2.out,bne,u_eq_zero]),HB.out.trans (hR.mono HB.out.size)⟩
     · have d1 : (s / 8 == 5) = false := beq_eq_false_iff_ne.2 hrk
       have d2:(s / 8 != 5)=true:=congrArg not d1
       have HW2:=hI (show vPassing n=false from HW.out.trans (by rw [d1];simp))
       clear hrk d1
       go_enter Tryz.func117,Tryz.ntmps117
       go_wp2_with (rw [HX.out])
       go_quiet ((go_at_call 91;exact quietEq (HMK.out _)))
       go_wp2
       go_ret
       exact ⟨rB HW2.out.symm,HB.out.trans ((blN _ _).mono HB.out.size)⟩
   · have ht1 : (t == 1) = true := beq_iff_eq.2 ht
     unfold upV at HW
     rw [if_pos ht,if_pos ht,show s+-8=s - 8 by omega,show s - -8=s+8 by omega] at HW
     clear ht
     by_cases hrk:s / 8=2
     · have d1 : (s / 8 == 2) = true := beq_iff_eq.2 hrk
       have d2:(s / 8 != 2)=false:=congrArg not d1
       have b1:=HBO.out s (by omega) (by omega)
       have b2:=HBO.out (s - 8) (by omega) (by omega)
       have b3:=HBO.out (s+8) (by omega) (by omega)
       have i1:(0:Int)≤s - 8:=by omega
       have i2:(s - 8:Int)<64:=by omega
       have i3:(0:Int)≤s+8:=by omega
       have i4:(s+8:Int)<64:=by omega
       have w1:IntKind.i64.wrap (s+-8)=s - 8:=(IntWalk.i64_in _ (by omega)).trans (by omega)
       have w2:IntKind.i64.wrap (s - -8)=s+8:=(IntWalk.i64_in _ (by omega)).trans (by omega)
       rw [d1,Bool.true_and] at HW
       generalize n (1+s.toNat)=x1 at *
       generalize n (1+(s - 8).toNat)=x2 at *
       generalize n (1+(s+8).toNat)=x3 at *
       clear hrk d1 HBO
       rcases (show (x1==0)=false∨((x1==0)=true∧(x2==0)=false)∨((x1==0)=true∧(x2==0)=true∧(x3==mk)=false)∨((x1==0)=true∧(x2==0)=true∧(x3==mk)=true) by
        cases (x1==0) <;> cases (x2==0) <;> cases (x3==mk) <;> simp) with g1 | ⟨g1,g2⟩ | ⟨g1,g2,g3⟩ | ⟨g1,g2,g3⟩
       all_goals
        (try have q1:(x1 != 0)=true:=congrArg not g1)
        (try have q1:(x1 != 0)=false:=congrArg not g1)
        (try have q2:(x2 != 0)=true:=congrArg not g2)
        (try have q2:(x2 != 0)=false:=congrArg not g2)
        (try have q3:(x3 != mk)=true:=congrArg not g3)
        (try have q3:(x3 != mk)=false:=congrArg not g3)
        go_enter Tryz.func117,Tryz.ntmps117
        go_wp2_with (rw [HX.out])
        go_quiet ((go_at_call 91;exact quietEq (HMK.out _)))
        (try have hR:=bD (Below.refl X.heap.size X))
       iterate 3
        focus
         have HW2:=hI (show vPassing n=false from HW.out.trans (by rw [g1];(try rw [g2]);(try rw [g3]);simp))
         go_wp2
         go_ret
         exact ⟨rB HW2.out.symm,HB.out.trans ((blN _ _).mono HB.out.size)⟩
       have HW2:=hI (show vPassing n=!(by1&&&of1==0#64) from HW.out.trans (by rw [g1,g2,g3];simp))
       go_wp2_with fail
       go_region_held3 (fun V2=>((V2.cell? ⟨w.heap.size,78,none⟩=some (.int .u8 t)∧V2.cell? ⟨w.heap.size,83,none⟩=some (.int .i8 s))∧(IsAsk V2 w.heap.size∧rowOf V2 w.heap.size=posA n))∧Below X.heap.size X V2) ((refine (fun hb=>⟨⟨⟨(HF.out _ hb).1,(HF.out _ hb).2.1⟩,(HF.out _ hb).2.2⟩,hb⟩) ?_;repeat (first | exact bR | assumption | exact blN _ _ | refine bD ?_ | refine bT ?_ (by assumption)))) ((first | (go_at_call 125;refine (HBY.out _ (And.right ‹((_∧_)∧_)∧Below X.heap.size X _›)).mono ?_;rintro e w31 ⟨rfl,h1⟩) | (go_at_call 99;refine (HOF.out _).mono ?_;rintro e w32 ⟨rfl,h2⟩)))
       have hR:=And.right ‹((_∧_)∧_)∧Below X.heap.size X w32›
       go_wp2
       go_ret
       exact ⟨rB (by rw [HW2.out,bne,u_eq_zero]),HB.out.trans (hR.mono HB.out.size)⟩
     · have d1 : (s / 8 == 2) = false := beq_eq_false_iff_ne.2 hrk
       have d2:(s / 8 != 2)=true:=congrArg not d1
       have HW2:=hI (show vPassing n=false from HW.out.trans (by rw [d1];simp))
       clear hrk d1
       go_enter Tryz.func117,Tryz.ntmps117
       go_wp2_with (rw [HX.out])
       go_quiet ((go_at_call 91;exact quietEq (HMK.out _)))
       go_wp2
       go_ret
       exact ⟨rB HW2.out.symm,HB.out.trans ((blN _ _).mono HB.out.size)⟩
theorem vcheck_any (n:Nat→Int) (hn:PosOk n) (hp:vPlain n=true) (w:World) (hT:Tab w):Calls Tryz.prog 118 #[.agg (posA n)] w fun e w' => e = .returned (.bool (vCheck n))∧Below w.heap.size w w' := by
 obtain ⟨X,hX⟩:∃ X,w.alloc (.cells (posA n) 77)=X:=⟨_,rfl⟩
 obtain ⟨p0,hb⟩:=ask1 w n X hX
 obtain ⟨_,h78,_,_⟩:=plain_facts hn hp
 obtain ⟨t,ht⟩:∃ t,n 78=t:=⟨_,rfl⟩
 obtain ⟨v,hv⟩:∃ v,n 0=v:=⟨_,rfl⟩
 have HX:=hI hX
 have HB:=hI hb
 have HF:=hI (fun (U:World) (hU:Below X.heap.size X U)=>(show U.cell? ⟨w.heap.size,78,none⟩=some (.int .u8 t)∧U.cell? ⟨w.heap.size,0,none⟩=some (.int .u8 v)∧IsAsk U w.heap.size∧rowOf U w.heap.size=posA n from
  (fun hh=>⟨by rw [← ht];exact hh.cell 78 (by decide),by rw [← hv];exact hh.board 0 (by decide),hh.rules⟩) (p0.below hU p0.lt)))
 have HW:=hI (show vCheck n=(!((v==8)&&checkN n t)&&(((v==3)&&(vCount n t 6==0)) || !checkN n (1 - t))) by unfold vCheck;rw [hv,ht])
 rw [ht] at h78
 have HC:=hI (fun (U:World) (hU:Below X.heap.size X U)=>check_any n hn t (by omega) (by omega) U ((hT.below hb lR).below hU lR))
 have HO:=hI (fun (U:World) (hU:Below X.heap.size X U)=>check_any n hn (1 - t) (by omega) (by omega) U ((hT.below hb lR).below hU lR))
 have HN:=hI (fun U=>vcount_any n hn t 6 (by omega) (by omega) (by decide) (by decide) U)
 have wt:IntKind.u8.wrap (1 - t)=1 - t:=IntWalk.u8_in _ (by omega)
 have t0:0≤t:=by omega
 have t1:t≤1:=by omega
 have hR:=Below.refl X.heap.size X
 obtain ⟨ct,c0,ia,ra⟩:=HF.out X hR
 clear hX p0 hb hp hT ht hv h78
 generalize checkN n t=A at *
 generalize checkN n (1 - t)=B at *
 generalize vCount n t 6=N at *
 rcases (show ((v==8)=true∧A=true)∨((v==8)=true∧A=false∧v=8)∨((v==8)=false∧(v==3)=false)∨((v==8)=false∧(v==3)=true∧N=0)∨((v==8)=false∧(v==3)=true∧0<N) by
  by_cases h8:v=8
  · subst h8;cases A <;> simp
  · have : (v == 8) = false := beq_eq_false_iff_ne.2 h8
    rw [this]
    by_cases h3:v=3
    · subst h3;simp;omega
    · have : (v == 3) = false := beq_eq_false_iff_ne.2 h3
      rw [this];simp) with ⟨e1,rfl⟩ | ⟨e1,rfl,e9⟩ | ⟨e1,e2⟩ | ⟨e1,e2,rfl⟩ | ⟨e1,e2,e3⟩
 all_goals
  (try have e4:(v==3)=false:=by rw [beq_eq_false_iff_ne];omega)
  (try have e5:decide (N=0)=false:=decide_eq_false (by omega))
  (try have e6:(N==0)=false:=beq_eq_false_iff_ne.2 (by omega))
  (try have HW2:=hI (show vCheck n=false from HW.out.trans (by rw [e1];rfl)))
  (try have HW2:=hI (show vCheck n=true from HW.out.trans (by rw [e1,e2];rfl)))
  (try have HW2:=hI (show vCheck n=!B from HW.out.trans (by rw [e1,e4];rfl)))
  (try have HW2:=hI (show vCheck n=!B from HW.out.trans (by rw [e1,e2];rfl)))
  (try have HW2:=hI (show vCheck n=!B from HW.out.trans (by rw [e1,e2,e6];rfl)))
  (try clear e9)
  (try clear e6)
  go_enter Tryz.func118,Tryz.ntmps118
  go_wp2_with (first | rw [HX.out] | (go_at_call 20;(first | (with_reducible refine (HC.out _ hR).mono ?_) | (with_reducible refine (HO.out _ hR).mono ?_));rintro e U ⟨rfl,h1⟩;have hR:=bT hR h1;clear ct c0 ia ra;obtain ⟨ct,c0,ia,ra⟩:=HF.out _ hR) | (go_at_call 166;refine (HN.out _).mono ?_;rintro e U ⟨rfl,h1⟩;have hR:=bT hR h1;clear ct c0 ia ra;obtain ⟨ct,c0,ia,ra⟩:=HF.out _ hR))
  go_ret
  exact ⟨rB HW2.out.symm,HB.out.trans (hR.mono HB.out.size)⟩
end Go.Proofs.YteocjaihaegmoaaGreatDoor
