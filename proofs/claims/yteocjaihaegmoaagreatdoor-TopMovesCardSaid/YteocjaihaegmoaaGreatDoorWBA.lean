/- Parts of the proof: D5, D6, D9, D2. -/
import Derived.Test.YteocjaihaegmoaaGreatDoorWAO
import Derived.Test.YteocjaihaegmoaaGreatDoorWAT
import Derived.Test.YteocjaihaegmoaaGreatDoorWAU
import Derived.Test.YteocjaihaegmoaaGreatDoorWAZ
import Derived.Deep.LoopGhost
set_option linter.unusedVariables false
set_option maxHeartbeats 4000000
set_option maxRecDepth 100000
namespace Go.Proofs.YteocjaihaegmoaaGreatDoor
open Go Go.RowKit
theorem xor_all (b:BitVec 64):bits .xor .u64 (u (BitVec.allOnes 64)) (u b)=u (~~~b):=by
 rw [bits_xor_u,BitVec.allOnes_xor]
theorem and_mid (b:BitVec 64):bits .and .u64 (u b) (u midB)=u (b&&&midB):=bits_and_u b midB
theorem wh_yes (n:Nat→Int) (k:Nat) (h:k=0):bits BinOp.and IntKind.u64 (bits BinOp.xor IntKind.u64 IntKind.u64.max (u (allN n))) 72057594037927680=u (whB n (k+1)):=by
 have e1:IntKind.u64.max=u (BitVec.allOnes 64):=by decide
 have e2:(72057594037927680:Int)=u midB:=by decide
 rw [e1,e2,xor_all,and_mid,show whB n (k+1) = ~~~(allN n)&&&midB from if_pos (by omega)]
theorem wh_no (n:Nat→Int) (k:Nat) (h:k≠0):bits BinOp.xor IntKind.u64 IntKind.u64.max (u (allN n))=u (whB n (k+1)):=by
 have e1:IntKind.u64.max=u (BitVec.allOnes 64):=by decide
 rw [e1,xor_all,show whB n (k+1) = ~~~(allN n) from if_neg (by omega)]
theorem take_mv (l:List Int) (k:Int) (j:Nat) (hj:j<l.length):(l.take (j+1)).map (fun s=>dmv s k)=(l.take j).map (fun s=>dmv s k) ++ [dmv l[j] k]:=by
 rw [List.take_succ_eq_append_getElem hj,List.map_append];rfl
theorem droplist_any (n:Nat→Int) (hn:PosOk n) (hv:n 0=2) (t:Nat) (ht1:t≤1) (ht:n 78=t) (w:World) (hT:Tab w) :
 Calls Tryz.prog 85 #[.agg (posA n)] w fun e w' => ∃ v,e=.returned v∧OwnsM w' w.heap.size v (dropK n t 5)∧Below w.heap.size w w' := by
 obtain ⟨i0,hi,hz0,hz1,hz2⟩:=info_parts infoM
 have ti0:(0:Int)≤t:=by omega
 have ti1:(t:Int)<2:=by omega
 obtain ⟨X,hX⟩:∃ X,w.alloc (.cells (posA n) 31)=X:=⟨_,rfl⟩
 obtain ⟨p0,hb⟩:=box1 w n X hX
 have HX:=hI hX
 have c0:X.cell? ⟨w.heap.size,0,none⟩=some (.int .u8 2):=by rw [p0.cell 0 (by decide),hv];rfl
 have c78:X.cell? ⟨w.heap.size,78,none⟩=some (.int .u8 (t:Int)):=by rw [p0.cell 78 (by decide),ht];rfl
 have HT:=hI (hT.below hb lR)
 have HV:=hI hv
 have HTT:=hI ht
 clear hX hT hv ht
 go_enter Tryz.func85,Tryz.ntmps85
 go_wp2_with (rw [HX.out])
 go_step3
 go_wp2_with fail
 refine (vpockets_any 2 (by decide) _).mono ?_
 rw [show pocB 2=true from rfl]
 rintro e Y ⟨rfl,h1⟩
 have pY:=p0.below h1 p0.lt
 have hbY:=hb.trans (h1.mono hb.size)
 have HTY:=hI (HT.out.below h1 lR)
 have HP:=hI pY
 clear h1 c0 c78 p0 hb HT pY
 go_wp2
 go_step3
 go_wp2
 go_loopg [3,18] 5 (fun gk v i wr=>∃ k:Nat,k+gk=5∧i=.int .i64 k∧OwnsM wr Y.heap.size v (dropK n t k)∧Below Y.heap.size Y wr)
 case atStart=>exact ⟨0,rfl,rfl,World.ownsRow_nil _ _ _ _,Below.refl _ _⟩
 case round =>
  obtain ⟨k,hgk,rfl,hown,hr⟩:=hrel
  by_cases hlt:k<5
  · have pr := HP.out.below hr HP.out.lt
    have c78:wr.cell? ⟨w.heap.size,78,none⟩=some (.int .u8 (t:Int)):=by rw [pr.cell 78 (by decide),HTT.out];rfl
    have hk8:kindAt (67+t*6+k)=.u8:=by
     have:=kind_pock t (k+1) ht1 (by omega)
     rwa [show 66+6*t+(k+1)=67+t*6+k by omega] at this
    have ck:wr.cell? ⟨w.heap.size,66+t*6+(k+1),none⟩=some (.int .u8 (n (67+t*6+k))):=by
     have:=pr.cell (67+t*6+k) (by omega)
     rw [show 66+t*6+(k+1)=67+t*6+k by omega]
     rwa [hk8] at this
    have HS:=hI (show dropK n t (k+1)=dropK n t k ++ (if n (67+t*6+k)=0 then [] else (listB (whB n (k+1))).map (fun s=>dmv s ((k:Int)+1))) by show dropK n t k ++ (if n (67+6*t+k)=0 then _ else _)=_;rw [show 67+6*t+k=67+t*6+k by omega])
    have hdl:=dropK_len n t k
    obtain ⟨x,hx⟩:∃ x,n (67+t*6+k)=x:=⟨_,rfl⟩
    rw [hx] at ck HS
    obtain ⟨i0',r0⟩:=pr.rules
    clear hx hk8 pr
    have W0:IntKind.u8.wrap ((k:Int)+1)=(k:Int)+1:=IntWalk.u8_in _ (by omega)
    by_cases h0:x=0
    · have d0 : (x == 0) = true := beq_iff_eq.2 h0
      have HS:=hI (HS.out.trans (by rw [if_pos h0,List.append_nil]))
      clear h0
      go_wp2
      go_roundg (5 - (k+1))
      case measure=>omega
      case rel=>exact ⟨k+1,by omega,by go_num,by rw [HS.out];exact hown,hr⟩
    · have d0 : (x == 0) = false := beq_eq_false_iff_ne.2 h0
      have HS:=hI (HS.out.trans (by rw [if_neg h0]))
      clear h0
      go_wp2_with fail
      refine (ball_any n hn _).mono ?_
      rintro e w2 ⟨rfl,h1⟩
      have hr2:=hr.trans (h1.mono hr.size)
      have hown:=hown.kept h1 lR
      clear h1 i0' r0 ck c78
      have hsz2:=hr2.size
      have HTW:=hI (HTY.out.below hr2 lR)
      obtain ⟨b1,d1,HW⟩:∃ b,((k:Int)+1==1)=b∧Hid ((b=true∧bits BinOp.and IntKind.u64 (bits BinOp.xor IntKind.u64 IntKind.u64.max (u (allN n))) 72057594037927680=u (whB n (k+1)))∨(b=false∧bits BinOp.xor IntKind.u64 IntKind.u64.max (u (allN n))=u (whB n (k+1)))):=by
       by_cases hk1:k=0
       · exact ⟨true,beq_iff_eq.2 (by omega),.inl ⟨rfl,wh_yes n k hk1⟩⟩
       · exact ⟨false,beq_eq_false_iff_ne.2 (by omega),.inr ⟨rfl,wh_no n k hk1⟩⟩
      rcases HW.out with ⟨rfl,hw0⟩ | ⟨rfl,hw0⟩
      all_goals
       clear HW
       have HW:=hI hw0
       clear hw0
       go_wp2_with fail
       refine (list_any (whB n (k+1)) HW.out _ HTW.out).mono ?_
       rintro e w3 ⟨v3,rfl,ow,h1⟩
       have hr3:=hr2.trans (h1.mono hr2.size)
       have hown:=hown.kept h1 lR
       have hz3:=h1.size
       clear h1
       have hll:(listB (whB n (k+1))).length≤64:=listB_length _
       have hmem:∀ x∈listB (whB n (k+1)),0≤x∧x<64:=fun x hx=>by
        have hm:=(mem_listB _ x).1 hx
        by_cases h:0≤x∧x<64
        · exact h
        · rw [hasB_out _ h] at hm;cases hm
       generalize listB (whB n (k+1))=l at HS hll hmem ow
       generalize dropK n t k=acc at HS hdl hown
       have HM:=hI hmem
       clear hmem hr hr2
       have hsz3:=hr3.size
       rcases ow.form with ⟨rfl,x3,c3,rfl⟩ | ⟨g3,c3,rfl,hg3,hs3,hne,_,_⟩
       · clear ow
         go_wp2
         refine wp_loop_rounds 1 ?_
         rw [rounds_succ]
         go_wp2
         go_roundg (5 - (k+1))
         case measure=>omega
         case rel=>exact ⟨k+1,by omega,by go_num,by rw [HS.out,List.map_nil,List.append_nil];exact hown,hr3⟩
       · have HOW := hideIt ow
         have HR3:=hI hr3
         have HOWN:=hI hown
         clear ow hne hr3 hown
         go_wp2
         go_loopg [3,42] l.length (fun g2 v i wy=>∃ j:Nat,j+g2=l.length∧i=.int .i64 j∧OwnsM wy Y.heap.size v (acc ++ (l.take j).map (fun s=>dmv s ((k:Int)+1)))∧OwnsI wy w2.heap.size (.slice (some ⟨g3,0,none⟩) l.length c3) l∧Below Y.heap.size Y wy)
         case atStart=>exact ⟨0,by omega,rfl,by rw [List.take_zero,List.map_nil,List.append_nil];exact HOWN.out,HOW.out,HR3.out⟩
         case round =>
          clear HOWN HOW HR3
          obtain ⟨j,hgj,rfl,hown,how,hr4⟩:=hrel
          by_cases hj:j<l.length
          · have hx : wr.cell? ⟨g3, j, none⟩ = some (.int .i64 l[j]) := by
             have e:=World.ownsRow.cellAt how j (by omega)
             rw [e];simp [hj]
            have hlt3:=(World.ownsRow.lt how g3 rfl).2
            have hap:=owns_apart how hown
            have HTk:=hI (take_mv l ((k:Int)+1) j hj)
            obtain ⟨x0,x1⟩:=HM.out l[j] (List.getElem_mem hj)
            have hlen:(acc ++ (l.take j).map (fun s=>dmv s ((k:Int)+1))).length≤400:=by
             rw [List.length_append,List.length_map,List.length_take];omega
            have hsy:=hr4.size
            generalize l[j]=y at hx x0 x1 HTk
            generalize hml:acc ++ (l.take j).map (fun s=>dmv s ((k:Int)+1))=ml at hown hlen
            have HML:=hI hml
            have HOW:=hI how
            have HAP:=hI hap
            clear hml how hap
            have W1:IntKind.i8.wrap y=y:=IntWalk.i8_in y (by omega)
            have bld:∀ w,(Instr.build 49 #[(0,.int .i8 y),(1,.int .i8 y),(3,.int .u8 ((k:Int)+1))]).run Tryz.prog w=.ok (.agg #[.int .i8 y,.int .i8 y,.int .u8 0,.int .u8 ((k:Int)+1),.bool false]) w:=fun _=>by kernel_rfl
            go_wp2_with (at_builtin;refine wpList_append_own _ rfl _ _ 41 rfl Y.heap.size 49 i0 (.agg #[.int .i8 0,.int .i8 0,.int .u8 0,.int .u8 0,.bool false]) 5 5 Tryz.underlying41 hi hz0 hz1 hz2 rfl (by decide) _ _ _ rfl (World.ownsRow.alloc hown _) ⟨wr.heap.size,0,none⟩ 1 1 (dmv y ((k:Int)+1)).cells rfl rfl (cells5_new _ _ _ _ _ _ _) (by simp [dmv,Mv.cells,Value.oneCell']) (by unfold maxLen;omega) (by omega) (by simp;omega) ?_;intro v' w5 hown' hgrow3 _)
            go_roundg (l.length - (j+1))
            case measure=>omega
            case rel=>exact ⟨j+1,by omega,by go_num,by rw [HTk.out,← List.append_assoc,HML.out];exact OwnsM.app hown',HOW.out.keptBlk ((hgrow3.block g3 (by simp;omega) HAP.out).trans (heap_alloc_old wr _ hlt3)),OwnsM.grown hown hr4 hsy _ hgrow3⟩
          · obtain rfl : j = l.length := by omega
            rw [List.take_length] at hown
            go_wp2
            go_roundg (5 - (k+1))
            case measure=>omega
            case rel=>exact ⟨k+1,by omega,by go_num,by rw [HS.out];exact hown,hr4⟩
  · obtain rfl : k = 5 := by omega
    go_wp2
    (try rw [Exit.noGoto_ret])
    go_ret
    exact ⟨_,rfl,hown.less hbY.size,hbY.trans (hr.mono hbY.size)⟩
theorem mid_bit:∀ j:Fin 64,midB.getLsbD j.val=!(decide (j.val<8) || decide (55<j.val)):=by decide +kernel
theorem wh_bit (n:Nat→Int) (k j:Nat) (hj:j<64):(whB n (k+1)).getLsbD j=(!isB (n (1+j))&&!(decide (k=0)&&(decide (j<8) || decide (55<j)))):=by
 have ha:=all_bit n j hj
 unfold whB
 by_cases h:k=0
 · rw [if_pos (by omega),BitVec.getLsbD_and,BitVec.getLsbD_not,ha,mid_bit ⟨j,hj⟩,decide_eq_true hj,decide_eq_true h];simp
 · rw [if_neg (by omega),BitVec.getLsbD_not,ha,decide_eq_true hj,decide_eq_false h];simp
def mvN (b:BitVec 64) (k:Int) (j:Nat):List Mv:=(listN b j).map (fun s:Nat=>dmv s k)
theorem mvN_yes (b:BitVec 64) (k:Int) (j:Nat) (h:b.getLsbD j=true):mvN b k (j+1)=mvN b k j ++ [dmv j k]:=by
 unfold mvN;rw [listN_succ_yes _ _ h,List.map_append];rfl
theorem mvN_no (b:BitVec 64) (k:Int) (j:Nat) (h:b.getLsbD j=false):mvN b k (j+1)=mvN b k j:=by
 unfold mvN;rw [listN_succ_no _ _ h]
theorem mvN_64 (b:BitVec 64) (k:Int):mvN b k 64=(listB b).map (fun s=>dmv s k):=by
 unfold mvN listB;rw [List.map_map];rfl
theorem mvN_len (b:BitVec 64) (k:Int) (j:Nat):(mvN b k j).length≤j:=by
 unfold mvN;rw [List.length_map];exact listN_le b j
theorem rdroplist_any (n:Nat→Int) (hn:PosOk n) (hv:n 0=2) (t:Nat) (ht1:t≤1) (ht:n 78=t) (w:World) :
 Calls Tryz.prog 103 #[.agg (posA n)] w fun e w' => ∃ v,e=.returned v∧OwnsM w' w.heap.size v (dropK n t 5)∧Below w.heap.size w w' := by
 obtain ⟨i0,hi,hz0,hz1,hz2⟩:=info_parts infoM
 have ti0:(0:Int)≤t:=by omega
 have ti1:(t:Int)<2:=by omega
 obtain ⟨X,hX⟩:∃ X,w.alloc (.cells (posA n) 31)=X:=⟨_,rfl⟩
 obtain ⟨p0,hb⟩:=box1 w n X hX
 have HX:=hI hX
 have c0:X.cell? ⟨w.heap.size,0,none⟩=some (.int .u8 2):=by rw [p0.cell 0 (by decide),hv];rfl
 have c78:X.cell? ⟨w.heap.size,78,none⟩=some (.int .u8 (t:Int)):=by rw [p0.cell 78 (by decide),ht];rfl
 have HTT:=hI ht
 have HP:=hI p0
 clear hX hv ht p0
 go_enter Tryz.func103,Tryz.ntmps103
 go_wp2_with (rw [HX.out])
 clear c0 c78
 go_loopg [3,4] 5 (fun gk v i wr=>∃ k:Nat,k+gk=5∧i=.int .u8 ((k:Int)+1)∧OwnsM wr X.heap.size v (dropK n t k)∧Below X.heap.size X wr)
 case atStart=>exact ⟨0,rfl,rfl,World.ownsRow_nil _ _ _ _,Below.refl _ _⟩
 case round =>
  obtain ⟨k,hgk,rfl,hown,hr⟩:=hrel
  by_cases hlt:k<5
  · have hk8 : kindAt (67 + t * 6 + k) = .u8 := by
     have:=kind_pock t (k+1) ht1 (by omega)
     rwa [show 66+6*t+(k+1)=67+t*6+k by omega] at this
    have HCK:Hid (∀ W,Below X.heap.size X W→W.cell? ⟨w.heap.size,78,none⟩=some (.int .u8 (t:Int))∧W.cell? ⟨w.heap.size,66+t*6+(k+1),none⟩=some (.int .u8 (n (67+t*6+k)))):=fun W hW=>by
     have pr:=HP.out.below hW HP.out.lt
     refine ⟨by rw [pr.cell 78 (by decide),HTT.out];rfl,?_⟩
     have:=pr.cell (67+t*6+k) (by omega)
     rw [show 66+t*6+(k+1)=67+t*6+k by omega]
     rwa [hk8] at this
    obtain ⟨y0,y1⟩:=hn.u8 (67+t*6+k) (by omega) hk8
    have HS:=hI (show dropK n t (k+1)=dropK n t k ++ (if n (67+t*6+k)=0 then [] else (listB (whB n (k+1))).map (fun s=>dmv s ((k:Int)+1))) by show dropK n t k ++ (if n (67+6*t+k)=0 then _ else _)=_;rw [show 67+6*t+k=67+t*6+k by omega])
    have hdl:=dropK_len n t k
    obtain ⟨pk,hpk⟩:∃ x,n (67+t*6+k)=x:=⟨_,rfl⟩
    rw [hpk] at HCK HS y0 y1
    clear hpk hk8
    have dk:decide ((k:Int)+1≤5)=true:=decide_eq_true (by omega)
    by_cases h0:pk=0
    · have d0 : decide (0 < pk) = false := decide_eq_false (by omega)
      have HS:=hI (HS.out.trans (by rw [if_pos h0,List.append_nil]))
      obtain ⟨c78,ck⟩:=HCK.out _ hr
      clear h0
      go_wp2
      refine wp_loop_rounds 1 ?_
      rw [rounds_succ]
      go_wp2
      go_roundg (5 - (k+1))
      case measure=>omega
      case rel=>exact ⟨k+1,by omega,by go_num,by rw [HS.out];exact hown,hr⟩
    · have d0 : decide (0 < pk) = true := decide_eq_true (by omega)
      have HS:=hI (HS.out.trans (by rw [if_neg h0,← mvN_64]))
      have HB:=hI (fun j (hj:j<64)=>wh_bit n k j hj)
      clear h0
      generalize dropK n t k=acc at HS hdl hown
      generalize whB n (k+1)=wb at HS HB
      have HOWN:=hI hown
      have HR:=hI hr
      clear hown hr
      go_wp2
      go_loopg [3,5] 64 (fun g2 v i wy=>∃ j:Nat,j+g2=64∧i=.int .i64 j∧OwnsM wy X.heap.size v (acc ++ mvN wb ((k:Int)+1) j)∧Below X.heap.size X wy)
      case atStart=>exact ⟨0,rfl,rfl,by show OwnsM _ _ _ (acc ++ []);rw [List.append_nil];exact HOWN.out,HR.out⟩
      case round =>
       clear HOWN HR
       obtain ⟨j,hgj,rfl,hown,hr4⟩:=hrel
       obtain ⟨c78,ck⟩:=HCK.out _ hr4
       by_cases hj:j<64
       · have hbit := HB.out j hj
         have pr:=HP.out.below hr4 HP.out.lt
         have cb:=pr.board (1+j) (by omega)
         obtain ⟨x0,x1⟩:=hn.u8 (1+j) (by omega) (kB (by omega))
         have hz:=knd_zero (n (1+j))
         have HYS:=hI (mvN_yes wb ((k:Int)+1) j)
         have HNO:=hI (mvN_no wb ((k:Int)+1) j)
         have hlen:(acc ++ mvN wb ((k:Int)+1) j).length≤400:=by
          have:=mvN_len wb ((k:Int)+1) j
          rw [List.length_append];omega
         have hsy:=hr4.size
         generalize hml:acc ++ mvN wb ((k:Int)+1) j=ml at hown hlen
         have HML:=hI hml
         obtain ⟨x,hx⟩:∃ x,n (1+j)=x:=⟨_,rfl⟩
         rw [hx] at cb x0 x1 hbit hz
         clear hx pr hml
         cases hi2:isB x with
         | true =>
           rw [hi2] at hbit hz
           have HN:=hI (HNO.out (by rw [hbit];rfl))
           clear hbit hi2 HNO HYS
           go_wp2_with fail
           refine (k8_any x x0 x1 _).mono ?_
           rintro e w6 ⟨rfl,rfl⟩
           go_wp2
           go_roundg (64 - (j+1))
           case measure=>omega
           case rel=>exact ⟨j+1,by omega,by go_num,by rw [HN.out,HML.out];exact hown,hr4⟩
         | false =>
           rw [hi2] at hbit hz
           by_cases hk1:k=0
           · have d1 : ((k : Int) + 1 == 1) = true := beq_iff_eq.2 (by omega)
             rw [decide_eq_true hk1] at hbit
             by_cases h8:j<8
             · have HN := hideIt (HNO.out (by rw [hbit, decide_eq_true h8]; rfl))
               clear hbit hi2 HNO HYS hk1
               go_wp2_with fail
               refine (k8_any x x0 x1 _).mono ?_
               rintro e w6 ⟨rfl,rfl⟩
               go_wp2
               go_roundg (64 - (j+1))
               case measure=>omega
               case rel=>exact ⟨j+1,by omega,by go_num,by rw [HN.out,HML.out];exact hown,hr4⟩
             · by_cases h55 : 55 < j
               · have HN := hideIt (HNO.out (by rw [hbit, decide_eq_true h55, Bool.or_true]; rfl))
                 have d8:decide ((j:Int)<8)=false:=decide_eq_false (by omega)
                 have d55:decide ((55:Int)<j)=true:=decide_eq_true (by omega)
                 clear hbit hi2 HNO HYS hk1 h8
                 go_wp2_with fail
                 refine (k8_any x x0 x1 _).mono ?_
                 rintro e w6 ⟨rfl,rfl⟩
                 go_wp2
                 go_roundg (64 - (j+1))
                 case measure=>omega
                 case rel=>exact ⟨j+1,by omega,by go_num,by rw [HN.out,HML.out];exact hown,hr4⟩
               · have HN := hideIt (HYS.out (by rw [hbit, decide_eq_false h8, decide_eq_false h55]; rfl))
                 have d8:decide ((j:Int)<8)=false:=decide_eq_false (by omega)
                 have d55:decide ((55:Int)<j)=false:=decide_eq_false (by omega)
                 clear hbit hi2 HNO HYS hk1 h8 h55
                 go_wp2_with fail
                 refine (k8_any x x0 x1 _).mono ?_
                 rintro e w6 ⟨rfl,rfl⟩
                 have W1:IntKind.i8.wrap (j:Int)=(j:Int):=IntWalk.i8_in _ (by omega)
                 have bld:∀ w,(Instr.build 49 #[(0,.int .i8 (j:Int)),(1,.int .i8 (j:Int)),(3,.int .u8 ((k:Int)+1))]).run Tryz.prog w=.ok (.agg #[.int .i8 (j:Int),.int .i8 (j:Int),.int .u8 0,.int .u8 ((k:Int)+1),.bool false]) w:=fun _=>by kernel_rfl
                 go_wp2_with (at_builtin;refine wpList_append_own _ rfl _ _ 41 rfl X.heap.size 49 i0 (.agg #[.int .i8 0,.int .i8 0,.int .u8 0,.int .u8 0,.bool false]) 5 5 Tryz.underlying41 hi hz0 hz1 hz2 rfl (by decide) _ _ _ rfl (World.ownsRow.alloc hown _) ⟨wr.heap.size,0,none⟩ 1 1 (dmv (j:Int) ((k:Int)+1)).cells rfl rfl (cells5_new _ _ _ _ _ _ _) (by simp [dmv,Mv.cells,Value.oneCell']) (by unfold maxLen;omega) (by omega) (by simp;omega) ?_;intro v' w5 hown' hgrow3 _)
                 go_roundg (64 - (j+1))
                 case measure=>omega
                 case rel=>exact ⟨j+1,by omega,by go_num,by rw [HN.out,← List.append_assoc,HML.out];exact OwnsM.app hown',OwnsM.grown hown hr4 hsy _ hgrow3⟩
           · have d1 : ((k : Int) + 1 == 1) = false := beq_eq_false_iff_ne.2 (by omega)
             rw [decide_eq_false hk1] at hbit
             have HN:=hI (HYS.out (by rw [hbit];rfl))
             clear hbit hi2 HNO HYS hk1
             go_wp2_with fail
             refine (k8_any x x0 x1 _).mono ?_
             rintro e w6 ⟨rfl,rfl⟩
             have W1:IntKind.i8.wrap (j:Int)=(j:Int):=IntWalk.i8_in _ (by omega)
             have bld:∀ w,(Instr.build 49 #[(0,.int .i8 (j:Int)),(1,.int .i8 (j:Int)),(3,.int .u8 ((k:Int)+1))]).run Tryz.prog w=.ok (.agg #[.int .i8 (j:Int),.int .i8 (j:Int),.int .u8 0,.int .u8 ((k:Int)+1),.bool false]) w:=fun _=>by kernel_rfl
             go_wp2_with (at_builtin;refine wpList_append_own _ rfl _ _ 41 rfl X.heap.size 49 i0 (.agg #[.int .i8 0,.int .i8 0,.int .u8 0,.int .u8 0,.bool false]) 5 5 Tryz.underlying41 hi hz0 hz1 hz2 rfl (by decide) _ _ _ rfl (World.ownsRow.alloc hown _) ⟨wr.heap.size,0,none⟩ 1 1 (dmv (j:Int) ((k:Int)+1)).cells rfl rfl (cells5_new _ _ _ _ _ _ _) (by simp [dmv,Mv.cells,Value.oneCell']) (by unfold maxLen;omega) (by omega) (by simp;omega) ?_;intro v' w5 hown' hgrow3 _)
             go_roundg (64 - (j+1))
             case measure=>omega
             case rel=>exact ⟨j+1,by omega,by go_num,by rw [HN.out,← List.append_assoc,HML.out];exact OwnsM.app hown',OwnsM.grown hown hr4 hsy _ hgrow3⟩
       · obtain rfl : j = 64 := by omega
         go_wp2
         go_roundg (5 - (k+1))
         case measure=>omega
         case rel=>exact ⟨k+1,by omega,by go_num,by rw [HS.out];exact hown,hr4⟩
  · obtain rfl : k = 5 := by omega
    go_wp2
    go_ret
    exact ⟨_,rfl,hown.less hb.size,hb.trans (hr.mono hb.size)⟩
theorem dropL_len (n:Nat→Int) (v t:Nat):(dropL n v t).length≤320:=by
 unfold dropL
 split
 · exact dropK_len n t 5
 · exact Nat.zero_le _
theorem dl_any (n:Nat→Int) (hn:PosOk n) (v t:Nat) (hv:n 0=v) (ht:n 78=t) (hv9:v≤255) (w:World) (hT:Tab w) :
 Calls Tryz.prog 85 #[.agg (posA n)] w fun e w' => ∃ x,e=.returned x∧OwnsM w' w.heap.size x (dropL n v t)∧Below w.heap.size w w' := by
 by_cases h:t≤1∧v=2
 · have e : dropL n v t = dropK n t 5 := if_pos h
   rw [e]
   obtain ⟨h1,rfl⟩:=h
   exact droplist_any n hn hv t h1 ht w hT
 · have e : dropL n v t = [] := if_neg h
   rw [e]
   refine (drop_none n hn v t hv ht hv9 h w).mono ?_
   rintro e w' ⟨rfl,hb⟩
   exact ⟨_,rfl,World.ownsRow_nil _ _ _ _,hb⟩
theorem rdl_any (n:Nat→Int) (hn:PosOk n) (v t:Nat) (hv:n 0=v) (ht:n 78=t) (hv9:v≤255) (w:World) :
 Calls Tryz.prog 103 #[.agg (posA n)] w fun e w' => ∃ x,e=.returned x∧OwnsM w' w.heap.size x (dropL n v t)∧Below w.heap.size w w' := by
 by_cases h:t≤1∧v=2
 · have e : dropL n v t = dropK n t 5 := if_pos h
   rw [e]
   obtain ⟨h1,rfl⟩:=h
   exact rdroplist_any n hn hv t h1 ht w
 · have e : dropL n v t = [] := if_neg h
   rw [e]
   refine (rdrop_none n hn v t hv ht hv9 h w).mono ?_
   rintro e w' ⟨rfl,hb⟩
   exact ⟨_,rfl,World.ownsRow_nil _ _ _ _,hb⟩
def poIx (c k:Nat):Nat:=66+6*c+k
def addB (n:Nat→Int) (c k:Nat):Bool:=fitsB c k&&decide (n (poIx c k)<255)
def addN (n:Nat→Int) (c k:Nat):Nat→Int:=if addB n c k=true then upd n (poIx c k) (n (poIx c k)+1) else n
def takB (n:Nat→Int) (c k:Nat):Bool:=fitsB c k&&!(n (poIx c k)==0)
def takN (n:Nat→Int) (c k:Nat):Nat→Int:=if takB n c k=true then upd n (poIx c k) (n (poIx c k) - 1) else n
theorem fits_iff (c k:Nat):fitsB c k=true↔(c≤1∧1≤k∧k≤5):=by
 unfold fitsB
 rw [Bool.and_eq_true,Bool.and_eq_true,decide_eq_true_eq,decide_eq_true_eq,decide_eq_true_eq]
 omega
theorem add_yes (n:Nat→Int) (hn:PosOk n) (c:Nat) (hc:c≤1) (k:Nat) (k1:1≤k) (k5:k≤5) (h:n (66+c*6+k)<255) (w:World) :
 Calls Tryz.prog 93 #[.agg (posA n),.int .u8 (c:Int),.int .u8 (k:Int)] w fun e w' => e = .returned (.agg (posA (addN n c k)))∧Below w.heap.size w w' := by
 have hf:fitsB c k=true:=(fits_iff c k).2 ⟨hc,k1,k5⟩
 have hix:poIx c k=66+c*6+k:=by unfold poIx;omega
 have hk8:kindAt (66+c*6+k)=.u8:=by
  have:=kind_pock c k hc (by omega)
  rwa [show 66+6*c+k=66+c*6+k by omega] at this
 have hB:addB n c k=true:=by
  unfold addB
  rw [hf,hix,Bool.true_and]
  exact decide_eq_true h
 have hN:addN n c k=upd n (66+c*6+k) (n (66+c*6+k)+1):=by
  unfold addN
  rw [if_pos hB,hix]
 obtain ⟨x0,x1⟩:=hn.u8 (66+c*6+k) (by omega) hk8
 obtain ⟨X,hX⟩:∃ X,(w.alloc (.cells (posA n) 31)).alloc (.cells (posA zeroN) 31)=X:=⟨_,rfl⟩
 obtain ⟨p0,p1,hb⟩:=box2 w n zeroN X hX
 have c0:=p0.cell (66+c*6+k) (by omega)
 rw [hk8] at c0
 have f0:=p0.free (66+c*6+k)
 obtain ⟨x,hx⟩:∃ x,n (66+c*6+k)=x:=⟨_,rfl⟩
 rw [hx] at hN c0 x0 x1 h
 obtain ⟨Y,hY⟩:∃ Y,(X.setCell ⟨w.heap.size,66+c*6+k,none⟩ (.int .u8 (x+1))).drew=Y:=⟨_,rfl⟩
 have q0:PosAt Y w.heap.size (addN n c k):=by
  rw [← hY,hN]
  have:=(p0.set (66+c*6+k) (x+1)).drew
  rwa [hk8] at this
 have q1:PosAt Y (w.heap.size+1) zeroN:=by rw [← hY];exact (p1.other (by omega) _).drew
 have hbY:Below w.heap.size w Y:=by rw [← hY];exact (hb.setCell lR _).drew
 generalize addN n c k=m at q0 hN ⊢
 obtain ⟨i0,r0⟩:=q0.rules
 obtain ⟨i1,r1⟩:=q1.rules
 have HF:=hI hf
 have HX:=hI hX
 have HY:=hI hY
 have hzp:=zeroPos
 have l0:(0:Int)≤(k:Int):=by omega
 have c0' : (0:Int)≤(c:Int):=by omega
 have c1' : (c:Int)<2:=by omega
 have l1:(k:Int)<6:=by omega
 have dx:decide (x<255)=true:=decide_eq_true h
 have W1:IntKind.u8.wrap (x+1)=x+1:=IntWalk.u8_in _ (by omega)
 clear hX hY hf hN hB hx hix hk8
 go_enter Tryz.func93,Tryz.ntmps93
 go_wp2_with (rw [HX.out])
 refine (fits_any _ _ (by omega) (by omega) (by omega) (by omega) _).mono ?_
 rintro e w1 ⟨rfl,rfl⟩
 rw [HF.out]
 go_wp2
 go_region
 all_goals
  go_wp2_with (first | rw [HY.out])
  refine bodyPost_ret (v:=.agg (posA m)) (pos_result Tryz.results93 _ _ _ _ rfl (q1.setRow _)) rfl ⟨rfl,below_setRow hbY (by omega) _⟩
theorem tak_yes (n:Nat→Int) (hn:PosOk n) (c:Nat) (hc:c≤1) (k:Nat) (k1:1≤k) (k5:k≤5) (h:n (66+c*6+k)≠0) (w:World) :
 Calls Tryz.prog 90 #[.agg (posA n),.int .u8 (c:Int),.int .u8 (k:Int)] w fun e w' => e = .returned (.tuple #[.agg (posA (takN n c k)),.bool true])∧Below w.heap.size w w' := by
 have hf:fitsB c k=true:=(fits_iff c k).2 ⟨hc,k1,k5⟩
 have hix:poIx c k=66+c*6+k:=by unfold poIx;omega
 have hk8:kindAt (66+c*6+k)=.u8:=by
  have:=kind_pock c k hc (by omega)
  rwa [show 66+6*c+k=66+c*6+k by omega] at this
 have hB:takB n c k=true:=by
  unfold takB
  rw [hf,hix,Bool.true_and]
  rw [beq_eq_false_iff_ne.2 h];rfl
 have hN:takN n c k=upd n (66+c*6+k) (n (66+c*6+k) - 1):=by
  unfold takN
  rw [if_pos hB,hix]
 obtain ⟨x0,x1⟩:=hn.u8 (66+c*6+k) (by omega) hk8
 obtain ⟨X,hX⟩:∃ X,(w.alloc (.cells (posA n) 31)).alloc (.cells (posA zeroN) 31)=X:=⟨_,rfl⟩
 obtain ⟨p0,p1,hb⟩:=box2 w n zeroN X hX
 have c0:=p0.cell (66+c*6+k) (by omega)
 rw [hk8] at c0
 have f0:=p0.free (66+c*6+k)
 obtain ⟨x,hx⟩:∃ x,n (66+c*6+k)=x:=⟨_,rfl⟩
 rw [hx] at hN c0 x0 x1 h
 obtain ⟨Y,hY⟩:∃ Y,(X.setCell ⟨w.heap.size,66+c*6+k,none⟩ (.int .u8 (x - 1))).drew=Y:=⟨_,rfl⟩
 have q0:PosAt Y w.heap.size (takN n c k):=by
  rw [← hY,hN]
  have:=(p0.set (66+c*6+k) (x - 1)).drew
  rwa [hk8] at this
 have q1:PosAt Y (w.heap.size+1) zeroN:=by rw [← hY];exact (p1.other (by omega) _).drew
 have hbY:Below w.heap.size w Y:=by rw [← hY];exact (hb.setCell lR _).drew
 generalize takN n c k=m at q0 hN ⊢
 obtain ⟨i0,r0⟩:=q0.rules
 obtain ⟨i1,r1⟩:=q1.rules
 have HF:=hI hf
 have HX:=hI hX
 have HY:=hI hY
 have hzp:=zeroPos
 have l0:(0:Int)≤(k:Int):=by omega
 have c0' : (0:Int)≤(c:Int):=by omega
 have c1' : (c:Int)<2:=by omega
 have l1:(k:Int)<6:=by omega
 have dx:(x==0)=false:=beq_eq_false_iff_ne.2 h
 have W1:IntKind.u8.wrap (x - 1)=x - 1:=IntWalk.u8_in _ (by omega)
 clear hX hY hf hN hB hx hix hk8
 go_enter Tryz.func90,Tryz.ntmps90
 go_wp2_with (rw [HX.out])
 refine (fits_any _ _ (by omega) (by omega) (by omega) (by omega) _).mono ?_
 rintro e w1 ⟨rfl,rfl⟩
 rw [HF.out]
 go_wp2
 go_region
 all_goals
  go_wp2_with (first | rw [HY.out])
  refine bodyPost_ret (v:=.tuple #[.agg (posA m),.bool true]) (pos_result2 Tryz.results90 _ _ _ _ _ rfl rfl (q1.setRow _)) rfl ⟨rfl,below_setRow hbY (by omega) _⟩
theorem add_noF (n:Nat→Int) (hn:PosOk n) (c k:Nat) (hc:c≤255) (hk:k≤255) (hf:fitsB c k=false) (w:World) :
 Calls Tryz.prog 93 #[.agg (posA n),.int .u8 (c:Int),.int .u8 (k:Int)] w fun e w' => e = .returned (.agg (posA n))∧Below w.heap.size w w' := by
 obtain ⟨X,hX⟩:∃ X,(w.alloc (.cells (posA n) 31)).alloc (.cells (posA zeroN) 31)=X:=⟨_,rfl⟩
 obtain ⟨p0,p1,hb⟩:=box2 w n zeroN X hX
 obtain ⟨i0,r0⟩:=p0.rules
 obtain ⟨i1,r1⟩:=p1.rules
 have HF:=hI hf
 have HX:=hI hX
 have hzp:=zeroPos
 clear hX hf
 go_enter Tryz.func93,Tryz.ntmps93
 go_wp2_with (rw [HX.out])
 refine (fits_any _ _ (by omega) (by omega) (by omega) (by omega) _).mono ?_
 rintro e w1 ⟨rfl,rfl⟩
 rw [HF.out]
 go_wp2
 refine bodyPost_ret (v:=.agg (posA n)) (pos_result Tryz.results93 _ _ _ _ rfl (p1.setRow _)) rfl ⟨rfl,below_setRow hb (by omega) _⟩
theorem add_no (n:Nat→Int) (hn:PosOk n) (c:Nat) (hc:c≤1) (k:Nat) (k1:1≤k) (k5:k≤5) (h:¬ n (66+c*6+k)<255) (w:World) :
 Calls Tryz.prog 93 #[.agg (posA n),.int .u8 (c:Int),.int .u8 (k:Int)] w fun e w' => e = .returned (.agg (posA n))∧Below w.heap.size w w' := by
 have hf:fitsB c k=true:=(fits_iff c k).2 ⟨hc,k1,k5⟩
 have hk8:kindAt (66+c*6+k)=.u8:=by
  have:=kind_pock c k hc (by omega)
  rwa [show 66+6*c+k=66+c*6+k by omega] at this
 obtain ⟨x0,x1⟩:=hn.u8 (66+c*6+k) (by omega) hk8
 obtain ⟨X,hX⟩:∃ X,(w.alloc (.cells (posA n) 31)).alloc (.cells (posA zeroN) 31)=X:=⟨_,rfl⟩
 obtain ⟨p0,p1,hb⟩:=box2 w n zeroN X hX
 have c0:=p0.cell (66+c*6+k) (by omega)
 rw [hk8] at c0
 obtain ⟨x,hx⟩:∃ x,n (66+c*6+k)=x:=⟨_,rfl⟩
 rw [hx] at c0 x0 x1 h
 obtain ⟨i0,r0⟩:=p0.rules
 obtain ⟨i1,r1⟩:=p1.rules
 have HF:=hI hf
 have HX:=hI hX
 have hzp:=zeroPos
 have l0:(0:Int)≤(k:Int):=by omega
 have c0' : (0:Int)≤(c:Int):=by omega
 have c1' : (c:Int)<2:=by omega
 have l1:(k:Int)<6:=by omega
 have dx:decide (x<255)=false:=decide_eq_false h
 clear hX hf hx hk8 h
 go_enter Tryz.func93,Tryz.ntmps93
 go_wp2_with (rw [HX.out])
 refine (fits_any _ _ (by omega) (by omega) (by omega) (by omega) _).mono ?_
 rintro e w1 ⟨rfl,rfl⟩
 rw [HF.out]
 go_wp2
 refine bodyPost_ret (v:=.agg (posA n)) (pos_result Tryz.results93 _ _ _ _ rfl (p1.setRow _)) rfl ⟨rfl,below_setRow hb (by omega) _⟩
theorem add_any (n:Nat→Int) (hn:PosOk n) (c k:Nat) (hc:c≤255) (hk:k≤255) (w:World) :
 Calls Tryz.prog 93 #[.agg (posA n),.int .u8 (c:Int),.int .u8 (k:Int)] w fun e w' => e = .returned (.agg (posA (addN n c k)))∧Below w.heap.size w w' := by
 cases hB:addB n c k with
 | true =>
   have h:=hB
   unfold addB at h
   rw [Bool.and_eq_true,fits_iff] at h
   obtain ⟨⟨hc1,k1,k5⟩,h2⟩:=h
   rw [show poIx c k=66+c*6+k by unfold poIx;omega] at h2
   exact add_yes n hn c hc1 k k1 k5 (by exact of_decide_eq_true h2) w
 | false =>
   have hN:addN n c k=n:=by unfold addN;rw [hB];rfl
   rw [hN]
   cases hf:fitsB c k with
   | false=>exact add_noF n hn c k hc hk hf w
   | true =>
     have h2:=hB
     unfold addB at h2
     rw [hf,Bool.true_and] at h2
     rw [fits_iff] at hf
     obtain ⟨hc1,k1,k5⟩:=hf
     rw [show poIx c k=66+c*6+k by unfold poIx;omega] at h2
     exact add_no n hn c hc1 k k1 k5 (by exact of_decide_eq_false h2) w
theorem tak_noF (n:Nat→Int) (hn:PosOk n) (c k:Nat) (hc:c≤255) (hk:k≤255) (hf:fitsB c k=false) (w:World) :
 Calls Tryz.prog 90 #[.agg (posA n),.int .u8 (c:Int),.int .u8 (k:Int)] w fun e w' => e = .returned (.tuple #[.agg (posA n),.bool false])∧Below w.heap.size w w' := by
 obtain ⟨X,hX⟩:∃ X,(w.alloc (.cells (posA n) 31)).alloc (.cells (posA zeroN) 31)=X:=⟨_,rfl⟩
 obtain ⟨p0,p1,hb⟩:=box2 w n zeroN X hX
 obtain ⟨i0,r0⟩:=p0.rules
 obtain ⟨i1,r1⟩:=p1.rules
 have HF:=hI hf
 have HX:=hI hX
 have hzp:=zeroPos
 clear hX hf
 go_enter Tryz.func90,Tryz.ntmps90
 go_wp2_with (rw [HX.out])
 refine (fits_any _ _ (by omega) (by omega) (by omega) (by omega) _).mono ?_
 rintro e w1 ⟨rfl,rfl⟩
 rw [HF.out]
 go_wp2
 refine bodyPost_ret (v:=.tuple #[.agg (posA n),.bool false]) (pos_result2 Tryz.results90 _ _ _ _ _ rfl rfl (p1.setRow _)) rfl ⟨rfl,below_setRow hb (by omega) _⟩
theorem tak_no (n:Nat→Int) (hn:PosOk n) (c:Nat) (hc:c≤1) (k:Nat) (k1:1≤k) (k5:k≤5) (h:n (66+c*6+k)=0) (w:World) :
 Calls Tryz.prog 90 #[.agg (posA n),.int .u8 (c:Int),.int .u8 (k:Int)] w fun e w' => e = .returned (.tuple #[.agg (posA n),.bool false])∧Below w.heap.size w w' := by
 have hf:fitsB c k=true:=(fits_iff c k).2 ⟨hc,k1,k5⟩
 have hk8:kindAt (66+c*6+k)=.u8:=by
  have:=kind_pock c k hc (by omega)
  rwa [show 66+6*c+k=66+c*6+k by omega] at this
 obtain ⟨x0,x1⟩:=hn.u8 (66+c*6+k) (by omega) hk8
 obtain ⟨X,hX⟩:∃ X,(w.alloc (.cells (posA n) 31)).alloc (.cells (posA zeroN) 31)=X:=⟨_,rfl⟩
 obtain ⟨p0,p1,hb⟩:=box2 w n zeroN X hX
 have c0:=p0.cell (66+c*6+k) (by omega)
 rw [hk8] at c0
 obtain ⟨x,hx⟩:∃ x,n (66+c*6+k)=x:=⟨_,rfl⟩
 rw [hx] at c0 x0 x1 h
 obtain ⟨i0,r0⟩:=p0.rules
 obtain ⟨i1,r1⟩:=p1.rules
 have HF:=hI hf
 have HX:=hI hX
 have hzp:=zeroPos
 have l0:(0:Int)≤(k:Int):=by omega
 have c0' : (0:Int)≤(c:Int):=by omega
 have c1' : (c:Int)<2:=by omega
 have l1:(k:Int)<6:=by omega
 have dx:(x==0)=true:=beq_iff_eq.2 h
 clear hX hf hx hk8 h
 go_enter Tryz.func90,Tryz.ntmps90
 go_wp2_with (rw [HX.out])
 refine (fits_any _ _ (by omega) (by omega) (by omega) (by omega) _).mono ?_
 rintro e w1 ⟨rfl,rfl⟩
 rw [HF.out]
 go_wp2
 refine bodyPost_ret (v:=.tuple #[.agg (posA n),.bool false]) (pos_result2 Tryz.results90 _ _ _ _ _ rfl rfl (p1.setRow _)) rfl ⟨rfl,below_setRow hb (by omega) _⟩
theorem tak_any (n:Nat→Int) (hn:PosOk n) (c k:Nat) (hc:c≤255) (hk:k≤255) (w:World) :
 Calls Tryz.prog 90 #[.agg (posA n),.int .u8 (c:Int),.int .u8 (k:Int)] w fun e w' => e = .returned (.tuple #[.agg (posA (takN n c k)),.bool (takB n c k)])∧Below w.heap.size w w' := by
 cases hB:takB n c k with
 | true =>
   have h:=hB
   unfold takB at h
   rw [Bool.and_eq_true,fits_iff] at h
   obtain ⟨⟨hc1,k1,k5⟩,h2⟩:=h
   rw [show poIx c k=66+c*6+k by unfold poIx;omega] at h2
   exact tak_yes n hn c hc1 k k1 k5 (by simpa using h2) w
 | false =>
   have hN:takN n c k=n:=by unfold takN;rw [hB];rfl
   rw [hN]
   cases hf:fitsB c k with
   | false=>exact tak_noF n hn c k hc hk hf w
   | true =>
     have h2:=hB
     unfold takB at h2
     rw [hf,Bool.true_and] at h2
     rw [fits_iff] at hf
     obtain ⟨hc1,k1,k5⟩:=hf
     rw [show poIx c k=66+c*6+k by unfold poIx;omega] at h2
     exact tak_no n hn c hc1 k k1 k5 (by simpa using h2) w
end Go.Proofs.YteocjaihaegmoaaGreatDoor
