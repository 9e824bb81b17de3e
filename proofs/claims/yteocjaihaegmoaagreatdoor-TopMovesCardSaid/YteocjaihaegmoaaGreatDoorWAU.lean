/- Parts of the proof: D4, T8. -/
import Derived.Test.YteocjaihaegmoaaGreatDoorWAE
import Derived.Test.YteocjaihaegmoaaGreatDoorWAL
import Derived.Test.YteocjaihaegmoaaGreatDoorWAO
import Derived.Test.YteocjaihaegmoaaGreatDoorWAR
import Derived.Test.YteocjaihaegmoaaGreatDoorWAT
import Derived.Maps.AppendAt
import Derived.WalkMore
set_option linter.unusedVariables false
set_option maxHeartbeats 800000
namespace Go.Proofs.YteocjaihaegmoaaGreatDoor
open Go Go.RowKit
def midB:BitVec 64:=0x00FFFFFFFFFFFF00#64
def whB (n:Nat→Int) (k:Nat):BitVec 64:=if k=1 then ~~~(allN n)&&&midB else ~~~(allN n)
def dmv (s k:Int):Mv:=⟨s,s,0,k,false⟩
def dropK (n:Nat→Int) (t:Nat):Nat→List Mv
 | 0=>[]
 | j+1=>dropK n t j ++ (if n (67+6*t+j)=0 then [] else (listB (whB n (j+1))).map (fun s=>dmv s ((j:Int)+1)))
theorem dropK_len (n:Nat→Int) (t:Nat):∀ j,(dropK n t j).length≤64*j
 | 0=>Nat.le_refl 0
 | j + 1 => by
   have ih:=dropK_len n t j
   have hl:=listB_length (whB n (j+1))
   unfold dropK
   rw [List.length_append]
   split
   · simp only [List.length_nil];omega
   · rw [List.length_map];omega
def dropL (n:Nat→Int) (v t:Nat):List Mv:=if t≤1∧v=2 then dropK n t 5 else []
theorem cells5_new (w:World) (a b c d e:Value) (t:TypeId):∀ j u,[a,b,c,d,e][j]?=some u→(w.alloc (.cells #[a,b,c,d,e] t)).cell? ((⟨w.heap.size,0,none⟩:Addr).add j)=some u:=by
 intro j u hj
 have h:(w.alloc (.cells #[a,b,c,d,e] t)).cell? ⟨w.heap.size,j,none⟩=#[a,b,c,d,e][j]?:=World.cell?_alloc_new ..
 have ha:(⟨w.heap.size,0,none⟩:Addr).add j=⟨w.heap.size,j,none⟩:=by
  unfold Addr.add
  split
  · rename_i h0;subst h0;rfl
  · simp
 rw [ha,h]
 simpa using hj
theorem OwnsI.keptBlk {w w' : World} {B g n c:Nat} {l:List Int} (h:OwnsI w B (.slice (some ⟨g,0,none⟩) n c) l) (hb:w'.heap[g]?=w.heap[g]?):OwnsI w' B (.slice (some ⟨g,0,none⟩) n c) l:=by
 obtain ⟨h1,h2⟩:=h
 refine ⟨h1,?_⟩
 rcases h2 with ⟨h2,_⟩ | ⟨g',cap,cur,hv,hg,hgb,rest⟩
 · cases h2
 · cases hv
   exact .inr ⟨_,_,_,rfl,hg,hb.trans hgb,rest⟩
theorem owns_apart {w:World} {B B' g n c:Nat} {l:List Int} {v:Value} {m:List Mv} (h:OwnsI w B (.slice (some ⟨g,0,none⟩) n c) l) (hm:OwnsM w B' v m):some g≠v.ownBlock:=by
 intro e
 rcases h.2 with ⟨h2,_⟩ | ⟨g',cap,cur,hv,hg,hgb,rest⟩
 · cases h2
 · cases hv
   rcases hm.2 with ⟨h3,_⟩ | ⟨g2,cap2,cur2,hv2,hg2,hgb2,rest2⟩
   · subst h3;cases e
   · subst hv2
     have:g=g2:=by simpa [Value.ownBlock] using e
     subst this
     rw [hgb] at hgb2
     injection hgb2 with hx
     injection hx with _ ht
     exact absurd ht (by decide)
theorem drop_none (n:Nat→Int) (hn:PosOk n) (v t:Nat) (hv:n 0=v) (ht:n 78=t) (hv9:v≤255) (h:¬ (t≤1∧v=2)) (w:World) :
 Calls Tryz.prog 85 #[.agg (posA n)] w fun e w' => e = .returned (.slice none 0 0)∧Below w.heap.size w w' := by
 obtain ⟨X,hX⟩:∃ X,w.alloc (.cells (posA n) 31)=X:=⟨_,rfl⟩
 obtain ⟨p0,hb⟩:=box1 w n X hX
 have HX:=hI hX
 have c0:X.cell? ⟨w.heap.size,0,none⟩=some (.int .u8 v):=by rw [p0.cell 0 (by decide),hv];rfl
 have c78:X.cell? ⟨w.heap.size,78,none⟩=some (.int .u8 t):=by rw [p0.cell 78 (by decide),ht];rfl
 clear hX
 by_cases h1:t≤1
 · have d1 : decide ((1 : Int) < t) = false := decide_eq_false (by omega)
   have HP:=hI (show pocB v=false from beq_eq_false_iff_ne.2 (fun e=>h ⟨h1,e⟩))
   clear h1 h
   go_enter Tryz.func85,Tryz.ntmps85
   go_wp2_with (rw [HX.out])
   go_step3
   go_wp2_with fail
   refine (vpockets_any v hv9 _).mono ?_
   rw [HP.out]
   rintro e w1 ⟨rfl,h1⟩
   have hb:=hb.trans (h1.mono hb.size)
   clear h1
   go_wp2
   (try rw [Exit.noGoto_ret])
   go_ret
   exact ⟨rfl,hb⟩
 · have d1 : decide ((1 : Int) < t) = true := decide_eq_true (by omega)
   clear h1 h
   go_enter Tryz.func85,Tryz.ntmps85
   go_wp2_with (rw [HX.out])
   go_step3
   go_wp2_with fail
   (try rw [Exit.noGoto_ret])
   go_ret
   exact ⟨rfl,hb⟩
theorem rdrop_none (n:Nat→Int) (hn:PosOk n) (v t:Nat) (hv:n 0=v) (ht:n 78=t) (hv9:v≤255) (h:¬ (t≤1∧v=2)) (w:World) :
 Calls Tryz.prog 103 #[.agg (posA n)] w fun e w' => e = .returned (.slice none 0 0)∧Below w.heap.size w w' := by
 obtain ⟨X,hX⟩:∃ X,w.alloc (.cells (posA n) 31)=X:=⟨_,rfl⟩
 obtain ⟨p0,hb⟩:=box1 w n X hX
 have HX:=hI hX
 have c0:X.cell? ⟨w.heap.size,0,none⟩=some (.int .u8 v):=by rw [p0.cell 0 (by decide),hv];rfl
 have c78:X.cell? ⟨w.heap.size,78,none⟩=some (.int .u8 t):=by rw [p0.cell 78 (by decide),ht];rfl
 clear hX
 by_cases h1:t≤1
 · have d1 : decide ((1 : Int) < t) = false := decide_eq_false (by omega)
   have d2:((v:Int) != 2)=true:=by rw [bne,beq_eq_false_iff_ne.2 (by omega)];rfl
   clear h1 h
   go_enter Tryz.func103,Tryz.ntmps103
   go_wp2_with (rw [HX.out])
   go_ret
   exact ⟨rfl,hb⟩
 · have d1 : decide ((1 : Int) < t) = true := decide_eq_true (by omega)
   clear h1 h
   go_enter Tryz.func103,Tryz.ntmps103
   go_wp2_with (rw [HX.out])
   go_ret
   exact ⟨rfl,hb⟩
def ownB (n:Nat→Int):BitVec 64:=ofN n (n 78) 0
def othB (n:Nat→Int):BitVec 64:=ofN n (1 - n 78) 0
def rankC (c s:Int):Int:=if c=1 then 7 - s / 8 else s / 8
def aheadC (c s:Int):Int:=if c=1 then s - 8 else s+8
def fromC (n:Nat→Int) (s:Int):Bool:=(rankC (n 78) s==1) || ((rankC (n 78) s==0)&&(n 0==7)&&(n 78==0))
def pawnG (n:Nat→Int) (s:Int):BitVec 64 :=
 if rankC (n 78) s=7 then pawnB (n 78) s&&&(othB n ||| oneB (n 83)) else
 if hasB (ownB n ||| othB n) (aheadC (n 78) s)=true then pawnB (n 78) s&&&(othB n ||| oneB (n 83)) else
 if fromC n s=true then (pawnB (n 78) s&&&(othB n ||| oneB (n 83))) ||| oneB (aheadC (n 78) s) ||| (oneB (aheadC (n 78) (aheadC (n 78) s))&&&~~~(ownB n ||| othB n))
 else (pawnB (n 78) s&&&(othB n ||| oneB (n 83))) ||| oneB (aheadC (n 78) s)
def toG (n:Nat→Int) (k s:Int):BitVec 64 :=
 if k=1 then pawnG n s else if k=2 then knightB s else if k=3 then bishB s (ownB n ||| othB n) else if k=4 then rookB s (ownB n ||| othB n) else
 if k=5 then queenB s (ownB n ||| othB n) else if k=6 then (if n 0=3 then kingB s&&&~~~othB n else kingB s) else 0#64
def toB (n:Nat→Int) (s:Int):BitVec 64:=toG n (kndI (n (1+s.toNat))) s&&&~~~ownB n
def mvP (a b k:Int):Mv:=⟨a,b,k,0,false⟩
def promM (n:Nat→Int) (a b:Int):List Mv:=if kndI (n (1+a.toNat))=1∧rankC (n 78) b=7 then (promL (n 0).toNat).map (fun k=>mvP a b k) else [mvP a b 0]
def movesFrom (n:Nat→Int) (a:Int):List Mv:=(listB (toB n a)).flatMap (fun b=>promM n a b)
def pseudoL (n:Nat→Int):List Mv:=(listB (ownB n)).flatMap (movesFrom n)
/-- The reference's: square by square. -/
def ownP (n:Nat→Int) (s c:Int):Bool:=isB (n (1+s.toNat))&&(n (1+s.toNat) / 8==c)
def rpawnP (n:Nat→Int) (a b:Int):Bool :=
 if hitI (n (1+a.toNat)) a b (allN n)=true then ownP n b (1 - n 78) || (n 83==b) else
 if b=aheadC (n 78) a then !isB (n (1+b.toNat)) else
 (b==aheadC (n 78) (aheadC (n 78) a))&&fromC n a&&!isB (n (1+(aheadC (n 78) a).toNat))&&!isB (n (1+b.toNat))
def mayP (n:Nat→Int) (a b:Int):Bool :=
 if a=b then false else if ownP n a (n 78)=false then false else if ownP n b (n 78)=true then false else
 if kndI (n (1+a.toNat))=1 then rpawnP n a b else
 if kndI (n (1+a.toNat))=6 then hitI (n (1+a.toNat)) a b (allN n)&&(!(n 0==3) || !isB (n (1+b.toNat))) else
 hitI (n (1+a.toNat)) a b (allN n)
theorem own_is (n:Nat→Int) (s c:Int) (s0:0≤s) (s1:s<64):ownP n s c=hasB (ofN n c 0) s:=by
 rw [has_of n c 0 s s0 s1]
 unfold ownP ofP
 cases hi:isB (n (1+s.toNat)) with
 | false=>rfl
 | true=>rw [col_div hi];simp
theorem has_own (n:Nat→Int) (s:Int) (s0:0≤s) (s1:s<64):hasB (ownB n) s=ownP n s (n 78):=(own_is n s _ s0 s1).symm
theorem has_oth (n:Nat→Int) (s:Int) (s0:0≤s) (s1:s<64):hasB (othB n) s=ownP n s (1 - n 78):=(own_is n s _ s0 s1).symm
theorem own_oth (n:Nat→Int) (ht:n 78=0∨n 78=1) (s:Int):(ownP n s (n 78) || ownP n s (1 - n 78))=isB (n (1+s.toNat)):=by
 unfold ownP
 cases hi:isB (n (1+s.toNat)) with
 | false=>rfl
 | true =>
   rw [Bool.true_and,Bool.true_and]
   rcases isB_cases hi with ⟨_,_,_,_,h⟩ | ⟨_,_,_,_,h⟩ <;> rcases ht with e | e <;> rw [h,e] <;> rfl
theorem all_own (n:Nat→Int) (ht:n 78=0∨n 78=1):ownB n ||| othB n=allN n:=by
 apply ext_has
 intro k hk
 rw [has_or,has_own n _ (by omega) (by omega),has_oth n _ (by omega) (by omega),has_all n _ (by omega) (by omega)]
 exact own_oth n ht _
def pawnGeo (c a b:Int):Bool:=!(hasB (pawnB c a) b) || (!(b==aheadC c a)&&!(b==aheadC c (aheadC c a)))
theorem pawnGeo_in:∀ a b:Fin 64,pawnGeo 0 (a.val:Int) (b.val:Int)=true∧pawnGeo 1 (a.val:Int) (b.val:Int)=true:=by decide +kernel
theorem pawn_geo {c a b:Int} (hc:c=0∨c=1) (a0:0≤a) (a1:a<64) (b0:0≤b) (b1:b<64) (h:hasB (pawnB c a) b=true):b≠aheadC c a∧b≠aheadC c (aheadC c a):=by
 have G:pawnGeo c a b=true:=by
  obtain ⟨x,rfl⟩:=sq1 a0 a1;obtain ⟨y,rfl⟩:=sq1 b0 b1
  rcases hc with rfl | rfl
  · exact (pawnGeo_in x y).1
  · exact (pawnGeo_in x y).2
 unfold pawnGeo at G
 rw [h] at G
 simpa using G
theorem ahead_cases (c s:Int):(c=1∧aheadC c s=s - 8)∨(c≠1∧aheadC c s=s+8):=by
 unfold aheadC;split
 · rename_i h;exact .inl ⟨h,rfl⟩
 · rename_i h;exact .inr ⟨h,rfl⟩
theorem rank_cases (c s:Int):(c=1∧rankC c s=7 - s / 8)∨(c≠1∧rankC c s=s / 8):=by
 unfold rankC;split
 · rename_i h;exact .inl ⟨h,rfl⟩
 · rename_i h;exact .inr ⟨h,rfl⟩
theorem ahead_in {c s:Int} (s0:0≤s) (s1:s<64) (h:rankC c s≠7):0≤aheadC c s∧aheadC c s<64:=by
 rcases ahead_cases c s with ⟨_,e⟩ | ⟨_,e⟩ <;> rcases rank_cases c s with ⟨_,e2⟩ | ⟨_,e2⟩ <;> omega
theorem from_rank {n:Nat→Int} {s:Int} (h:fromC n s=true):rankC (n 78) s=1∨rankC (n 78) s=0:=by
 unfold fromC at h
 simp only [Bool.or_eq_true,Bool.and_eq_true,beq_iff_eq] at h
 rcases h with h | ⟨⟨h,_⟩,_⟩
 · exact .inl h
 · exact .inr h
theorem pawn_same (n:Nat→Int) (ht:n 78=0∨n 78=1) (a b:Int) (a0:0≤a) (a1:a<64) (b0:0≤b) (b1:b<64) (hk:kndI (n (1+a.toNat))=1) (ho:ownP n a (n 78)=true) (hb:ownP n b (n 78)=false):hasB (pawnG n a) b=rpawnP n a b:=by
 have hcol:colI (n (1+a.toNat))=n 78:=by
  unfold ownP at ho
  rw [Bool.and_eq_true,beq_iff_eq] at ho
  rw [col_div ho.1];exact ho.2
 have hhit:hitI (n (1+a.toNat)) a b (allN n)=hasB (pawnB (n 78) a) b:=by
  rw [hit_kind hk,hcol];rfl
 have hall:=all_own n ht
 have hisb:=own_oth n ht b
 rw [hb,Bool.false_or] at hisb
 have hbase:hasB (pawnB (n 78) a&&&(othB n ||| oneB (n 83))) b=(hasB (pawnB (n 78) a) b&&(ownP n b (1 - n 78) || (n 83==b))):=by
  rw [has_and,has_or,has_oth n b b0 b1,has_one]
  congr 2
  rw [Bool.eq_iff_iff,decide_eq_true_iff,beq_iff_eq];omega
 unfold rpawnP
 rw [hhit]
 cases hh:hasB (pawnB (n 78) a) b with
 | true =>
   obtain ⟨g1,g2⟩:=pawn_geo ht a0 a1 b0 b1 hh
   rw [if_pos rfl]
   rw [hh,Bool.true_and] at hbase
   have h1:hasB (oneB (aheadC (n 78) a)) b=false:=by rw [has_one,decide_eq_false (by omega)]
   have h2:hasB (oneB (aheadC (n 78) (aheadC (n 78) a))&&&~~~(ownB n ||| othB n)) b=false:=by rw [has_and,has_one,decide_eq_false (by omega),Bool.false_and]
   unfold pawnG
   split
   · exact hbase
   · split
     · exact hbase
     · split
       · rw [has_or,has_or,h1,h2,hbase,Bool.or_false,Bool.or_false]
       · rw [has_or,h1,hbase,Bool.or_false]
 | false =>
   rw [if_neg (by decide)]
   rw [hh,Bool.false_and] at hbase
   unfold pawnG
   by_cases h7:rankC (n 78) a=7
   · rw [if_pos h7, hbase]
     have hne:b≠aheadC (n 78) a:=by
      rcases ahead_cases (n 78) a with ⟨_,e⟩ | ⟨_,e⟩ <;> rcases rank_cases (n 78) a with ⟨_,e2⟩ | ⟨_,e2⟩ <;> omega
     have hf:fromC n a=false:=by
      cases hf:fromC n a with
      | false=>rfl
      | true=>rcases from_rank hf with e | e <;> omega
     rw [if_neg hne,hf,Bool.and_false,Bool.false_and,Bool.false_and]
   · obtain ⟨o0, o1⟩ := ahead_in a0 a1 h7
     rw [if_neg h7,hall,has_all n _ o0 o1]
     cases hone:isB (n (1+(aheadC (n 78) a).toNat)) with
     | true =>
       rw [if_pos rfl,hbase]
       by_cases e:b=aheadC (n 78) a
       · rw [if_pos e,e,hone];rfl
       · rw [if_neg e];simp
     | false =>
       rw [if_neg (by decide)]
       have h1:hasB (oneB (aheadC (n 78) a)) b=decide (b=aheadC (n 78) a):=by rw [has_one,decide_eq_decide];omega
       by_cases e:b=aheadC (n 78) a
       · rw [if_pos e, show isB (n (1 + b.toNat)) = false by rw [e]; exact hone, Bool.not_false]
         split
         · rw [has_or,has_or,h1,decide_eq_true e];simp
         · rw [has_or,h1,decide_eq_true e];simp
       · rw [if_neg e]
         cases hf:fromC n a with
         | false=>rw [if_neg (by decide),has_or,h1,hbase,decide_eq_false e];simp
         | true =>
           rw [if_pos rfl,has_or,has_or,h1,hbase,decide_eq_false e,has_andNot,has_one,has_all n b b0 b1]
           simp only [Bool.false_or,Bool.and_true,Bool.not_false]
           congr 1
           rw [Bool.eq_iff_iff,decide_eq_true_iff,beq_iff_eq];omega
theorem may_same (n:Nat→Int) (ht:n 78=0∨n 78=1) (a b:Int) (a0:0≤a) (a1:a<64) (b0:0≤b) (b1:b<64):(hasB (ownB n) a&&hasB (toB n a) b)=mayP n a b:=by
 unfold mayP toB
 rw [has_own n a a0 a1,has_andNot,has_own n b b0 b1]
 cases hoa:ownP n a (n 78) with
 | false=>rw [if_pos rfl,Bool.false_and];split <;> rfl
 | true =>
   rw [Bool.true_and]
   by_cases hab:a=b
   · rw [if_pos hab,← hab,hoa];simp
   · rw [if_neg hab, if_neg (by decide)]
     cases hob:ownP n b (n 78) with
     | true=>rw [if_pos rfl];simp
     | false =>
       rw [if_neg (by decide),Bool.not_false,Bool.and_true]
       have hcol:colI (n (1+a.toNat))=n 78:=by
        have ho:=hoa
        unfold ownP at ho
        rw [Bool.and_eq_true,beq_iff_eq] at ho
        rw [col_div ho.1];exact ho.2
       unfold toG
       by_cases h1:kndI (n (1+a.toNat))=1
       · rw [if_pos h1,if_pos h1];exact pawn_same n ht a b a0 a1 b0 b1 h1 hoa hob
       rw [if_neg h1,if_neg h1]
       have hall:=all_own n ht
       unfold hitI atkB
       rw [if_neg h1,hall]
       by_cases h2:kndI (n (1+a.toNat))=2
       · rw [if_pos h2,if_neg (by omega),if_pos h2]
       rw [if_neg h2,if_neg h2]
       by_cases h3:kndI (n (1+a.toNat))=3
       · rw [if_pos h3,if_neg (by omega),if_pos h3]
       rw [if_neg h3,if_neg h3]
       by_cases h4:kndI (n (1+a.toNat))=4
       · rw [if_pos h4,if_neg (by omega),if_pos h4]
       rw [if_neg h4,if_neg h4]
       by_cases h5:kndI (n (1+a.toNat))=5
       · rw [if_pos h5,if_neg (by omega),if_pos h5]
       rw [if_neg h5,if_neg h5]
       by_cases h6:kndI (n (1+a.toNat))=6
       · rw [if_pos h6, if_pos h6, if_pos h6]
         have hisb:=own_oth n ht b
         rw [hob,Bool.false_or] at hisb
         by_cases hv:n 0=3
         · rw [if_pos hv,has_andNot,has_oth n b b0 b1,hisb,show (n 0==3)=true from beq_iff_eq.2 hv];rfl
         · rw [if_neg hv,show (n 0==3)=false from beq_eq_false_iff_ne.2 hv];simp
       · rw [if_neg h6,if_neg h6,if_neg h6]
/-- The reference's list. -/
def rowP (n:Nat→Int) (a:Int) (k:Nat):List Mv:=(List.range k).flatMap (fun b:Nat=>if mayP n a b=true then promM n a b else [])
def rpseudoK (n:Nat→Int) (k:Nat):List Mv:=(List.range k).flatMap (fun a:Nat=>rowP n a 64)
theorem rowP_succ (n:Nat→Int) (a:Int) (k:Nat):rowP n a (k+1)=rowP n a k ++ (if mayP n a k=true then promM n a k else []):=by
 unfold rowP;rw [List.range_succ,List.flatMap_append];simp
theorem rpseudoK_succ (n:Nat→Int) (k:Nat):rpseudoK n (k+1)=rpseudoK n k ++ rowP n k 64:=by
 unfold rpseudoK;rw [List.range_succ,List.flatMap_append];simp
theorem flat_filter {α β:Type} (p:α→Bool) (f:α→List β):∀ l:List α,(l.filter p).flatMap f=l.flatMap (fun x=>if p x=true then f x else [])
 | []=>rfl
 | x :: l => by
   rw [List.flatMap_cons,← flat_filter p f l]
   cases h:p x with
   | true=>rw [List.filter_cons_of_pos h,List.flatMap_cons,if_pos rfl]
   | false=>rw [List.filter_cons_of_neg (by rw [h];decide),if_neg (by decide)];rfl
theorem listB_flat {β:Type} (b:BitVec 64) (f:Int→List β):(listB b).flatMap f=(List.range 64).flatMap (fun k:Nat=>if hasB b (k:Int)=true then f k else []):=by
 unfold listB listN
 rw [List.flatMap_map,flat_filter]
 have:∀ l:List Nat,(∀ x∈l,x<64)→l.flatMap (fun x=>if b.getLsbD x=true then f ((x:Nat):Int) else [])=l.flatMap (fun k:Nat=>if hasB b (k:Int)=true then f k else []):=by
  intro l hl
  induction l with
  | nil=>rfl
  | cons x l ih =>
    rw [List.flatMap_cons,List.flatMap_cons,ih (fun y hy=>hl y (List.mem_cons_of_mem _ hy)),hasB_nat b x (hl x (List.mem_cons_self ..))]
 exact this _ (fun x hx=>List.mem_range.1 hx)
theorem flat_congr {α β:Type} {f g:α→List β}:∀ l:List α,(∀ x∈l,f x=g x)→l.flatMap f=l.flatMap g
 | [],_=>rfl
 | x :: l,h=>by rw [List.flatMap_cons,List.flatMap_cons,h x (List.mem_cons_self ..),flat_congr l (fun y hy=>h y (List.mem_cons_of_mem _ hy))]
theorem flat_none {α β:Type} {f:α→List β}:∀ l:List α,(∀ x∈l,f x=[])→l.flatMap f=[]
 | [],_=>rfl
 | x :: l,h=>by rw [List.flatMap_cons,h x (List.mem_cons_self ..),flat_none l (fun y hy=>h y (List.mem_cons_of_mem _ hy))];rfl
theorem pseudo_same (n:Nat→Int) (ht:n 78=0∨n 78=1):pseudoL n=rpseudoK n 64:=by
 unfold pseudoL rpseudoK
 rw [listB_flat]
 refine flat_congr _ (fun a ha=>?_)
 have ha:=List.mem_range.1 ha
 unfold movesFrom rowP
 cases ho:hasB (ownB n) (a:Int) with
 | false =>
   rw [if_neg (by decide)]
   refine (flat_none _ (fun b hb=>?_)).symm
   rw [← may_same n ht a b (by omega) (by omega) (by omega) (by have:=List.mem_range.1 hb;omega),ho,Bool.false_and,if_neg (by decide)]
 | true =>
   rw [if_pos rfl,listB_flat]
   refine flat_congr _ (fun b hb=>?_)
   rw [← may_same n ht a b (by omega) (by omega) (by omega) (by have:=List.mem_range.1 hb;omega),ho,Bool.true_and]
/-- Which of them is a move. -/
def isP (n:Nat→Int) (m:Mv):Bool :=
 !m.c&&(m.d==0)&&decide (0≤m.f∧m.f<64)&&decide (0≤m.t∧m.t<64)&&mayP n m.f m.t&&(if kndI (n (1+m.f.toNat))=1∧rankC (n 78) m.t=7 then (promL (n 0).toNat).contains m.p else m.p==0)
theorem mem_prom {n:Nat→Int} {a b:Int} {m:Mv}:m∈promM n a b↔m.f=a∧m.t=b∧m.d=0∧m.c=false∧(if kndI (n (1+a.toNat))=1∧rankC (n 78) b=7 then (promL (n 0).toNat).contains m.p else m.p==0)=true:=by
 unfold promM
 obtain ⟨f,t,p,d,c⟩:=m
 split
 · rw [List.mem_map]
   simp only [List.contains_iff_mem]
   unfold mvP
   constructor
   · rintro ⟨k, hk, e⟩
     injection e with e1 e2 e3 e4 e5
     subst e1 e2 e3 e4 e5
     exact ⟨rfl,rfl,rfl,rfl,hk⟩
   · rintro ⟨rfl, rfl, rfl, rfl, hk⟩
     exact ⟨p,hk,rfl⟩
 · rw [List.mem_singleton]
   unfold mvP
   rw [beq_iff_eq]
   constructor
   · intro e
     injection e with e1 e2 e3 e4 e5
     exact ⟨e1,e2,e4,e5,e3⟩
   · rintro ⟨rfl,rfl,rfl,rfl,rfl⟩;rfl
theorem mem_pseudo (n:Nat→Int) (ht:n 78=0∨n 78=1) (m:Mv):m∈pseudoL n↔isP n m=true:=by
 unfold pseudoL movesFrom isP
 rw [List.mem_flatMap]
 constructor
 · rintro ⟨a, ha, hm⟩
   rw [List.mem_flatMap] at hm
   obtain ⟨b,hb,hm⟩:=hm
   obtain ⟨rfl,rfl,h3,h4,h5⟩:=mem_prom.1 hm
   have ha:=(mem_listB _ _).1 ha
   have hb:=(mem_listB _ _).1 hb
   have sa:=has_sq ha
   have sb:=has_sq hb
   rw [h3,h4,decide_eq_true sa,decide_eq_true sb,← may_same n ht _ _ sa.1 sa.2 sb.1 sb.2,ha,hb,h5];rfl
 · intro h
   simp only [Bool.and_eq_true,Bool.not_eq_true',beq_iff_eq,decide_eq_true_iff] at h
   obtain ⟨⟨⟨⟨⟨h1,h2⟩,sa⟩,sb⟩,h5⟩,h6⟩:=h
   rw [← may_same n ht _ _ sa.1 sa.2 sb.1 sb.2,Bool.and_eq_true] at h5
   exact ⟨m.f,(mem_listB _ _).2 h5.1,List.mem_flatMap.2 ⟨m.t,(mem_listB _ _).2 h5.2,mem_prom.2 ⟨rfl,rfl,h2,h1,h6⟩⟩⟩
/-- What is taken. -/
def takenG (n:Nat→Int) (m:Mv):Int:=if hasB (othB n) m.t=true then m.t else if kndI (n (1+m.f.toNat))=1∧m.f % 8≠m.t % 8 then aheadC (1 - n 78) m.t else -1
def takenN (n:Nat→Int) (m:Mv):Int:=if isP n m=true then takenG n m else -1
theorem prom_len (n:Nat→Int) (a b:Int):(promM n a b).length≤5:=by
 unfold promM
 split
 · rw [List.length_map]; unfold promL; split
   · decide
   · split <;> decide
 · simp
theorem flat_len {α β:Type} (f:α→List β) (k:Nat) (h:∀ x,(f x).length≤k):∀ l:List α,(l.flatMap f).length≤l.length*k
 | []=>Nat.zero_le _
 | x :: l => by
   have h1:=h x
   have h2:=flat_len f k h l
   rw [List.flatMap_cons,List.length_append,List.length_cons,Nat.add_mul];omega
theorem from_len (n:Nat→Int) (a:Int):(movesFrom n a).length≤320:=by
 have h1:=flat_len (fun b=>promM n a b) 5 (prom_len n a) (listB (toB n a))
 have h2:=listB_length (toB n a)
 unfold movesFrom;omega
theorem pseudo_len (n:Nat→Int):(pseudoL n).length≤20480:=by
 have h1:=flat_len (movesFrom n) 320 (from_len n) (listB (ownB n))
 have h2:=listB_length (ownB n)
 unfold pseudoL;omega
theorem promL_bd {k:Nat} {x:Int} (h:x∈promL k):2≤x∧x≤6:=by
 unfold promL at h
 split at h
 · simp at h;omega
 · split at h
   · simp at h;omega
   · cases h
theorem mv_ok {n:Nat→Int} {m:Mv} (h:isP n m=true):m.Ok:=by
 unfold isP at h
 simp only [Bool.and_eq_true,Bool.not_eq_true',beq_iff_eq,decide_eq_true_iff] at h
 obtain ⟨⟨⟨⟨⟨h1,h2⟩,sa⟩,sb⟩,h5⟩,h6⟩:=h
 refine ⟨by omega,by omega,?_,by omega⟩
 split at h6
 · have:=promL_bd (List.contains_iff_mem.1 h6);omega
 · rw [beq_iff_eq] at h6;omega
end Go.Proofs.YteocjaihaegmoaaGreatDoor
