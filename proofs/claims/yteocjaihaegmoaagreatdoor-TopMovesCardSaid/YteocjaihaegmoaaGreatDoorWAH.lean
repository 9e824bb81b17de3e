/- Parts of the proof: T1, N8. -/
import Derived.Test.YteocjaihaegmoaaGreatDoorWAB
import Derived.Test.YteocjaihaegmoaaGreatDoorWAC
import Derived.Test.YteocjaihaegmoaaGreatDoorWAE
import Derived.Test.YteocjaihaegmoaaGreatDoorWAG
set_option linter.unusedVariables false
namespace Go.Proofs.YteocjaihaegmoaaGreatDoor
open Go Go.RowKit
/-- Ranks and files apart, as the reference reckons them. -/
def absI (x:Int):Int:=if x<0 then -x else x
theorem absI_bd {x k:Int} (h0:-k≤x) (h1:x≤k):0≤absI x∧absI x≤k:=by unfold absI;split <;> omega
def upI (a b:Int):Int:=b / 8 - a / 8
def asI (a b:Int):Int:=absI (b % 8 - a % 8)
def straightB (a b:Int):Bool:=(upI a b==0) != (asI a b==0)
def acrossB (a b:Int):Bool:=(absI (upI a b)==asI a b)&&decide (0<asI a b)
theorem straight_in:∀ a b:Fin 64,straightB (a.val:Int) (b.val:Int)=hasB (rookR (a.val:Int)) (b.val:Int):=by decide +kernel
theorem across_in:∀ a b:Fin 64,acrossB (a.val:Int) (b.val:Int)=hasB (bishR (a.val:Int)) (b.val:Int):=by decide +kernel
def besideB (a b:Int):Bool:=(a != b)&&decide (absI (a / 8 - b / 8)≤1)&&decide (absI (a % 8 - b % 8)≤1)
theorem beside_in:∀ a b:Fin 64,besideB (a.val:Int) (b.val:Int)=hasB (kingB (a.val:Int)) (b.val:Int):=by decide +kernel
def knightHB (a b:Int):Bool:=((absI (upI a b)==1)&&(asI a b==2)) || ((absI (upI a b)==2)&&(asI a b==1))
theorem knight_in:∀ a b:Fin 64,knightHB (a.val:Int) (b.val:Int)=hasB (knightB (a.val:Int)) (b.val:Int):=by decide +kernel
theorem pawn0_in:∀ a b:Fin 64,((upI (a.val:Int) (b.val:Int)==1)&&(asI (a.val:Int) (b.val:Int)==1))=hasB (pawnB 0 (a.val:Int)) (b.val:Int):=by decide +kernel
theorem pawn1_in:∀ a b:Fin 64,((upI (a.val:Int) (b.val:Int)==-1)&&(asI (a.val:Int) (b.val:Int)==1))=hasB (pawnB 1 (a.val:Int)) (b.val:Int):=by decide +kernel
def sgnI (x:Int):Int:=if x<0 then -1 else if 0<x then 1 else 0
theorem sgnI_bd (x:Int):-1≤sgnI x∧sgnI x≤1:=by unfold sgnI;split <;> (try split) <;> omega
def stepA (a b:Int):Int:=8*sgnI (b / 8 - a / 8)+sgnI (b % 8 - a % 8)
theorem stepA_bd (a b:Int):-9≤stepA a b∧stepA a b≤9:=by
 have:=sgnI_bd (b / 8 - a / 8)
 have:=sgnI_bd (b % 8 - a % 8)
 unfold stepA;omega
/-- How many squares lie between two of a line. -/
def gapN (a b:Int):Nat:=((max (absI (upI a b)) (asI a b)) - 1).toNat
def gapOk (a b:Int):Bool :=
 !(straightB a b || acrossB a b) || ((List.range (gapN a b)).all (fun k:Nat=>decide (0≤a+stepA a b+stepA a b*(k:Int)∧a+stepA a b+stepA a b*(k:Int)<64)&&(a+stepA a b+stepA a b*(k:Int) != b))&&(a+stepA a b+stepA a b*(gapN a b:Int)==b)&&foldPut idI ((List.range (gapN a b)).map (fun k:Nat=>a+stepA a b+stepA a b*(k:Int)))==betB a b)
theorem gap_in:∀ a b:Fin 64,gapOk (a.val:Int) (b.val:Int)=true:=by decide +kernel
theorem sq1 {s:Int} (h0:0≤s) (h1:s<64):∃ k:Fin 64,s=(k.val:Int):=⟨⟨s.toNat,by omega⟩,by simp;omega⟩
theorem straight_is {a b:Int} (a0:0≤a) (a1:a<64) (b0:0≤b) (b1:b<64):straightB a b=hasB (rookR a) b:=by
 obtain ⟨x,rfl⟩:=sq1 a0 a1;obtain ⟨y,rfl⟩:=sq1 b0 b1;exact straight_in x y
theorem across_is {a b:Int} (a0:0≤a) (a1:a<64) (b0:0≤b) (b1:b<64):acrossB a b=hasB (bishR a) b:=by
 obtain ⟨x,rfl⟩:=sq1 a0 a1;obtain ⟨y,rfl⟩:=sq1 b0 b1;exact across_in x y
theorem beside_is {a b:Int} (a0:0≤a) (a1:a<64) (b0:0≤b) (b1:b<64):besideB a b=hasB (kingB a) b:=by
 obtain ⟨x,rfl⟩:=sq1 a0 a1;obtain ⟨y,rfl⟩:=sq1 b0 b1;exact beside_in x y
theorem knightH_is {a b:Int} (a0:0≤a) (a1:a<64) (b0:0≤b) (b1:b<64):knightHB a b=hasB (knightB a) b:=by
 obtain ⟨x,rfl⟩:=sq1 a0 a1;obtain ⟨y,rfl⟩:=sq1 b0 b1;exact knight_in x y
theorem pawn0_is {a b:Int} (a0:0≤a) (a1:a<64) (b0:0≤b) (b1:b<64):((upI a b==1)&&(asI a b==1))=hasB (pawnB 0 a) b:=by
 obtain ⟨x,rfl⟩:=sq1 a0 a1;obtain ⟨y,rfl⟩:=sq1 b0 b1;exact pawn0_in x y
theorem pawn1_is {a b:Int} (a0:0≤a) (a1:a<64) (b0:0≤b) (b1:b<64):((upI a b==-1)&&(asI a b==1))=hasB (pawnB 1 a) b:=by
 obtain ⟨x,rfl⟩:=sq1 a0 a1;obtain ⟨y,rfl⟩:=sq1 b0 b1;exact pawn1_in x y
/-- The squares between, one by one. -/
theorem gap_is {a b:Int} (a0:0≤a) (a1:a<64) (b0:0≤b) (b1:b<64) (h:(straightB a b || acrossB a b)=true) :
 (∀ k:Nat,k<gapN a b→0≤a+stepA a b+stepA a b*(k:Int)∧a+stepA a b+stepA a b*(k:Int)<64∧a+stepA a b+stepA a b*(k:Int)≠b) ∧
 a+stepA a b+stepA a b*(gapN a b:Int)=b∧∀ t:Int,hasB (betB a b) t=true↔∃ k:Nat,k<gapN a b∧t=a+stepA a b+stepA a b*(k:Int):=by
 have G:gapOk a b=true:=by obtain ⟨x,rfl⟩:=sq1 a0 a1;obtain ⟨y,rfl⟩:=sq1 b0 b1;exact gap_in x y
 unfold gapOk at G
 rw [h,Bool.not_true,Bool.false_or,Bool.and_eq_true,Bool.and_eq_true,List.all_eq_true] at G
 obtain ⟨⟨G1,G2⟩,G3⟩:=G
 have H1:∀ k:Nat,k<gapN a b→0≤a+stepA a b+stepA a b*(k:Int)∧a+stepA a b+stepA a b*(k:Int)<64∧a+stepA a b+stepA a b*(k:Int)≠b:=by
  intro k hk
  have:=G1 k (List.mem_range.2 hk)
  rw [Bool.and_eq_true,decide_eq_true_iff,bne_iff_ne] at this
  exact ⟨this.1.1,this.1.2,this.2⟩
 refine ⟨H1,beq_iff_eq.1 G2,fun t=>?_⟩
 rw [← beq_iff_eq.1 G3,has_list]
 · rw [List.mem_map]
   constructor
   · rintro ⟨k,hk,rfl⟩;exact ⟨k,List.mem_range.1 hk,rfl⟩
   · rintro ⟨k,hk,rfl⟩;exact ⟨k,List.mem_range.2 hk,rfl⟩
 · intro x hx
   obtain ⟨k,hk,rfl⟩:=List.mem_map.1 hx
   have:=H1 k (List.mem_range.1 hk)
   exact ⟨this.1,this.2.1⟩
/-- What a kind of a color attacks from a square, over what stands on the board. -/
def atkB (k c s:Int) (occ:BitVec 64):BitVec 64 :=
 if k=1 then pawnB c s else if k=2 then knightB s else if k=3 then bishB s occ else if k=4 then rookB s occ else if k=5 then queenB s occ else if k=6 then kingB s else 0#64
/-- Does the piece x on a attack b? -/
def hitI (x a b:Int) (occ:BitVec 64):Bool:=hasB (atkB (kndI x) (colI x) a occ) b
def byK (n:Nat→Int) (s c:Int):Nat→BitVec 64
 | 0=>0#64
 | k+1=>byK n s c k ||| (atkB ((k:Int)+1) (1 - c) s (allN n)&&&ofN n c ((k:Int)+1))
def byN (n:Nat→Int) (s c:Int):BitVec 64:=byK n s c 6
/-- A piece on a square, by color and kind. -/
def isN (n:Nat→Int) (s c k:Int):Bool:=(kndI (n (1+s.toNat))==k)&&(n (1+s.toNat) / 8==c)
theorem kingT_in:∀ a b:Fin 64,hasB (kingB (a.val:Int)) (b.val:Int)=hasB (kingB (b.val:Int)) (a.val:Int):=by decide +kernel
theorem knightT_in:∀ a b:Fin 64,hasB (knightB (a.val:Int)) (b.val:Int)=hasB (knightB (b.val:Int)) (a.val:Int):=by decide +kernel
theorem bishT_in:∀ a b:Fin 64,hasB (bishR (b.val:Int)) (a.val:Int)=hasB (bishR (a.val:Int)) (b.val:Int):=by decide +kernel
theorem atk_turn {a b:Int} (a0:0≤a) (a1:a<64) (b0:0≤b) (b1:b<64) (k c:Int) (hc:c=0∨c=1) (occ:BitVec 64):hasB (atkB k (1 - c) a occ) b=hasB (atkB k c b occ) a:=by
 unfold atkB
 by_cases h1:k=1
 · rw [if_pos h1, if_pos h1]
   rcases hc with rfl | rfl
   · exact pawn_turn b a
   · exact (pawn_turn a b).symm
 rw [if_neg h1,if_neg h1]
 by_cases h2:k=2
 · rw [if_pos h2, if_pos h2]
   obtain ⟨x,rfl⟩:=sq1 a0 a1;obtain ⟨y,rfl⟩:=sq1 b0 b1;exact knightT_in x y
 rw [if_neg h2,if_neg h2]
 by_cases h3:k=3
 · rw [if_pos h3, if_pos h3, has_bish, has_bish, bet_turn b a]
   obtain ⟨x,rfl⟩:=sq1 a0 a1;obtain ⟨y,rfl⟩:=sq1 b0 b1;rw [bishT_in y x]
 rw [if_neg h3,if_neg h3]
 by_cases h4:k=4
 · rw [if_pos h4,if_pos h4];exact back4 b a occ
 rw [if_neg h4,if_neg h4]
 by_cases h5:k=5
 · rw [if_pos h5,if_pos h5];exact back1 b a occ
 rw [if_neg h5,if_neg h5]
 by_cases h6:k=6
 · rw [if_pos h6, if_pos h6]
   obtain ⟨x,rfl⟩:=sq1 a0 a1;obtain ⟨y,rfl⟩:=sq1 b0 b1;exact kingT_in x y
 rw [if_neg h6,if_neg h6,has_zero,has_zero]
theorem isB_cases {x:Int} (h:isB x=true):(1≤x∧x≤6∧colI x=0∧kndI x=x∧x / 8=0)∨(9≤x∧x≤14∧colI x=1∧kndI x=x - 8∧x / 8=1):=by
 rcases (isB_iff x).1 h with h | h
 · left;unfold colI kndI;rw [if_pos h,if_pos h];omega
 · right
   have n1:¬ (1≤x∧x≤6):=by omega
   unfold colI kndI
   rw [if_neg n1,if_neg n1,if_pos h,if_pos h];omega
theorem knd_none {x:Int} (h:isB x=false):kndI x=0:=by
 have:=(isB_no x).1 h
 unfold kndI;rw [if_neg (by omega),if_neg (by omega)]
theorem knd_pos {x:Int} (h:isB x=true):1≤kndI x∧kndI x≤6:=by
 rcases isB_cases h with h | h <;> omega
theorem knd_bd (x:Int):0≤kndI x∧kndI x≤6:=by
 cases h:isB x with
 | true=>have:=knd_pos h;omega
 | false=>rw [knd_none h];omega
theorem col_div {x:Int} (h:isB x=true):colI x=x / 8:=by
 rcases isB_cases h with h | h <;> omega
theorem has_of (n:Nat→Int) (c k s:Int) (s0:0≤s) (s1:s<64):hasB (ofN n c k) s=(isB (n (1+s.toNat))&&ofP c k (n (1+s.toNat))):=by
 unfold ofN
 rw [has_set,decide_eq_true ⟨s0,s1⟩,Bool.true_and]
theorem has_all (n:Nat→Int) (s:Int) (s0:0≤s) (s1:s<64):hasB (allN n) s=isB (n (1+s.toNat)):=by
 unfold allN
 rw [has_set,decide_eq_true ⟨s0,s1⟩,Bool.true_and,Bool.and_true]
/-- Who attacks a square. -/
theorem has_byK (n:Nat→Int) (s c:Int) (hc:c=0∨c=1) (s0:0≤s) (s1:s<64) (a:Int) (a0:0≤a) (a1:a<64):∀ k:Nat,k≤6 →
 hasB (byK n s c k) a=(isB (n (1+a.toNat))&&(colI (n (1+a.toNat))==c)&&decide (kndI (n (1+a.toNat))≤k)&&hitI (n (1+a.toNat)) a s (allN n))
 | 0, _ => by
   show hasB 0#64 a=_
   rw [has_zero]
   cases hi:isB (n (1+a.toNat)) with
   | false=>rfl
   | true=>have:=knd_pos hi;rw [decide_eq_false (by omega),Bool.and_false,Bool.false_and]
 | k + 1, hk => by
   have ih:=has_byK n s c hc s0 s1 a a0 a1 k (by omega)
   show hasB (byK n s c k ||| _) a=_
   rw [has_or,has_and,ih,has_of n c _ a a0 a1,atk_turn s0 s1 a0 a1 _ c hc]
   unfold ofP hitI
   cases hi:isB (n (1+a.toNat)) with
   | false=>simp
   | true =>
     have hp:=knd_pos hi
     rw [Bool.true_and,Bool.true_and]
     cases hcc:(colI (n (1+a.toNat))==c) with
     | false=>simp
     | true =>
       have hc2:=beq_iff_eq.1 hcc
       have z:(((k:Int)+1)==0)=false:=beq_eq_false_iff_ne.2 (by omega)
       rw [hc2,z]
       simp only [Bool.true_and,Bool.false_or]
       by_cases e:kndI (n (1+a.toNat))=(k:Int)+1
       · rw [e, decide_eq_false (by omega), decide_eq_true (by omega)]
         simp
       · have e1 : (kndI (n (1 + a.toNat)) == (k : Int) + 1) = false := beq_eq_false_iff_ne.2 e
         have e2:decide (kndI (n (1+a.toNat))≤(k:Int))=decide (kndI (n (1+a.toNat))≤((k+1:Nat):Int)):=by rw [decide_eq_decide];omega
         rw [e1,Bool.and_false,Bool.or_false,e2]
theorem has_by (n:Nat→Int) (s c:Int) (hc:c=0∨c=1) (s0:0≤s) (s1:s<64) (a:Int) (a0:0≤a) (a1:a<64) :
 hasB (byN n s c) a=(isB (n (1+a.toNat))&&(colI (n (1+a.toNat))==c)&&hitI (n (1+a.toNat)) a s (allN n)):=by
 unfold byN
 rw [has_byK n s c hc s0 s1 a a0 a1 6 lR]
 have:=knd_bd (n (1+a.toNat))
 rw [decide_eq_true (by omega),Bool.and_true]
/-- The reference's way of it: square by square. -/
def rbyP (n:Nat→Int) (s c:Int) (a:Int):Bool:=isB (n (1+a.toNat))&&(n (1+a.toNat) / 8==c)&&hitI (n (1+a.toNat)) a s (allN n)
theorem has_selB (p:Int→Bool) (s:Int) (s0:0≤s):∀ k:Nat,k≤64→hasB (selB p k) s=(decide (s<k)&&p s)
 | 0,_=>by show hasB 0#64 s=_;rw [has_zero,decide_eq_false (by omega)];rfl
 | k + 1, hk => by
   have ih:=has_selB p s s0 k (by omega)
   cases hp:p (k:Int) with
   | true =>
     rw [selB_yes p k hp,has_put,ih]
     by_cases e:s=k
     · rw [decide_eq_true (p:=s=↑k∧0≤s∧s<64) (by omega),decide_eq_true (p:=s<((k+1:Nat):Int)) (by omega),Bool.or_true,e,hp];rfl
     · rw [decide_eq_false (p:=s=↑k∧0≤s∧s<64) (by omega),Bool.or_false,show decide (s<((k+1:Nat):Int))=decide (s<(k:Int)) by rw [decide_eq_decide];omega]
   | false =>
     rw [selB_no p k hp,ih]
     by_cases e:s=k
     · rw [e,hp,Bool.and_false,Bool.and_false]
     · rw [show decide (s<((k+1:Nat):Int))=decide (s<(k:Int)) by rw [decide_eq_decide];omega]
theorem rby_is (n:Nat→Int) (s c:Int) (hc:c=0∨c=1) (s0:0≤s) (s1:s<64):selB (rbyP n s c) 64=byN n s c:=by
 apply ext_has
 intro k hk
 rw [has_selB _ _ (by omega) 64 lR,has_by n s c hc s0 s1 (k:Int) (by omega) (by omega),decide_eq_true (by omega),Bool.true_and]
 unfold rbyP
 cases hi:isB (n (1+(k:Int).toNat)) with
 | false=>rfl
 | true=>rw [col_div hi]
/-- A color's first piece of a kind, found square by square. -/
theorem isN_of (n:Nat→Int) (s c k:Int) (hk:1≤k) (s0:0≤s) (s1:s<64):isN n s c k=hasB (ofN n c k) s:=by
 rw [has_of n c k s s0 s1]
 unfold isN ofP
 cases hi:isB (n (1+s.toNat)) with
 | false=>rw [knd_none hi,show ((0:Int)==k)=false from beq_eq_false_iff_ne.2 (by omega)];rfl
 | true =>
   rw [col_div hi,show (k==0)=false from beq_eq_false_iff_ne.2 (by omega),Bool.true_and,Bool.false_or,Bool.and_comm]
/-- The king's square, if it may be in check: none: -1. -/
def royC (n:Nat→Int) (c:Int):Bool:=royI (n 0).toNat c.toNat
def nearK (n:Nat→Int) (s c:Int):Bool:=(n 0==3)&&!((kingB s&&&ofN n (1 - c) 6)==0#64)
def kingI (n:Nat→Int) (c:Int):Int:=if royC n c=true then (if firstB (ofN n c 6)<0∨nearK n (firstB (ofN n c 6)) c=true then -1 else firstB (ofN n c 6)) else -1
def checkN (n:Nat→Int) (c:Int):Bool:=decide (0≤kingI n c)&&!(byN n (kingI n c) (1 - c)==0#64)
def ofK (n:Nat→Int) (k:Int):BitVec 64:=ofN n 0 k ||| ofN n 1 k
def lightB:BitVec 64:=0x55aa55aa55aa55aa#64
def menM (n:Nat→Int):BitVec 64:=allN n&&&~~~ofK n 6
def matA (n:Nat→Int):Bool :=
 if ((menM n&&&~~~ofK n 3)&&&~~~ofK n 2==0#64)=false then false else
 if cntB (menM n)≤1 then true else if (menM n==ofK n 3)=false then false else if (menM n&&&lightB==0#64)=true then true else menM n&&&~~~lightB==0#64
def matK (n:Nat→Int):Bool:=(allN n==ofN n 0 6 ||| ofN n 1 6)&&((cntB (ofN n 0 6)==1)&&(cntB (ofN n 1 6)==1))
/-- Too few men to win. -/
def matB (n:Nat→Int):Bool:=if n 0=0∨n 0=1 then matA n else if n 0=3∨n 0=5 then matK n else false
end Go.Proofs.YteocjaihaegmoaaGreatDoor
