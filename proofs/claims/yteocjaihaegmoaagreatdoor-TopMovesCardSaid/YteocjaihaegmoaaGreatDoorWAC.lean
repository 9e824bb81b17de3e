/- Parts of the proof: PB, PA. -/
import Derived.Test.YteocjaihaegmoaaGreatDoorWAA
import Derived.Test.YteocjaihaegmoaaGreatDoorWAB
import Derived.BigQuiet
import Derived.Deep.QuietTactic
set_option maxHeartbeats 1600000
namespace Go.Proofs.YteocjaihaegmoaaGreatDoor
open Go Go.RowKit
def selN (p:Int→Bool) (n:Nat→Int):Nat→BitVec 64
 | 0=>0#64
 | k+1=>if isB (n (1+k))=true∧p (n (1+k))=true then putB (selN p n k) k else selN p n k
def ofP (c k:Int) (x:Int):Bool:=colI x==c&&(k==0 || kndI x==k)
def setN (p:Int→Bool) (n:Nat→Int):BitVec 64:=selN p n 64
def ofN (n:Nat→Int) (c k:Int):BitVec 64:=setN (ofP c k) n
def allN (n:Nat→Int):BitVec 64:=setN (fun _=>true) n
theorem has_selN (p:Int→Bool) (n:Nat→Int) (s:Int):∀ k:Nat,k≤64→hasB (selN p n k) s=(decide (0≤s∧s<k)&&isB (n (1+s.toNat))&&p (n (1+s.toNat)))
 | 0, _ => by
   show hasB 0#64 s=_
   rw [has_zero,decide_eq_false (by omega)];rfl
 | k + 1, hk => by
   have ih:=has_selN p n s k (by omega)
   by_cases e:s=k
   · subst e
     have e1:(1:Nat)+(k:Int).toNat=1+k:=by omega
     rw [e1,decide_eq_true (by omega),Bool.true_and]
     show hasB (if _ then _ else _) _=_
     split
     · rename_i h
       rw [has_put,decide_eq_true (by omega),Bool.or_true,h.1,h.2];rfl
     · rename_i h
       rw [ih,decide_eq_false (by omega),Bool.false_and,Bool.false_and]
       cases h1:isB (n (1+k)) with
       | false=>rfl
       | true =>
         cases h2:p (n (1+k)) with
         | false=>rfl
         | true=>exact absurd ⟨h1,h2⟩ h
   · have ed : decide (0 ≤ s ∧ s < ((k + 1 : Nat) : Int)) = decide (0 ≤ s ∧ s < (k : Int)) := by
      rw [decide_eq_decide];omega
     rw [ed,← ih]
     show hasB (if _ then _ else _) _=_
     split
     · rw [has_put];simp [e]
     · rfl
theorem has_set (p:Int→Bool) (n:Nat→Int) (s:Int):hasB (setN p n) s=(decide (0≤s∧s<64)&&isB (n (1+s.toNat))&&p (n (1+s.toNat))):=has_selN p n s 64 (by decide)
/-- A row of a position's numbers. -/
def rowN (n:Nat→Int) (o k:Nat):List Value:=(List.range k).map (fun j=>cellP n (o+j))
theorem PosAt.range {w:World} {g:Nat} {n:Nat→Int} (h:PosAt w g n) (o k:Nat) (hk:o+k≤88):w.rangeAt g o (rowN n o k):=by
 intro j v hv
 unfold rowN at hv
 have hj:j<k:=by
  have:=(List.getElem?_eq_some_iff.1 hv).1
  simpa using this
 rw [List.getElem?_map,List.getElem?_range hj] at hv
 cases hv
 exact h.cell (o+j) (by omega)
theorem blN (w:World) (k:Nat):Below w.heap.size w (w.drewN k):=(Below.refl _ _).trans ⟨rfl,rfl,rfl,Nat.le_refl _,fun _ _=>rfl⟩
theorem of1_quiet (c k x:Int) (gc gk:Nat) (hx0:0≤x) (hx1:x≤255) (w:World) (hc:w.cell? ⟨gc,0,none⟩=some (.int .u8 c)) (hk:w.cell? ⟨gk,0,none⟩=some (.int .u8 k)) :
 Calls Tryz.prog 158 #[.int .u8 x,.pointer (some ⟨gc,0,none⟩),.pointer (some ⟨gk,0,none⟩)] w fun e w' => e = .returned (.bool (ofP c k x))∧Below w.heap.size w w' := by
 have F1:∀ m,Calls Tryz.prog 159 #[.int .u8 x] (w.drewN m) fun e w' => e = .returned (.int .u8 (colI x))∧w.drewN m=w' := fun m=>color_any x hx0 hx1 _
 have F2:∀ m,Calls Tryz.prog 87 #[.int .u8 x] (w.drewN m) fun e w' => e = .returned (.int .u8 (kndI x))∧w.drewN m=w' := fun m=>kind_any x hx0 hx1 _
 have G1:=hI F1
 have G2:=hI F2
 clear F1 F2
 cases e1:(colI x==c) with
 | false =>
   have R:=hI (show ofP c k x=false by unfold ofP;rw [e1];rfl)
   go_enter Tryz.func158,Tryz.ntmps158
   go_wp2
   go_quiet ((first | (go_at_call 159;exact quietEq (G1.out _)) | (go_at_call 87;exact quietEq (G2.out _))))
   go_wp2
   go_ret
   exact ⟨rB R.out.symm,blN _ _⟩
 | true =>
   cases e2:(k==0) with
   | true =>
     have R:=hI (show ofP c k x=true by unfold ofP;rw [e1,e2];rfl)
     go_enter Tryz.func158,Tryz.ntmps158
     go_wp2
     go_quiet ((first | (go_at_call 159;exact quietEq (G1.out _)) | (go_at_call 87;exact quietEq (G2.out _))))
     go_wp2
     go_ret
     exact ⟨rB R.out.symm,blN _ _⟩
   | false =>
     have R:=hI (show ofP c k x=(kndI x==k) by unfold ofP;rw [e1,e2];rfl)
     go_enter Tryz.func158,Tryz.ntmps158
     go_wp2
     go_quiet ((first | (go_at_call 159;exact quietEq (G1.out _)) | (go_at_call 87;exact quietEq (G2.out _))))
     go_wp2
     go_ret
     exact ⟨rB R.out.symm,blN _ _⟩
theorem size_board (n:Nat→Int):(Tryz.prog.info? 22).map (·.size)=some (rowN n 1 64).length:=by
 unfold rowN
 rw [List.length_map,List.length_range];kernel_rfl
theorem index_board (n:Nat→Int) (k:Nat) (hk:k<64) (w:World):(Instr.index 22 (.agg (rowN n 1 64).toArray) (.int .i64 (k:Int))).run Tryz.prog w=.ok (.int .u8 (n (1+k))) w:=by
 have hc:(rowN n 1 64)[k]?=some (.int .u8 (n (1+k))):=by
  unfold rowN
  rw [List.getElem?_map,List.getElem?_range hk]
  show some (cellP n (1+k))=_
  unfold cellP
  rw [kB (by omega)]
 simp [Instr.index,part,go_sem,hc]
 intro h;omega
theorem set_of (n:Nat→Int) (hn:PosOk n) (c kd:Int) (gc gk:Nat) (w:World) (c1:w.cell? ⟨gc,0,none⟩=some (.int .u8 c)) (c2:w.cell? ⟨gk,0,none⟩=some (.int .u8 kd)) :
 Calls Tryz.prog 157 #[.agg (posA n),.func (.func 158) #[] #[.pointer (some ⟨gc,0,none⟩),.pointer (some ⟨gk,0,none⟩)]] w fun e w' => e = .returned (.int .u64 (u (setN (ofP c kd) n)))∧Below w.heap.size w w' := by
 obtain ⟨X,hX⟩:∃ X,w.alloc (.cells (posA n) 31)=X:=⟨_,rfl⟩
 obtain ⟨p0,hb⟩:=box1 w n X hX
 have HX:=hI hX
 clear hX
 have s1:gc<w.heap.size:=World.block_lt_of_cell? _ _ c1
 have s2:gk<w.heap.size:=World.block_lt_of_cell? _ _ c2
 go_enter Tryz.func157,Tryz.ntmps157
 go_wp2_with (first | rw [HX.out] | (refine wpList_load_mid (by rfl) 22 _ rfl w.heap.size 1 rfl (rowN n 1 64) _ (p0.range 1 64 (by decide)) Tryz.underlying22 rfl (size_board n) ?_))
 clear p0
 go_loopw [5,10] (fun b i wr=>∃ k:Nat,k≤64∧i=.int .i64 k∧b=.int .u64 (u (selN (ofP c kd) n k))∧Below w.heap.size w wr) (fun _ i _=>64 - (intOf i).toNat)
 case atStart=>exact ⟨0,by omega,rfl,rfl,hb⟩
 case round =>
  obtain ⟨k,hk,rfl,rfl,hr⟩:=hrel
  by_cases hlt:k<64
  · have ix := index_board n k hlt
    obtain ⟨v0,v1⟩:=hn.u8 (1+k) (by omega) (kB (by omega))
    cases hi:isB (n (1+k)) with
    | false =>
      have S:=hI (show selN (ofP c kd) n (k+1)=selN (ofP c kd) n k from if_neg (fun h=>by rw [hi] at h;exact absurd h.1 (by decide)))
      have HI:=hI hi
      clear hi
      go_wp2_with (first | (go_at_call 150;refine (is_any _ v0 v1 _).mono ?_;rintro e w2 ⟨rfl,rfl⟩;rw [HI.out]))
      go_roundw
      case rel=>exact ⟨k+1,by omega,by go_num,by rw [S.out],hr⟩
      case measure=>simp [intOf];omega
    | true =>
      cases hp:(ofP c kd) (n (1+k)) with
      | false =>
        have S:=hI (show selN (ofP c kd) n (k+1)=selN (ofP c kd) n k from if_neg (fun h=>by have h2:=h.2;rw [hp] at h2;cases h2))
        have HI:=hI hi
        have HP:=hI hp
        clear hi hp
        have q1:=(hr.cell (p:=⟨gc,0,none⟩) s1).trans c1
        have q2:=(hr.cell (p:=⟨gk,0,none⟩) s2).trans c2
        go_wp2_with (first | (go_at_call 150;refine (is_any _ v0 v1 _).mono ?_;rintro e w2 ⟨rfl,rfl⟩;rw [HI.out]))
        refine (of1_quiet c kd (n (1+k)) gc gk v0 v1 _ q1 q2).mono ?_
        rintro e w3 ⟨rfl,h1⟩
        have hr:=hr.trans (h1.mono hr.size)
        clear h1 q1 q2
        rw [HP.out]
        go_wp2
        go_roundw
        case rel=>exact ⟨k+1,by omega,by go_num,by rw [S.out],hr⟩
        case measure=>simp [intOf];omega
      | true =>
        have S:=hI (show selN (ofP c kd) n (k+1)=putB (selN (ofP c kd) n k) k from if_pos ⟨hi,hp⟩)
        have HI:=hI hi
        have HP:=hI hp
        clear hi hp
        have q1:=(hr.cell (p:=⟨gc,0,none⟩) s1).trans c1
        have q2:=(hr.cell (p:=⟨gk,0,none⟩) s2).trans c2
        go_wp2_with (first | (go_at_call 150;refine (is_any _ v0 v1 _).mono ?_;rintro e w2 ⟨rfl,rfl⟩;rw [HI.out]))
        refine (of1_quiet c kd (n (1+k)) gc gk v0 v1 _ q1 q2).mono ?_
        rintro e w3 ⟨rfl,h1⟩
        have hr:=hr.trans (h1.mono hr.size)
        clear h1 q1 q2
        rw [HP.out]
        go_wp2_with fail
        refine (put_any (selN (ofP c kd) n k) rfl k _).mono ?_
        rintro e w4 ⟨rfl,rfl⟩
        go_wp2
        go_roundw
        case rel=>exact ⟨k+1,by omega,by go_num,by rw [S.out],hr⟩
        case measure=>simp [intOf];omega
  · obtain rfl : k = 64 := by omega
    go_wp2
    go_ret
    exact ⟨rfl,hr⟩
theorem all1_any (x:Int) (w:World):Calls Tryz.prog 192 #[.int .u8 x] w fun e w' => e = .returned (.bool true)∧w=w' := by
 go_enter Tryz.func192,Tryz.ntmps192
 go_wp2
 go_ret
 exact ⟨rfl,rfl⟩
theorem set_all (n:Nat→Int) (hn:PosOk n) (w:World) :
 Calls Tryz.prog 157 #[.agg (posA n),.func (.func 192) #[] #[]] w fun e w' => e = .returned (.int .u64 (u (setN (fun _=>true) n)))∧Below w.heap.size w w' := by
 obtain ⟨X,hX⟩:∃ X,w.alloc (.cells (posA n) 31)=X:=⟨_,rfl⟩
 obtain ⟨p0,hb⟩:=box1 w n X hX
 have HX:=hI hX
 clear hX
 go_enter Tryz.func157,Tryz.ntmps157
 go_wp2_with (first | rw [HX.out] | (refine wpList_load_mid (by rfl) 22 _ rfl w.heap.size 1 rfl (rowN n 1 64) _ (p0.range 1 64 (by decide)) Tryz.underlying22 rfl (size_board n) ?_))
 clear p0
 go_loopw [5,10] (fun b i wr=>∃ k:Nat,k≤64∧i=.int .i64 k∧b=.int .u64 (u (selN (fun _=>true) n k))∧Below w.heap.size w wr) (fun _ i _=>64 - (intOf i).toNat)
 case atStart=>exact ⟨0,by omega,rfl,rfl,hb⟩
 case round =>
  obtain ⟨k,hk,rfl,rfl,hr⟩:=hrel
  by_cases hlt:k<64
  · have ix := index_board n k hlt
    obtain ⟨v0,v1⟩:=hn.u8 (1+k) (by omega) (kB (by omega))
    cases hi:isB (n (1+k)) with
    | false =>
      have S:=hI (show selN (fun _=>true) n (k+1)=selN (fun _=>true) n k from if_neg (fun h=>by rw [hi] at h;exact absurd h.1 (by decide)))
      have HI:=hI hi
      clear hi
      go_wp2_with (first | (go_at_call 150;refine (is_any _ v0 v1 _).mono ?_;rintro e w2 ⟨rfl,rfl⟩;rw [HI.out]))
      go_roundw
      case rel=>exact ⟨k+1,by omega,by go_num,by rw [S.out],hr⟩
      case measure=>simp [intOf];omega
    | true =>
      have hp:(fun _:Int=>true) (n (1+k))=true:=rfl
      · have S := hideIt (show selN (fun _ => true) n (k + 1) = putB (selN (fun _ => true) n k) k from if_pos ⟨hi, hp⟩)
        have HI:=hI hi
        clear hi hp
        go_wp2_with (first | (go_at_call 150;refine (is_any _ v0 v1 _).mono ?_;rintro e w2 ⟨rfl,rfl⟩;rw [HI.out]))
        refine (all1_any (n (1+k)) _).mono ?_
        rintro e w3 ⟨rfl,rfl⟩
        go_wp2_with fail
        refine (put_any (selN (fun _=>true) n k) rfl k _).mono ?_
        rintro e w4 ⟨rfl,rfl⟩
        go_wp2
        go_roundw
        case rel=>exact ⟨k+1,by omega,by go_num,by rw [S.out],hr⟩
        case measure=>simp [intOf];omega
  · obtain rfl : k = 64 := by omega
    go_wp2
    go_ret
    exact ⟨rfl,hr⟩
theorem of_any (n:Nat→Int) (hn:PosOk n) (c k:Int) (w:World) :
 Calls Tryz.prog 99 #[.agg (posA n),.int .u8 c,.int .u8 k] w fun e w' => e = .returned (.int .u64 (u (ofN n c k)))∧Below w.heap.size w w' := by
 obtain ⟨X,hX⟩:∃ X,((w.alloc (.cells (posA n) 31)).alloc (.cells #[.int .u8 c] 5)).alloc (.cells #[.int .u8 k] 5)=X:=⟨_,rfl⟩
 have p0:PosAt X w.heap.size n:=by rw [← hX];exact ((PosAt.new w n).alloc _).alloc _
 have hb:Below w.heap.size w X:=by rw [← hX];exact (((Below.refl _ _).alloc lR _).alloc (by simp) _).alloc (by simp;omega) _
 have c1:X.cell? ⟨w.heap.size+1,0,none⟩=some (.int .u8 c):=by
  rw [← hX,World.cell?_alloc_lt _ _ _ (by simp)]
  rw [World.cell?_alloc_at _ _ _ _ (by simp)];rfl
 have c2:X.cell? ⟨w.heap.size+2,0,none⟩=some (.int .u8 k):=by
  rw [← hX,World.cell?_alloc_at _ _ _ _ (by simp)];rfl
 have HX:=hI hX
 obtain ⟨i0,r0⟩:=p0.rules
 clear hX
 go_enter Tryz.func99,Tryz.ntmps99
 go_wp2_with (rw [HX.out])
 refine (set_of n hn c k _ _ _ c1 c2).mono ?_
 rintro e w2 ⟨rfl,h1⟩
 have hb:=hb.trans (h1.mono hb.size)
 clear h1
 go_wp2
 go_ret
 exact ⟨rfl,hb⟩
theorem ball_any (n:Nat→Int) (hn:PosOk n) (w:World) :
 Calls Tryz.prog 149 #[.agg (posA n)] w fun e w' => e = .returned (.int .u64 (u (allN n)))∧Below w.heap.size w w' := by
 obtain ⟨X,hX⟩:∃ X,w.alloc (.cells (posA n) 31)=X:=⟨_,rfl⟩
 obtain ⟨p0,hb⟩:=box1 w n X hX
 have HX:=hI hX
 obtain ⟨i0,r0⟩:=p0.rules
 clear hX
 go_enter Tryz.func149,Tryz.ntmps149
 go_wp2_with (rw [HX.out])
 refine (set_all n hn _).mono ?_
 rintro e w2 ⟨rfl,h1⟩
 have hb:=hb.trans (h1.mono hb.size)
 clear h1
 go_wp2
 go_ret
 exact ⟨rfl,hb⟩
theorem bfind_any (n:Nat→Int) (hn:PosOk n) (c k:Int) (w:World) (hT:Tab w) :
 Calls Tryz.prog 97 #[.agg (posA n),.int .u8 c,.int .u8 k] w fun e w' => e = .returned (.int .i64 (firstB (ofN n c k)))∧Below w.heap.size w w' := by
 obtain ⟨X,hX⟩:∃ X,w.alloc (.cells (posA n) 31)=X:=⟨_,rfl⟩
 obtain ⟨p0,hb⟩:=box1 w n X hX
 have HX:=hI hX
 obtain ⟨i0,r0⟩:=p0.rules
 clear hX
 go_enter Tryz.func97,Tryz.ntmps97
 go_wp2_with (rw [HX.out])
 refine (of_any n hn c k _).mono ?_
 rintro e w2 ⟨rfl,h1⟩
 have hb:=hb.trans (h1.mono hb.size)
 clear h1
 go_wp2_with fail
 refine (first_any (ofN n c k) rfl _ (hT.below hb lR)).mono ?_
 rintro e w3 ⟨rfl,rfl⟩
 go_wp2
 go_ret
 exact ⟨rfl,hb⟩
end Go.Proofs.YteocjaihaegmoaaGreatDoor
