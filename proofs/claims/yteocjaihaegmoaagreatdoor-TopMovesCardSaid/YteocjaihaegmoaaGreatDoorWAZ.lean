/- Parts of the proof: VS, VT, V9. -/
import Derived.Test.YteocjaihaegmoaaGreatDoorWAE
import Derived.Test.YteocjaihaegmoaaGreatDoorWAY
import Derived.Deep.DeepCutAuto
import Derived.Deep.LoopGhost
import Derived.Deep.RegionWith
import Derived.IntWalk
import Derived.Laws.ResultCell
set_option linter.unusedVariables false
set_option maxHeartbeats 8000000
set_option maxRecDepth 100000
namespace Go.Proofs.YteocjaihaegmoaaGreatDoor
open Go Go.RowKit
def noneN (v:Int):Nat→Int:=fun i=>if i=0 then v else if i=79 then -1 else if i=80 then -1 else if i=81 then -1 else if i=82 then -1 else if i=83 then -1 else if i=87 then 1 else 0
theorem none_any (v:Int) (w:World):Calls Tryz.prog 119 #[.int .u8 v] w fun e w' => e = .returned (.agg (posA (noneN v)))∧Below w.heap.size w w' := by
 have hzp:=zeroPos
 go_enter Tryz.func119,Tryz.ntmps119
 go_wp2_with (refine wpList_build rfl 31 _ rfl (by kernel_rfl) ?_;generalize hV:(Program.built Tryz.prog 31 _).getD #[]=V;obtain rfl:posA (noneN v)=V:=Eq.trans (by kernel_rfl) hV;clear hV)
 refine bodyPost_ret (v:=.agg (posA (noneN v))) (pos_result Tryz.results119 _ _ _ _ rfl ((PosAt.new w zeroN).setRow _)) rfl ⟨rfl,below_setRow ((Below.refl _ _).alloc lR _) lR _⟩
theorem black_any (x:Int) (h0:0≤x) (h1:x<200) (w:World):Calls Tryz.prog 120 #[.int .u8 x] w fun e w' => e = .returned (.int .u8 (8+x))∧w=w' := by
 go_enter Tryz.func120,Tryz.ntmps120
 go_wp2
 go_ret
 exact ⟨rfl,rfl⟩
def chessL:Nat→Int:=fun k=>if k=0 then 4 else if k=1 then 2 else if k=2 then 3 else if k=3 then 5 else if k=4 then 6 else if k=5 then 3 else if k=6 then 2 else if k=7 then 4 else 0
theorem chess_any (w:World):Calls Tryz.prog 48 #[] w fun e w' => e = .returned (.agg (r8 chessL))∧Below w.heap.size w w' := by
 have hzp:=zero8
 go_enter Tryz.func48,Tryz.ntmps48
 go_wp2_with (refine wpList_build rfl 80 _ rfl (by kernel_rfl) ?_;generalize hV:(Program.built Tryz.prog 80 _).getD #[]=V;obtain rfl:r8 chessL=V:=Eq.trans (by kernel_rfl) hV;clear hV)
 refine bodyPost_ret (v:=.agg (r8 chessL)) (results_cell_row Tryz.results48 _ _ w.heap.size 80 (r8 chessL) (0,0) _ rfl ((R8At.new w zeroN).setRow _) Tryz.underlying80 rfl (by rw [r8_size];exact size8)) rfl ⟨rfl,below_setRow ((Below.refl _ _).alloc lR _) lR _⟩
/-- Both colors' pieces and pawns, file by file. -/
def menK (l n:Nat→Int) (k:Nat):Nat→Int:=upd (upd (upd (upd n (1+k) (l k)) (1+(8+k)) 1) (1+(56+k)) (8+l k)) (1+(48+k)) 9
def sideI (n:Nat→Int):Nat:=if n 80<0 then 1 else 0
def rookK (n:Nat→Int) (k:Nat):Nat→Int:=upd (upd n (79+sideI n) k) (81+sideI n) k
def bothK (v:Nat) (l:Nat→Int):Nat→Nat→Int
 | 0=>noneN v
 | k+1=>if casB v=true∧l k=4 then rookK (menK l (bothK v l k) k) k else menK l (bothK v l k) k
def bothN (v:Nat) (l:Nat→Int):Nat→Int:=bothK v l 8
theorem i8_small:∀ k:Fin 64,IntKind.i8.wrap (k.val:Int)=k.val:=by decide +kernel
/-- The answer's block, and the one that is being built. -/
structure Bld (w0:World) (r g:Nat) (W:World) (m:Nat→Int):Prop where
 res:PosAt W r zeroN
 new:PosAt W g m
 far:r≠g
 low:w0.heap.size≤r∧w0.heap.size≤g
 below:Below w0.heap.size w0 W
theorem Bld.set {w0 W:World} {r g:Nat} {m:Nat→Int} (h:Bld w0 r g W m) (i:Nat) (x:Int) {k:IntKind} (hk:k=kindAt i):Bld w0 r g (W.setCell ⟨g,i,none⟩ (.int k x)) (upd m i x):=by
 subst hk
 exact ⟨h.res.other (fun e=>h.far e.symm) _,h.new.set i x,h.far,h.low,h.below.setCell h.low.2 _⟩
theorem Bld.setB {w0 W:World} {r g:Nat} {m:Nat→Int} (h:Bld w0 r g W m) (i:Nat) (hi:i≤64) (x:Int):Bld w0 r g (W.setCell ⟨g,i,none⟩ (.int .u8 x)) (upd m i x):=h.set i x (kB hi).symm
theorem Bld.drew {w0 W:World} {r g:Nat} {m:Nat→Int} (h:Bld w0 r g W m):Bld w0 r g W.drew m:=⟨h.res,h.new,h.far,h.low,h.below.drew⟩
theorem Bld.then {w0 W W' : World} {r g:Nat} {m:Nat→Int} (h:Bld w0 r g W m) (hb:Below W.heap.size W W'):Bld w0 r g W' m :=
 ⟨h.res.below hb h.res.lt,h.new.below hb h.new.lt,h.far,h.low,h.below.trans (hb.mono h.below.size)⟩
theorem both_any (v:Nat) (hv:v≤255) (l:Nat→Int) (hl:∀ k,0≤l k∧l k<200) (w:World):Calls Tryz.prog 47 #[.int .u8 (v:Int),.agg (r8 l)] w fun e w' => e = .returned (.agg (posA (bothN v l)))∧Below w.heap.size w w' := by
 have hzp:=zeroPos
 obtain ⟨X,hX⟩:∃ X,(w.alloc (.cells (r8 l) 80)).alloc (.cells (posA zeroN) 31)=X:=⟨_,rfl⟩
 have rX:R8At X w.heap.size l:=by rw [← hX];exact (R8At.new w l).alloc _
 have pX:PosAt X (w.heap.size+1) zeroN:=by rw [← hX];exact PosAt.new1 w _ zeroN
 have bX:Below w.heap.size w X:=by rw [← hX];exact ((Below.refl _ _).alloc lR _).alloc (by simp) _
 have sX:X.heap.size=w.heap.size+2:=by rw [← hX];simp
 have HX:=hI hX
 have HL:=hI hl
 have SX:=hI sX
 clear hX hl sX
 go_enter Tryz.func47,Tryz.ntmps47
 go_wp2_with (first | rw [HX.out])
 refine (none_any v _).mono ?_
 rintro e Y ⟨rfl,h1⟩
 obtain ⟨V,hV⟩:∃ V,(Y.alloc (.cells (posA zeroN) 31)).setRow Y.heap.size (posA (noneN v))=V:=⟨_,rfl⟩
 have hV2:Y.alloc (.cells (posA (noneN v)) 31)=V:=by rw [← hV,World.setRow_alloc_new]
 have hY:=h1.size
 have sX:=SX.out
 have bld:Bld w (w.heap.size+1) Y.heap.size V (noneN v):=by
  rw [← hV2]
  exact ⟨(pX.below h1 pX.lt).alloc _,PosAt.new Y _,by omega,⟨by omega,by omega⟩,(bX.trans (h1.mono bX.size)).alloc (by omega) _⟩
 have rV:R8At V w.heap.size l:=by rw [← hV2];exact (rX.below h1 rX.lt).alloc _
 obtain ⟨g,hg⟩:∃ g,Y.heap.size=g:=⟨_,rfl⟩
 rw [hg] at bld
 have HV:=hI hV
 have HG:=hI hg
 obtain ⟨i1,r1⟩:=rV.rules
 clear hV hV2 hg h1 rX pX bX SX HX sX hY
 go_wp2_with (first | rw [HV.out,HG.out])
 have L0:Bld w (w.heap.size+1) g V (bothK v l 0):=bld
 clear bld rV i1 r1 HV HG
 go_loopg [12] 8 (fun gk i wr=>∃ k:Nat,k+gk=8∧i=.int .i64 k∧Bld w (w.heap.size+1) g wr (bothK v l k))
 case atStart=>exact ⟨0,rfl,rfl,L0⟩
 case round =>
  obtain ⟨k,hgk,rfl,B⟩:=hrel
  by_cases hlt:k<8
  · have hix := index_r8 l k hlt
    obtain ⟨b0,b1⟩:=HL.out k
    have BS:=(B.setB (1+k) (by omega) (l k)).setB (1+(8+k)) (by omega) 1
    have c1:=B.new.board (1+k) (by omega)
    have f1:=B.new.free (1+k)
    have c2:=B.new.board (1+(8+k)) (by omega)
    have f2:=B.new.free (1+(8+k))
    go_upto_region 6 with fail
    generalize World.setCell (World.setCell wr _ _) _ _=V5 at BS ⊢
    clear c1 f1 c2 f2 B hix
    go_cut [] (fun wx=>Bld w (w.heap.size+1) g wx (menK l (bothK v l k) k))
    case first =>
     have c3:=BS.new.board (1+(56+k)) (by omega)
     have f3:=BS.new.free (1+(56+k))
     have c4:=BS.new.board (1+(48+k)) (by omega)
     have f4:=BS.new.free (1+(48+k))
     have s1:IntKind.i64.wrap (56+(k:Int))=56+k:=IntWalk.i64_in _ (by omega)
     have s2:IntKind.i64.wrap (48+(k:Int))=48+k:=IntWalk.i64_in _ (by omega)
     have s3:(0:Int)≤56+k:=by omega
     have s4:(0:Int)≤48+k:=by omega
     have s5:(56+(k:Int)).toNat=56+k:=by omega
     have s6:(48+(k:Int)).toNat=48+k:=by omega
     have s7:(56+(k:Int))<64:=by omega
     have s8:(48+(k:Int))<64:=by omega
     go_region_with (first | (go_at_call_of 120 (Value.int .u8 (l k));refine (black_any _ b0 b1 _).mono ?_;rintro e w2 ⟨rfl,rfl⟩) | (go_at_call_of 120 (Value.int .u8 1);refine (black_any 1 (by decide) (by decide) _).mono ?_;rintro e w2 ⟨rfl,rfl⟩))
     go_wp2_with fail
     go_meet
     exact ((BS.setB (1+(56+k)) (by omega) (8+l k)).setB (1+(48+k)) (by omega) 9).drew
    case rest =>
     clear BS
     have B:=hcut
     clear hcut
     have HB:=hI (show bothK v l (k+1)=if casB v=true∧l k=4 then rookK (menK l (bothK v l k) k) k else menK l (bothK v l k) k from rfl)
     obtain ⟨m,hm⟩:∃ m,menK l (bothK v l k) k=m:=⟨_,rfl⟩
     rw [hm] at B HB
     clear hm
     cases hc:casB v with
     | false =>
       have HB:=hI (HB.out.trans (if_neg (fun h=>by rw [hc] at h;exact absurd h.1 (by decide))))
       have HC:=hI hc
       clear hc
       go_wp2_with fail
       refine (vcastles_any v hv _).mono ?_
       rw [HC.out]
       rintro e w2 ⟨rfl,h1⟩
       have B:=B.then h1
       clear h1
       go_wp2
       go_roundg (gk - 1)
       case measure=>omega
       case rel=>exact ⟨k+1,by omega,by go_num,by rw [HB.out];exact B⟩
     | true =>
       have HC:=hI hc
       by_cases h4:l k=4
       · have HB := hideIt (HB.out.trans (if_pos ⟨hc, h4⟩))
         clear hc
         have e4:(l k==4)=true:=beq_iff_eq.2 h4
         clear h4
         by_cases h8:m 80<0
         · have HS := hideIt (show sideI m = 1 from if_pos h8)
           go_wp2_with fail
           refine (vcastles_any v hv _).mono ?_
           rw [HC.out]
           rintro e w2 ⟨rfl,h1⟩
           have B:=B.then h1
           clear h1
           have c80:w2.cell? ⟨g,80,none⟩=some (.int .i8 (m 80)):=B.new.cell 80 (by decide)
           have ca:w2.cell? ⟨g,80,none⟩=some (.int .i8 (m 80)):=B.new.cell 80 (by decide)
           have cb:w2.cell? ⟨g,82,none⟩=some (.int .i8 (m 82)):=B.new.cell 82 (by decide)
           have fa:=B.new.free 80
           have fb:=B.new.free 82
           have BS:=(B.set 80 (k:Int) (k:=.i8) rfl).set 82 (k:Int) (k:=.i8) rfl
           have s9:IntKind.i8.wrap (k:Int)=k:=i8_small ⟨k,by omega⟩
           go_wp2
           go_roundg (gk - 1)
           case measure=>omega
           case rel=>exact ⟨k+1,by omega,by go_num,by rw [HB.out];unfold rookK;rw [HS.out];exact BS⟩
         · have HS := hideIt (show sideI m = 0 from if_neg h8)
           go_wp2_with fail
           refine (vcastles_any v hv _).mono ?_
           rw [HC.out]
           rintro e w2 ⟨rfl,h1⟩
           have B:=B.then h1
           clear h1
           have c80:w2.cell? ⟨g,80,none⟩=some (.int .i8 (m 80)):=B.new.cell 80 (by decide)
           have ca:w2.cell? ⟨g,79,none⟩=some (.int .i8 (m 79)):=B.new.cell 79 (by decide)
           have cb:w2.cell? ⟨g,81,none⟩=some (.int .i8 (m 81)):=B.new.cell 81 (by decide)
           have fa:=B.new.free 79
           have fb:=B.new.free 81
           have BS:=(B.set 79 (k:Int) (k:=.i8) rfl).set 81 (k:Int) (k:=.i8) rfl
           have s9:IntKind.i8.wrap (k:Int)=k:=i8_small ⟨k,by omega⟩
           go_wp2
           go_roundg (gk - 1)
           case measure=>omega
           case rel=>exact ⟨k+1,by omega,by go_num,by rw [HB.out];unfold rookK;rw [HS.out];exact BS⟩
       · have HB := hideIt (HB.out.trans (if_neg (fun h => h4 h.2)))
         have e4:(l k==4)=false:=beq_eq_false_iff_ne.2 h4
         clear hc h4
         go_wp2_with fail
         refine (vcastles_any v hv _).mono ?_
         rw [HC.out]
         rintro e w2 ⟨rfl,h1⟩
         have B:=B.then h1
         clear h1
         go_wp2
         go_roundg (gk - 1)
         case measure=>omega
         case rel=>exact ⟨k+1,by omega,by go_num,by rw [HB.out];exact B⟩
  · obtain rfl : k = 8 := by omega
    obtain ⟨i1,r1⟩:=B.new.rules
    obtain ⟨i2,r2⟩:=B.res.rules
    go_wp2
    refine bodyPost_ret (v:=.agg (posA (bothN v l))) (pos_result Tryz.results47 _ _ _ _ rfl (B.res.setRow _)) rfl ⟨rfl,below_setRow B.below B.low.1 _⟩
def pawnK (n:Nat→Int):Nat→Nat→Int
 | 0=>n
 | k+1=>upd (pawnK n k) (1+k) 1
def hordeN:Nat→Int:=upd (upd (upd (upd (pawnK (upd (upd (bothN 7 chessL) 79 (-1)) 80 (-1)) 32) 34 1) 35 1) 38 1) 39 1
theorem horde_any (w:World):Calls Tryz.prog 45 #[] w fun e w' => e = .returned (.agg (posA hordeN))∧Below w.heap.size w w' := by
 have hzp:=zeroPos
 obtain ⟨X,hX⟩:∃ X,w.alloc (.cells (posA zeroN) 31)=X:=⟨_,rfl⟩
 obtain ⟨pX,bX⟩:=box1 w zeroN X hX
 have HX:=hI hX
 clear hX
 go_enter Tryz.func45,Tryz.ntmps45
 go_wp2_with (first | rw [HX.out])
 refine (chess_any _).mono ?_
 rintro e Y1 ⟨rfl,h1⟩
 have pX:=pX.below h1 pX.lt
 have bX:=bX.trans (h1.mono bX.size)
 clear h1
 go_wp2_with fail
 refine (both_any 7 (by decide) chessL (fun k=>by unfold chessL;repeat (first | (exact ⟨by decide,by decide⟩) | split)) _).mono ?_
 rintro e Y ⟨rfl,h1⟩
 have pX:=pX.below h1 pX.lt
 have bX:=bX.trans (h1.mono bX.size)
 clear h1 HX
 obtain ⟨V,hV⟩:∃ V,(Y.alloc (.cells (posA zeroN) 31)).setRow Y.heap.size (posA (bothN 7 chessL))=V:=⟨_,rfl⟩
 have hV2:Y.alloc (.cells (posA (bothN 7 chessL)) 31)=V:=by rw [← hV,World.setRow_alloc_new]
 have hlt:=pX.lt
 have bld:Bld w w.heap.size Y.heap.size V (bothN 7 chessL):=by
  rw [← hV2]
  exact ⟨pX.alloc _,PosAt.new Y _,by omega,⟨by omega,by omega⟩,bX.alloc (by omega) _⟩
 obtain ⟨g,hg⟩:∃ g,Y.heap.size=g:=⟨_,rfl⟩
 rw [hg] at bld
 have HV:=hI hV
 have HG:=hI hg
 have c79:V.cell? ⟨g,79,none⟩=some (.int .i8 (bothN 7 chessL 79)):=bld.new.cell 79 (by decide)
 have c80:V.cell? ⟨g,80,none⟩=some (.int .i8 (bothN 7 chessL 80)):=bld.new.cell 80 (by decide)
 have f79:=bld.new.free 79
 have f80:=bld.new.free 80
 have L0:=(bld.set 79 (-1) (k:=.i8) rfl).set 80 (-1) (k:=.i8) rfl
 clear hV hV2 hg pX bX hlt bld
 go_wp2_with (first | rw [HV.out,HG.out])
 generalize World.setCell (World.setCell V _ _) _ _=V1 at L0 ⊢
 clear c79 c80 f79 f80 HV HG
 obtain ⟨n0,hn0⟩:∃ n0,upd (upd (bothN 7 chessL) 79 (-1)) 80 (-1)=n0:=⟨_,rfl⟩
 rw [hn0] at L0
 have HN:=hI hn0
 clear hn0
 go_loopw [10] (fun i wr=>∃ k:Nat,k≤32∧i=.int .i64 k∧Bld w w.heap.size g wr (pawnK n0 k)) (fun i _=>32 - (intOf i).toNat)
 case atStart=>exact ⟨0,by omega,rfl,L0⟩
 case round =>
  obtain ⟨k,hk,rfl,B⟩:=hrel
  by_cases hlt:k<32
  · have cc := B.new.board (1 + k) (by omega)
    have ff:=B.new.free (1+k)
    have BS:=B.setB (1+k) (by omega) 1
    clear L0
    go_wp2
    go_roundw
    case rel=>exact ⟨k+1,by omega,by go_num,BS⟩
    case measure=>simp [intOf];omega
  · obtain rfl : k = 32 := by omega
    have hE:Hid (upd (upd (upd (upd (pawnK n0 32) 34 1) 35 1) 38 1) 39 1=hordeN):=by rw [← HN.out];rfl
    clear L0 HN
    generalize pawnK n0 32=n1 at B hE
    have hg:=B.new.lt
    obtain ⟨V2,hV⟩:∃ V2,wr.alloc (.cells #[.int .i64 33,.int .i64 34,.int .i64 37,.int .i64 38] 3)=V2:=⟨_,rfl⟩
    have B2:Bld w w.heap.size g V2 n1:=by rw [← hV];exact ⟨B.res.alloc _,B.new.alloc _,B.far,B.low,B.below.alloc B.below.size _⟩
    obtain ⟨s,hs⟩:∃ s,wr.heap.size=s:=⟨_,rfl⟩
    have d0:V2.cell? ⟨s,0,none⟩=some (.int .i64 33):=by rw [← hV,← hs,World.cell?_alloc_new];rfl
    have d1:V2.cell? ⟨s,1,none⟩=some (.int .i64 34):=by rw [← hV,← hs,World.cell?_alloc_new];rfl
    have d2:V2.cell? ⟨s,2,none⟩=some (.int .i64 37):=by rw [← hV,← hs,World.cell?_alloc_new];rfl
    have d3:V2.cell? ⟨s,3,none⟩=some (.int .i64 38):=by rw [← hV,← hs,World.cell?_alloc_new];rfl
    have n1:¬ g=s:=by omega
    have n2:¬ s=g:=by omega
    have c34:=B2.new.board 34 (by decide)
    have c35:=B2.new.board 35 (by decide)
    have c38:=B2.new.board 38 (by decide)
    have c39:=B2.new.board 39 (by decide)
    have f34:=B2.new.free 34
    have f35:=B2.new.free 35
    have f38:=B2.new.free 38
    have f39:=B2.new.free 39
    have L:=(((B2.setB 34 (by decide) 1).setB 35 (by decide) 1).setB 38 (by decide) 1).setB 39 (by decide) 1
    obtain ⟨V3,hV3⟩:∃ V3,(((V2.setCell ⟨g,34,none⟩ (.int .u8 1)).setCell ⟨g,35,none⟩ (.int .u8 1)).setCell ⟨g,38,none⟩ (.int .u8 1)).setCell ⟨g,39,none⟩ (.int .u8 1)=V3:=⟨_,rfl⟩
    rw [hV3] at L
    obtain ⟨i1,r1⟩:=L.new.rules
    obtain ⟨i2,r2⟩:=L.res.rules
    have HV:=hI hV
    have HV3:=hI hV3
    have HS:=hI hs
    clear hV hV3 hs B B2 hg
    go_wp2_with (first | rw [HV.out,HS.out])
    refine wp_loop_rounds 5 ?_
    rw [rounds_succ]
    go_wp2
    rw [rounds_succ]
    go_wp2
    rw [rounds_succ]
    go_wp2
    rw [rounds_succ]
    go_wp2
    rw [rounds_succ]
    go_wp2_with (first | rw [HV3.out])
    refine bodyPost_ret (v:=.agg (posA hordeN)) (pos_result Tryz.results45 _ _ _ _ rfl (by rw [hE.out];exact L.res.setRow hordeN)) rfl ⟨rfl,by rw [hE.out];exact below_setRow L.below lR _⟩
def racN:Nat→Int:=upd (upd (upd (upd (upd (upd (upd (upd (upd (upd (upd (upd (upd (upd (upd (upd (noneN 8) 1 13) 8 5) 2 12) 7 4) 3 11) 6 3) 4 10) 5 2) 9 14) 16 6) 10 12) 15 4) 11 11) 14 3) 12 10) 13 2
theorem racing_any (w:World):Calls Tryz.prog 46 #[] w fun e w' => e = .returned (.agg (posA racN))∧Below w.heap.size w w' := by
 have hzp:=zeroPos
 obtain ⟨X,hX⟩:∃ X,w.alloc (.cells (posA zeroN) 31)=X:=⟨_,rfl⟩
 obtain ⟨pX,bX⟩:=box1 w zeroN X hX
 have HX:=hI hX
 clear hX
 go_enter Tryz.func46,Tryz.ntmps46
 go_wp2_with (first | rw [HX.out])
 refine (none_any 8 _).mono ?_
 rintro e Y ⟨rfl,h1⟩
 have pX:=pX.below h1 pX.lt
 have bX:=bX.trans (h1.mono bX.size)
 clear h1 HX
 obtain ⟨V0,hV0⟩:∃ V0,(Y.alloc (.cells (posA zeroN) 31)).setRow Y.heap.size (posA (noneN 8))=V0:=⟨_,rfl⟩
 have hV2:Y.alloc (.cells (posA (noneN 8)) 31)=V0:=by rw [← hV0,World.setRow_alloc_new]
 have hlt:=pX.lt
 have bld:Bld w w.heap.size Y.heap.size V0 (noneN 8):=by
  rw [← hV2]
  exact ⟨pX.alloc _,PosAt.new Y _,by omega,⟨by omega,by omega⟩,bX.alloc (by omega) _⟩
 obtain ⟨g,hg⟩:∃ g,Y.heap.size=g:=⟨_,rfl⟩
 rw [hg] at bld
 have hg1:=bld.new.lt
 obtain ⟨sa,hsa⟩:∃ sa,V0.heap.size=sa:=⟨_,rfl⟩
 obtain ⟨Va,hVa⟩:∃ Va,V0.alloc (.cells #[.int .u8 5,.int .u8 4,.int .u8 3,.int .u8 2] 5)=Va:=⟨_,rfl⟩
 have hsb:Va.heap.size=sa+1:=by rw [← hVa,← hsa];simp
 obtain ⟨Vb,hVb⟩:∃ Vb,Va.alloc (.cells #[.int .u8 6,.int .u8 4,.int .u8 3,.int .u8 2] 5)=Vb:=⟨_,rfl⟩
 have hsc:Vb.heap.size=sa+2:=by rw [← hVb];simp;omega
 obtain ⟨V2,hVc⟩:∃ V2,Vb.alloc (.cells #[.slice (some ⟨sa,0,none⟩) 4 4,.slice (some ⟨sa+1,0,none⟩) 4 4] 32)=V2:=⟨_,rfl⟩
 have B2:Bld w w.heap.size g V2 (noneN 8):=by
  rw [← hVc,← hVb,← hVa]
  exact ⟨((bld.res.alloc _).alloc _).alloc _,((bld.new.alloc _).alloc _).alloc _,bld.far,bld.low,((bld.below.alloc bld.below.size _).alloc (by have:=bld.below.size;simp;omega) _).alloc (by have:=bld.below.size;simp;omega) _⟩
 have a0:V2.cell? ⟨sa,0,none⟩=some (.int .u8 5):=by rw [← hVc,World.cell?_alloc_lt _ _ _ (by show sa<Vb.heap.size;omega),← hVb,World.cell?_alloc_lt _ _ _ (by show sa<Va.heap.size;omega),← hVa,← hsa,World.cell?_alloc_new];rfl
 have a1:V2.cell? ⟨sa,1,none⟩=some (.int .u8 4):=by rw [← hVc,World.cell?_alloc_lt _ _ _ (by show sa<Vb.heap.size;omega),← hVb,World.cell?_alloc_lt _ _ _ (by show sa<Va.heap.size;omega),← hVa,← hsa,World.cell?_alloc_new];rfl
 have a2:V2.cell? ⟨sa,2,none⟩=some (.int .u8 3):=by rw [← hVc,World.cell?_alloc_lt _ _ _ (by show sa<Vb.heap.size;omega),← hVb,World.cell?_alloc_lt _ _ _ (by show sa<Va.heap.size;omega),← hVa,← hsa,World.cell?_alloc_new];rfl
 have a3:V2.cell? ⟨sa,3,none⟩=some (.int .u8 2):=by rw [← hVc,World.cell?_alloc_lt _ _ _ (by show sa<Vb.heap.size;omega),← hVb,World.cell?_alloc_lt _ _ _ (by show sa<Va.heap.size;omega),← hVa,← hsa,World.cell?_alloc_new];rfl
 have b0:V2.cell? ⟨sa+1,0,none⟩=some (.int .u8 6):=by rw [← hVc,World.cell?_alloc_lt _ _ _ (by show sa+1<Vb.heap.size;omega),← hVb,← hsb,World.cell?_alloc_new];rfl
 have b1:V2.cell? ⟨sa+1,1,none⟩=some (.int .u8 4):=by rw [← hVc,World.cell?_alloc_lt _ _ _ (by show sa+1<Vb.heap.size;omega),← hVb,← hsb,World.cell?_alloc_new];rfl
 have b2:V2.cell? ⟨sa+1,2,none⟩=some (.int .u8 3):=by rw [← hVc,World.cell?_alloc_lt _ _ _ (by show sa+1<Vb.heap.size;omega),← hVb,← hsb,World.cell?_alloc_new];rfl
 have b3:V2.cell? ⟨sa+1,3,none⟩=some (.int .u8 2):=by rw [← hVc,World.cell?_alloc_lt _ _ _ (by show sa+1<Vb.heap.size;omega),← hVb,← hsb,World.cell?_alloc_new];rfl
 have e0:V2.cell? ⟨sa+2,0,none⟩=some (.slice (some ⟨sa,0,none⟩) 4 4):=by rw [← hVc,← hsc,World.cell?_alloc_new];rfl
 have e1:V2.cell? ⟨sa+2,1,none⟩=some (.slice (some ⟨sa+1,0,none⟩) 4 4):=by rw [← hVc,← hsc,World.cell?_alloc_new];rfl
 have:¬ g=sa:=by omega
 have:¬ sa=g:=by omega
 have:¬ g=sa+1:=by omega
 have:¬ sa+1=g:=by omega
 have:¬ g=sa+2:=by omega
 have:¬ sa+2=g:=by omega
 have c1:=B2.new.board 1 (by decide)
 have f1:=B2.new.free 1
 have c2:=B2.new.board 2 (by decide)
 have f2:=B2.new.free 2
 have c3:=B2.new.board 3 (by decide)
 have f3:=B2.new.free 3
 have c4:=B2.new.board 4 (by decide)
 have f4:=B2.new.free 4
 have c5:=B2.new.board 5 (by decide)
 have f5:=B2.new.free 5
 have c6:=B2.new.board 6 (by decide)
 have f6:=B2.new.free 6
 have c7:=B2.new.board 7 (by decide)
 have f7:=B2.new.free 7
 have c8:=B2.new.board 8 (by decide)
 have f8:=B2.new.free 8
 have c9:=B2.new.board 9 (by decide)
 have f9:=B2.new.free 9
 have c10:=B2.new.board 10 (by decide)
 have f10:=B2.new.free 10
 have c11:=B2.new.board 11 (by decide)
 have f11:=B2.new.free 11
 have c12:=B2.new.board 12 (by decide)
 have f12:=B2.new.free 12
 have c13:=B2.new.board 13 (by decide)
 have f13:=B2.new.free 13
 have c14:=B2.new.board 14 (by decide)
 have f14:=B2.new.free 14
 have c15:=B2.new.board 15 (by decide)
 have f15:=B2.new.free 15
 have c16:=B2.new.board 16 (by decide)
 have f16:=B2.new.free 16
 have L:=((((((((((((((((B2).setB 1 (by decide) 13).setB 8 (by decide) 5).setB 2 (by decide) 12).setB 7 (by decide) 4).setB 3 (by decide) 11).setB 6 (by decide) 3).setB 4 (by decide) 10).setB 5 (by decide) 2).setB 9 (by decide) 14).setB 16 (by decide) 6).setB 10 (by decide) 12).setB 15 (by decide) 4).setB 11 (by decide) 11).setB 14 (by decide) 3).setB 12 (by decide) 10).setB 13 (by decide) 2
 obtain ⟨V3,hV3⟩:∃ V3,((((((((((((((((V2).setCell ⟨g,1,none⟩ (.int .u8 13)).setCell ⟨g,8,none⟩ (.int .u8 5)).setCell ⟨g,2,none⟩ (.int .u8 12)).setCell ⟨g,7,none⟩ (.int .u8 4)).setCell ⟨g,3,none⟩ (.int .u8 11)).setCell ⟨g,6,none⟩ (.int .u8 3)).setCell ⟨g,4,none⟩ (.int .u8 10)).setCell ⟨g,5,none⟩ (.int .u8 2)).setCell ⟨g,9,none⟩ (.int .u8 14)).setCell ⟨g,16,none⟩ (.int .u8 6)).setCell ⟨g,10,none⟩ (.int .u8 12)).setCell ⟨g,15,none⟩ (.int .u8 4)).setCell ⟨g,11,none⟩ (.int .u8 11)).setCell ⟨g,14,none⟩ (.int .u8 3)).setCell ⟨g,12,none⟩ (.int .u8 10)).setCell ⟨g,13,none⟩ (.int .u8 2)=V3:=⟨_,rfl⟩
 rw [hV3] at L
 obtain ⟨i1,r1⟩:=L.new.rules
 obtain ⟨i2,r2⟩:=L.res.rules
 obtain ⟨Z,hZ⟩:∃ Z,upd (upd (upd (upd (upd (upd (upd (upd (upd (upd (upd (upd (upd (upd (upd (upd (noneN 8) 1 13) 8 5) 2 12) 7 4) 3 11) 6 3) 4 10) 5 2) 9 14) 16 6) 10 12) 15 4) 11 11) 14 3) 12 10) 13 2=Z:=⟨_,rfl⟩
 rw [hZ] at r1 L
 have HZ:Hid (Z=racN):=hZ.symm
 have HV:=hI hV0
 have HG:=hI hg
 have HA:=hI hVa
 have HB:=hI hVb
 have HC:=hI hVc
 have HSA:=hI hsa
 have HSB:=hI hsb
 have HSC:=hI hsc
 have HV3:=hI hV3
 clear hV0 hV2 hg hVa hVb hVc hsa hsb hsc hV3 hZ pX bX hlt bld B2 hg1
 go_wp2_with (first | rw [HV.out,HG.out] | rw [HA.out,HSA.out] | rw [HB.out,HSB.out] | rw [HC.out,HSC.out])
 refine wp_loop_rounds 3 ?_
 rw [rounds_succ]
 go_wp2
 refine wp_loop_rounds 5 ?_
 rw [rounds_succ]
 go_wp2_with (go_at_call 120;refine (black_any 5 (by decide) (by decide) _).mono ?_;rintro e w2 ⟨rfl,rfl⟩)
 rw [rounds_succ]
 go_wp2_with (go_at_call 120;refine (black_any 4 (by decide) (by decide) _).mono ?_;rintro e w2 ⟨rfl,rfl⟩)
 rw [rounds_succ]
 go_wp2_with (go_at_call 120;refine (black_any 3 (by decide) (by decide) _).mono ?_;rintro e w2 ⟨rfl,rfl⟩)
 rw [rounds_succ]
 go_wp2_with (go_at_call 120;refine (black_any 2 (by decide) (by decide) _).mono ?_;rintro e w2 ⟨rfl,rfl⟩)
 rw [rounds_succ]
 go_wp2
 rw [rounds_succ]
 go_wp2
 refine wp_loop_rounds 5 ?_
 rw [rounds_succ]
 go_wp2_with (go_at_call 120;refine (black_any 6 (by decide) (by decide) _).mono ?_;rintro e w2 ⟨rfl,rfl⟩)
 rw [rounds_succ]
 go_wp2_with (go_at_call 120;refine (black_any 4 (by decide) (by decide) _).mono ?_;rintro e w2 ⟨rfl,rfl⟩)
 rw [rounds_succ]
 go_wp2_with (go_at_call 120;refine (black_any 3 (by decide) (by decide) _).mono ?_;rintro e w2 ⟨rfl,rfl⟩)
 rw [rounds_succ]
 go_wp2_with (go_at_call 120;refine (black_any 2 (by decide) (by decide) _).mono ?_;rintro e w2 ⟨rfl,rfl⟩)
 rw [rounds_succ]
 go_wp2
 rw [rounds_succ]
 go_wp2_with (first | rw [HV3.out])
 refine bodyPost_ret (v:=.agg (posA racN)) (pos_result Tryz.results46 _ _ _ _ rfl (by rw [HZ.out];exact L.res.setRow racN)) rfl ⟨rfl,by rw [HZ.out];exact below_setRow L.below lR _⟩
theorem pos_result2 {fn:Func} {p u:Tmp} (h:fn.results=#[.cell p 31,.tmp u]) (tmps:Array Value) (w:World) (g:Nat) (n:Nat→Int) (v:Value)
 (hp:tmps.getD p undef=.pointer (some ⟨g,0,none⟩)) (hv:tmps.getD u undef=v) (hg:PosAt w g n):(results fn tmps).run Tryz.prog w=.ok (.tuple #[.agg (posA n),v]) w:=by
 have hl:=run_loadVar_row w g _ _ (posA n) _ _ hg Tryz.underlying31 rfl (by rw [posA_size];exact sizePos)
 rw [results_cell_tmp h,hp,hv]
 simp [asAddr,hl,Result.andThen]
def startN (v:Nat):Nat→Int:=if 9≤v then zeroN else if v=7 then hordeN else if v=8 then racN else bothN v chessL
theorem start_any (v:Nat) (hv:v≤255) (w:World):Calls Tryz.prog 17 #[.int .u8 (v:Int)] w fun e w' => e = .returned (.tuple #[.agg (posA (startN v)),.bool (decide (v<9))])∧Below w.heap.size w w' := by
 have hzp:=zeroPos
 obtain ⟨X,hX⟩:∃ X,w.alloc (.cells (posA zeroN) 31)=X:=⟨_,rfl⟩
 obtain ⟨pX,bX⟩:=box1 w zeroN X hX
 have HX:=hI hX
 clear hX
 have hc:9≤v∨v=7∨v=8∨(v<9∧v≠7∧v≠8):=by omega
 rcases hc with h | rfl | rfl | ⟨h,h7,h8⟩
 · have E := hideIt (show startN v = zeroN from if_pos h)
   have D:=hI (decide_eq_false (show ¬ v<9 by omega))
   obtain ⟨i1,r1⟩:=pX.rules
   go_enter Tryz.func17,Tryz.ntmps17
   go_wp2_with (first | rw [HX.out] | (refine wpList_build rfl 31 _ rfl (by kernel_rfl) ?_;generalize hV:(Program.built Tryz.prog 31 _).getD #[]=V;obtain rfl:posA zeroN=V:=Eq.trans (by kernel_rfl) hV;clear hV))
   refine bodyPost_ret (v:=.tuple #[.agg (posA zeroN),.bool false]) (pos_result2 Tryz.results17 _ _ _ _ _ rfl rfl (pX.setRow _)) rfl ⟨by rw [E.out,D.out],below_setRow bX lR _⟩
 · obtain ⟨i1, r1⟩ := pX.rules
   go_enter Tryz.func17,Tryz.ntmps17
   go_wp2_with (first | rw [HX.out])
   refine (horde_any _).mono ?_
   rintro e Y ⟨rfl,h1⟩
   have pX:=pX.below h1 pX.lt
   have bX:=bX.trans (h1.mono bX.size)
   clear h1 i1 r1
   obtain ⟨i1,r1⟩:=pX.rules
   go_wp2
   refine bodyPost_ret (v:=.tuple #[.agg (posA hordeN),.bool true]) (pos_result2 Tryz.results17 _ _ _ _ _ rfl rfl (pX.setRow _)) rfl ⟨rfl,below_setRow bX lR _⟩
 · obtain ⟨i1, r1⟩ := pX.rules
   go_enter Tryz.func17,Tryz.ntmps17
   go_wp2_with (first | rw [HX.out])
   refine (racing_any _).mono ?_
   rintro e Y ⟨rfl,h1⟩
   have pX:=pX.below h1 pX.lt
   have bX:=bX.trans (h1.mono bX.size)
   clear h1 i1 r1
   obtain ⟨i1,r1⟩:=pX.rules
   go_wp2
   refine bodyPost_ret (v:=.tuple #[.agg (posA racN),.bool true]) (pos_result2 Tryz.results17 _ _ _ _ _ rfl rfl (pX.setRow _)) rfl ⟨rfl,below_setRow bX lR _⟩
 · have E := hideIt (show startN v = bothN v chessL by unfold startN; rw [if_neg (by omega), if_neg h7, if_neg h8])
   have D:=hI (decide_eq_true h)
   have e7:((v:Int)==7)=false:=beq_eq_false_iff_ne.2 (by omega)
   have e8:((v:Int)==8)=false:=beq_eq_false_iff_ne.2 (by omega)
   clear h7 h8
   go_enter Tryz.func17,Tryz.ntmps17
   go_wp2_with (first | rw [HX.out])
   refine (chess_any _).mono ?_
   rintro e Y ⟨rfl,h1⟩
   have pX:=pX.below h1 pX.lt
   have bX:=bX.trans (h1.mono bX.size)
   clear h1
   go_wp2_with fail
   refine (both_any v hv chessL (fun k=>by unfold chessL;repeat (first | (exact ⟨by decide,by decide⟩) | split)) _).mono ?_
   rintro e Y2 ⟨rfl,h1⟩
   have pX:=pX.below h1 pX.lt
   have bX:=bX.trans (h1.mono bX.size)
   clear h1
   obtain ⟨i1,r1⟩:=pX.rules
   go_wp2
   refine bodyPost_ret (v:=.tuple #[.agg (posA (bothN v chessL)),.bool true]) (pos_result2 Tryz.results17 _ _ _ _ _ rfl rfl (pX.setRow _)) rfl ⟨by rw [E.out,D.out],below_setRow bX lR _⟩
def empF (l:Nat→Int):Nat→Int→Int
 | 0,_=>0
 | f+1,n=>if l (7 - f)=0 then (if n=0 then ((7 - f:Nat):Int) else empF l f (n - 1)) else empF l f n
/-- The empty file of a number. -/
def emp (l:Nat→Int) (n:Int):Int:=empF l 8 n
theorem empF_bd (l:Nat→Int):∀ (f:Nat) (n:Int),0≤empF l f n∧empF l f n<8
 | 0,n=>⟨by show (0:Int)≤0;omega,by show (0:Int)<8;omega⟩
 | f + 1, n => by
   unfold empF
   split
   · split
     · omega
     · exact empF_bd l f _
   · exact empF_bd l f _
theorem emp_bd (l:Nat→Int) (n:Int):0≤emp l n∧emp l n<8:=empF_bd l 8 n
theorem empty_any (l:Nat→Int) (n:Int) (h0:0≤n) (h1:n<1000) (w:World):Calls Tryz.prog 77 #[.agg (r8 l),.int .i64 n] w fun e w' => e = .returned (.int .i64 (emp l n))∧Below w.heap.size w w' := by
 have hE:Hid (emp l n=empF l (8 - 0) n):=rfl
 have hb:=(Below.refl w.heap.size w).alloc lR (.cells (r8 l) 80)
 go_enter Tryz.func77,Tryz.ntmps77
 go_wp2
 go_loopw [1,8] (fun m i wr=>∃ (k:Nat) (m' : Int),k≤8∧i=.int .i64 k∧m=.int .i64 m' ∧ 0 ≤ m' ∧ m' < 1000∧Hid (emp l n=empF l (8 - k) m')∧Below w.heap.size w wr) (fun _ i _=>8 - (intOf i).toNat)
 case atStart=>exact ⟨0,n,by omega,rfl,rfl,h0,h1,hE,hb⟩
 case round =>
  clear h0 h1 hE hb
  obtain ⟨k,m,hk,rfl,rfl,h0,h1,hE,hb⟩:=hrel
  by_cases hlt:k<8
  · have hix := index_r8 l k hlt
    obtain ⟨f,hf⟩:∃ f,8 - k=f+1:=⟨7 - k,by omega⟩
    have e7:7 - f=k:=by omega
    have hE2:emp l n=if l k=0 then (if m=0 then (k:Int) else empF l (8 - (k+1)) (m - 1)) else empF l (8 - (k+1)) m:=by
     rw [hE.out,hf,show 8 - (k+1)=f by omega]
     show (if l (7 - f)=0 then (if m=0 then ((7 - f:Nat):Int) else _) else _)=_
     rw [e7]
    have HE:=hI hE2
    clear hE hE2 hf e7
    by_cases hl:l k=0
    · have e0 : (l k != 0) = false := by rw [hl]; rfl
      by_cases hm:m=0
      · have em : (m == 0) = true := beq_iff_eq.2 hm
        have HE:=hI (HE.out.trans ((if_pos hl).trans (if_pos hm)))
        clear hl hm
        go_wp2
        go_ret
        exact ⟨ret_int HE.out.symm,hb⟩
      · have em : (m == 0) = false := beq_eq_false_iff_ne.2 hm
        have HE:=hI (HE.out.trans ((if_pos hl).trans (if_neg hm)))
        have hm1:1≤m:=by omega
        clear hl hm
        go_wp2
        go_roundw
        case rel=>exact ⟨k+1,m - 1,by omega,by go_num,rfl,by omega,by omega,HE,hb⟩
        case measure=>simp [intOf];omega
    · have e0 : (l k != 0) = true := by rw [bne, beq_eq_false_iff_ne.2 hl]; rfl
      have HE:=hI (HE.out.trans (if_neg hl))
      clear hl
      go_wp2
      go_roundw
      case rel=>exact ⟨k+1,m,by omega,by go_num,rfl,h0,h1,HE,hb⟩
      case measure=>simp [intOf];omega
  · obtain rfl : k = 8 := by omega
    go_wp2
    go_ret
    exact ⟨ret_int (by rw [hE.out];rfl),hb⟩
def row1 (n:Nat):Nat→Int:=upd zeroN (2*(n % 4)+1) 3
def row2 (n:Nat):Nat→Int:=upd (row1 n) (2*(n / 4 % 4)) 3
def row3 (n:Nat):Nat→Int:=upd (row2 n) (emp (row2 n) ((n / 4 / 4 % 6:Nat):Int)).toNat 5
def pairL:List Int:=[0,1,0,2,0,3,0,4,1,2,1,3,1,4,2,3,2,4,3,4]
def pairI (k:Nat):Int:=pairL.getD k 0
def pairA:Array Value:=(pairL.map (Value.int .i64)).toArray
theorem pair_bd:∀ k:Fin 20,0≤pairI k.val∧pairI k.val<5:=by decide +kernel
theorem pair_get (k:Nat) (hk:k<20):pairA[k]?=some (.int .i64 (pairI k)):=by
 have:∀ k:Fin 20,pairL[k.val]?=some (pairI k.val):=by decide +kernel
 unfold pairA
 rw [List.getElem?_toArray,List.getElem?_map,this ⟨k,hk⟩];rfl
theorem pair_one:pairA.all (·.oneCell')=true:=by kernel_rfl
theorem infoPair:(Tryz.prog.info? 106).map (fun i=>(i.zero,i.size))=some (some (.agg ((List.replicate 20 (Value.int .i64 0)).toArray)),20):=by kernel_rfl
def row4 (n:Nat):Nat→Int:=upd (upd (row3 n) (emp (row3 n) (pairI (n / 4 / 4 / 6*2))).toNat 2) (emp (row3 n) (pairI (n / 4 / 4 / 6*2+1))).toNat 2
def row5 (n:Nat):Nat→Int:=upd (row4 n) (emp (row4 n) 0).toNat 4
def row6 (n:Nat):Nat→Int:=upd (row5 n) (emp (row5 n) 0).toNat 6
def row7 (n:Nat):Nat→Int:=upd (row6 n) (emp (row6 n) 0).toNat 4
def start960N (n:Nat):Nat→Int:=bothN 1 (row7 n)
/-- The answer's block, and the row that is being filled. -/
structure RowB (w0 W:World) (l:Nat→Int):Prop where
 res:PosAt W w0.heap.size zeroN
 row:R8At W (w0.heap.size+1) l
 below:Below w0.heap.size w0 W
theorem RowB.set {w0 W:World} {l:Nat→Int} (h:RowB w0 W l) (i:Nat) (x:Int):RowB w0 (W.setCell ⟨w0.heap.size+1,i,none⟩ (.int .u8 x)) (upd l i x) :=
 ⟨h.res.other (by omega) _,h.row.set i x,h.below.setCell (by show w0.heap.size≤w0.heap.size+1;omega) _⟩
theorem RowB.then {w0 W W' : World} {l:Nat→Int} (h:RowB w0 W l) (hb:Below W.heap.size W W'):RowB w0 W' l :=
 ⟨h.res.below hb h.res.lt,h.row.below hb h.row.lt,h.below.trans (hb.mono h.below.size)⟩
/-- A slice of three pieces: rook, king, rook. -/
def Tri (W:World) (s:Nat):Prop:=s<W.heap.size∧W.cell? ⟨s,0,none⟩=some (.int .u8 4)∧W.cell? ⟨s,1,none⟩=some (.int .u8 6)∧W.cell? ⟨s,2,none⟩=some (.int .u8 4)
theorem Tri.then {U W:World} {s:Nat} (h:Tri U s) (hb:Below U.heap.size U W):Tri W s :=
 ⟨Nat.lt_of_lt_of_le h.1 hb.size,(hb.cell (p:=⟨s,0,none⟩) h.1).trans h.2.1,(hb.cell (p:=⟨s,1,none⟩) h.1).trans h.2.2.1,(hb.cell (p:=⟨s,2,none⟩) h.1).trans h.2.2.2⟩
theorem Tri.set {U:World} {s b i:Nat} (h:Tri U s) (hb:b≠s) (v:Value):Tri (U.setCell ⟨b,i,none⟩ v) s:=by
 have e:∀ j,(U.setCell ⟨b,i,none⟩ v).cell? ⟨s,j,none⟩=U.cell? ⟨s,j,none⟩:=fun j=>World.cell?_setCell_other U ⟨b,i,none⟩ ⟨s,j,none⟩ v (fun h=>hb (by cases h;rfl))
 exact ⟨by have:=h.1;simpa using this,(e 0).trans h.2.1,(e 1).trans h.2.2.1,(e 2).trans h.2.2.2⟩
theorem upd_bd {l:Nat→Int} (h:∀ k,0≤l k∧l k<200) (i:Nat) (x:Int) (h0:0≤x) (h1:x<200):∀ k,0≤upd l i x k∧upd l i x k<200:=by
 intro k
 unfold upd
 split
 · exact ⟨h0,h1⟩
 · exact h k
theorem row7_bd (n:Nat):∀ k,0≤row7 n k∧row7 n k<200 :=
 upd_bd (upd_bd (upd_bd (upd_bd (upd_bd (upd_bd (upd_bd (upd_bd (fun _=>⟨Int.le_refl 0,(by show (0:Int)<200;decide)⟩) _ 3 (by decide) (by decide)) _ 3 (by decide) (by decide)) _ 5 (by decide) (by decide)) _ 2 (by decide) (by decide)) _ 2 (by decide) (by decide)) _ 4 (by decide) (by decide)) _ 6 (by decide) (by decide)) _ 4 (by decide) (by decide)
theorem keep9 {X W:World} {a g i j:Nat} {l:Nat→Int} {u v:Value} (h:R8At X a l) (h1:X.cell? ⟨g,i,none⟩=some u) (h2:X.cell? ⟨g,j,none⟩=some v) (hg:g<X.heap.size) (hb:Below X.heap.size X W) :
 (IsR8 W a∧r8Of W a=r8 l)∧(W.cell? ⟨g,i,none⟩=some u∧W.cell? ⟨g,j,none⟩=some v)∧Below X.heap.size X W :=
 ⟨(h.below hb h.lt).rules,⟨(hb.cell (p:=⟨g,i,none⟩) hg).trans h1,(hb.cell (p:=⟨g,j,none⟩) hg).trans h2⟩,hb⟩
theorem start960_yes (n:Nat) (hn:n<960) (w:World):Calls Tryz.prog 29 #[.int .i64 (n:Int)] w fun e w' => e = .returned (.tuple #[.agg (posA (start960N n)),.bool true])∧Below w.heap.size w w' := by
 have hzp:=zeroPos
 have hz8:=zero8
 obtain ⟨X,hX⟩:∃ X,(w.alloc (.cells (posA zeroN) 31)).alloc (.cells (r8 zeroN) 80)=X:=⟨_,rfl⟩
 have B:RowB w X zeroN:=by
  rw [← hX]
  refine ⟨(PosAt.new w zeroN).alloc _,?_,((Below.refl _ _).alloc lR _).alloc (by simp) _⟩
  have:=R8At.new (w.alloc (.cells (posA zeroN) 31)) zeroN
  simpa using this
 have HX:=hI hX
 clear hX
 have B1:=B.set (2*(n % 4)+1) 3
 have B2:=B1.set (2*(n / 4 % 4)) 3
 have c1:=B.row.cell (2*(n % 4)+1) (by omega)
 have f1:=B.row.free (2*(n % 4)+1)
 have c2:=B1.row.cell (2*(n / 4 % 4)) (by omega)
 have f2:=B1.row.free (2*(n / 4 % 4))
 go_enter Tryz.func29,Tryz.ntmps29
 go_upto_region 8 with (first | rw [HX.out])
 generalize World.setCell (World.setCell X _ _) _ _=V2 at B2 ⊢
 have B2:RowB w V2 (row2 n):=B2
 clear c1 f1 c2 f2 B B1 HX
 obtain ⟨i2,r2⟩:=B2.row.rules
 go_wp2_with fail
 refine (empty_any (row2 n) _ (by omega) (by omega) _).mono ?_
 rintro e Y ⟨rfl,h1⟩
 have B2:=B2.then h1
 clear h1 i2 r2
 obtain ⟨j,hj⟩:∃ j:Nat,emp (row2 n) ((n:Int) / 4 / 4 % 6)=j:=⟨_,(Int.toNat_of_nonneg (emp_bd _ _).1).symm⟩
 have hj8:j<8:=by have:=(emp_bd (row2 n) ((n:Int) / 4 / 4 % 6)).2;omega
 have B3:=B2.set j 5
 have c3:=B2.row.cell j hj8
 have f3:=B2.row.free j
 have e3:upd (row2 n) j 5=row3 n:=by
  unfold row3
  rw [show ((n / 4 / 4 % 6:Nat):Int)=(n:Int) / 4 / 4 % 6 by omega,hj,Int.toNat_natCast]
 rw [e3] at B3
 rw [hj]
 clear e3 hj
 go_upto_region 10 with fail
 generalize World.setCell Y _ _=V3 at B3 ⊢
 clear c3 f3 B2
 obtain ⟨g,hg⟩:∃ g,V3.heap.size=g:=⟨_,rfl⟩
 have hg1:=B3.row.lt
 obtain ⟨V4,hV4⟩:∃ V4,V3.alloc (.cells pairA 106)=V4:=⟨_,rfl⟩
 have B4:RowB w V4 (row3 n):=by rw [← hV4];exact ⟨B3.res.alloc _,B3.row.alloc _,B3.below.alloc B3.below.size _⟩
 have hq:n / 4 / 4 / 6<10:=by omega
 have p0:V4.cell? ⟨g,n / 4 / 4 / 6*2,none⟩=some (.int .i64 (pairI (n / 4 / 4 / 6*2))):=by rw [← hV4,← hg,World.cell?_alloc_new];exact pair_get _ (by omega)
 have p1:V4.cell? ⟨g,n / 4 / 4 / 6*2+1,none⟩=some (.int .i64 (pairI (n / 4 / 4 / 6*2+1))):=by rw [← hV4,← hg,World.cell?_alloc_new];exact pair_get _ (by omega)
 have hsz:g<V4.heap.size:=by rw [← hV4,← hg];simp
 have HV:=hI hV4
 have HG:=hI hg
 clear hV4 hg B3
 have hzp:=(zero_of_info infoPair).1
 go_upto_region 11 with (first | (refine wpList_build rfl 106 _ rfl (by kernel_rfl) ?_;generalize hV:(Program.built Tryz.prog 106 _).getD #[]=V;obtain rfl:pairA=V:=Eq.trans (by kernel_rfl) hV;clear hV) | (refine wpList_store_row rfl 106 _ _ rfl V3.heap.size pairA rfl rfl 106 ((List.replicate 20 (Value.int .i64 0)).toArray) (heap_alloc_last _ _) (by rw [show pairA.size=20 by kernel_rfl];exact (zero_of_info infoPair).2) (by kernel_rfl) pair_one ?_))
 rw [World.setRow_alloc_new,HV.out,HG.out]
 obtain ⟨i4,r4⟩:=B4.row.rules
 obtain ⟨a0,a1⟩:=pair_bd ⟨n / 4 / 4 / 6*2,by omega⟩
 obtain ⟨b0,b1⟩:=pair_bd ⟨n / 4 / 4 / 6*2+1,by omega⟩
 simp only at a0 a1 b0 b1
 have a2:pairI (n / 4 / 4 / 6*2)<1000:=by omega
 have b2:pairI (n / 4 / 4 / 6*2+1)<1000:=by omega
 have s1:((n:Int) / 4 / 4 / 6).toNat=n / 4 / 4 / 6:=by omega
 have s2:(0:Int)≤(n:Int) / 4 / 4 / 6:=by omega
 have s3:(n:Int) / 4 / 4 / 6<10:=by omega
 go_region_held3 (fun W=>(IsR8 W (w.heap.size+1)∧r8Of W (w.heap.size+1)=r8 (row3 n))∧(W.cell? ⟨g,n / 4 / 4 / 6*2,none⟩=some (.int .i64 (pairI (n / 4 / 4 / 6*2)))∧W.cell? ⟨g,n / 4 / 4 / 6*2+1,none⟩=some (.int .i64 (pairI (n / 4 / 4 / 6*2+1))))∧Below V4.heap.size V4 W) ((refine keep9 B4.row p0 p1 hsz ?_;repeat (first | exact Below.refl _ _ | assumption | refine bl_drew ?_ | refine bl_new ?_ lR | refine bl_then ?_ (by assumption)))) ((go_at_call 77;refine (empty_any (row3 n) _ (by assumption) (by assumption) _).mono ?_;rintro e w31 ⟨rfl,h1⟩))
 have hq:=And.right (And.right ‹(IsR8 _ _∧_)∧(_∧_)∧Below V4.heap.size V4 _›)
 have B4:=B4.then hq
 obtain ⟨ja,ha⟩:∃ j:Nat,emp (row3 n) (pairI (n / 4 / 4 / 6*2))=j:=⟨_,(Int.toNat_of_nonneg (emp_bd _ _).1).symm⟩
 obtain ⟨jb,hb⟩:∃ j:Nat,emp (row3 n) (pairI (n / 4 / 4 / 6*2+1))=j:=⟨_,(Int.toNat_of_nonneg (emp_bd _ _).1).symm⟩
 have ha8:ja<8:=by have:=(emp_bd (row3 n) (pairI (n / 4 / 4 / 6*2))).2;omega
 have hb8:jb<8:=by have:=(emp_bd (row3 n) (pairI (n / 4 / 4 / 6*2+1))).2;omega
 have e3:upd (upd (row3 n) ja 2) jb 2=row4 n:=by unfold row4;rw [ha,hb,Int.toNat_natCast,Int.toNat_natCast]
 rw [ha,hb]
 have ca:=B4.row.cell ja ha8
 have fa:=B4.row.free ja
 have cb:=(B4.set ja 2).row.cell jb hb8
 have fb:=(B4.set ja 2).row.free jb
 have B5:=(B4.set ja 2).set jb 2
 rw [e3] at B5
 rename_i W4 _ _
 clear ha hb e3 hq p0 p1 hsz HV HG hzp a0 a1 a2 b0 b1 b2 s1 s2 s3 i4 r4
 go_upto_region 13 with fail
 generalize World.setCell (World.setCell _ _ _) _ _=U at B5 ⊢
 clear ca fa cb fb B4
 have hu:=B5.row.lt
 obtain ⟨s,hs⟩:∃ s,U.heap.size=s:=⟨_,rfl⟩
 obtain ⟨V5,hV⟩:∃ V,U.alloc (.cells #[.int .u8 4,.int .u8 6,.int .u8 4] 5)=V:=⟨_,rfl⟩
 have hsn:w.heap.size+1≠s:=by omega
 have hns:¬ s=w.heap.size+1:=by omega
 have B5:RowB w V5 (row4 n):=by rw [← hV];exact ⟨B5.res.alloc _,B5.row.alloc _,B5.below.alloc B5.below.size _⟩
 have D5:Hid (Tri V5 s):=by
  refine ⟨by rw [← hV,← hs];simp,?_,?_,?_⟩ <;> rw [← hV,← hs,World.cell?_alloc_new] <;> rfl
 have HV:=hI hV
 have HS:=hI hs
 clear hV hs
 go_wp2_with (rw [HV.out,HS.out])
 refine wp_loop_rounds 4 ?_
 rw [rounds_succ]
 obtain ⟨i5,r5⟩:=B5.row.rules
 have d5:V5.cell? ⟨s,0,none⟩=some (.int .u8 4):=D5.out.2.1
 go_wp2_with fail
 refine (empty_any (row4 n) 0 (by decide) (by decide) _).mono ?_
 rintro e Y5 ⟨rfl,h1⟩
 have B5:=B5.then h1
 have D5:=hI (D5.out.then h1)
 clear h1 i5 r5 d5
 obtain ⟨j5,hj⟩:∃ j:Nat,emp (row4 n) 0=j:=⟨_,(Int.toNat_of_nonneg (emp_bd _ _).1).symm⟩
 have hj8:j5<8:=by have:=(emp_bd (row4 n) 0).2;omega
 have e3:upd (row4 n) j5 4=row5 n:=by unfold row5;rw [hj,Int.toNat_natCast]
 have c3:=B5.row.cell j5 hj8
 have f3:=B5.row.free j5
 have B6:=B5.set j5 4
 have D6:=hI (D5.out.set (b:=w.heap.size+1) (i:=j5) hsn (.int .u8 4))
 obtain ⟨V6,hV⟩:∃ V,Y5.setCell ⟨w.heap.size+1,j5,none⟩ (.int .u8 4)=V:=⟨_,rfl⟩
 rw [e3,hV] at B6
 rw [hV] at D6
 rw [hj]
 have HV:=hI hV
 clear e3 hj hV B5 D5
 go_wp2_with (rw [HV.out])
 rw [rounds_succ]
 clear c3 f3 HV
 obtain ⟨i6,r6⟩:=B6.row.rules
 have d6:V6.cell? ⟨s,1,none⟩=some (.int .u8 6):=D6.out.2.2.1
 go_wp2_with fail
 refine (empty_any (row5 n) 0 (by decide) (by decide) _).mono ?_
 rintro e Y6 ⟨rfl,h1⟩
 have B6:=B6.then h1
 have D6:=hI (D6.out.then h1)
 clear h1 i6 r6 d6
 obtain ⟨j6,hj⟩:∃ j:Nat,emp (row5 n) 0=j:=⟨_,(Int.toNat_of_nonneg (emp_bd _ _).1).symm⟩
 have hj8:j6<8:=by have:=(emp_bd (row5 n) 0).2;omega
 have e3:upd (row5 n) j6 6=row6 n:=by unfold row6;rw [hj,Int.toNat_natCast]
 have c3:=B6.row.cell j6 hj8
 have f3:=B6.row.free j6
 have B7:=B6.set j6 6
 have D7:=hI (D6.out.set (b:=w.heap.size+1) (i:=j6) hsn (.int .u8 6))
 obtain ⟨V7,hV⟩:∃ V,Y6.setCell ⟨w.heap.size+1,j6,none⟩ (.int .u8 6)=V:=⟨_,rfl⟩
 rw [e3,hV] at B7
 rw [hV] at D7
 rw [hj]
 have HV:=hI hV
 clear e3 hj hV B6 D6
 go_wp2_with (rw [HV.out])
 rw [rounds_succ]
 clear c3 f3 HV
 obtain ⟨i7,r7⟩:=B7.row.rules
 have d7:V7.cell? ⟨s,2,none⟩=some (.int .u8 4):=D7.out.2.2.2
 go_wp2_with fail
 refine (empty_any (row6 n) 0 (by decide) (by decide) _).mono ?_
 rintro e Y7 ⟨rfl,h1⟩
 have B7:=B7.then h1
 have D7:=hI (D7.out.then h1)
 clear h1 i7 r7 d7
 obtain ⟨j7,hj⟩:∃ j:Nat,emp (row6 n) 0=j:=⟨_,(Int.toNat_of_nonneg (emp_bd _ _).1).symm⟩
 have hj8:j7<8:=by have:=(emp_bd (row6 n) 0).2;omega
 have e3:upd (row6 n) j7 4=row7 n:=by unfold row7;rw [hj,Int.toNat_natCast]
 have c3:=B7.row.cell j7 hj8
 have f3:=B7.row.free j7
 have B8:=B7.set j7 4
 have D8:=hI (D7.out.set (b:=w.heap.size+1) (i:=j7) hsn (.int .u8 4))
 obtain ⟨V8,hV⟩:∃ V,Y7.setCell ⟨w.heap.size+1,j7,none⟩ (.int .u8 4)=V:=⟨_,rfl⟩
 rw [e3,hV] at B8
 rw [hV] at D8
 rw [hj]
 have HV:=hI hV
 clear e3 hj hV B7 D7
 go_wp2_with (rw [HV.out])
 rw [rounds_succ]
 clear c3 f3 HV
 obtain ⟨i8,r8⟩:=B8.row.rules
 go_wp2_with fail
 refine (both_any 1 (by decide) (row7 n) (row7_bd n) _).mono ?_
 rintro e Z ⟨rfl,h1⟩
 have B8:=B8.then h1
 clear h1 i8 r8
 obtain ⟨i1,r1⟩:=B8.res.rules
 go_wp2
 refine bodyPost_ret (v:=.tuple #[.agg (posA (start960N n)),.bool true]) (pos_result2 Tryz.results29 _ _ _ _ _ rfl rfl (B8.res.setRow _)) rfl ⟨rfl,below_setRow B8.below lR _⟩
end Go.Proofs.YteocjaihaegmoaaGreatDoor
