/- Parts of the proof: A2, A3, A4, A5, A6, A8, A9, A7. -/
import Derived.Test.YteocjaihaegmoaaGreatDoorWBG
import Derived.Test.YteocjaihaegmoaaGreatDoorWBH
import Derived.Lib.AppendZerosOnto
import Derived.Lib.SliceRun
set_option linter.unusedVariables false
set_option maxHeartbeats 16000000
set_option maxRecDepth 100000
namespace Go.Proofs.YteocjaihaegmoaaGreatDoor
open Go Go.RowKit
theorem grow_any (k:Nat) (hk:k≤100000) (w:World):Calls Tryz.prog 144 #[.slice none 0 0,.int .i64 (k:Int)] w fun e w' => ∃ v,e=.returned v∧OwnsM w' w.heap.size v []∧Below w.heap.size w w' := by
 obtain ⟨i0,hi,hz0,hz1,hz2⟩:=info_parts infoM
 have d0:decide ((k:Int)<0)=false:=decide_eq_false (by omega)
 by_cases h0:k=0
 · subst h0
   go_enter Tryz.func144,Tryz.ntmps144
   go_wp2
   go_ret
   exact ⟨_,rfl,World.ownsRow_nil _ _ _ _,bR⟩
 · have d1 : decide (0 < (k : Int)) = true := decide_eq_true (by omega)
   have hrz:∀ ty,(Builtin.append_ #[41,3] ty #[.slice none 0 0,.int .i64 (k:Int)]).run Tryz.prog w=_:=fun ty =>
    Lib.run_append_grow_zeros w 41 3 ty 49 i0 (.agg #[.int .i8 0,.int .i8 0,.int .u8 0,.int .u8 0,.bool false]) .i64 .i64 Tryz.underlying41 Tryz.underlying3 hi hz0 none 0 0 [] (run_firstCells_none w.drew i0.size 0 0 0) k (by omega) (by rw [hz1];decide) (by omega) (by omega) (by rw [hz2];omega) (growslice_fits (by omega) (by rw [hz2];omega))
   have hG:=grownCap_ge w (0+k) 0 49
   have hGm:=grownCap_le_maxLen w (0+k) 0 49 (by unfold maxLen;omega)
   generalize grownCap w (0+k) 0 49=G at *
   rw [Nat.zero_add] at hrz hG
   have HO:=hI (show OwnsM (w.drew.alloc (.cells (([]:List Value).toArray ++ Builtin.zeroCells (Value.agg #[.int .i8 0,.int .i8 0,.int .u8 0,.int .u8 0,.bool false]).cells k ++ Builtin.zeroCells (Value.agg #[.int .i8 0,.int .i8 0,.int .u8 0,.int .u8 0,.bool false]).cells (G - k)) 49)) w.heap.size (.slice (some ⟨w.heap.size,0,none⟩) 0 G) [] from
    ⟨rfl,.inr ⟨w.heap.size,_,_,rfl,Nat.le_refl _,heap_alloc_new w.drew _,Nat.zero_le _,hGm,by
     simp only [Array.size_append,List.size_toArray,size_zeroCells,List.length_nil,Nat.zero_add]
     show k*5+(G - k)*5=G*5
     omega,by simp [cellsL]⟩⟩)
   have HBL:=hI (show Below w.heap.size w (w.drew.alloc (.cells (([]:List Value).toArray ++ Builtin.zeroCells (Value.agg #[.int .i8 0,.int .i8 0,.int .u8 0,.int .u8 0,.bool false]).cells k ++ Builtin.zeroCells (Value.agg #[.int .i8 0,.int .i8 0,.int .u8 0,.int .u8 0,.bool false]).cells (G - k)) 49)) from (bD bR).alloc lR _)
   clear hi hz0 hz1 hz2
   have HRZ:=hI hrz
   clear hrz
   obtain ⟨W2,hW2⟩:∃ W2,w.drew.alloc (.cells (([]:List Value).toArray ++ Builtin.zeroCells (Value.agg #[.int .i8 0,.int .i8 0,.int .u8 0,.int .u8 0,.bool false]).cells k ++ Builtin.zeroCells (Value.agg #[.int .i8 0,.int .i8 0,.int .u8 0,.int .u8 0,.bool false]).cells (G - k)) 49)=W2:=⟨_,rfl⟩
   rw [hW2] at HO HBL HRZ
   clear hW2
   go_enter Tryz.func144,Tryz.ntmps144
   go_wp2_with (at_builtin;refine Lib.wpList_append_run _ rfl _ _ _ _ rfl _ _ rfl rfl _ _ (HRZ.out _) ?_)
   go_ret
   exact ⟨_,rfl,HO.out,HBL.out⟩
theorem concat3_any (l1 l2 l3:List Mv) (h1:l1.length≤30000) (h2:l2.length≤30000) (h3:l3.length≤30000) (w:World) (B1 B2 B3:Nat) (v1 v2 v3:Value) (o1:OwnsM w B1 v1 l1) (o2:OwnsM w B2 v2 l2) (o3:OwnsM w B3 v3 l3) (g:Nat) (hg:w.heap[g]?=some (.cells #[v1,v2,v3] 41 (0,0))) :
 Calls Tryz.prog 82 #[.slice (some ⟨g,0,none⟩) 3 3] w fun e w' => ∃ v,e=.returned v∧OwnsM w' w.heap.size v (l1 ++ l2 ++ l3)∧Below w.heap.size w w' := by
 obtain ⟨a1,c1,e1⟩:=o1.len
 obtain ⟨a2,c2,e2⟩:=o2.len
 obtain ⟨a3,c3,e3⟩:=o3.len
 have HG:=hI (fun (W:World) (h:Below w.heap.size w W)=>(show W.cell? ⟨g,0,none⟩=some (.slice a1 l1.length c1)∧W.cell? ⟨g,1,none⟩=some (.slice a2 l2.length c2)∧W.cell? ⟨g,2,none⟩=some (.slice a3 l3.length c3)∧OwnsM W B1 (.slice a1 l1.length c1) l1∧OwnsM W B2 (.slice a2 l2.length c2) l2∧OwnsM W B3 (.slice a3 l3.length c3) l3 from by
  have hb:=(h.block _ (Array.getElem?_eq_some_iff.1 hg).1).trans hg
  refine ⟨?_,?_,?_,by rw [← e1];exact o1.kept h lR,by rw [← e2];exact o2.kept h lR,by rw [← e3];exact o3.kept h lR⟩
  · rw [cell_of_row W _ 0 _ _ _ hb,← e1];rfl
  · rw [cell_of_row W _ 1 _ _ _ hb,← e2];rfl
  · rw [cell_of_row W _ 2 _ _ _ hb,← e3];rfl))
 clear hg o1 o2 o3 e1 e2 e3
 obtain ⟨k1,k2,k3,_,_,_⟩:=HG.out w bR
 have HGR:=hI (grow_any (l1.length+l2.length+l3.length) (by omega))
 rw [show ((l1.length+l2.length+l3.length:Nat):Int)=(l1.length:Int)+(l2.length:Int)+(l3.length:Int) by omega] at HGR
 go_enter Tryz.func82,Tryz.ntmps82
 go_wp2
 refine wp_loop_rounds 4 ?_
 rw [rounds_succ]
 go_wp2
 rw [rounds_succ]
 go_wp2
 rw [rounds_succ]
 go_wp2
 rw [rounds_succ]
 go_wp2_with fail
 refine (HGR.out _).mono ?_
 rintro e w1 ⟨d0,rfl,od,hR⟩
 have hs:=hR.size
 obtain ⟨k1,k2,k3,o1,o2,o3⟩:=HG.out _ hR
 go_wp2
 refine wp_loop_rounds 4 ?_
 rw [rounds_succ]
 go_wp2_with (at_builtin;refine wpList_append_mvs rfl _ _ rfl w.heap.size B1 d0 (.slice a1 l1.length c1) [] l1 rfl od rfl o1 (by simp;omega) hs ?_;intro d1 w2 od1 hg1)
 have hR1:=hR.grown hg1 hR.size (fun k e=>(od.row e).1)
 have hs1:=hR1.size
 clear k1 k2 k3 o1 o2 o3 od hg1 hR hs
 obtain ⟨k1,k2,k3,o1,o2,o3⟩:=HG.out _ hR1
 rw [rounds_succ]
 go_wp2_with (at_builtin;refine wpList_append_mvs rfl _ _ rfl w.heap.size B2 d1 (.slice a2 l2.length c2) ([] ++ l1) l2 rfl od1 rfl o2 (by simp;omega) hs1 ?_;intro d2 w3 od2 hg2)
 have hR2:=hR1.grown hg2 hR1.size (fun k e=>(od1.row e).1)
 have hs2:=hR2.size
 clear k1 k2 k3 o1 o2 o3 od1 hg2 hR1 hs1
 obtain ⟨k1,k2,k3,o1,o2,o3⟩:=HG.out _ hR2
 rw [rounds_succ]
 go_wp2_with (at_builtin;refine wpList_append_mvs rfl _ _ rfl w.heap.size B3 d2 (.slice a3 l3.length c3) ([] ++ l1 ++ l2) l3 rfl od2 rfl o3 (by simp;omega) hs2 ?_;intro d3 w4 od3 hg3)
 have hR3:=hR2.grown hg3 hR2.size (fun k e=>(od2.row e).1)
 clear k1 k2 k3 o1 o2 o3 od2 hg3 hR2 hs2
 rw [rounds_succ]
 go_wp2
 go_ret
 exact ⟨_,rfl,od3,hR3⟩
theorem bl_new7 {X W:World} (h:Below X.heap.size X W) {o:Obj}:Below X.heap.size X (W.alloc o):=h.alloc h.size _
theorem OwnsM.alloc {w:World} {B:Nat} {v:Value} {l:List Mv} (h:OwnsM w B v l) (o:Obj):OwnsM (w.alloc o) B v l:=World.ownsRow.alloc h o
theorem aall_any (n:Nat→Int) (hn:PosOk n) (t:Int) (ht:n 78=t) (h01:t=0∨t=1) (hv:n 0<9) (w:World) (hT:Tab w):Calls Tryz.prog 32 #[.agg (posA n)] w fun e w' => ∃ v,e=.returned v∧OwnsM w' w.heap.size v (allL n)∧Below w.heap.size w w' := by
 obtain ⟨X,hX⟩:∃ X,w.alloc (.cells (posA n) 31)=X:=⟨_,rfl⟩
 obtain ⟨p0,hb⟩:=box1 w n X hX
 have HX:=hI hX
 have HB:=hI hb
 have HT:=hI (hT.below hb lR)
 have HGB:=hI (fun (W:World) (h:Below X.heap.size X W)=>(show (IsPos W w.heap.size∧rowOf W w.heap.size=posA n)∧Below X.heap.size X W from ⟨(p0.below h p0.lt).rules,h⟩))
 obtain ⟨z0,z1⟩:=hn.u8 0 (by decide) rfl
 have HL1:=hI (fun w hT=>plist_any n hn t ht h01 hv w hT)
 have HL2:=hI (fun w hT=>clist_any n hn t ht h01 w hT)
 have HL3:=hI (fun w hT=>dl_any n hn (n 0).toNat (n 78).toNat (by omega) (by omega) (by omega) w hT)
 have hl1:(pseudoL n).length≤30000:=Nat.le_trans (pseudo_len n) (by decide)
 have hl2:(castleL n).length≤30000:=Nat.le_trans (castleL_len n) (by decide)
 have hl3:(dropL n (n 0).toNat (n 78).toNat).length≤30000:=Nat.le_trans (dropL_len n _ _) (by decide)
 have HD:=hI (show allL n=pseudoL n ++ castleL n ++ dropL n (n 0).toNat (n 78).toNat by unfold allL;rw [pseuL_is (by omega) hv])
 clear hX p0 hb hT
 generalize pseudoL n=l1 at *
 generalize castleL n=l2 at *
 generalize dropL n (n 0).toNat (n 78).toNat=l3 at *
 obtain ⟨⟨q0,r0⟩,_⟩:=HGB.out X bR
 go_enter Tryz.func32,Tryz.ntmps32
 go_wp2_with (first | rw [HX.out])
 refine wp_region_held_drew (S:=(fun W=>(IsPos W w.heap.size∧rowOf W w.heap.size=posA n)∧Below X.heap.size X W)) (by kernel_rfl) ?_ (fun hHeld=>?_)
 · (try dsimp only);(refine HGB.out _ ?_;repeat (first | exact bR | assumption | refine bD ?_ | refine bT ?_ (by assumption) | refine bl_new7 ?_))
 refine wpAnyH_take (i:=0) (oi:={ dst:=some 3,op:=Op.load 31 (Operand.tmp 1),type:=31,pos := "after.go:20",after:=#[],guard:=none }) (v:=?_) rfl (by kernel_rfl) (by kernel_rfl) (by kernel_rfl) (fun _ _ _ h=>h) (Or.inl ⟨by rfl,?_⟩) (by assumption) ?_
 rotate_left
 · (intro w hSw;(try dsimp only at hSw);go_simp;try (with_reducible rfl))
 try simp only [Act.put,lA,lB,lC]
 refine wpAnyH_take (i:=2) (oi:={ dst:=some 5,op:=Op.load 31 (Operand.tmp 1),type:=31,pos := "after.go:20",after:=#[],guard:=none }) (v:=?_) rfl (by kernel_rfl) (by kernel_rfl) (by kernel_rfl) (fun _ _ _ h=>h) (Or.inl ⟨by rfl,?_⟩) (by assumption) ?_
 rotate_left
 · (intro w hSw;(try dsimp only at hSw);go_simp;try (with_reducible rfl))
 try simp only [Act.put,lA,lB,lC]
 refine wpAnyH_take (i:=4) (oi:={ dst:=some 7,op:=Op.load 31 (Operand.tmp 1),type:=31,pos := "after.go:20",after:=#[],guard:=none }) (v:=?_) rfl (by kernel_rfl) (by kernel_rfl) (by kernel_rfl) (fun _ _ _ h=>h) (Or.inl ⟨by rfl,?_⟩) (by assumption) ?_
 rotate_left
 · (intro w hSw;(try dsimp only at hSw);go_simp;try (with_reducible rfl))
 try simp only [Act.put,lA,lB,lC]
 refine wpAnyH_ready (rs:=[1]) (by kernel_rfl) (by simp) ?_
 refine AllReadyH.cons (o:={ dst:=some 4,op:=Op.call { callee:=Callee.value (Operand.func 83),args:=#[Operand.tmp 3],argTypes:=#[31] },type:=41,pos := "after.go:20",after:=#[{ on:=0,ground:=Ground.data }],guard:=none }) rfl (fun K hK=>?_) AllReadyH.nil
 go_simp
 refine (HL1.out _ (HT.out.below (And.right ‹(IsPos _ _∧_)∧_›) lR)).mono ?_
 rintro e wa ⟨v1,rfl,o1,hba⟩
 obtain ⟨a1,c1,rfl⟩:=o1.len
 refine hK.out _ _ ?_ (fun hHeld=>?_)
 · (try dsimp only);(refine HGB.out _ ?_;repeat (first | exact bR | assumption | refine bD ?_ | refine bT ?_ (by assumption) | refine bl_new7 ?_))
 clear hK K
 try simp only [Act.put,lA,lB,lC]
 refine wpAnyH_ready (rs:=[3]) (by kernel_rfl) (by simp) ?_
 refine AllReadyH.cons (o:={ dst:=some 6,op:=Op.call { callee:=Callee.value (Operand.func 84),args:=#[Operand.tmp 5],argTypes:=#[31] },type:=41,pos := "after.go:20",after:=#[{ on:=2,ground:=Ground.data },{ on:=1,ground:=Ground.chain }],guard:=none }) rfl (fun K hK=>?_) AllReadyH.nil
 go_simp
 refine (HL2.out _ (HT.out.below (And.right ‹(IsPos _ _∧_)∧_›) lR)).mono ?_
 rintro e wb ⟨v2,rfl,o2,hbb⟩
 obtain ⟨a2,c2,rfl⟩:=o2.len
 refine hK.out _ _ ?_ (fun hHeld=>?_)
 · (try dsimp only);(refine HGB.out _ ?_;repeat (first | exact bR | assumption | refine bD ?_ | refine bT ?_ (by assumption) | refine bl_new7 ?_))
 clear hK K
 try simp only [Act.put,lA,lB,lC]
 refine wpAnyH_ready (rs:=[5]) (by kernel_rfl) (by simp) ?_
 refine AllReadyH.cons (o:={ dst:=some 8,op:=Op.call { callee:=Callee.value (Operand.func 85),args:=#[Operand.tmp 7],argTypes:=#[31] },type:=41,pos := "after.go:20",after:=#[{ on:=4,ground:=Ground.data },{ on:=3,ground:=Ground.chain }],guard:=none }) rfl (fun K hK=>?_) AllReadyH.nil
 go_simp
 refine (HL3.out _ (HT.out.below (And.right ‹(IsPos _ _∧_)∧_›) lR)).mono ?_
 rintro e wc ⟨v3,rfl,o3,hbc⟩
 obtain ⟨a3,c3,rfl⟩:=o3.len
 refine hK.out _ _ ?_ (fun hHeld=>?_)
 · (try dsimp only);(refine HGB.out _ ?_;repeat (first | exact bR | assumption | refine bD ?_ | refine bT ?_ (by assumption) | refine bl_new7 ?_))
 clear hK K
 try simp only [Act.put,lA,lB,lC]
 refine wpAnyH_ready (rs:=[6]) (by kernel_rfl) (by simp) ?_
 refine AllReadyH.cons (o:={ dst:=some 9,op:=Op.buildSlice 155 3 #[(0,Operand.tmp 4),(1,Operand.tmp 6),(2,Operand.tmp 8)],type:=155,pos := "after.go:20",after:=#[{ on:=1,ground:=Ground.data },{ on:=3,ground:=Ground.data },{ on:=5,ground:=Ground.data }],guard:=none }) rfl (fun K hK=>?_) AllReadyH.nil
 go_simp
 refine hK.out _ _ ?_ (fun hHeld=>?_)
 · (try dsimp only);(refine HGB.out _ ?_;repeat (first | exact bR | assumption | refine bD ?_ | refine bT ?_ (by assumption) | refine bl_new7 ?_))
 clear hK K
 try simp only [Act.put,lA,lB,lC]
 refine wpAnyH_ready (rs:=[7]) (by kernel_rfl) (by simp) ?_
 refine AllReadyH.cons (o:={ dst:=some 10,op:=Op.call { callee:=Callee.value (Operand.func 82),args:=#[Operand.tmp 9],argTypes:=#[155] },type:=41,pos := "after.go:20",after:=#[{ on:=6,ground:=Ground.data },{ on:=5,ground:=Ground.chain }],guard:=none }) rfl (fun K hK=>?_) AllReadyH.nil
 go_simp
 have HCC:=concat3_any _ _ _ hl1 hl2 hl3 (wc.alloc (.cells #[.slice a1 l1.length c1,.slice a2 l2.length c2,.slice a3 l3.length c3] 41)) _ _ _ _ _ _ (((o1.kept hbb lR).kept hbc lR).alloc _) ((o2.kept hbc lR).alloc _) (o3.alloc _) wc.heap.size (World.alloc_heap_new wc _)
 refine HCC.mono ?_
 rintro e wd ⟨v4,rfl,o4,hbd⟩
 refine hK.out _ _ ?_ (fun hHeld=>?_)
 · (try dsimp only);(refine HGB.out _ ?_;repeat (first | exact bR | assumption | refine bD ?_ | refine bT ?_ (by assumption) | refine bl_new7 ?_))
 clear hK K
 try simp only [Act.put,lA,lB,lC]
 refine wpAnyH_take (i:=8) (oi:={ dst:=some 2,op:=Op.assign (Operand.tmp 10),type:=41,pos := "after.go:20",after:=#[{ on:=7,ground:=Ground.data },{ on:=7,ground:=Ground.chain },{ on:=0,ground:=Ground.phase },{ on:=1,ground:=Ground.phase },{ on:=2,ground:=Ground.phase },{ on:=3,ground:=Ground.phase },{ on:=4,ground:=Ground.phase },{ on:=5,ground:=Ground.phase },{ on:=6,ground:=Ground.phase },{ on:=7,ground:=Ground.phase }],guard:=none }) (v:=?_) rfl (by kernel_rfl) (by kernel_rfl) (by kernel_rfl) (fun _ _ _ h=>h) (Or.inl ⟨by rfl,?_⟩) (by assumption) ?_
 rotate_left
 · (intro w hSw;(try dsimp only at hSw);go_simp;try (with_reducible rfl))
 try simp only [Act.put,lA,lB,lC]
 refine wpAnyH_done (by kernel_rfl) ?_ _
 have hR:=bT (bl_new7 (bT (bT (bT (bD (Below.refl X.heap.size X)) hba) hbb) hbc)) hbd
 have HO:=hI (show OwnsM wd w.heap.size v4 (allL n) from by rw [HD.out];exact o4.less (Nat.le_trans HB.out.size (by have:=hbc.size;have:=hbb.size;have:=hba.size;simp at *;omega)))
 clear o1 o2 o3 o4 hba hbb hbc hbd
 go_wp2
 go_ret
 exact ⟨_,rfl,HO.out,HB.out.trans (hR.mono HB.out.size)⟩
theorem more_any (x:Int) (x0:-9223372036854775808≤x) (x1:x≤9223372036854775807) (w:World):Calls Tryz.prog 100 #[.int .i64 x] w fun e w' => e = .returned (.int .i64 (moreI x))∧w=w' := by
 by_cases h:10000≤x
 · have HR := hideIt (show moreI x = x from if_pos h)
   have d:decide (10000≤x)=true:=decide_eq_true h
   go_enter Tryz.func100,Tryz.ntmps100
   go_wp2
   go_ret
   exact ⟨ret_int HR.out.symm,rfl⟩
 · have HR := hideIt (show moreI x = x + 1 from if_neg h)
   have d:decide (10000≤x)=false:=decide_eq_false h
   go_enter Tryz.func100,Tryz.ntmps100
   go_wp2
   go_ret
   exact ⟨ret_int HR.out.symm,rfl⟩
theorem more16_any (x:Int) (x0:-9223372036854775808≤x) (x1:x≤9223372036854775807) (w:World):Calls Tryz.prog 110 #[.int .i64 x] w fun e w' => e = .returned (.int .i64 (moreI x))∧w=w' := by
 by_cases h:10000≤x
 · have HR := hideIt (show moreI x = x from if_pos h)
   have d:decide (10000≤x)=true:=decide_eq_true h
   go_enter Tryz.func110,Tryz.ntmps110
   go_wp2
   go_ret
   exact ⟨ret_int HR.out.symm,rfl⟩
 · have HR := hideIt (show moreI x = x + 1 from if_neg h)
   have d:decide (10000≤x)=false:=decide_eq_false h
   go_enter Tryz.func110,Tryz.ntmps110
   go_wp2
   go_ret
   exact ⟨ret_int HR.out.symm,rfl⟩
theorem has16_any (b:BitVec 64) (s:Int) (s0:0≤s) (s1:s<64) (w:World):Calls Tryz.prog 107 #[.int .u64 (u b),.int .i64 s] w fun e w' => e = .returned (.bool (hasB b s))∧w=w' := by
 have hz:=bit_test b s0 s1
 go_enter Tryz.func107,Tryz.ntmps107
 go_wp2
 go_ret
 exact ⟨rB (by first | exact hz | rfl),rfl⟩
def blownP (q:Nat→Int) (s a:Int):Bool:=(a==s) || (hasB (kingB a) s&&!(kndI (q (1+a.toNat))==0)&&!(kndI (q (1+a.toNat))==1))
theorem blown_is (q:Nat→Int) (s:Int) (s0:0≤s) (s1:s<64):selB (blownP q s) 64=blownB q s:=by
 apply ext_has
 intro k hk
 rw [has_selB _ _ (by omega) 64 lR,decide_eq_true (show ((k:Nat):Int)<((64:Nat):Int) by omega),Bool.true_and]
 have h1:hasB (oneB s) (k:Int)=((k:Int)==s):=by rw [has_one,Bool.eq_iff_iff,decide_eq_true_iff,beq_iff_eq];omega
 unfold blownB blownP
 rw [has_or,has_andNot,has_andNot,has_and,has_all q _ (by omega) (by omega),has_of q _ _ _ (by omega) (by omega),has_of q _ _ _ (by omega) (by omega),h1,kingT (a:=(k:Int)) (b:=s) (by omega) (by omega) s0 s1]
 generalize ((k:Int)==s)=x5
 cases hi:isB (q (1+((k:Nat):Int).toNat)) with
 | false =>
   rw [knd_none hi]
   cases x5 <;> simp
 | true =>
   have hk0:=knd_pos hi
   have e0:(kndI (q (1+((k:Nat):Int).toNat))==0)=false:=beq_eq_false_iff_ne.2 (by omega)
   have ep:∀ x:Int,isB x=true→(!(ofP 0 1 x)&&!(ofP 1 1 x))=!(kndI x==1):=by
    intro x hx
    unfold ofP
    rcases isB_cases hx with ⟨_,_,hc,_⟩ | ⟨_,_,hc,_⟩ <;> rw [hc] <;> cases (kndI x==1) <;> rfl
   have:=ep _ hi
   rw [e0]
   clear ep e0 hk0 h1
   generalize ofP 0 1 (q (1+((k:Nat):Int).toNat))=x1 at *
   generalize ofP 1 1 (q (1+((k:Nat):Int).toNat))=x2 at *
   generalize (kndI (q (1+((k:Nat):Int).toNat))==1)=x3 at *
   generalize hasB (kingB s) (k:Int)=x4 at *
   revert this
   cases x1 <;> cases x2 <;> cases x3 <;> cases x4 <;> cases x5 <;> decide
theorem blown_any (q:Nat→Int) (hq:PosOk q) (s:Int) (s0:0≤s) (s1:s<64) (w:World):Calls Tryz.prog 95 #[.agg (posA q),.int .i64 s] w fun e w' => e = .returned (.int .u64 (u (blownB q s)))∧Below w.heap.size w w' := by
 obtain ⟨X,hX⟩:∃ X,w.alloc (.cells (posA q) 31)=X:=⟨_,rfl⟩
 obtain ⟨p0,hb⟩:=box1 w q X hX
 have HX:=hI hX
 have HB:=hI hb
 have HGB:=hI (fun (W:World) (h:Below X.heap.size X W)=>(show (IsPos W w.heap.size∧rowOf W w.heap.size=posA q)∧Below X.heap.size X W from ⟨(p0.below h p0.lt).rules,h⟩))
 obtain ⟨⟨q0,r0⟩,_⟩:=HGB.out X bR
 have d1:decide (s<0)=false:=decide_eq_false (by omega)
 have d2:decide (64≤s)=false:=decide_eq_false (by omega)
 have HD:=hI (show blownB q s=((kingB s&&&allN q)&&&~~~ofN q 0 1&&&~~~ofN q 1 1) ||| oneB s from rfl)
 have hpw:=pow_oneB s s0 s1
 clear hX p0 hb
 go_enter Tryz.func95,Tryz.ntmps95
 go_wp2_with (first | rw [HX.out])
 refine wp_region_held_drew (S:=(fun W=>(IsPos W w.heap.size∧rowOf W w.heap.size=posA q)∧Below X.heap.size X W)) (by kernel_rfl) ?_ (fun hHeld=>?_)
 · (try dsimp only);(refine HGB.out _ ?_;repeat (first | exact bR | assumption | refine bD ?_ | refine bT ?_ (by assumption)))
 refine wpAnyH_take (i:=0) (oi:={ dst:=some 13,op:=Op.move (Operand.tmp 1),type:=3,pos := "after.go:28",after:=#[],guard:=none }) (v:=?_) rfl (by kernel_rfl) (by kernel_rfl) (by kernel_rfl) (fun _ _ _ h=>h) (Or.inl ⟨by rfl,?_⟩) (by assumption) ?_
 rotate_left
 · (intro w hSw;(try dsimp only at hSw);go_simp;try (with_reducible rfl))
 try simp only [Act.put,lA,lB,lC]
 refine wpAnyH_take (i:=2) (oi:={ dst:=some 15,op:=Op.load 31 (Operand.tmp 2),type:=31,pos := "after.go:28",after:=#[],guard:=none }) (v:=?_) rfl (by kernel_rfl) (by kernel_rfl) (by kernel_rfl) (fun _ _ _ h=>h) (Or.inl ⟨by rfl,?_⟩) (by assumption) ?_
 rotate_left
 · (intro w hSw;(try dsimp only at hSw);go_simp;try (with_reducible rfl))
 try simp only [Act.put,lA,lB,lC]
 refine wpAnyH_ready (rs:=[1]) (by kernel_rfl) (by simp) ?_
 refine AllReadyH.cons (o:={ dst:=some 14,op:=Op.call { callee:=Callee.value (Operand.func 124),args:=#[Operand.tmp 13],argTypes:=#[3] },type:=23,pos := "after.go:28",after:=#[{ on:=0,ground:=Ground.data }],guard:=none }) rfl (fun K hK=>?_) AllReadyH.nil
 go_simp
 refine (king_any s _).mono ?_
 rintro e wa ⟨rfl,hba⟩
 refine hK.out _ _ ?_ (fun hHeld=>?_)
 · (try dsimp only);(refine HGB.out _ ?_;repeat (first | exact bR | assumption | refine bD ?_ | refine bT ?_ (by assumption)))
 clear hK K
 try simp only [Act.put,lA,lB,lC]
 refine wpAnyH_ready (rs:=[3]) (by kernel_rfl) (by simp) ?_
 refine AllReadyH.cons (o:={ dst:=some 16,op:=Op.call { callee:=Callee.value (Operand.func 149),args:=#[Operand.tmp 15],argTypes:=#[31] },type:=23,pos := "after.go:28",after:=#[{ on:=2,ground:=Ground.data },{ on:=1,ground:=Ground.chain }],guard:=none }) rfl (fun K hK=>?_) AllReadyH.nil
 go_simp
 refine (ball_any q hq _).mono ?_
 rintro e wb ⟨rfl,hbb⟩
 refine hK.out _ _ ?_ (fun hHeld=>?_)
 · (try dsimp only);(refine HGB.out _ ?_;repeat (first | exact bR | assumption | refine bD ?_ | refine bT ?_ (by assumption)))
 clear hK K
 try simp only [Act.put,lA,lB,lC]
 refine wpAnyH_take (i:=4) (oi:={ dst:=some 17,op:=Op.binOp BinOp.and 23 (Operand.tmp 14) (Operand.tmp 16) 23,type:=23,pos := "after.go:28",after:=#[{ on:=1,ground:=Ground.data },{ on:=3,ground:=Ground.data }],guard:=none }) (v:=?_) rfl (by kernel_rfl) (by kernel_rfl) (by kernel_rfl) (fun _ _ _ h=>h) (Or.inl ⟨by rfl,?_⟩) (by assumption) ?_
 rotate_left
 · (intro w hSw;(try dsimp only at hSw);go_simp;try (with_reducible rfl))
 try simp only [Act.put,lA,lB,lC]
 refine wpAnyH_take (i:=5) (oi:={ dst:=some 5,op:=Op.assign (Operand.tmp 17),type:=23,pos := "after.go:28",after:=#[{ on:=4,ground:=Ground.data },{ on:=3,ground:=Ground.chain },{ on:=0,ground:=Ground.phase },{ on:=1,ground:=Ground.phase },{ on:=2,ground:=Ground.phase },{ on:=3,ground:=Ground.phase },{ on:=4,ground:=Ground.phase }],guard:=none }) (v:=?_) rfl (by kernel_rfl) (by kernel_rfl) (by kernel_rfl) (fun _ _ _ h=>h) (Or.inl ⟨by rfl,?_⟩) (by assumption) ?_
 rotate_left
 · (intro w hSw;(try dsimp only at hSw);go_simp;try (with_reducible rfl))
 try simp only [Act.put,lA,lB,lC]
 refine wpAnyH_done (by kernel_rfl) ?_ _
 have hR:=bT (bT (bD (Below.refl X.heap.size X)) hba) hbb
 obtain ⟨⟨q0,r0⟩,_⟩:=HGB.out _ hR
 clear hba hbb
 go_wp2
 refine wp_loop_rounds 3 ?_
 rw [rounds_succ]
 go_wp2_with fail
 refine (of_any q hq 0 1 _).mono ?_
 rintro e w3 ⟨rfl,h1⟩
 have hR:=bT hR h1
 clear h1 q0 r0
 obtain ⟨⟨q0,r0⟩,_⟩:=HGB.out _ hR
 go_wp2
 rw [rounds_succ]
 go_wp2_with fail
 refine (of_any q hq 1 1 _).mono ?_
 rintro e w4 ⟨rfl,h1⟩
 have hR:=bT hR h1
 clear h1 q0 r0
 go_wp2
 rw [rounds_succ]
 go_wp2
 go_ret
 exact ⟨ret_u (by rw [HD.out]),HB.out.trans (hR.mono HB.out.size)⟩
theorem blown16_any (q:Nat→Int) (hq:PosOk q) (s:Int) (s0:0≤s) (s1:s<64) (w:World):Calls Tryz.prog 106 #[.agg (posA q),.int .i64 s] w fun e w' => e = .returned (.int .u64 (u (blownB q s)))∧Below w.heap.size w w' := by
 obtain ⟨X,hX⟩:∃ X,w.alloc (.cells (posA q) 31)=X:=⟨_,rfl⟩
 obtain ⟨p0,hb⟩:=box1 w q X hX
 have HX:=hI hX
 have HP:=hI p0
 have d1:decide (0≤s)=true:=decide_eq_true s0
 have d2:decide (s<64)=true:=decide_eq_true s1
 have HE:=hI (blown_is q s s0 s1)
 clear hX p0
 go_enter Tryz.func106,Tryz.ntmps106
 go_wp2_with (first | rw [HX.out])
 go_loopw [5,6] (fun b i wr=>∃ j:Nat,j≤64∧i=.int .i64 j∧b=.int .u64 (u (selB (blownP q s) j))∧wr=X) (fun _ i _=>64 - (intOf i).toNat)
 case atStart=>exact ⟨0,by omega,rfl,rfl,rfl⟩
 case round =>
  obtain ⟨j,hj,rfl,rfl,rfl⟩:=hrel
  by_cases hlt:j<64
  · have cb := HP.out.board (1 + j) (by omega)
    obtain ⟨x0,x1⟩:=hq.u8 (1+j) (by omega) (kB (by omega))
    have HPP:=hI (show blownP q s (j:Int)=(((j:Int)==s) || (hasB (kingB (j:Int)) s&&!(kndI (q (1+j))==0)&&!(kndI (q (1+j))==1))) from rfl)
    have HYS:=hI (selB_yes (blownP q s) j)
    have HNO:=hI (selB_no (blownP q s) j)
    have HBE:=hI (beside_any (j:Int) s (by omega) (by omega) s0 s1)
    have HKD:=hI (k8_any _ x0 x1)
    have hj64:(j:Int)<64:=by omega
    generalize hb2:selB (blownP q s) j=acc at HYS HNO
    clear hb2
    have HW:=hI (show IntKind.u64.wrap (2 ^ j)=u (oneB (j:Int)) from pow_oneB (j:Int) (by omega) hj64)
    generalize q (1+j)=x at *
    cases e1:((j:Int)==s) with
    | true =>
      have HN:=hI (HYS.out (by rw [HPP.out,e1];rfl))
      clear HPP HYS HNO
      have hw:=HW.out
      go_wp2_with (first | (go_at_call 63;refine (HKD.out _).mono ?_;rintro e w2 ⟨rfl,rfl⟩) | (go_at_call 131;refine (HBE.out _).mono ?_;rintro e w2 ⟨rfl,rfl⟩))
      go_roundw
      case rel=>exact ⟨j+1,by omega,by go_num,by rw [HN.out];unfold putB;rfl,trivial⟩
      case measure=>simp [intOf];omega
    | false =>
      cases e2:hasB (kingB (j:Int)) s with
      | false =>
        rw [e2] at HBE
        have HN:=hI (HNO.out (by rw [HPP.out,e1,e2];rfl))
        clear HPP HYS HNO
        go_wp2_with (first | (go_at_call 63;refine (HKD.out _).mono ?_;rintro e w2 ⟨rfl,rfl⟩) | (go_at_call 131;refine (HBE.out _).mono ?_;rintro e w2 ⟨rfl,rfl⟩))
        go_roundw
        case rel=>exact ⟨j+1,by omega,by go_num,by rw [HN.out],trivial⟩
        case measure=>simp [intOf];omega
      | true =>
        rw [e2] at HBE
        cases e3:(kndI x==0) with
        | true =>
          have e3b:(kndI x != 0)=false:=by rw [bne,e3];rfl
          have HN:=hI (HNO.out (by rw [HPP.out,e1,e2,e3];rfl))
          clear HPP HYS HNO
          go_wp2_with (first | (go_at_call 63;refine (HKD.out _).mono ?_;rintro e w2 ⟨rfl,rfl⟩) | (go_at_call 131;refine (HBE.out _).mono ?_;rintro e w2 ⟨rfl,rfl⟩))
          go_roundw
          case rel=>exact ⟨j+1,by omega,by go_num,by rw [HN.out],trivial⟩
          case measure=>simp [intOf];omega
        | false =>
          have e3b:(kndI x != 0)=true:=by rw [bne,e3];rfl
          cases e4:(kndI x==1) with
          | true =>
            have e4b:(kndI x != 1)=false:=by rw [bne,e4];rfl
            have HN:=hI (HNO.out (by rw [HPP.out,e1,e2,e3,e4];rfl))
            clear HPP HYS HNO
            go_wp2_with (first | (go_at_call 63;refine (HKD.out _).mono ?_;rintro e w2 ⟨rfl,rfl⟩) | (go_at_call 131;refine (HBE.out _).mono ?_;rintro e w2 ⟨rfl,rfl⟩))
            go_roundw
            case rel=>exact ⟨j+1,by omega,by go_num,by rw [HN.out],trivial⟩
            case measure=>simp [intOf];omega
          | false =>
            have e4b:(kndI x != 1)=true:=by rw [bne,e4];rfl
            have HN:=hI (HYS.out (by rw [HPP.out,e1,e2,e3,e4];rfl))
            clear HPP HYS HNO
            have hw:=HW.out
            go_wp2_with (first | (go_at_call 63;refine (HKD.out _).mono ?_;rintro e w2 ⟨rfl,rfl⟩) | (go_at_call 131;refine (HBE.out _).mono ?_;rintro e w2 ⟨rfl,rfl⟩))
            go_roundw
            case rel=>exact ⟨j+1,by omega,by go_num,by rw [HN.out];unfold putB;rfl,trivial⟩
            case measure=>simp [intOf];omega
  · obtain rfl : j = 64 := by omega
    have HE2:=hI (show u (selB (blownP q s) 64)=u (blownB q s) by rw [HE.out])
    go_wp2
    go_ret
    exact ⟨ret_u HE.out,hb⟩
/-- The reference's way: an enemy pawn on a that hits b. -/
theorem hit_pawn {q:Nat→Int} {t s b:Int} (h01:t=0∨t=1) (s0:0≤s) (s1:s<64) (b0:0≤b) (b1:b<64) (h:isN q s (1 - t) 1=true):hitI (q (1+s.toNat)) s b (allN q)=hasB (pawnB t b) s:=by
 unfold isN at h
 rw [Bool.and_eq_true,beq_iff_eq,beq_iff_eq] at h
 have hi:isB (q (1+s.toNat))=true:=by
  cases hi:isB (q (1+s.toNat)) with
  | true=>rfl
  | false=>have:=knd_none hi;omega
 rw [hit_kind h.1,col_div hi,h.2]
 exact atk_turn s0 s1 b0 b1 1 t h01 (allN q)
theorem pass_some {q:Nat→Int} {t b a:Int} (a0:0≤a) (a1:a<64) (h1:isN q a (1 - t) 1=true) (h2:hasB (pawnB t b) a=true):(pawnB t b&&&ofN q (1 - t) 1==0#64)=false:=by
 rw [isN_of q a (1 - t) 1 (by decide) a0 a1] at h1
 rw [beq_eq_false_iff_ne]
 intro e
 have:=congrArg (fun x=>hasB x a) e
 rw [has_and,h1,h2,has_zero] at this
 cases this
theorem pass_none {q:Nat→Int} {t b:Int} (h:∀ j:Nat,j<64→(isN q (j:Int) (1 - t) 1&&hasB (pawnB t b) (j:Int))=false):(pawnB t b&&&ofN q (1 - t) 1==0#64)=true:=by
 rw [beq_iff_eq]
 apply ext_has
 intro k hk
 rw [has_and,has_zero,← isN_of q (k:Int) (1 - t) 1 (by decide) (by omega) (by omega),Bool.and_comm]
 exact h k hk
theorem pass_no {n q:Nat→Int} {m:Mv} (h:movK n m≠1∨m.d≠0∨(m.t - m.f≠16∧m.f - m.t≠16)):passI n q m=-1:=if_pos h
theorem pass_far {n q:Nat→Int} {m:Mv} (h:m.f / 8≠7*n 78+1∧m.f / 8≠7*n 78 - 1):passI n q m=-1:=by
 unfold passI
 split
 · rfl
 · first | rfl | exact if_pos h
theorem pass_yes {n q:Nat→Int} {m:Mv} {t b:Int} (ht:n 78=t) (h1:movK n m=1) (h2:m.d=0) (h3:m.t - m.f=16∨m.f - m.t=16) (h4:m.f / 8=7*t+1∨m.f / 8=7*t - 1) (hb:(m.f+m.t) / 2=b) :
 passI n q m=if (pawnB t b&&&ofN q (1 - t) 1==0#64)=true then -1 else b:=by
 unfold passI
 rw [if_neg (by omega),if_neg (by rw [ht];omega),hb,ht]
def box3 (n q:Nat→Int) (m:Mv) (w:World):World:=((w.alloc (.cells (posA n) 31)).alloc (.cells (posA q) 31)).alloc (.cells #[.int .i8 m.f,.int .i8 m.t,.int .u8 m.p,.int .u8 m.d,.bool m.c] 49)
theorem box3_at (n q:Nat→Int) (m:Mv) (w X:World) (h:box3 n q m w=X):PosAt X w.heap.size n∧PosAt X (w.heap.size+1) q∧X.heap[w.heap.size+2]?=some (.cells m.cells.toArray 49 (0,0))∧Below w.heap.size w X:=by
 obtain ⟨X0,hX0⟩:∃ X0,(w.alloc (.cells (posA n) 31)).alloc (.cells (posA q) 31)=X0:=⟨_,rfl⟩
 obtain ⟨p0,p1,hb⟩:=box2 w n q X0 hX0
 have hs:X0.heap.size=w.heap.size+2:=by rw [← hX0];simp
 unfold box3 at h
 rw [hX0] at h
 obtain ⟨q0,hb1⟩:=mvBox_at h
 rw [hs] at q0
 exact ⟨p0.below hb1 p0.lt,p1.below hb1 p1.lt,q0,hb.trans (hb1.mono hb.size)⟩
theorem pass16_any (n q:Nat→Int) (hn:PosOk n) (hq:PosOk q) (t:Int) (ht:n 78=t) (h01:t=0∨t=1) (m:Mv) (f0:0≤m.f) (f1:m.f<64) (t0:0≤m.t) (t1:m.t<64) (hcc:m.c=true→kndI (n (1+m.f.toNat))≠1) (w:World):Calls Tryz.prog 109 #[.agg (posA n),.agg (posA q),.agg #[.int .i8 m.f,.int .i8 m.t,.int .u8 m.p,.int .u8 m.d,.bool m.c]] w fun e w' => e = .returned (.int .i8 (passI n q m))∧Below w.heap.size w w' := by
 obtain ⟨mf,mt,mp,md,mc⟩:=m
 dsimp only at f0 f1 t0 t1 hcc ⊢
 have w1:=IntWalk.u8_in (1 - t) (by omega)
 have w2:=IntWalk.i64_in (mf+(8 - 16*t)) (by omega)
 have w3:=IntWalk.i64_in (2*(8 - 16*t)) (by omega)
 have w4:=IntWalk.i64_in (mf+2*(8 - 16*t)) (by omega)
 obtain ⟨X,hX⟩:∃ X,box3 n q ⟨mf,mt,mp,md,mc⟩ w=X:=⟨_,rfl⟩
 obtain ⟨p0,p1,q0,hb⟩:=box3_at n q _ w X hX
 have HX:=hI (show ((w.alloc (.cells (posA n) 31)).alloc (.cells (posA q) 31)).alloc (.cells #[.int .i8 mf,.int .i8 mt,.int .u8 mp,.int .u8 md,.bool mc] 49)=X from hX)
 have HB:=hI hb
 have HG:=hI (fun (W:World) (h:Below X.heap.size X W)=>(show (IsPos W (w.heap.size+1)∧rowOf W (w.heap.size+1)=posA q)∧W.cell? ⟨w.heap.size,78,none⟩=some (.int .u8 t)∧(W.cell? ⟨w.heap.size+1+1,0,none⟩=some (.int .i8 mf)∧W.cell? ⟨w.heap.size+1+1,1,none⟩=some (.int .i8 mt)∧W.cell? ⟨w.heap.size+1+1,2,none⟩=some (.int .u8 mp)∧W.cell? ⟨w.heap.size+1+1,3,none⟩=some (.int .u8 md)∧W.cell? ⟨w.heap.size+1+1,4,none⟩=some (.bool mc))∧W.cell? ⟨w.heap.size,1+mf.toNat,none⟩=some (.int .u8 (n (1+mf.toNat))) from
  ⟨(p1.below h p1.lt).rules,by rw [← ht];exact (p0.below h p0.lt).cell 78 (by decide),mv_cell (m:=⟨mf,mt,mp,md,mc⟩) ((h.block _ (Array.getElem?_eq_some_iff.1 q0).1).trans q0),(p0.below h p0.lt).board _ (by omega)⟩))
 have hR:Below X.heap.size X X:=bR
 obtain ⟨⟨i0,r0⟩,c78,⟨m0,m1,m2,m3,m4⟩,ca⟩:=HG.out _ hR
 obtain ⟨v0,v1⟩:=hn.u8 (1+mf.toNat) (by omega) (kB (by omega))
 have HKD:=hI (k8_any _ v0 v1)
 have HUP:=hI (fun w=>up13_any t h01 w)
 have HRK:=hI (rank13_any t mf h01 f0 f1)
 have HNO:=hI (@pass_no n q ⟨mf,mt,mp,md,mc⟩)
 have HFAR:=hI (@pass_far n q ⟨mf,mt,mp,md,mc⟩)
 have HYES:=hI (fun b=>@pass_yes n q ⟨mf,mt,mp,md,mc⟩ t b ht)
 have HMK:=hI (show md=0→movK n ⟨mf,mt,mp,md,mc⟩=kndI (n (1+mf.toNat)) from fun h=>if_neg (fun h2=>h2 h))
 have hrk:=rank_cases t mf
 clear hX p0 p1 q0 hb
 by_cases hd:md=0
 case neg =>
  have d1:(md != 0)=true:=bne_iff_ne.2 hd
  have HV:=hI (HNO.out (.inr (.inl hd)))
  go_enter Tryz.func109,Tryz.ntmps109
  go_wp2_with (first | rw [HX.out] | (go_at_call 63;refine (HKD.out _).mono ?_;rintro e w2 ⟨rfl,rfl⟩) | (go_at_call 143;refine (HUP.out _).mono ?_;rintro e w2 ⟨rfl,rfl⟩) | (go_at_call 161;refine (HRK.out _).mono ?_;rintro e w2 ⟨rfl,rfl⟩))
  go_ret
  exact ⟨ret_int HV.out.symm,HB.out⟩
 case pos =>
 subst hd
 have HMK2:=hI (HMK.out rfl)
 clear HMK
 cases mc with
 | true =>
   have hk1:=hcc rfl
   clear hcc
   have HV:=hI (HNO.out (.inl (by rw [HMK2.out];exact hk1)))
   go_enter Tryz.func109,Tryz.ntmps109
   go_wp2_with (first | rw [HX.out] | (go_at_call 63;refine (HKD.out _).mono ?_;rintro e w2 ⟨rfl,rfl⟩) | (go_at_call 143;refine (HUP.out _).mono ?_;rintro e w2 ⟨rfl,rfl⟩) | (go_at_call 161;refine (HRK.out _).mono ?_;rintro e w2 ⟨rfl,rfl⟩))
   go_ret
   exact ⟨ret_int HV.out.symm,HB.out⟩
 | false =>
 clear hcc
 by_cases hk:kndI (n (1+mf.toNat))=1
 case neg =>
  have d2:(kndI (n (1+mf.toNat)) != 1)=true:=bne_iff_ne.2 hk
  have HV:=hI (HNO.out (.inl (by rw [HMK2.out];exact hk)))
  go_enter Tryz.func109,Tryz.ntmps109
  go_wp2_with (first | rw [HX.out] | (go_at_call 63;refine (HKD.out _).mono ?_;rintro e w2 ⟨rfl,rfl⟩) | (go_at_call 143;refine (HUP.out _).mono ?_;rintro e w2 ⟨rfl,rfl⟩) | (go_at_call 161;refine (HRK.out _).mono ?_;rintro e w2 ⟨rfl,rfl⟩))
  go_ret
  exact ⟨ret_int HV.out.symm,HB.out⟩
 case pos =>
 rw [hk] at HKD HMK2
 generalize n (1+mf.toNat)=x at *
 clear hk
 by_cases h16:mt=mf+2*(8 - 16*t)
 case neg =>
  have d3:(mt != mf+2*(8 - 16*t))=true:=bne_iff_ne.2 h16
  rcases (show (mt - mf≠16∧mf - mt≠16)∨(mf / 8≠7*t+1∧mf / 8≠7*t - 1) by omega) with h | h
  · clear h16
    have HV:=hI (HNO.out (.inr (.inr h)))
    go_enter Tryz.func109,Tryz.ntmps109
    go_wp2_with (first | rw [HX.out] | (go_at_call 63;refine (HKD.out _).mono ?_;rintro e w2 ⟨rfl,rfl⟩) | (go_at_call 143;refine (HUP.out _).mono ?_;rintro e w2 ⟨rfl,rfl⟩) | (go_at_call 161;refine (HRK.out _).mono ?_;rintro e w2 ⟨rfl,rfl⟩))
    go_ret
    exact ⟨ret_int HV.out.symm,HB.out⟩
  · clear h16
    have HV:=hI (HFAR.out (by rw [ht];exact h))
    go_enter Tryz.func109,Tryz.ntmps109
    go_wp2_with (first | rw [HX.out] | (go_at_call 63;refine (HKD.out _).mono ?_;rintro e w2 ⟨rfl,rfl⟩) | (go_at_call 143;refine (HUP.out _).mono ?_;rintro e w2 ⟨rfl,rfl⟩) | (go_at_call 161;refine (HRK.out _).mono ?_;rintro e w2 ⟨rfl,rfl⟩))
    go_ret
    exact ⟨ret_int HV.out.symm,HB.out⟩
 case pos =>
 have d3:(mt != mf+2*(8 - 16*t))=false:=by rw [h16];simp
 by_cases hr1:rankC t mf=1
 case neg =>
  have d4:(rankC t mf != 1)=true:=bne_iff_ne.2 hr1
  have hfar:mf / 8≠7*t+1∧mf / 8≠7*t - 1:=by rcases hrk with ⟨a,b⟩ | ⟨a,b⟩ <;> omega
  clear hrk h16
  have HV:=hI (HFAR.out (by rw [ht];exact hfar))
  go_enter Tryz.func109,Tryz.ntmps109
  go_wp2_with (first | rw [HX.out] | (go_at_call 63;refine (HKD.out _).mono ?_;rintro e w2 ⟨rfl,rfl⟩) | (go_at_call 143;refine (HUP.out _).mono ?_;rintro e w2 ⟨rfl,rfl⟩) | (go_at_call 161;refine (HRK.out _).mono ?_;rintro e w2 ⟨rfl,rfl⟩))
  go_ret
  exact ⟨ret_int HV.out.symm,HB.out⟩
 case pos =>
 rw [hr1] at HRK
 have hbb:0≤mf+(8 - 16*t)∧mf+(8 - 16*t)<64:=by rcases hrk with ⟨a,b⟩ | ⟨a,b⟩ <;> omega
 obtain ⟨b0,b1⟩:=hbb
 have HV:=hI (HYES.out (mf+(8 - 16*t)) HMK2.out rfl (by dsimp only;omega) (by dsimp only;rcases hrk with ⟨a,b⟩ | ⟨a,b⟩ <;> omega) (by dsimp only;omega))
 have W8:IntKind.i8.wrap (mf+(8 - 16*t))=mf+(8 - 16*t):=IntWalk.i8_in _ (by omega)
 have HIS:=hI (fun (j:Nat) (hj:j<64)=>is8_any q hq j hj (1 - t) 1)
 have HHI:=hI (fun (j:Nat) (hj:j<64)=>hits8_any q hq (j:Int) (mf+(8 - 16*t)) (by omega) (by omega) b0 b1)
 have HHP:=hI (fun (j:Nat) (hj:j<64) (h:isN q (j:Int) (1 - t) 1=true)=>hit_pawn (b:=mf+(8 - 16*t)) h01 (by omega) (by omega) b0 b1 h)
 have HPS:=hI (fun (j:Nat) (hj:j<64)=>@pass_some q t (mf+(8 - 16*t)) (j:Int) (by omega) (by omega))
 have HPN:=hI (@pass_none q t (mf+(8 - 16*t)))
 clear hrk h16 hr1 ht
 go_enter Tryz.func109,Tryz.ntmps109
 go_wp2_with (first | rw [HX.out] | (go_at_call 63;refine (HKD.out _).mono ?_;rintro e w2 ⟨rfl,rfl⟩) | (go_at_call 143;refine (HUP.out _).mono ?_;rintro e w2 ⟨rfl,rfl⟩) | (go_at_call 161;refine (HRK.out _).mono ?_;rintro e w2 ⟨rfl,rfl⟩))
 go_loopw [9] (fun i wr=>∃ j:Nat,j≤64∧i=.int .i64 j∧Hid (∀ j' : Nat,j' < 64→j' < j→(isN q (j' : Int) (1 - t) 1&&hasB (pawnB t (mf+(8 - 16*t))) (j' : Int))=false)∧Below X.heap.size X wr) (fun i _=>64 - (intOf i).toNat)
 case atStart=>exact ⟨0,by omega,rfl,hI (fun _ _ h=>absurd h (Nat.not_lt_zero _)),bR⟩
 case round =>
  obtain ⟨j,hj,rfl,hno,hr⟩:=hrel
  obtain ⟨⟨i0,r0⟩,c78,⟨m0,m1,m2,m3,m4⟩,ca⟩:=HG.out _ hr
  by_cases hlt:j<64
  · have HISJ := hideIt (HIS.out j hlt)
    have HHJ:=hI (HHI.out j hlt)
    have hpq:=HHP.out j hlt
    have HNX:=hI (show (isN q (j:Int) (1 - t) 1&&hasB (pawnB t (mf+(8 - 16*t))) (j:Int))=false→∀ j' : Nat,j' < 64→j' < j+1→(isN q (j' : Int) (1 - t) 1&&hasB (pawnB t (mf+(8 - 16*t))) (j' : Int))=false from fun h j' h64 hj' => by
     by_cases e:j' = j
     · rw [e];exact h
     · exact hno.out j' h64 (by omega))
    have HPJ:=hI (HPS.out j hlt)
    clear hno
    cases h1:isN q (j:Int) (1 - t) 1 with
    | false =>
      rw [h1] at HISJ
      have HNX:=hI (HNX.out (by rw [h1];rfl))
      clear h1 hpq
      go_wp2_with fail
      refine (HISJ.out _).mono ?_
      rintro e w3 ⟨rfl,h2⟩
      have hr:=bT hr h2
      clear h2
      go_wp2
      go_roundw
      case rel=>exact ⟨j+1,by omega,by go_num,HNX,hr⟩
      case measure=>simp [intOf];omega
    | true =>
      rw [h1] at HISJ
      have hpq:=hpq h1
      cases h3:hasB (pawnB t (mf+(8 - 16*t))) (j:Int) with
      | false =>
        have hpq:=hpq.trans h3
        rw [show 1+((j:Nat):Int).toNat=1+j from rfl] at hpq
        have HHJ:=hI (show ∀ w,Calls Tryz.prog 132 #[.agg (posA q),.int .i64 (j:Int),.int .i64 (mf+(8 - 16*t))] w fun e w' => e = .returned (.bool false)∧Below w.heap.size w w' from fun w=>(HHJ.out w).mono (fun e w' h=>⟨h.1.trans (rB hpq),h.2⟩))
        have HNX:=hI (HNX.out (by rw [h1,h3];rfl))
        clear h1 hpq h3
        go_wp2_with fail
        refine (HISJ.out _).mono ?_
        rintro e w3 ⟨rfl,h2⟩
        have hr:=bT hr h2
        clear h2
        obtain ⟨⟨i0,r0⟩,c78,⟨m0,m1,m2,m3,m4⟩,ca⟩:=HG.out _ hr
        go_wp2_with fail
        refine (HHJ.out _).mono ?_
        rintro e w4 ⟨rfl,h2⟩
        have hr:=bT hr h2
        clear h2
        go_wp2
        go_roundw
        case rel=>exact ⟨j+1,by omega,by go_num,HNX,hr⟩
        case measure=>simp [intOf];omega
      | true =>
        have hpq:=hpq.trans h3
        rw [show 1+((j:Nat):Int).toNat=1+j from rfl] at hpq
        have HHJ:=hI (show ∀ w,Calls Tryz.prog 132 #[.agg (posA q),.int .i64 (j:Int),.int .i64 (mf+(8 - 16*t))] w fun e w' => e = .returned (.bool true)∧Below w.heap.size w w' from fun w=>(HHJ.out w).mono (fun e w' h=>⟨h.1.trans (rB hpq),h.2⟩))
        have HV:=hI (HV.out.trans (if_neg (by rw [HPJ.out h1 h3];decide)))
        clear h1 hpq h3
        go_wp2_with fail
        refine (HISJ.out _).mono ?_
        rintro e w3 ⟨rfl,h2⟩
        have hr:=bT hr h2
        clear h2
        obtain ⟨⟨i0,r0⟩,c78,⟨m0,m1,m2,m3,m4⟩,ca⟩:=HG.out _ hr
        go_wp2_with fail
        refine (HHJ.out _).mono ?_
        rintro e w4 ⟨rfl,h2⟩
        have hr:=bT hr h2
        clear h2
        go_wp2
        go_ret
        exact ⟨ret_int HV.out.symm,HB.out.trans (hr.mono HB.out.size)⟩
  · obtain rfl : j = 64 := by omega
    have HV:=hI (HV.out.trans (if_pos (HPN.out (fun j hj=>hno.out j hj hj))))
    clear hno
    go_wp2
    go_ret
    exact ⟨ret_int HV.out.symm,HB.out.trans (hr.mono HB.out.size)⟩
/-- What a move that castles is. -/
structure CastOk (n:Nat→Int) (m:Mv):Prop where
 c:m.c=true
 d:m.d=0
 p:m.p=0
 ne:m.f≠m.t
 f0:56*n 78≤m.f
 f1:m.f≤56*n 78+7
 t0:56*n 78≤m.t
 t1:m.t≤56*n 78+7
def box2m (n:Nat→Int) (m:Mv) (w:World):World:=(w.alloc (.cells (posA n) 31)).alloc (.cells #[.int .i8 m.f,.int .i8 m.t,.int .u8 m.p,.int .u8 m.d,.bool m.c] 49)
theorem box2m_at (n:Nat→Int) (m:Mv) (w X:World) (h:box2m n m w=X):PosAt X w.heap.size n∧X.heap[w.heap.size+1]?=some (.cells m.cells.toArray 49 (0,0))∧Below w.heap.size w X∧X.heap.size=w.heap.size+2:=by
 obtain ⟨X0,hX0⟩:∃ X0,w.alloc (.cells (posA n) 31)=X0:=⟨_,rfl⟩
 obtain ⟨p0,hb⟩:=box1 w n X0 hX0
 have hs:X0.heap.size=w.heap.size+1:=by rw [← hX0];simp
 unfold box2m at h
 rw [hX0] at h
 obtain ⟨q0,hb1⟩:=mvBox_at h
 have hs2:X.heap.size=X0.heap.size+1:=by rw [← h];simp
 rw [hs] at q0
 exact ⟨p0.below hb1 p0.lt,q0,hb.trans (hb1.mono hb.size),by omega⟩
theorem side14_0 (n:Nat→Int) (ht:n 78=0) (m:Mv) (hc:CastOk n m) (w:World):Calls Tryz.prog 164 #[.agg (posA n),.agg #[.int .i8 m.f,.int .i8 m.t,.int .u8 m.p,.int .u8 m.d,.bool m.c]] w fun e w' => e = .returned (.int .i64 (sideM m:Int))∧Below w.heap.size w w' := by
 obtain ⟨h1,h2,h3,h4,h5,h6,h7,h8⟩:=hc
 obtain ⟨mf,mt,mp,md,mc⟩:=m
 dsimp only at h1 h2 h3 h4 h5 h6 h7 h8 ⊢
 subst h1 h2 h3
 rw [ht] at h5 h6 h7 h8
 obtain ⟨X,hX⟩:∃ X,box2m n ⟨mf,mt,0,0,true⟩ w=X:=⟨_,rfl⟩
 obtain ⟨p0,q0,hb,_⟩:=box2m_at n _ w X hX
 have HX:=hI (show (w.alloc (.cells (posA n) 31)).alloc (.cells #[.int .i8 mf,.int .i8 mt,.int .u8 0,.int .u8 0,.bool true] 49)=X from hX)
 obtain ⟨m0,m1,m2,m3,m4⟩:=mv_cell (m:=⟨mf,mt,0,0,true⟩) (show X.heap[w.heap.size+1]?=_ from q0)
 have c78:X.cell? ⟨w.heap.size,78,none⟩=some (.int .u8 0):=by rw [← ht];exact p0.cell 78 (by decide)
 have HS:Hid (sideM ⟨mf,mt,0,0,true⟩=if mf<mt then 0 else 1):=rfl
 have HB:=hI hb
 have d1:decide (mf<0)=false:=decide_eq_false (by omega)
 have d2:decide (63<mf)=false:=decide_eq_false (by omega)
 have d3:decide (mt<0)=false:=decide_eq_false (by omega)
 have d4:decide (63<mt)=false:=decide_eq_false (by omega)
 have e1:(mf==mt)=false:=beq_eq_false_iff_ne.2 h4
 have e2:IntKind.i8.wrap (mf.tdiv 8)=0:=by
  rw [Int.tdiv_eq_ediv_of_nonneg (by omega),IntWalk.i8_in _ (by omega)];omega
 have e3:IntKind.i8.wrap (mt.tdiv 8)=0:=by
  rw [Int.tdiv_eq_ediv_of_nonneg (by omega),IntWalk.i8_in _ (by omega)];omega
 clear hX p0 q0 hb h4
 by_cases hlt:mf<mt
 · have e4 : decide (mt > mf) = true := decide_eq_true hlt
   have HS:=hI (show sideM ⟨mf,mt,0,0,true⟩=0 by rw [HS.out,if_pos hlt])
   go_enter Tryz.func164,Tryz.ntmps164
   go_wp2_with (rw [HX.out])
   go_ret
   exact ⟨ret_val (by rw [HS.out];rfl),HB.out⟩
 · have e4 : decide (mt > mf) = false := decide_eq_false (by omega)
   have HS:=hI (show sideM ⟨mf,mt,0,0,true⟩=1 by rw [HS.out,if_neg hlt])
   go_enter Tryz.func164,Tryz.ntmps164
   go_wp2_with (rw [HX.out])
   go_ret
   exact ⟨ret_val (by rw [HS.out];rfl),HB.out⟩
theorem side14_1 (n:Nat→Int) (ht:n 78=1) (m:Mv) (hc:CastOk n m) (w:World):Calls Tryz.prog 164 #[.agg (posA n),.agg #[.int .i8 m.f,.int .i8 m.t,.int .u8 m.p,.int .u8 m.d,.bool m.c]] w fun e w' => e = .returned (.int .i64 (sideM m:Int))∧Below w.heap.size w w' := by
 obtain ⟨h1,h2,h3,h4,h5,h6,h7,h8⟩:=hc
 obtain ⟨mf,mt,mp,md,mc⟩:=m
 dsimp only at h1 h2 h3 h4 h5 h6 h7 h8 ⊢
 subst h1 h2 h3
 rw [ht] at h5 h6 h7 h8
 obtain ⟨X,hX⟩:∃ X,box2m n ⟨mf,mt,0,0,true⟩ w=X:=⟨_,rfl⟩
 obtain ⟨p0,q0,hb,_⟩:=box2m_at n _ w X hX
 have HX:=hI (show (w.alloc (.cells (posA n) 31)).alloc (.cells #[.int .i8 mf,.int .i8 mt,.int .u8 0,.int .u8 0,.bool true] 49)=X from hX)
 obtain ⟨m0,m1,m2,m3,m4⟩:=mv_cell (m:=⟨mf,mt,0,0,true⟩) (show X.heap[w.heap.size+1]?=_ from q0)
 have c78:X.cell? ⟨w.heap.size,78,none⟩=some (.int .u8 1):=by rw [← ht];exact p0.cell 78 (by decide)
 have HS:Hid (sideM ⟨mf,mt,0,0,true⟩=if mf<mt then 0 else 1):=rfl
 have HB:=hI hb
 have d1:decide (mf<0)=false:=decide_eq_false (by omega)
 have d2:decide (63<mf)=false:=decide_eq_false (by omega)
 have d3:decide (mt<0)=false:=decide_eq_false (by omega)
 have d4:decide (63<mt)=false:=decide_eq_false (by omega)
 have e1:(mf==mt)=false:=beq_eq_false_iff_ne.2 h4
 have e2:IntKind.i8.wrap (mf.tdiv 8)=7:=by
  rw [Int.tdiv_eq_ediv_of_nonneg (by omega),IntWalk.i8_in _ (by omega)];omega
 have e3:IntKind.i8.wrap (mt.tdiv 8)=7:=by
  rw [Int.tdiv_eq_ediv_of_nonneg (by omega),IntWalk.i8_in _ (by omega)];omega
 clear hX p0 q0 hb h4
 by_cases hlt:mf<mt
 · have e4 : decide (mt > mf) = true := decide_eq_true hlt
   have HS:=hI (show sideM ⟨mf,mt,0,0,true⟩=0 by rw [HS.out,if_pos hlt])
   go_enter Tryz.func164,Tryz.ntmps164
   go_wp2_with (rw [HX.out])
   go_ret
   exact ⟨ret_val (by rw [HS.out];rfl),HB.out⟩
 · have e4 : decide (mt > mf) = false := decide_eq_false (by omega)
   have HS:=hI (show sideM ⟨mf,mt,0,0,true⟩=1 by rw [HS.out,if_neg hlt])
   go_enter Tryz.func164,Tryz.ntmps164
   go_wp2_with (rw [HX.out])
   go_ret
   exact ⟨ret_val (by rw [HS.out];rfl),HB.out⟩
/-- What men has laid: the position, the move, the result, the one that is written. -/
structure MenW (w:World) (m:Mv) (n q:Nat→Int) (W:World):Prop where
 old:PosAt W w.heap.size n
 mv:W.heap[w.heap.size+1]?=some (.cells m.cells.toArray 49 (0,0))
 res:PosAt W (w.heap.size+2) zeroN
 pos:PosAt W (w.heap.size+3) q
 low:Below w.heap.size w W
theorem MenW.grow {w:World} {m:Mv} {n q:Nat→Int} {W W' : World} (h:MenW w m n q W) (hb:Below W.heap.size W W'):MenW w m n q W' :=
 ⟨h.old.below hb h.old.lt,(hb.block _ (Array.getElem?_eq_some_iff.1 h.mv).1).trans h.mv,h.res.below hb h.res.lt,h.pos.below hb h.pos.lt,h.low.trans (hb.mono h.low.size)⟩
theorem MenW.set {w:World} {m:Mv} {n q:Nat→Int} {W:World} (h:MenW w m n q W) (i:Nat) (k:IntKind) (hi:kindAt i=k) (x:Int):MenW w m n (upd q i x) (W.setCell ⟨w.heap.size+3,i,none⟩ (.int k x)):=by
 have:=h.pos.set i x
 rw [hi] at this
 exact ⟨h.old.other (by omega) _,(Below.heap_setCell _ _ _ _ (by show w.heap.size+1≠w.heap.size+3;omega)).trans h.mv,h.res.other (by omega) _,this,h.low.setCell (p:=⟨w.heap.size+3,i,none⟩) (by show w.heap.size≤w.heap.size+3;omega) _⟩
theorem MenW.drew {w:World} {m:Mv} {n q:Nat→Int} {W:World} (h:MenW w m n q W):MenW w m n q W.drew:=⟨h.old,h.mv,h.res,h.pos,h.low.drew⟩
/-- The worlds at the head of men. -/
def menX (n:Nat→Int) (m:Mv) (w:World):World:=(box2m n m w).alloc (.cells (posA zeroN) 31)
def menY (X:World) (w:World) (n:Nat→Int):World:=(X.alloc (.cells (posA zeroN) 31)).setRow (w.heap.size+3) (posA n)
theorem menX_at (n:Nat→Int) (m:Mv) (w X:World) (h:menX n m w=X):PosAt X w.heap.size n∧X.heap[w.heap.size+1]?=some (.cells m.cells.toArray 49 (0,0))∧PosAt X (w.heap.size+2) zeroN∧Below w.heap.size w X∧X.heap.size=w.heap.size+3:=by
 obtain ⟨X0,hX0⟩:∃ X0,box2m n m w=X0:=⟨_,rfl⟩
 obtain ⟨p0,q0,hb,hs⟩:=box2m_at n m w X0 hX0
 unfold menX at h
 rw [hX0] at h
 obtain ⟨z0,hb1⟩:=box1 X0 zeroN X h
 have hs2:X.heap.size=X0.heap.size+1:=by rw [← h];simp
 rw [hs] at z0
 exact ⟨p0.below hb1 p0.lt,(hb1.block _ (Array.getElem?_eq_some_iff.1 q0).1).trans q0,z0,hb.trans (hb1.mono hb.size),by omega⟩
theorem menY_at (n:Nat→Int) (m:Mv) (w X Y:World) (h:menX n m w=X) (hy:menY X w n=Y):MenW w m n n Y:=by
 obtain ⟨a,b,c,d,e⟩:=menX_at n m w X h
 obtain ⟨Z,hZ⟩:∃ Z,X.alloc (.cells (posA zeroN) 31)=Z:=⟨_,rfl⟩
 obtain ⟨z0,hb1⟩:=box1 X zeroN Z hZ
 rw [e] at z0
 have h0:MenW w m n zeroN Z:=⟨a.below hb1 a.lt,(hb1.block _ (Array.getElem?_eq_some_iff.1 b).1).trans b,c.below hb1 c.lt,z0,d.trans (hb1.mono d.size)⟩
 unfold menY at hy
 rw [hZ] at hy
 subst hy
 refine ⟨h0.old.otherRow (by omega) _,?_,h0.res.otherRow (by omega) _,h0.pos.setRow n,below_setRow h0.low (by omega) _⟩
 simp only [World.setRow]
 rw [Array.getElem?_modify,if_neg (by omega),h0.mv]
theorem MenW.put {w:World} {m:Mv} {n q:Nat→Int} {W:World} (h:MenW w m n q W) (i:Nat) (hi:kindAt i=.u8) (h88:i<88) (x:Int):∃ Z o,W.setCell ⟨w.heap.size+3,i,none⟩ (.int .u8 x)=Z∧W.frozen? ⟨w.heap.size+3,i,none⟩=false∧W.cell? ⟨w.heap.size+3,i,none⟩=some (.int .u8 o)∧MenW w m n (upd q i x) Z :=
 ⟨_,q i,rfl,h.pos.free i,by rw [← hi];exact h.pos.cell i h88,h.set i .u8 hi x⟩
theorem MenW.facts {w:World} {m:Mv} {n q:Nat→Int} {W:World} (h:MenW w m n q W) {f t:Int} (hf:0≤f∧f<64) (ht:0≤t∧t<64):(W.cell? ⟨w.heap.size+1,0,none⟩=some (.int .i8 m.f)∧W.cell? ⟨w.heap.size+1,1,none⟩=some (.int .i8 m.t)∧W.cell? ⟨w.heap.size+1,2,none⟩=some (.int .u8 m.p)∧W.cell? ⟨w.heap.size+1,3,none⟩=some (.int .u8 m.d)∧W.cell? ⟨w.heap.size+1,4,none⟩=some (.bool m.c))∧(IsPos W w.heap.size∧rowOf W w.heap.size=posA n)∧W.cell? ⟨w.heap.size,78,none⟩=some (.int .u8 (n 78))∧W.cell? ⟨w.heap.size,1+f.toNat,none⟩=some (.int .u8 (n (1+f.toNat)))∧W.cell? ⟨w.heap.size,1+t.toNat,none⟩=some (.int .u8 (n (1+t.toNat))) :=
 ⟨mv_cell h.mv,h.old.rules,h.old.cell 78 (by decide),h.old.board _ (by omega),h.old.board _ (by omega)⟩
theorem men16A (n:Nat→Int) (hn:PosOk n) (t:Nat) (ht1:t≤1) (ht:n 78=t) (m:Mv) (f0:0≤m.f) (f1:m.f<64) (t0:0≤m.t) (t1:m.t<64) (hc:CastOk n m) (tk:Int) (w:World):Calls Tryz.prog 104 #[.agg (posA n),.agg #[.int .i8 m.f,.int .i8 m.t,.int .u8 m.p,.int .u8 m.d,.bool m.c],.int .i64 tk] w fun e w' => e = .returned (.agg (posA (menN n m tk)))∧Below w.heap.size w w' := by
 have HSD:=hI (fun w=>(show Calls Tryz.prog 164 _ w _ from (show t=0∨t=1 by omega).elim (fun h=>side14_0 n (by rw [ht,h];rfl) m hc w) (fun h=>side14_1 n (by rw [ht,h];rfl) m hc w)))
 obtain ⟨h1,h2,h3,h4,h5,h6,h7,h8⟩:=hc
 obtain ⟨sd,hs⟩:∃ sd,sideM m=sd:=⟨_,rfl⟩
 have hsd:sd=0∨sd=1:=by rw [← hs];unfold sideM;split <;> simp
 have HGL:=hI (fun w=>goals14_any sd hsd w)
 obtain ⟨kg,hkg⟩:∃ g,kGoal sd=g:=⟨_,rfl⟩
 obtain ⟨rg,hrg⟩:∃ g,rGoal sd=g:=⟨_,rfl⟩
 have hk7:0≤kg∧kg<8:=by rw [← hkg];rcases hsd with rfl | rfl <;> decide
 have hr7:0≤rg∧rg<8:=by rw [← hrg];rcases hsd with rfl | rfl <;> decide
 have HN:=hI (show menN n m tk=upd (upd (upd (upd n (1+m.f.toNat) 0) (1+m.t.toNat) 0) (1+(56*(t:Int)+kg).toNat) (n (1+m.f.toNat))) (1+(56*(t:Int)+rg).toNat) (n (1+m.t.toNat)) by unfold menN menA homeC;rw [if_pos h1,hs,ht,hkg,hrg])
 rw [hs] at HSD
 rw [hkg,hrg] at HGL
 rw [ht] at h5 h6 h7 h8
 clear hs hkg hrg h4 hsd
 obtain ⟨mf,mt,mp,md,mc⟩:=m
 dsimp only at *
 subst h1 h2 h3
 have e1:=IntWalk.i64_in (56*(t:Int)) (by omega)
 have e2:=IntWalk.i64_in (56*(t:Int)+kg) (by omega)
 have e3:=IntWalk.i64_in (56*(t:Int)+rg) (by omega)
 have e4:0≤56*(t:Int)+kg:=by omega
 have e5:56*(t:Int)+kg<64:=by omega
 have e6:0≤56*(t:Int)+rg:=by omega
 have e7:56*(t:Int)+rg<64:=by omega
 obtain ⟨x,hx⟩:∃ x,n (1+mf.toNat)=x:=⟨_,rfl⟩
 obtain ⟨y,hy⟩:∃ y,n (1+mt.toNat)=y:=⟨_,rfl⟩
 rw [hx,hy] at HN
 obtain ⟨X,hX⟩:∃ X,menX n ⟨mf,mt,0,0,true⟩ w=X:=⟨_,rfl⟩
 obtain ⟨Y,hY⟩:∃ Y,menY X w n=Y:=⟨_,rfl⟩
 obtain ⟨xp,xm,xr,xb,hXs⟩:=menX_at n _ w X hX
 have hYw:=menY_at n _ w X Y hX hY
 have HX:=hI (show ((w.alloc (.cells (posA n) 31)).alloc (.cells #[.int .i8 mf,.int .i8 mt,.int .u8 0,.int .u8 0,.bool true] 49)).alloc (.cells (posA zeroN) 31)=X from hX)
 have HXS:=hI hXs
 have HY:=hI (show (X.alloc (.cells (posA zeroN) 31)).setRow (w.heap.size+3) (posA n)=Y from hY)
 obtain ⟨xi0,xr0⟩:=xp.rules
 obtain ⟨zi0,zr0⟩:=(show PosAt (X.alloc (.cells (posA zeroN) 31)) (w.heap.size+3) zeroN by rw [← hXs];exact PosAt.new X zeroN).rules
 have hzp:=zeroPos
 have HF:=hI (fun q W (h:MenW w ⟨mf,mt,0,0,true⟩ n q W)=>h.facts (f:=mf) (t:=mt) (by omega) (by omega))
 rw [hx,hy,ht] at HF
 have ti0:(0:Int)≤t:=by omega
 have ti1:(t:Int)<2:=by omega
 obtain ⟨⟨c00,c01,c02,c03,c04⟩,⟨c05,c06⟩,c07,c08,c09⟩:=HF.out _ _ hYw
 have HG:=hI (fun W (hb:Below Y.heap.size Y W)=>hYw.grow hb)
 clear hX hY xp xm xr hYw xb hXs hx hy ht
 go_enter Tryz.func104,Tryz.ntmps104
 go_wp2_with (first | rw [HX.out] | rw [HXS.out] | rw [HY.out])
 refine (HSD.out _).mono ?_
 rintro e V ⟨rfl,hv⟩
 have hVw:=HG.out V hv
 clear hv xi0 xr0 zi0 zr0 c00 c01 c02 c03 c04 c05 c06 c07 c08 c09
 obtain ⟨Z0,o0,hZ0,fZ0,xZ0,hZw0⟩:=hVw.put (1+mf.toNat) (by first | rfl | exact kB (by omega)) (by omega) 0
 obtain ⟨Z1,o1,hZ1,fZ1,xZ1,hZw1⟩:=hZw0.put (1+mt.toNat) (by first | rfl | exact kB (by omega)) (by omega) 0
 obtain ⟨Z2,o2,hZ2,fZ2,xZ2,hZw2⟩:=hZw1.put (1+(56*(t:Int)+kg).toNat) (by first | rfl | exact kB (by omega)) (by omega) x
 obtain ⟨Z3,o3,hZ3,fZ3,xZ3,hZw3⟩:=hZw2.put (1+(56*(t:Int)+rg).toNat) (by first | rfl | exact kB (by omega)) (by omega) y
 obtain ⟨⟨c00,c01,c02,c03,c04⟩,⟨c05,c06⟩,c07,c08,c09⟩:=HF.out _ _ hVw
 obtain ⟨⟨c10,c11,c12,c13,c14⟩,⟨c15,c16⟩,c17,c18,c19⟩:=HF.out _ _ hZw0
 obtain ⟨⟨c20,c21,c22,c23,c24⟩,⟨c25,c26⟩,c27,c28,c29⟩:=HF.out _ _ hZw1
 obtain ⟨⟨c30,c31,c32,c33,c34⟩,⟨c35,c36⟩,c37,c38,c39⟩:=HF.out _ _ hZw2
 obtain ⟨⟨c40,c41,c42,c43,c44⟩,⟨c45,c46⟩,c47,c48,c49⟩:=HF.out _ _ hZw3
 obtain ⟨l3i,l3r⟩:=hZw3.pos.rules
 obtain ⟨m3i,m3r⟩:=hZw3.res.rules
 have HE3:=hI hZw3
 have HZ0:=hI hZ0
 have HZ1:=hI hZ1
 have HZ2:=hI hZ2
 have HZ3:=hI hZ3
 clear hVw hZ0 hZ1 hZ2 hZ3 hZw0 hZw1 hZw2 hZw3
 go_wp2_with (first | rw [HZ0.out] | rw [HZ1.out] | rw [HZ2.out] | rw [HZ3.out] | (go_at_call 165;refine (HGL.out _).mono ?_;rintro e w2 ⟨rfl,rfl⟩))
 refine bodyPost_ret (v:=.agg (posA (upd (upd (upd (upd n (1+mf.toNat) 0) (1+mt.toNat) 0) (1+(56*(t:Int)+kg).toNat) x) (1+(56*(t:Int)+rg).toNat) y))) (pos_result Tryz.results104 _ _ _ _ rfl (HE3.out.res.setRow _)) rfl ⟨ret_val (by rw [HN.out]),below_setRow HE3.out.low (by omega) _⟩
theorem men16B (n:Nat→Int) (hn:PosOk n) (t:Nat) (ht1:t≤1) (ht:n 78=t) (m:Mv) (f0:0≤m.f) (f1:m.f<64) (t0:0≤m.t) (t1:m.t<64) (hc:m.c=false) (hp:m.p=0) (k:Nat) (hd:m.d=k) (k0:1≤k) (k5:k≤5) (hh:n (66+t*6+k)≠0) (tk:Int) (w:World):Calls Tryz.prog 104 #[.agg (posA n),.agg #[.int .i8 m.f,.int .i8 m.t,.int .u8 m.p,.int .u8 m.d,.bool m.c],.int .i64 tk] w fun e w' => e = .returned (.agg (posA (menN n m tk)))∧Below w.heap.size w w' := by
 have hB:takB n t k=true:=by
  unfold takB
  rw [show poIx t k=66+t*6+k by unfold poIx;omega,show fitsB t k=true from (fits_iff t k).2 ⟨by omega,k0,k5⟩,beq_eq_false_iff_ne.2 hh];rfl
 have HN:=hI (show menN n m tk=upd (upd n (66+t*6+k) (n (66+t*6+k) - 1)) (1+m.t.toNat) (8*(t:Int)+(k:Int)) by
  unfold menN menB takN
  rw [if_neg (by rw [hc];decide),if_pos (by omega),ht,hd,Int.toNat_natCast,Int.toNat_natCast,if_pos hB,show poIx t k=66+t*6+k by unfold poIx;omega])
 have hk8:kindAt (66+t*6+k)=.u8:=by
  have:=kind_pock t k (by omega) (by omega)
  rwa [show 66+6*t+k=66+t*6+k by omega] at this
 obtain ⟨x0,x1⟩:=hn.u8 (66+t*6+k) (by omega) hk8
 obtain ⟨z,hz⟩:∃ z,n (66+t*6+k)=z:=⟨_,rfl⟩
 rw [hz] at HN x0 x1 hh
 obtain ⟨mf,mt,mp,md,mc⟩:=m
 dsimp only at *
 subst hc hd hp
 have dk:((k:Int)==0)=false:=beq_eq_false_iff_ne.2 (by omega)
 have l0:(0:Int)≤(k:Int):=by omega
 have l1:(k:Int)<6:=by omega
 have W1:IntKind.u8.wrap (z - 1)=z - 1:=IntWalk.u8_in _ (by omega)
 have W7:=IntWalk.u8_in (8*(t:Int)) (by omega)
 have W8:=IntWalk.u8_in (8*(t:Int)+(k:Int)) (by omega)
 obtain ⟨x,hx⟩:∃ x,n (1+mf.toNat)=x:=⟨_,rfl⟩
 obtain ⟨y,hy⟩:∃ y,n (1+mt.toNat)=y:=⟨_,rfl⟩
 obtain ⟨X,hX⟩:∃ X,menX n ⟨mf,mt,0,(k:Int),false⟩ w=X:=⟨_,rfl⟩
 obtain ⟨Y,hY⟩:∃ Y,menY X w n=Y:=⟨_,rfl⟩
 obtain ⟨xp,xm,xr,xb,hXs⟩:=menX_at n _ w X hX
 have hYw:=menY_at n _ w X Y hX hY
 have HX:=hI (show ((w.alloc (.cells (posA n) 31)).alloc (.cells #[.int .i8 mf,.int .i8 mt,.int .u8 0,.int .u8 (k:Int),.bool false] 49)).alloc (.cells (posA zeroN) 31)=X from hX)
 have HXS:=hI hXs
 have HY:=hI (show (X.alloc (.cells (posA zeroN) 31)).setRow (w.heap.size+3) (posA n)=Y from hY)
 obtain ⟨xi0,xr0⟩:=xp.rules
 obtain ⟨zi0,zr0⟩:=(show PosAt (X.alloc (.cells (posA zeroN) 31)) (w.heap.size+3) zeroN by rw [← hXs];exact PosAt.new X zeroN).rules
 have hzp:=zeroPos
 have HF:=hI (fun q W (h:MenW w ⟨mf,mt,0,(k:Int),false⟩ n q W)=>h.facts (f:=mf) (t:=mt) (by omega) (by omega))
 rw [hx,hy,ht] at HF
 have ti0:(0:Int)≤t:=by omega
 have ti1:(t:Int)<2:=by omega
 have cz:Y.cell? ⟨w.heap.size+3,66+t*6+k,none⟩=some (.int .u8 z):=by rw [← hz,← hk8];exact hYw.pos.cell (66+t*6+k) (by omega)
 have fz:=hYw.pos.free (66+t*6+k)
 obtain ⟨Z1,hZ1⟩:∃ Z1,(Y.setCell ⟨w.heap.size+3,66+t*6+k,none⟩ (.int .u8 (z - 1))).drew=Z1:=⟨_,rfl⟩
 have hZw1:MenW w ⟨mf,mt,0,(k:Int),false⟩ n (upd n (66+t*6+k) (z - 1)) Z1:=by rw [← hZ1];exact (hYw.set (66+t*6+k) .u8 hk8 (z - 1)).drew
 obtain ⟨Z2,o2,hZ2,fZ2,xZ2,hZw2⟩:=hZw1.put (1+mt.toNat) (by first | rfl | exact kB (by omega)) (by omega) (8*(t:Int)+(k:Int))
 obtain ⟨⟨c00,c01,c02,c03,c04⟩,⟨c05,c06⟩,c07,c08,c09⟩:=HF.out _ _ hYw
 obtain ⟨⟨c10,c11,c12,c13,c14⟩,⟨c15,c16⟩,c17,c18,c19⟩:=HF.out _ _ hZw1
 obtain ⟨⟨c20,c21,c22,c23,c24⟩,⟨c25,c26⟩,c27,c28,c29⟩:=HF.out _ _ hZw2
 obtain ⟨l2i,l2r⟩:=hZw2.pos.rules
 obtain ⟨m2i,m2r⟩:=hZw2.res.rules
 have HE2:=hI hZw2
 have HZ1:=hI hZ1
 have HZ2:=hI hZ2
 clear hX hY xp xm xr hYw xb hXs hx hy ht hz hk8 hB hh hZ1 hZ2 hZw1 hZw2
 go_enter Tryz.func104,Tryz.ntmps104
 go_wp2_with (first | rw [HX.out] | rw [HXS.out] | rw [HY.out])
 go_region
 all_goals
  go_wp2_with (first | rw [HZ1.out] | rw [HZ2.out])
  refine bodyPost_ret (v:=.agg (posA (upd (upd n (66+t*6+k) (z - 1)) (1+mt.toNat) (8*(t:Int)+(k:Int))))) (pos_result Tryz.results104 _ _ _ _ rfl (HE2.out.res.setRow _)) rfl ⟨ret_val (by rw [HN.out]),below_setRow HE2.out.low (by omega) _⟩
theorem men16C (n:Nat→Int) (hn:PosOk n) (t:Nat) (ht1:t≤1) (ht:n 78=t) (m:Mv) (f0:0≤m.f) (f1:m.f<64) (t0:0≤m.t) (t1:m.t<64) (hc:m.c=false) (hd:m.d=0) (p0:0≤m.p) (p1:m.p≤6) (tk:Int) (k1:tk<64) (w:World):Calls Tryz.prog 104 #[.agg (posA n),.agg #[.int .i8 m.f,.int .i8 m.t,.int .u8 m.p,.int .u8 m.d,.bool m.c],.int .i64 tk] w fun e w' => e = .returned (.agg (posA (menN n m tk)))∧Below w.heap.size w w' := by
 have HN:=hI (show menN n m tk=menC n m tk by unfold menN;rw [if_neg (by rw [hc];decide),if_neg (by omega)])
 unfold menC at HN
 rw [ht] at HN
 obtain ⟨mf,mt,mp,md,mc⟩:=m
 dsimp only at *
 subst hc hd
 have W8:=IntWalk.u8_in (8*(t:Int)+mp) (by omega)
 have W7:=IntWalk.u8_in (8*(t:Int)) (by omega)
 obtain ⟨x,hx⟩:∃ x,n (1+mf.toNat)=x:=⟨_,rfl⟩
 obtain ⟨y,hy⟩:∃ y,n (1+mt.toNat)=y:=⟨_,rfl⟩
 rw [hx] at HN
 obtain ⟨X,hX⟩:∃ X,menX n ⟨mf,mt,mp,0,false⟩ w=X:=⟨_,rfl⟩
 obtain ⟨Y,hY⟩:∃ Y,menY X w n=Y:=⟨_,rfl⟩
 obtain ⟨xp,xm,xr,xb,hXs⟩:=menX_at n _ w X hX
 have hYw:=menY_at n _ w X Y hX hY
 have HX:=hI (show ((w.alloc (.cells (posA n) 31)).alloc (.cells #[.int .i8 mf,.int .i8 mt,.int .u8 mp,.int .u8 0,.bool false] 49)).alloc (.cells (posA zeroN) 31)=X from hX)
 have HXS:=hI hXs
 have HY:=hI (show (X.alloc (.cells (posA zeroN) 31)).setRow (w.heap.size+3) (posA n)=Y from hY)
 obtain ⟨xi0,xr0⟩:=xp.rules
 obtain ⟨zi0,zr0⟩:=(show PosAt (X.alloc (.cells (posA zeroN) 31)) (w.heap.size+3) zeroN by rw [← hXs];exact PosAt.new X zeroN).rules
 have hzp:=zeroPos
 have HF:=hI (fun q W (h:MenW w ⟨mf,mt,mp,0,false⟩ n q W)=>h.facts (f:=mf) (t:=mt) (by omega) (by omega))
 rw [hx,hy,ht] at HF
 have ti0:(0:Int)≤t:=by omega
 have ti1:(t:Int)<2:=by omega
 obtain ⟨Y1,hY1,hY1w⟩:∃ Y1,((decide (tk≥0)=false∧Y1=Y)∨(decide (tk≥0)=true∧(0≤tk∧∃ o,Y.frozen? ⟨w.heap.size+3,1+tk.toNat,none⟩=false∧Y.cell? ⟨w.heap.size+3,1+tk.toNat,none⟩=some (.int .u8 o))∧Hid (Y.setCell ⟨w.heap.size+3,1+tk.toNat,none⟩ (.int .u8 0)=Y1)))∧MenW w ⟨mf,mt,mp,0,false⟩ n (menC0 n tk) Y1:=by
  unfold menC0
  by_cases h:0≤tk
  · obtain ⟨Z, o, hZ, fz, xz, hZw⟩ := hYw.put (1 + tk.toNat) (kind_board (by omega)) (by omega) 0
    rw [if_pos h]
    exact ⟨Z,.inr ⟨decide_eq_true h,⟨h,o,fz,xz⟩,hZ⟩,hZw⟩
  · rw [if_neg h]
    exact ⟨Y,.inl ⟨decide_eq_false h,rfl⟩,hYw⟩
 generalize menC0 n tk=q1 at *
 obtain ⟨Z0,o0,hZ0,fZ0,xZ0,hZw0⟩:=hY1w.put (1+mf.toNat) (by first | rfl | exact kB (by omega)) (by omega) 0
 obtain ⟨Z1,o1,hZ1,fZ1,xZ1,hZw1⟩:=hZw0.put (1+mt.toNat) (by first | rfl | exact kB (by omega)) (by omega) x
 obtain ⟨Z2,o2,hZ2,fZ2,xZ2,hZw2⟩:=hZw1.put (1+mt.toNat) (by first | rfl | exact kB (by omega)) (by omega) (8*(t:Int)+mp)
 obtain ⟨⟨c00,c01,c02,c03,c04⟩,⟨c05,c06⟩,c07,c08,c09⟩:=HF.out _ _ hYw
 obtain ⟨⟨c10,c11,c12,c13,c14⟩,⟨c15,c16⟩,c17,c18,c19⟩:=HF.out _ _ hY1w
 obtain ⟨⟨c20,c21,c22,c23,c24⟩,⟨c25,c26⟩,c27,c28,c29⟩:=HF.out _ _ hZw0
 obtain ⟨⟨c30,c31,c32,c33,c34⟩,⟨c35,c36⟩,c37,c38,c39⟩:=HF.out _ _ hZw1
 obtain ⟨⟨c40,c41,c42,c43,c44⟩,⟨c45,c46⟩,c47,c48,c49⟩:=HF.out _ _ hZw2
 obtain ⟨l1i,l1r⟩:=hZw1.pos.rules
 obtain ⟨m1i,m1r⟩:=hZw1.res.rules
 have HE1:=hI hZw1
 obtain ⟨l2i,l2r⟩:=hZw2.pos.rules
 obtain ⟨m2i,m2r⟩:=hZw2.res.rules
 have HE2:=hI hZw2
 have HZ0:=hI hZ0
 have HZ1:=hI hZ1
 have HZ2:=hI hZ2
 clear hX hY xp xm xr hYw xb hXs hx hy ht hY1w hZ0 hZ1 hZ2 hZw0 hZw1 hZw2
 cases dp:(mp==0) <;> rcases hY1 with ⟨dk,rfl⟩ | ⟨dk,⟨k0,o,fy,xy⟩,HY1⟩
 all_goals
  have HP:=hI dp
  go_enter Tryz.func104,Tryz.ntmps104
  go_wp2_with (first | rw [HX.out] | rw [HXS.out] | rw [HY.out] | rw [HY1.out] | rw [HZ0.out] | rw [HZ1.out] | rw [HZ2.out])
  first | (refine bodyPost_ret (v:=.agg (posA (upd (upd (upd q1 (1+mf.toNat) 0) (1+mt.toNat) x) (1+mt.toNat) (8*(t:Int)+mp)))) (pos_result Tryz.results104 _ _ _ _ rfl (HE2.out.res.setRow _)) rfl ⟨ret_val (by rw [HN.out,if_pos (bne_iff_ne.1 (by rw [bne,HP.out];rfl))]),below_setRow HE2.out.low (by omega) _⟩) | (refine bodyPost_ret (v:=.agg (posA (upd (upd q1 (1+mf.toNat) 0) (1+mt.toNat) x))) (pos_result Tryz.results104 _ _ _ _ rfl (HE1.out.res.setRow _)) rfl ⟨ret_val (by rw [HN.out,if_neg (fun h=>h (beq_iff_eq.1 HP.out))]),below_setRow HE1.out.low (by omega) _⟩)
/-- What a move is that may be made. -/
structure MvOk (n:Nat→Int) (m:Mv) (tk:Int):Prop where
 f0:0≤m.f
 f1:m.f<64
 t0:0≤m.t
 t1:m.t<64
 p0:0≤m.p
 p1:m.p≤6
 d0:0≤m.d
 d1:m.d≤5
 k0:-1≤tk
 k1:tk<64
 cast:m.c=true→CastOk n m∧tk=-1
 drop:m.d≠0→m.c=false∧m.p=0∧tk=-1∧n (66+6*(n 78).toNat+m.d.toNat)≠0
theorem men16_any (n:Nat→Int) (hn:PosOk n) (t:Int) (ht:n 78=t) (h01:t=0∨t=1) (m:Mv) (tk:Int) (hm:MvOk n m tk) (w:World):Calls Tryz.prog 104 #[.agg (posA n),.agg #[.int .i8 m.f,.int .i8 m.t,.int .u8 m.p,.int .u8 m.d,.bool m.c],.int .i64 tk] w fun e w' => e = .returned (.agg (posA (menN n m tk)))∧Below w.heap.size w w' := by
 cases hc:m.c with
 | true =>
   have h:=(hm.cast hc).1
   rw [← hc]
   obtain ⟨t,rfl⟩:∃ t' : Nat,t=(t' : Int):=⟨t.toNat,by omega⟩
   exact men16A n hn t (by omega) ht m hm.f0 hm.f1 hm.t0 hm.t1 h tk w
 | false =>
   rw [← hc]
   obtain ⟨t,rfl⟩:∃ t' : Nat,t=(t' : Int):=⟨t.toNat,by omega⟩
   by_cases hd:m.d=0
   · exact men16C n hn t (by omega) ht m hm.f0 hm.f1 hm.t0 hm.t1 hc hd hm.p0 hm.p1 tk hm.k1 w
   · obtain ⟨_, hp, _, hh⟩ := hm.drop hd
     have d0:=hm.d0
     have d1:=hm.d1
     rw [ht,Int.toNat_natCast,show 66+6*t+m.d.toNat=66+t*6+m.d.toNat by omega] at hh
     exact men16B n hn t (by omega) ht m hm.f0 hm.f1 hm.t0 hm.t1 hc hp m.d.toNat (by omega) (by omega) (by omega) hh tk w
/-- What rights wants of a world. -/
structure RigW (w:World) (m:Mv) (q:Nat→Int) (W:World):Prop where
 pos:PosAt W (w.heap.size+1) q
 mv:W.heap[w.heap.size+2]?=some (.cells m.cells.toArray 49 (0,0))
 res:PosAt W (w.heap.size+3) zeroN
 low:Below w.heap.size w W
theorem RigW.grow {w:World} {m:Mv} {q:Nat→Int} {W W' : World} (h:RigW w m q W) (hb:Below W.heap.size W W'):RigW w m q W' :=
 ⟨h.pos.below hb h.pos.lt,(hb.block _ (Array.getElem?_eq_some_iff.1 h.mv).1).trans h.mv,h.res.below hb h.res.lt,h.low.trans (hb.mono h.low.size)⟩
theorem RigW.set {w:World} {m:Mv} {q:Nat→Int} {W:World} (h:RigW w m q W) (i:Nat) (hi:kindAt i=.i8) (x:Int):RigW w m (upd q i x) (W.setCell ⟨w.heap.size+1,i,none⟩ (.int .i8 x)):=by
 have:=h.pos.set i x
 rw [hi] at this
 exact ⟨this,(Below.heap_setCell _ _ _ _ (by show w.heap.size+2≠w.heap.size+1;omega)).trans h.mv,h.res.other (by omega) _,h.low.setCell (p:=⟨w.heap.size+1,i,none⟩) (by show w.heap.size≤w.heap.size+1;omega) _⟩
theorem rig1_no {q:Nat→Int} {m:Mv} {tk:Int} {c side:Nat} (h:¬(0≤q (79+2*c+side)∧q (79+2*c+side)≤7)):rig1 q m tk c side=q:=if_neg (fun h2=>h ⟨h2.1,h2.2.1⟩)
theorem rig1_keep {q:Nat→Int} {m:Mv} {tk:Int} {c side:Nat} (h:goneB q m tk c (56*(c:Int)+q (79+2*c+side))=false):rig1 q m tk c side=q:=if_neg (fun h2=>by rw [h2.2.2] at h;cases h)
theorem rig1_gone {q:Nat→Int} {m:Mv} {tk:Int} {c side:Nat} (h:0≤q (79+2*c+side)∧q (79+2*c+side)≤7) (hg:goneB q m tk c (56*(c:Int)+q (79+2*c+side))=true):rig1 q m tk c side=upd q (79+2*c+side) (-1):=if_pos ⟨h.1,h.2,hg⟩
theorem rg_ways {G a b i k d f:Bool} (h:(a || b || !i || k || (d&&f))=G):(G=true∧a=true)∨(G=true∧a=false∧b=true)∨(G=true∧a=false∧b=false∧i=false)∨(G=true∧a=false∧b=false∧i=true∧k=true)∨(G=true∧a=false∧b=false∧i=true∧k=false∧d=true∧f=true)∨(G=false∧a=false∧b=false∧i=true∧k=false∧d=true∧f=false)∨(G=false∧a=false∧b=false∧i=true∧k=false∧d=false):=by
 subst h
 cases a <;> cases b <;> cases i <;> cases k <;> cases d <;> cases f <;> simp
theorem rights16_any (n q:Nat→Int) (hn:PosOk n) (hq:PosOk q) (t:Int) (ht:n 78=t) (h01:t=0∨t=1) (m:Mv) (tk:Int) (f0:0≤m.f) (f1:m.f<64) (w:World):Calls Tryz.prog 108 #[.agg (posA n),.agg (posA q),.agg #[.int .i8 m.f,.int .i8 m.t,.int .u8 m.p,.int .u8 m.d,.bool m.c],.int .i64 tk] w fun e w' => e = .returned (.agg (posA (rigN n q m tk)))∧Below w.heap.size w w' := by
 obtain ⟨t,rfl⟩:∃ t' : Nat,t=(t' : Int):=⟨t.toNat,by omega⟩
 have ht1:t≤1:=by omega
 obtain ⟨mf,mt,mp,md,mc⟩:=m
 dsimp only at f0 f1 ⊢
 have HN:=hI (rigN_is n q ⟨mf,mt,mp,md,mc⟩ tk)
 have HOK:=hI (fun k hk=>rigS_ok (rig0_ok hq (show n 78=0∨n 78=1 by omega) ⟨mf,mt,mp,md,mc⟩) ⟨mf,mt,mp,md,mc⟩ tk k hk)
 have HR0:=hI (show rig0 n q ⟨mf,mt,mp,md,mc⟩=if kndI (n (1+mf.toNat))=6∧md=0 then upd (upd q (79+t*2) (-1)) (79+t*2+1) (-1) else q by
  unfold rig0
  rw [ht,Int.toNat_natCast,show 79+2*t=79+t*2 by omega,show 80+2*t=79+t*2+1 by omega]
  by_cases h:md=0
  · subst h;rfl
  · rw [if_neg (fun h2=>h h2.2),if_neg (fun h2=>h h2.2)])
 have hk1:kindAt (79+t*2)=.i8:=by rcases (show t=0∨t=1 by omega) with rfl | rfl <;> rfl
 have hk2:kindAt (79+t*2+1)=.i8:=by rcases (show t=0∨t=1 by omega) with rfl | rfl <;> rfl
 obtain ⟨q0,hq0⟩:∃ q0,rig0 n q ⟨mf,mt,mp,md,mc⟩=q0:=⟨_,rfl⟩
 rw [hq0] at HN HOK HR0
 obtain ⟨X0,hX0⟩:∃ X0,box3 n q ⟨mf,mt,mp,md,mc⟩ w=X0:=⟨_,rfl⟩
 obtain ⟨p0,p1,q0',hb0⟩:=box3_at n q _ w X0 hX0
 obtain ⟨X,hX⟩:∃ X,X0.alloc (.cells (posA zeroN) 31)=X:=⟨_,rfl⟩
 obtain ⟨z0,hb1⟩:=box1 X0 zeroN X hX
 have hXs:X0.heap.size=w.heap.size+3:=by rw [← hX0];unfold box3;simp
 rw [hXs] at z0
 have hzp:=zeroPos
 have hw:RigW w ⟨mf,mt,mp,md,mc⟩ q X:=⟨p1.below hb1 p1.lt,(hb1.block _ (Array.getElem?_eq_some_iff.1 q0').1).trans q0',z0,hb0.trans (hb1.mono hb0.size)⟩
 have HY0:=hI hw
 have HX0:=hI (show ((w.alloc (.cells (posA n) 31)).alloc (.cells (posA q) 31)).alloc (.cells #[.int .i8 mf,.int .i8 mt,.int .u8 mp,.int .u8 md,.bool mc] 49)=X0 from hX0)
 have HX:=hI hX
 have HXS:=hI hXs
 obtain ⟨m0,m1,m2,m3,m4⟩:=mv_cell (m:=⟨mf,mt,mp,md,mc⟩) (show X.heap[w.heap.size+1+1]?=_ from hw.mv)
 have pn:=p0.below hb1 p0.lt
 have ca:=pn.board (1+mf.toNat) (by omega)
 have c78:X.cell? ⟨w.heap.size,78,none⟩=some (.int .u8 t):=by rw [← ht];exact pn.cell 78 (by decide)
 obtain ⟨v0,v1⟩:=hn.u8 (1+mf.toNat) (by omega) (kB (by omega))
 have HKD:=hI (fun w=>k8_any (n (1+mf.toNat)) v0 v1 w)
 generalize n (1+mf.toNat)=x at *
 generalize kndI x=kk at *
 obtain ⟨bK,hbK⟩:∃ b,((md==0)&&(kk==6))=b:=⟨_,rfl⟩
 have HBK:=hI hbK
 have ti0:(0:Int)≤t:=by omega
 have ti1:(t:Int)<2:=by omega
 clear hX0 p0 p1 q0' hb0 hX z0 hb1 hXs hq0 hw pn hbK ht h01 v0 v1
 go_enter Tryz.func108,Tryz.ntmps108
 go_upto_region 1 with (first | rw [HX0.out] | (rw [HX.out];try rw [HXS.out]))
 go_cut [27] (fun s27 wx=>s27=.bool bK∧wx=X)
 case first =>
  cases e1:(md==0) <;> cases e2:(kk==6)
  all_goals
   go_wp2_with (go_at_call 63;refine (HKD.out _).mono ?_;rintro e w2 ⟨rfl,rfl⟩)
   go_meet
   exact ⟨by rw [← HBK.out,e1,e2];rfl,rfl⟩
 case rest =>
 obtain ⟨rfl,rfl⟩:=hcut
 go_upto_if 27 with fail
 go_cut [] (fun wx=>RigW w ⟨mf,mt,mp,md,mc⟩ q0 wx)
 case first =>
  cases bK
  · have HE := hideIt (HR0.out.trans (if_neg (fun h => by have := HBK.out; rw [h.1, h.2] at this; cases this)))
    go_wp2_with fail
    go_meet
    rw [HE.out];exact HY0.out
  · have HE := hideIt (HR0.out.trans (if_pos (by have := HBK.out; rw [Bool.and_eq_true, beq_iff_eq, beq_iff_eq] at this; exact ⟨this.2, this.1⟩)))
    have hw:=HY0.out
    have d1:=hw.pos.cell (79+t*2) (by omega)
    rw [hk1] at d1
    have f1' := hw.pos.free (79+t*2)
    have hA:=hw.set (79+t*2) hk1 (-1)
    have d2:=hA.pos.cell (79+t*2+1) (by omega)
    rw [hk2] at d2
    have f2' := hA.pos.free (79+t*2+1)
    have HF:=hI (hA.set (79+t*2+1) hk2 (-1))
    generalize upd q (79+t*2) (-1) (79+t*2+1)=z2 at d2
    generalize q (79+t*2)=z1 at d1
    clear hw hA
    go_wp2
    go_meet
    rw [HE.out];exact HF.out
 case rest =>
 have HC:=hI hcut
 clear hcut c78 ca m0 m1 m2 m3 m4
 go_wp2
 go_loopg [9] 2 (fun g i wr=>∃ c:Nat,c+g=2∧i=.int .u8 c∧RigW w ⟨mf,mt,mp,md,mc⟩ (rigS q0 ⟨mf,mt,mp,md,mc⟩ tk (2*c)) wr)
 case atStart=>exact ⟨0,rfl,rfl,HC.out⟩
 case round =>
  obtain ⟨c,hgc,rfl,hw⟩:=hrel
  by_cases hc:c<2
  case neg =>
   obtain rfl:c=2:=by omega
   obtain ⟨i0,r0⟩:=hw.pos.rules
   obtain ⟨i3,r3⟩:=hw.res.rules
   have HE:=hI (hw.res.setRow (rigS q0 ⟨mf,mt,mp,md,mc⟩ tk 4))
   have HBE:=hI (below_setRow (b:=w.heap.size+3) hw.low (by omega) (posA (rigS q0 ⟨mf,mt,mp,md,mc⟩ tk 4)))
   clear hw
   generalize rigS q0 ⟨mf,mt,mp,md,mc⟩ tk (2*2)=q4 at *
   go_wp2
   refine bodyPost_ret (v:=.agg (posA q4)) (pos_result Tryz.results108 _ _ _ _ rfl HE.out) rfl ⟨ret_val (by rw [HN.out]),HBE.out⟩
  have ci0:(0:Int)≤c:=by omega
  have ci1:(c:Int)<2:=by omega
  have dc:decide ((c:Int)<2)=true:=decide_eq_true ci1
  obtain ⟨i0,r0⟩:=hw.pos.rules
  have HFD:=hI (find8_any _ (HOK.out (2*c) (by omega)) c 6 (by decide))
  rw [rigS_of] at HFD
  have HW0:=hI hw
  have wa:=IntWalk.i64_in (56*(c:Int)) (by omega)
  have wb:=IntWalk.i64_in (56*(c:Int)+7) (by omega)
  clear hw
  go_wp2_with fail
  refine (HFD.out _).mono ?_
  rintro e w5 ⟨rfl,h1⟩
  have HW1:=hI (HW0.out.grow h1)
  clear h1 i0 r0
  obtain ⟨K,hK⟩:∃ K,firstB (ofN q0 c 6)=K:=⟨_,rfl⟩
  have HK:=hI hK
  rw [hK]
  clear hK
  go_wp2
  go_loopg [12] 2 (fun g i wr=>∃ d:Nat,d+g=2∧i=.int .i64 d∧RigW w ⟨mf,mt,mp,md,mc⟩ (rigS q0 ⟨mf,mt,mp,md,mc⟩ tk (2*c+d)) wr)
  case atStart=>exact ⟨0,rfl,rfl,HW1.out⟩
  case round =>
   obtain ⟨d,hgd,rfl,hw⟩:=hrel
   by_cases hd:d<2
   case neg =>
    obtain rfl:d=2:=by omega
    go_wp2
    go_roundg (2 - (c+1))
    case measure=>omega
    case rel=>exact ⟨c+1,by omega,by go_num,hw⟩
   have di0:(0:Int)≤d:=by omega
   have di1:(d:Int)<2:=by omega
   have dd:decide ((d:Int)<2)=true:=decide_eq_true di1
   have HQOK:=hI (HOK.out (2*c+d) (by omega))
   have HNXT:=hI (show rigS q0 ⟨mf,mt,mp,md,mc⟩ tk (2*c+(d+1))=rig1 (rigS q0 ⟨mf,mt,mp,md,mc⟩ tk (2*c+d)) ⟨mf,mt,mp,md,mc⟩ tk c d by
    show rig1 (rigS q0 ⟨mf,mt,mp,md,mc⟩ tk (2*c+d)) ⟨mf,mt,mp,md,mc⟩ tk ((2*c+d) / 2) ((2*c+d) % 2)=_
    rw [show (2*c+d) / 2=c by omega,show (2*c+d) % 2=d by omega])
   have HGS:=hI (fun s s0 s1=>gone_same (rigS q0 ⟨mf,mt,mp,md,mc⟩ tk (2*c+d)) ⟨mf,mt,mp,md,mc⟩ tk c (by omega) s s0 s1)
   rw [rigS_of,HK.out] at HGS
   generalize rigS q0 ⟨mf,mt,mp,md,mc⟩ tk (2*c+d)=q at *
   have hkd:kindAt (79+c*2+d)=.i8:=by rcases (show c=0∨c=1 by omega) with rfl | rfl <;> rcases (show d=0∨d=1 by omega) with rfl | rfl <;> rfl
   have HKX:=hI hkd
   have h79:79+2*c+d=79+c*2+d:=by omega
   have HNO:=hI (@rig1_no q ⟨mf,mt,mp,md,mc⟩ tk c d)
   have HKEEP:=hI (@rig1_keep q ⟨mf,mt,mp,md,mc⟩ tk c d)
   have HGONE:=hI (@rig1_gone q ⟨mf,mt,mp,md,mc⟩ tk c d)
   rw [h79] at HNO HKEEP HGONE
   have HCL:=hI (fun W (h:RigW w ⟨mf,mt,mp,md,mc⟩ q W)=>(show (IsPos W (w.heap.size+1)∧rowOf W (w.heap.size+1)=posA q)∧W.cell? ⟨w.heap.size+1,79+c*2+d,none⟩=some (.int .i8 (q (79+c*2+d)))∧W.frozen? ⟨w.heap.size+1,79+c*2+d,none⟩=false∧W.cell? ⟨w.heap.size+1+1,0,none⟩=some (.int .i8 mf)∧W.cell? ⟨w.heap.size+1+1,3,none⟩=some (.int .u8 md) from ⟨h.pos.rules,by have:=h.pos.cell (79+c*2+d) (by omega);rwa [hkd] at this,h.pos.free _,(mv_cell (m:=⟨mf,mt,mp,md,mc⟩) (show W.heap[w.heap.size+1+1]?=_ from h.mv)).1,(mv_cell (m:=⟨mf,mt,mp,md,mc⟩) (show W.heap[w.heap.size+1+1]?=_ from h.mv)).2.2.2.1⟩))
   obtain ⟨x0,x1⟩:=HQOK.out.i8 (79+c*2+d) (by omega) hkd
   have HIS0:=hI (fun (s:Int) (s0:0≤s) (s1:s<64)=>(show ∀ w,Calls Tryz.prog 130 #[.agg (posA q),.int .i64 s,.int .u8 c,.int .u8 4] w fun e w' => e = .returned (.bool (isN q s c 4))∧Below w.heap.size w w' from by have h:=is8_any q HQOK.out s.toNat (by omega) c 4;rw [show ((s.toNat:Nat):Int)=s by omega] at h;exact h))
   obtain ⟨⟨i0,r0⟩,cx,fx,m0,m3⟩:=HCL.out _ hw
   have HW:=hI hw
   clear hw hkd h79
   generalize q (79+c*2+d)=f at *
   by_cases hf:0≤f∧f≤7
   case neg =>
    have HNX:=hI (HNXT.out.trans (HNO.out hf))
    rcases (show decide (f<0)=true∨(decide (f<0)=false∧decide (7<f)=true) by rw [decide_eq_true_iff,decide_eq_true_iff,decide_eq_false_iff_not];omega) with d1 | ⟨d1,d2⟩
    all_goals
     clear hf
     go_wp2
     go_roundg (2 - (d+1))
     case measure=>omega
     case rel=>exact ⟨d+1,by omega,by go_num,by rw [HNX.out];exact HW.out⟩
   have d1:decide (f<0)=false:=decide_eq_false (by omega)
   have d2:decide (7<f)=false:=decide_eq_false (by omega)
   have hs0:0≤56*(c:Int)+f:=by omega
   have hs1:56*(c:Int)+f<64:=by omega
   have wc:=IntWalk.i64_in (56*(c:Int)+f) (by omega)
   have HIS:=hI (HIS0.out _ hs0 hs1)
   obtain ⟨G,hG⟩:∃ G,goneB q ⟨mf,mt,mp,md,mc⟩ tk c (56*c+f)=G:=⟨_,rfl⟩
   have HNX:=hI (show rigS q0 ⟨mf,mt,mp,md,mc⟩ tk (2*c+(d+1))=if G=true then upd q (79+c*2+d) (-1) else q by
    cases G
    · exact HNXT.out.trans (HKEEP.out hG)
    · exact HNXT.out.trans (HGONE.out hf hG))
   have hG2:=(HGS.out _ hs0 hs1).symm.trans hG
   unfold goneR at hG2
   clear hf hG
   rcases rg_ways hG2 with ⟨g0,g1⟩ | ⟨g0,g1,g2⟩ | ⟨g0,g1,g2,g3⟩ | ⟨g0,g1,g2,g3,g4⟩ | ⟨g0,g1,g2,g3,g4,g5,g6⟩ | ⟨g0,g1,g2,g3,g4,g5,g6⟩ | ⟨g0,g1,g2,g3,g4,g5⟩
   all_goals
    clear hG2
    subst g0
    try rw [g3] at HIS
    try dsimp only at g5
    try dsimp only at g6
    go_wp2_with (go_at_call 130;refine (HIS.out _).mono ?_;rintro e w6 ⟨rfl,h1⟩;have HW6:=hI (HW.out.grow h1);clear h1 cx fx i0 r0 m0 m3;obtain ⟨⟨i0,r0⟩,cx,fx,m0,m3⟩:=HCL.out _ HW6.out)
    go_roundg (2 - (d+1))
    case measure=>omega
    case rel=>exact ⟨d+1,by omega,by go_num,by rw [HNX.out];first | exact HW6.out.set _ HKX.out (-1) | exact HW6.out | exact HW.out.set _ HKX.out (-1)⟩
end Go.Proofs.YteocjaihaegmoaaGreatDoor
