/- Parts of the proof: TB, TC, TD, TE, TI. -/
import Derived.Test.YteocjaihaegmoaaGreatDoorWAM
import Derived.Test.YteocjaihaegmoaaGreatDoorWAQ
import Derived.Test.YteocjaihaegmoaaGreatDoorWAT
import Derived.Test.YteocjaihaegmoaaGreatDoorWAU
import Derived.Test.YteocjaihaegmoaaGreatDoorWAW
set_option linter.unusedVariables false
set_option maxHeartbeats 8000000
set_option maxRecDepth 100000
namespace Go.Proofs.YteocjaihaegmoaaGreatDoor
open Go Go.RowKit
theorem keepP78 {w X W:World} {g:Nat} {n:Nat→Int} {t:Int} (h:PosAt X g n∧n 78=t∧Below w.heap.size w X) (hb:Below (w.heap.size+1) X W) (hg:g<w.heap.size+1):(IsPos W g∧rowOf W g=posA n∧W.cell? ⟨g,78,none⟩=some (.int .u8 t))∧Below w.heap.size w W:=by
 have p:=h.1.below hb hg
 exact ⟨⟨p.is,p.row,by rw [← h.2.1];exact p.cell 78 (by decide)⟩,h.2.2.trans (hb.mono (Nat.le_succ _))⟩
theorem blB {B:Nat} {X W W2:World} (hB:B≤X.heap.size) (h:Below B X W) (h2:Below W.heap.size W W2):Below B X W2:=h.trans (h2.mono (Nat.le_trans hB h.size))
def sideBuild (fs:Array (Nat × Value)):Sem Value:=Instr.build 111 fs
@[go_sem ↓] theorem build_side1 (fs : Array (Nat × Value)) : Instr.build 111 fs = sideBuild fs := rfl
@[go_sem] theorem run_sideBuild (n : Nat → Int) (a b : BitVec 64) (w : World) : (sideBuild #[(0, .agg (posA n)), (1, .int .u64 (u a)), (2, .int .u64 (u b))]).run Tryz.prog w = .ok (.agg (sideA n a b)) w := build_side n a b w
theorem zSide:∀ w,(zeroValue 111).run Tryz.prog w=.ok (.agg (sideA zeroN 0#64 0#64)) w:=(zero_of_info zeroSide).1
theorem SideAt.setRow {w:World} {g:Nat} {n:Nat→Int} {a b:BitVec 64} (h:SideAt w g n a b) (m:Nat→Int) (c d:BitVec 64):SideAt (w.setRow g (sideA m c d)) g m c d:=by
 unfold SideAt World.setRow at *
 simp only [Array.getElem?_modify,if_pos,h]
 rfl
theorem side_result {fn:Func} {p u:Tmp} (h:fn.results=#[.cell p 111,.tmp u]) (tmps:Array Value) (w:World) (g:Nat) (n:Nat→Int) (a b:BitVec 64) (v:Value)
 (hp:tmps.getD p undef=.pointer (some ⟨g,0,none⟩)) (hv:tmps.getD u undef=v) (hg:SideAt w g n a b):(results fn tmps).run Tryz.prog w=.ok (.tuple #[.agg (sideA n a b),v]) w:=by
 have hl:=run_loadVar_row w g _ _ (sideA n a b) _ _ hg Tryz.underlying111 rfl (by rw [sideA_size];exact sizeSide)
 rw [results_cell_tmp h,hp,hv]
 simp [asAddr,hl,Result.andThen]
theorem who_any (n:Nat→Int) (hn:PosOk n) (t:Int) (ht:n 78=t) (h01:t=0∨t=1) (hv:n 0<9) (w:World):Calls Tryz.prog 86 #[.agg (posA n)] w fun e w' => e = .returned (.tuple #[.agg (sideA n (ownB n) (othB n)),.bool true])∧Below w.heap.size w w' := by
 obtain ⟨X,hX⟩:∃ X,(w.alloc (.cells (posA n) 31)).alloc (.cells (sideA zeroN 0#64 0#64) 111)=X:=⟨_,rfl⟩
 have p0:PosAt X w.heap.size n:=by rw [← hX];exact (PosAt.new w n).alloc _
 have q0:SideAt X (w.heap.size+1) zeroN 0#64 0#64:=by
  rw [← hX]
  have:=SideAt.new (w.alloc (.cells (posA n) 31)) zeroN 0#64 0#64
  rwa [World.size_alloc] at this
 have hb:Below w.heap.size w X:=by rw [← hX];exact (bR.alloc lR _).alloc (by simp) _
 have hXs:X.heap.size=w.heap.size+2:=by rw [← hX];simp
 have c78:X.cell? ⟨w.heap.size,78,none⟩=some (.int .u8 t):=by rw [← ht];exact p0.cell 78 (by decide)
 have c0:X.cell? ⟨w.heap.size,0,none⟩=some (.int .u8 (n 0)):=p0.board 0 (by decide)
 have zs:=zSide
 have d1:decide ((1:Int)<t)=false:=decide_eq_false (by omega)
 have d2:decide ((9:Int)≤n 0)=false:=decide_eq_false (by omega)
 have HX:=hI hX
 have HP:=hI (show PosAt X w.heap.size n∧n 78=t∧Below w.heap.size w X from ⟨p0,ht,hb⟩)
 have HQ:=hI q0
 have HOWN:=hI (show ownB n=ofN n t 0 by unfold ownB;rw [ht])
 have HOTH:=hI (show othB n=ofN n (1 - t) 0 by unfold othB;rw [ht])
 have HXS:=hI hXs
 have W1:IntKind.u8.wrap (1 - t)=1 - t:=IntWalk.u8_in _ (by omega)
 clear hX p0 q0 hXs ht
 go_enter Tryz.func86,Tryz.ntmps86
 go_wp2_with (first | rw [HX.out])
 refine wp_region_held_drew (S:=(fun W=>(IsPos W w.heap.size∧rowOf W w.heap.size=posA n∧W.cell? ⟨w.heap.size,78,none⟩=some (.int .u8 t))∧Below w.heap.size w W)) (by kernel_rfl) ?_ (fun hHeld=>?_)
 · (try dsimp only);(refine keepP78 HP.out ?_ (Nat.lt_succ_self _);repeat (first | exact bR | assumption | refine bD ?_ | refine blB (by rw [HXS.out];exact Nat.le_succ _) ?_ (by assumption) | refine below_setRow ?_ lR _))
 refine wpAnyH_take (i:=0) (oi:={ dst:=some 13,op:=Op.load 31 (Operand.tmp 1),type:=31,pos := "pseudo.go:124",after:=#[],guard:=none }) (v:=?_) rfl (by kernel_rfl) (by kernel_rfl) (by kernel_rfl) (fun _ _ _ h=>h) (Or.inl ⟨by rfl,?_⟩) (by assumption) ?_
 rotate_left
 · (intro w hSw;(try dsimp only at hSw);go_simp;try (with_reducible rfl))
 try simp only [Act.put,lA,lB,lC]
 refine wpAnyH_take (i:=1) (oi:={ dst:=some 14,op:=Op.load 31 (Operand.tmp 1),type:=31,pos := "pseudo.go:124",after:=#[],guard:=none }) (v:=?_) rfl (by kernel_rfl) (by kernel_rfl) (by kernel_rfl) (fun _ _ _ h=>h) (Or.inl ⟨by rfl,?_⟩) (by assumption) ?_
 rotate_left
 · (intro w hSw;(try dsimp only at hSw);go_simp;try (with_reducible rfl))
 try simp only [Act.put,lA,lB,lC]
 refine wpAnyH_take (i:=2) (oi:={ dst:=some 15,op:=Op.fieldAddr 31 (Operand.tmp 1) 4,type:=0,pos := "pseudo.go:124",after:=#[],guard:=none }) (v:=?_) rfl (by kernel_rfl) (by kernel_rfl) (by kernel_rfl) (fun _ _ _ h=>h) (Or.inl ⟨by rfl,?_⟩) (by assumption) ?_
 rotate_left
 · (intro w hSw;(try dsimp only at hSw);go_simp;try (with_reducible rfl))
 try simp only [Act.put,lA,lB,lC]
 refine wpAnyH_take (i:=3) (oi:={ dst:=some 16,op:=Op.load 5 (Operand.tmp 15),type:=5,pos := "pseudo.go:124",after:=#[{ on:=2,ground:=Ground.data }],guard:=none }) (v:=?_) rfl (by kernel_rfl) (by kernel_rfl) (by kernel_rfl) (fun _ _ _ h=>h) (Or.inl ⟨by rfl,?_⟩) (by assumption) ?_
 rotate_left
 · (intro w hSw;(try dsimp only at hSw);go_simp;try (with_reducible rfl))
 try simp only [Act.put,lA,lB,lC]
 refine wpAnyH_take (i:=5) (oi:={ dst:=some 18,op:=Op.load 31 (Operand.tmp 1),type:=31,pos := "pseudo.go:124",after:=#[],guard:=none }) (v:=?_) rfl (by kernel_rfl) (by kernel_rfl) (by kernel_rfl) (fun _ _ _ h=>h) (Or.inl ⟨by rfl,?_⟩) (by assumption) ?_
 rotate_left
 · (intro w hSw;(try dsimp only at hSw);go_simp;try (with_reducible rfl))
 try simp only [Act.put,lA,lB,lC]
 refine wpAnyH_take (i:=6) (oi:={ dst:=some 19,op:=Op.fieldAddr 31 (Operand.tmp 1) 4,type:=0,pos := "pseudo.go:124",after:=#[],guard:=none }) (v:=?_) rfl (by kernel_rfl) (by kernel_rfl) (by kernel_rfl) (fun _ _ _ h=>h) (Or.inl ⟨by rfl,?_⟩) (by assumption) ?_
 rotate_left
 · (intro w hSw;(try dsimp only at hSw);go_simp;try (with_reducible rfl))
 try simp only [Act.put,lA,lB,lC]
 refine wpAnyH_take (i:=7) (oi:={ dst:=some 20,op:=Op.load 5 (Operand.tmp 19),type:=5,pos := "pseudo.go:124",after:=#[{ on:=6,ground:=Ground.data }],guard:=none }) (v:=?_) rfl (by kernel_rfl) (by kernel_rfl) (by kernel_rfl) (fun _ _ _ h=>h) (Or.inl ⟨by rfl,?_⟩) (by assumption) ?_
 rotate_left
 · (intro w hSw;(try dsimp only at hSw);go_simp;try (with_reducible rfl))
 try simp only [Act.put,lA,lB,lC]
 refine wpAnyH_take (i:=8) (oi:={ dst:=some 21,op:=Op.binOp BinOp.sub 5 (Operand.const (Value.int IntKind.u8 1)) (Operand.tmp 20) 5,type:=5,pos := "pseudo.go:124",after:=#[{ on:=7,ground:=Ground.data }],guard:=none }) (v:=?_) rfl (by kernel_rfl) (by kernel_rfl) (by kernel_rfl) (fun _ _ _ h=>h) (Or.inl ⟨by rfl,?_⟩) (by assumption) ?_
 rotate_left
 · (intro w hSw;(try dsimp only at hSw);go_simp;try (with_reducible rfl))
 try simp only [Act.put,lA,lB,lC]
 refine wpAnyH_ready (rs:=[4]) (by kernel_rfl) (by simp) ?_
 refine AllReadyH.cons (o:={ dst:=some 17,op:=Op.call { callee:=Callee.value (Operand.func 99),args:=#[Operand.tmp 14,Operand.tmp 16,Operand.const (Value.int IntKind.u8 0)],argTypes:=#[31,5,5] },type:=23,pos := "pseudo.go:124",after:=#[{ on:=1,ground:=Ground.data },{ on:=3,ground:=Ground.data }],guard:=none }) rfl (fun K hK=>?_) AllReadyH.nil
 go_simp
 refine (of_any n hn t 0 _).mono ?_
 rintro e wa ⟨rfl,hba⟩
 rw [← HOWN.out]
 refine hK.out _ _ ?_ (fun hHeld=>?_)
 · (try dsimp only);(refine keepP78 HP.out ?_ (Nat.lt_succ_self _);repeat (first | exact bR | assumption | refine bD ?_ | refine blB (by rw [HXS.out];exact Nat.le_succ _) ?_ (by assumption) | refine below_setRow ?_ lR _))
 clear hK K
 try simp only [Act.put,lA,lB,lC]
 refine wpAnyH_ready (rs:=[9]) (by kernel_rfl) (by simp) ?_
 refine AllReadyH.cons (o:={ dst:=some 22,op:=Op.call { callee:=Callee.value (Operand.func 99),args:=#[Operand.tmp 18,Operand.tmp 21,Operand.const (Value.int IntKind.u8 0)],argTypes:=#[31,5,5] },type:=23,pos := "pseudo.go:124",after:=#[{ on:=5,ground:=Ground.data },{ on:=8,ground:=Ground.data },{ on:=4,ground:=Ground.chain }],guard:=none }) rfl (fun K hK=>?_) AllReadyH.nil
 go_simp
 refine (of_any n hn (1 - t) 0 _).mono ?_
 rintro e wb ⟨rfl,hbb⟩
 rw [← HOTH.out]
 refine hK.out _ _ ?_ (fun hHeld=>?_)
 · (try dsimp only);(refine keepP78 HP.out ?_ (Nat.lt_succ_self _);repeat (first | exact bR | assumption | refine bD ?_ | refine blB (by rw [HXS.out];exact Nat.le_succ _) ?_ (by assumption) | refine below_setRow ?_ lR _))
 clear hK K
 try simp only [Act.put,lA,lB,lC]
 refine wpAnyH_take (i:=10) (oi:={ dst:=some 23,op:=Op.build 111 #[(0,Operand.tmp 13),(1,Operand.tmp 17),(2,Operand.tmp 22)],type:=111,pos := "pseudo.go:124",after:=#[{ on:=0,ground:=Ground.data },{ on:=4,ground:=Ground.data },{ on:=9,ground:=Ground.data }],guard:=none }) (v:=?_) rfl (by kernel_rfl) (by kernel_rfl) (by kernel_rfl) (fun _ _ _ h=>h) (Or.inl ⟨by rfl,?_⟩) (by assumption) ?_
 rotate_left
 · (intro w hSw;(try dsimp only at hSw);go_simp;try (with_reducible rfl))
 try simp only [Act.put,lA,lB,lC]
 refine wpAnyH_ready (rs:=[11]) (by kernel_rfl) (by simp) ?_
 refine AllReadyH.cons (o:={ dst:=none,op:=Op.store 111 (Operand.tmp 2) (Operand.tmp 23),type:=0,pos := "pseudo.go:124",after:=#[{ on:=10,ground:=Ground.data },{ on:=9,ground:=Ground.chain },{ on:=0,ground:=Ground.phase },{ on:=1,ground:=Ground.phase },{ on:=2,ground:=Ground.phase },{ on:=3,ground:=Ground.phase },{ on:=4,ground:=Ground.phase },{ on:=5,ground:=Ground.phase },{ on:=6,ground:=Ground.phase },{ on:=7,ground:=Ground.phase },{ on:=8,ground:=Ground.phase },{ on:=9,ground:=Ground.phase },{ on:=10,ground:=Ground.phase }],guard:=none }) rfl (fun K hK=>?_) AllReadyH.nil
 go_simp
 have hXs:=HXS.out
 have sB:=(HQ.out.below (blB lR (blB lR (bD bR) hba) hbb) HQ.out.lt)
 rw [run_storeSide (n:=n) (a:=ownB n) (b:=othB n) sB (sideA_size _ _ _)]
 go_simp
 refine hK.out _ _ ?_ (fun hHeld=>?_)
 · (try dsimp only);(refine keepP78 HP.out ?_ (Nat.lt_succ_self _);repeat (first | exact bR | assumption | refine bD ?_ | refine blB (by rw [HXS.out];exact Nat.le_succ _) ?_ (by assumption) | refine below_setRow ?_ lR _))
 clear hK K
 try simp only [Act.put,lA,lB,lC]
 refine wpAnyH_take (i:=12) (oi:={ dst:=some 3,op:=Op.assign (Operand.const (Value.bool true)),type:=4,pos := "pseudo.go:124",after:=#[{ on:=11,ground:=Ground.chain },{ on:=0,ground:=Ground.phase },{ on:=1,ground:=Ground.phase },{ on:=2,ground:=Ground.phase },{ on:=3,ground:=Ground.phase },{ on:=4,ground:=Ground.phase },{ on:=5,ground:=Ground.phase },{ on:=6,ground:=Ground.phase },{ on:=7,ground:=Ground.phase },{ on:=8,ground:=Ground.phase },{ on:=9,ground:=Ground.phase },{ on:=10,ground:=Ground.phase },{ on:=11,ground:=Ground.phase }],guard:=none }) (v:=?_) rfl (by kernel_rfl) (by kernel_rfl) (by kernel_rfl) (fun _ _ _ h=>h) (Or.inl ⟨by rfl,?_⟩) (by assumption) ?_
 rotate_left
 · (intro w hSw;(try dsimp only at hSw);go_simp;try (with_reducible rfl))
 try simp only [Act.put,lA,lB,lC]
 refine wpAnyH_done (by kernel_rfl) ?_ _
 go_wp2
 exact bodyPost_ret (v:=.tuple #[.agg (sideA n (ownB n) (othB n)),.bool true]) (side_result Tryz.results86 _ _ _ _ _ _ _ rfl rfl (sB.setRow _ _ _)) rfl ⟨rfl,hHeld.2⟩
end Go.Proofs.YteocjaihaegmoaaGreatDoor
namespace Go.Proofs.YteocjaihaegmoaaGreatDoor
open Go Go.RowKit Go.Shelf
attribute [local go_sem] Oper.semAt_some
abbrev badM:List TypeId:=[41]
def YieldsM (l:Nat) (J:List Mv→Option Nat→World→Prop) (xs:List Mv):Prop :=
 ∀ pre (m:Mv) own W,J pre own W→(pre ++ [m]) <+: xs→m.Ok→∀ k,YieldAt Fence.wide k Tryz.prog l #[.agg #[.int .i8 m.f,.int .i8 m.t,.int .u8 m.p,.int .u8 m.d,.bool m.c]] W fun e W' => e = .returned (.bool true)∧∃ own',J (pre ++ [m]) own' W' ∧ HoldsO own badM W W' ∧ Newer own own' W
theorem pre_less {pre a b xs:List Mv} (h:(pre ++ (a ++ b)) <+: xs):(pre ++ a) <+: xs:=by
 obtain ⟨t,ht⟩:=h
 exact ⟨b ++ t,by rw [← ht];simp [List.append_assoc]⟩
def eachPost (J:List Mv→Option Nat→World→Prop) (pre l:List Mv) (own:Option Nat) (W:World) (e:Ending) (W' : World):Prop :=
 e=.returned (.bool true)∧∃ own',J (pre ++ l) own' W' ∧ HoldsO own badM W W' ∧ Newer own own' W
def boxMv (W:World) (n:Nat→Int) (A B:BitVec 64) (m:Mv):World:=(W.alloc (.cells (sideA n A B) 111)).alloc (.cells m.cells.toArray 49)
theorem mv_cell {W:World} {g:Nat} {m:Mv} (h:W.heap[g]?=some (.cells m.cells.toArray 49 (0,0))) :
 W.cell? ⟨g,0,none⟩=some (.int .i8 m.f)∧W.cell? ⟨g,1,none⟩=some (.int .i8 m.t)∧W.cell? ⟨g,2,none⟩=some (.int .u8 m.p)∧W.cell? ⟨g,3,none⟩=some (.int .u8 m.d)∧W.cell? ⟨g,4,none⟩=some (.bool m.c):=by
 refine ⟨?_,?_,?_,?_,?_⟩ <;> (rw [cell_of_row W g _ _ _ _ h];rfl)
theorem boxMv_facts (W:World) (n:Nat→Int) (A B:BitVec 64) (m:Mv) (X:World) (h:boxMv W n A B m=X) :
 SideAt X W.heap.size n A B∧X.heap[W.heap.size+1]?=some (.cells m.cells.toArray 49 (0,0))∧Below W.heap.size W X∧X.heap.size=W.heap.size+2:=by
 subst h
 unfold boxMv
 have h1:=SideAt.new W n A B
 have h2:=World.alloc_heap_new (W.alloc (.cells (sideA n A B) 111)) (.cells m.cells.toArray 49)
 rw [World.size_alloc] at h2
 exact ⟨(Below.heap_alloc _ _ _ (by simp)).trans h1,h2,(bR.alloc lR _).alloc (by simp) _,by simp⟩
theorem each_a (n:Nat→Int) (hn:PosOk n) (t:Int) (ht:n 78=t) (h01:t=0∨t=1) (a b:Int) (a0:0≤a) (a1:a<64) (b0:0≤b) (b1:b<64) (A B:BitVec 64) (hk:kndI (n (1+a.toNat))≠1)
 (l:Nat) (J:List Mv→Option Nat→World→Prop) (xs pre:List Mv) (own:Option Nat) (W:World) (hJb:Grows2 J) (hJr:Rows2 49 J) (hY:YieldsM l J xs) (h0:J pre own W) (hpre:(pre ++ promM n a b) <+: xs) (k:Nat) :
 CallsIn Fence.wide k Tryz.prog 187 #[.agg (sideA n A B),.agg #[.int .i8 a,.int .i8 b,.int .u8 0,.int .u8 0,.bool false],.func (.yield l) #[] #[]] W (eachPost J pre (promM n a b) own W):=by
 have hp:promM n a b=[mvP a b 0]:=by unfold promM;rw [if_neg (fun h=>hk h.1)]
 rw [hp] at hpre ⊢
 obtain ⟨X,hX⟩:∃ X,boxMv W n A B (mvP a b 0)=X:=⟨_,rfl⟩
 obtain ⟨p0,q0,hb,hXs⟩:=boxMv_facts W n A B _ X hX
 have cf:X.cell? ⟨W.heap.size+1,0,none⟩=some (.int .i8 a):=(mv_cell q0).1
 have ct:X.cell? ⟨W.heap.size+1,1,none⟩=some (.int .i8 b):=(mv_cell q0).2.1
 have cp:X.cell? ⟨W.heap.size+1,2,none⟩=some (.int .u8 0):=(mv_cell q0).2.2.1
 have cd:X.cell? ⟨W.heap.size+1,3,none⟩=some (.int .u8 0):=(mv_cell q0).2.2.2.1
 have cc:X.cell? ⟨W.heap.size+1,4,none⟩=some (.bool false):=(mv_cell q0).2.2.2.2
 have cs:X.cell? ⟨W.heap.size,1+a.toNat,none⟩=some (.int .u8 (n (1+a.toNat))):=by rw [p0.pos (1+a.toNat) (by omega),kB (by omega)]
 have c78:X.cell? ⟨W.heap.size,78,none⟩=some (.int .u8 t):=by rw [← ht];exact p0.pos 78 (by decide)
 have c0:X.cell? ⟨W.heap.size,0,none⟩=some (.int .u8 (n 0)):=p0.pos 0 (by decide)
 obtain ⟨v0,v1⟩:=hn.u8 (1+a.toNat) (by omega) (kB (by omega))
 have HKD:=hI (kind_any _ v0 v1)
 have HRK:=hI (rank_any t b h01 b0 b1)
 have hJX:=hJb _ _ _ _ h0 hb
 have hok:(mvP a b 0).Ok:=⟨by show -128≤a∧a≤127;omega,by show -128≤b∧b≤127;omega,(by decide:(0:Int)≤0∧(0:Int)≤255),(by decide:(0:Int)≤0∧(0:Int)≤255)⟩
 obtain ⟨fn,tmps,assign,body,hy,hR⟩:=hY pre _ own X hJX hpre hok (k - 1)
 dsimp only [mvP] at hy
 have hk2:(kndI (n (1+a.toNat)) != 1)=true:=by simpa using hk
 generalize n (1+a.toNat)=x at *
 have HX:=hI (show (W.alloc (.cells (sideA n A B) 111)).alloc (.cells #[.int .i8 a,.int .i8 b,.int .u8 0,.int .u8 0,.bool false] 49)=X from hX)
 have HBX:=hI (HoldsO.of_below (own:=own) (bad:=badM) hb)
 have hsz:=hb.size
 clear hX hJX h0 hpre hb hJb hJr hY q0 p0 ht hk
 refine callsIn_of_wp Tryz.func187 rfl trivial ?_ rfl
 simp only [Tryz.ntmps187,List.size_toArray,List.length_cons,List.length_nil,Nat.reduceAdd,Nat.reduceSub,Array.replicate_succ,Array.replicate_zero,List.push_toArray,List.append_toArray,List.nil_append,List.cons_append]
 have hd:Fence.wide.depth.isSome=false:=rfl
 have hfn:∀ k,Fence.wide.fn k=True:=fun _=>rfl
 gi_wp2_with (first | rw [HX.out] | (gi_at_call 87;refine (callsIn_wide.2 (HKD.out _)).mono ?_;rintro e w2 ⟨rfl,rfl⟩) | (gi_at_call 209;refine (callsIn_wide.2 (HRK.out _)).mono ?_;rintro e w2 ⟨rfl,rfl⟩))
 refine hR.mono ?_
 rintro e W3 ⟨rfl,own',hJ3,hk3,hn3⟩
 have HE:=hI (show eachPost J pre [mvP a b 0] own W (.returned (.bool true)) W3 from ⟨rfl,own',hJ3,HBX.out.trans hk3 (.inl rfl),hn3.elim .inl (fun ⟨g,h1,h2⟩=>.inr ⟨g,h1,Nat.le_trans hsz h2⟩)⟩)
 clear hJ3 hk3 hn3 hR hy
 gi_wp2
 go_ret
 exact HE.out
theorem each_b (n:Nat→Int) (hn:PosOk n) (t:Int) (ht:n 78=t) (h01:t=0∨t=1) (a b:Int) (a0:0≤a) (a1:a<64) (b0:0≤b) (b1:b<64) (A B:BitVec 64) (hk:kndI (n (1+a.toNat))=1) (hr:rankC (n 78) b≠7)
 (l:Nat) (J:List Mv→Option Nat→World→Prop) (xs pre:List Mv) (own:Option Nat) (W:World) (hJb:Grows2 J) (hJr:Rows2 49 J) (hY:YieldsM l J xs) (h0:J pre own W) (hpre:(pre ++ promM n a b) <+: xs) (k:Nat) :
 CallsIn Fence.wide k Tryz.prog 187 #[.agg (sideA n A B),.agg #[.int .i8 a,.int .i8 b,.int .u8 0,.int .u8 0,.bool false],.func (.yield l) #[] #[]] W (eachPost J pre (promM n a b) own W):=by
 have hp:promM n a b=[mvP a b 0]:=by unfold promM;rw [if_neg (fun h=>hr h.2)]
 rw [hp] at hpre ⊢
 obtain ⟨X,hX⟩:∃ X,boxMv W n A B (mvP a b 0)=X:=⟨_,rfl⟩
 obtain ⟨p0,q0,hb,hXs⟩:=boxMv_facts W n A B _ X hX
 have cf:X.cell? ⟨W.heap.size+1,0,none⟩=some (.int .i8 a):=(mv_cell q0).1
 have ct:X.cell? ⟨W.heap.size+1,1,none⟩=some (.int .i8 b):=(mv_cell q0).2.1
 have cp:X.cell? ⟨W.heap.size+1,2,none⟩=some (.int .u8 0):=(mv_cell q0).2.2.1
 have cd:X.cell? ⟨W.heap.size+1,3,none⟩=some (.int .u8 0):=(mv_cell q0).2.2.2.1
 have cc:X.cell? ⟨W.heap.size+1,4,none⟩=some (.bool false):=(mv_cell q0).2.2.2.2
 have cs:X.cell? ⟨W.heap.size,1+a.toNat,none⟩=some (.int .u8 (n (1+a.toNat))):=by rw [p0.pos (1+a.toNat) (by omega),kB (by omega)]
 have c78:X.cell? ⟨W.heap.size,78,none⟩=some (.int .u8 t):=by rw [← ht];exact p0.pos 78 (by decide)
 have c0:X.cell? ⟨W.heap.size,0,none⟩=some (.int .u8 (n 0)):=p0.pos 0 (by decide)
 obtain ⟨v0,v1⟩:=hn.u8 (1+a.toNat) (by omega) (kB (by omega))
 have HKD:=hI (kind_any _ v0 v1)
 have HRK:=hI (rank_any t b h01 b0 b1)
 have hJX:=hJb _ _ _ _ h0 hb
 have hok:(mvP a b 0).Ok:=⟨by show -128≤a∧a≤127;omega,by show -128≤b∧b≤127;omega,(by decide:(0:Int)≤0∧(0:Int)≤255),(by decide:(0:Int)≤0∧(0:Int)≤255)⟩
 obtain ⟨fn,tmps,assign,body,hy,hR⟩:=hY pre _ own X hJX hpre hok (k - 1)
 dsimp only [mvP] at hy
 have hr2:(rankC t b != 7)=true:=by rw [← ht];simpa using hr
 have HK:=hI hk
 generalize n (1+a.toNat)=x at *
 have HX:=hI (show (W.alloc (.cells (sideA n A B) 111)).alloc (.cells #[.int .i8 a,.int .i8 b,.int .u8 0,.int .u8 0,.bool false] 49)=X from hX)
 have HBX:=hI (HoldsO.of_below (own:=own) (bad:=badM) hb)
 have hsz:=hb.size
 clear hX hJX h0 hpre hb hJb hJr hY q0 p0 ht hk hr
 refine callsIn_of_wp Tryz.func187 rfl trivial ?_ rfl
 simp only [Tryz.ntmps187,List.size_toArray,List.length_cons,List.length_nil,Nat.reduceAdd,Nat.reduceSub,Array.replicate_succ,Array.replicate_zero,List.push_toArray,List.append_toArray,List.nil_append,List.cons_append]
 have hd:Fence.wide.depth.isSome=false:=rfl
 have hfn:∀ k,Fence.wide.fn k=True:=fun _=>rfl
 gi_wp2_with (first | rw [HX.out] | (gi_at_call 87;refine (callsIn_wide.2 (HKD.out _)).mono ?_;rintro e w2 ⟨rfl,rfl⟩;rw [HK.out]) | (gi_at_call 209;refine (callsIn_wide.2 (HRK.out _)).mono ?_;rintro e w2 ⟨rfl,rfl⟩))
 refine hR.mono ?_
 rintro e W3 ⟨rfl,own',hJ3,hk3,hn3⟩
 have HE:=hI (show eachPost J pre [mvP a b 0] own W (.returned (.bool true)) W3 from ⟨rfl,own',hJ3,HBX.out.trans hk3 (.inl rfl),hn3.elim .inl (fun ⟨g,h1,h2⟩=>.inr ⟨g,h1,Nat.le_trans hsz h2⟩)⟩)
 clear hJ3 hk3 hn3 hR hy
 gi_wp2
 go_ret
 exact HE.out
theorem promM_c {n:Nat→Int} {a b:Int} (hk:kndI (n (1+a.toNat))=1) (hr:rankC (n 78) b=7):promM n a b=(promL (n 0).toNat).map (fun k=>mvP a b k):=by unfold promM;rw [if_pos ⟨hk,hr⟩]
theorem map_take_succ (f:Int→Mv) (l:List Int) (j:Nat) (hj:j<l.length):(l.take j).map f ++ [f l[j]]=(l.take (j+1)).map f:=by
 rw [List.take_succ_eq_append_getElem hj,List.map_append];rfl
theorem HoldsO.setNew {own:Option Nat} {bad:List TypeId} {W Wr:World} (h:HoldsO own bad W Wr) {g:Nat} (hg:W.heap.size≤g) (i:Nat) (v:Value):HoldsO own bad W (Wr.setCell ⟨g,i,none⟩ v) :=
 ⟨by simpa [World.setCell] using h.size,fun k o hk hko ho=>(Below.heap_setCell _ _ _ _ (by have:=(Array.getElem?_eq_some_iff.1 hk).1;show k≠g;omega)).trans (h.same k o hk hko ho)⟩
theorem ownsU_type {w:World} {B g n c:Nat} {l:List Int} (h:OwnsU w B (.slice (some ⟨g,0,none⟩) n c) l):∃ cs m,w.heap[g]?=some (.cells cs 5 m):=by
 obtain ⟨h1,h2⟩:=h
 rcases h2 with ⟨h2,_⟩ | ⟨g',cap,cur,hv,hg,hgb,rest⟩
 · cases h2
 · cases hv
   exact ⟨_,_,hgb⟩
theorem cell_same {w w' : World} {g:Nat} (h:w'.heap[g]?=w.heap[g]?) (k:Nat):w'.cell? ⟨g,k,none⟩=w.cell? ⟨g,k,none⟩:=by
 simp only [World.cell?,h]
theorem set_mv {W:World} {g:Nat} {a b p:Int} (h:W.heap[g]?=some (.cells (mvP a b p).cells.toArray 49 (0,0))) (q:Int):(W.setCell ⟨g,2,none⟩ (.int .u8 q)).heap[g]?=some (.cells (mvP a b q).cells.toArray 49 (0,0)):=by
 simp only [World.setCell]
 rw [Array.getElem?_modify,if_pos rfl,h]
 rfl
/-- What the round of each wants of a world. -/
structure EachS (J:List Mv→Option Nat→World→Prop) (pre:List Mv) (a b:Int) (L:List Int) (own:Option Nat) (W w1:World) (g:Nat) (j:Nat) (Wr:World):Prop where
 jj:∃ own',J (pre ++ (L.take j).map (fun k=>mvP a b k)) own' Wr∧HoldsO own badM W Wr∧Newer own own' W∧own' ≠ some (W.heap.size+1)
 mm:∃ p,Wr.heap[W.heap.size+1]?=some (.cells (mvP a b p).cells.toArray 49 (0,0))
 vg:Wr.heap[g]?=w1.heap[g]?
 sz:W.heap.size+2≤Wr.heap.size
theorem each_c (n:Nat→Int) (hn:PosOk n) (t:Int) (ht:n 78=t) (h01:t=0∨t=1) (a b:Int) (a0:0≤a) (a1:a<64) (b0:0≤b) (b1:b<64) (A B:BitVec 64) (hk:kndI (n (1+a.toNat))=1) (hr:rankC (n 78) b=7)
 (l:Nat) (J:List Mv→Option Nat→World→Prop) (xs pre:List Mv) (own:Option Nat) (W:World) (hJb:Grows2 J) (hJr:Rows2 49 J) (hJs:Sets2 W.heap.size J) (hY:YieldsM l J xs) (h0:J pre own W) (hpre:(pre ++ promM n a b) <+: xs) (k:Nat) :
 CallsIn Fence.wide k Tryz.prog 187 #[.agg (sideA n A B),.agg #[.int .i8 a,.int .i8 b,.int .u8 0,.int .u8 0,.bool false],.func (.yield l) #[] #[]] W (eachPost J pre (promM n a b) own W):=by
 rw [promM_c hk hr] at hpre ⊢
 obtain ⟨X,hX⟩:∃ X,boxMv W n A B (mvP a b 0)=X:=⟨_,rfl⟩
 obtain ⟨p0,q0,hb,hXs⟩:=boxMv_facts W n A B _ X hX
 have cf:X.cell? ⟨W.heap.size+1,0,none⟩=some (.int .i8 a):=(mv_cell q0).1
 have ct:X.cell? ⟨W.heap.size+1,1,none⟩=some (.int .i8 b):=(mv_cell q0).2.1
 have cp:X.cell? ⟨W.heap.size+1,2,none⟩=some (.int .u8 0):=(mv_cell q0).2.2.1
 have cd:X.cell? ⟨W.heap.size+1,3,none⟩=some (.int .u8 0):=(mv_cell q0).2.2.2.1
 have cc:X.cell? ⟨W.heap.size+1,4,none⟩=some (.bool false):=(mv_cell q0).2.2.2.2
 have cs:X.cell? ⟨W.heap.size,1+a.toNat,none⟩=some (.int .u8 (n (1+a.toNat))):=by rw [p0.pos (1+a.toNat) (by omega),kB (by omega)]
 have c78:X.cell? ⟨W.heap.size,78,none⟩=some (.int .u8 t):=by rw [← ht];exact p0.pos 78 (by decide)
 have c0:X.cell? ⟨W.heap.size,0,none⟩=some (.int .u8 (n 0)):=p0.pos 0 (by decide)
 obtain ⟨v0,v1⟩:=hn.u8 (1+a.toNat) (by omega) (kB (by omega))
 have HKD:=hI (kind_any _ v0 v1)
 have HRK:=hI (rank_any t b h01 b0 b1)
 have hJX:=hJb _ _ _ _ h0 hb
 have hr2:(rankC t b != 7)=false:=by rw [← ht,hr];rfl
 have HK:=hI hk
 obtain ⟨z0,z1⟩:=hn.u8 0 (by decide) rfl
 have HPR:=hI (vpromotes_any (n 0).toNat (by omega))
 have ez:(((n 0).toNat:Nat):Int)=n 0:=by omega
 rw [ez] at HPR
 have hlen : (promL (n 0).toNat).length ≤ 5 := by unfold promL; split; · decide
                                                  · split <;> decide
 have hbd:∀ x∈promL (n 0).toNat,2≤x∧x≤6:=fun x hx=>promL_bd hx
 generalize hL:promL (n 0).toNat=L at *
 have HBD:=hI hbd
 generalize n (1+a.toNat)=x at *
 generalize n 0=v at *
 have HX:=hI (show (W.alloc (.cells (sideA n A B) 111)).alloc (.cells #[.int .i8 a,.int .i8 b,.int .u8 0,.int .u8 0,.bool false] 49)=X from hX)
 have HQ:=hI q0
 have hsz:=hb.size
 have HJX:=hI hJX
 have hown:∀ y,own=some y→y<W.heap.size:=fun y hy=>by obtain ⟨cs,m,hc⟩:=hJr _ _ _ y h0 hy;exact (Array.getElem?_eq_some_iff.1 hc).1
 have HOWN:=hI hown
 have HPRE:=hI hpre
 have HY:=hI hY
 have HJB:=hI hJb
 have HJR:=hI hJr
 have HJS:=hI hJs
 have HB:=hI hb
 have HXS:=hI hXs
 clear hX hJX h0 hpre hb hJb hJr hY q0 p0 ht hk hr hJs hown hL hn hbd ez hXs
 refine callsIn_of_wp Tryz.func187 rfl trivial ?_ rfl
 simp only [Tryz.ntmps187,List.size_toArray,List.length_cons,List.length_nil,Nat.reduceAdd,Nat.reduceSub,Array.replicate_succ,Array.replicate_zero,List.push_toArray,List.append_toArray,List.nil_append,List.cons_append]
 have hd:Fence.wide.depth.isSome=false:=rfl
 have hfn:∀ k,Fence.wide.fn k=True:=fun _=>rfl
 gi_wp2_with (first | rw [HX.out] | (gi_at_call 87;refine (callsIn_wide.2 (HKD.out _)).mono ?_;rintro e w2 ⟨rfl,rfl⟩;rw [HK.out]) | (gi_at_call 209;refine (callsIn_wide.2 (HRK.out _)).mono ?_;rintro e w2 ⟨rfl,rfl⟩))
 refine (callsIn_wide.2 (HPR.out _)).mono ?_
 rintro e w1 ⟨pv,rfl,hown,hb1⟩
 rcases hown.form with ⟨hl,aa,cc2,rfl⟩ | ⟨g,c,rfl,hg,hgl,hne,hcell,_⟩
 · subst hl
   have HE:=hI (show eachPost J pre [] own W (.returned (.bool true)) w1 from ⟨rfl,own,by rw [List.append_nil];exact HJB.out _ _ _ _ HJX.out hb1,HoldsO.of_below (HB.out.trans (hb1.mono hsz)),.inl rfl⟩)
   clear hown hb1
   gi_wp2
   gi_loopw [35] (fun i wr=>i=.int .i64 0∧wr=w1) (fun _ _=>1)
   case atStart=>exact ⟨rfl,rfl⟩
   case round =>
    obtain ⟨rfl,rfl⟩:=hrel
    gi_wp2
    go_ret
    exact HE.out
 · have hcg := ownsU_type hown
   have hgx:g≠W.heap.size+1:=by have:=HXS.out;omega
   have HST:=hI (show EachS J pre a b L own W w1 g 0 w1 from ⟨⟨own,by rw [List.take_zero,List.map_nil,List.append_nil];exact HJB.out _ _ _ _ HJX.out hb1,HoldsO.of_below (HB.out.trans (hb1.mono hsz)),.inl rfl,fun e=>by have:=HOWN.out _ e;omega⟩,
    ⟨0,(hb1.block _ (Array.getElem?_eq_some_iff.1 HQ.out).1).trans HQ.out⟩,rfl,by have:=HXS.out;have:=hb1.size;omega⟩)
   have HCELL:=hI hcell
   have HCG:=hI hcg
   have HGX:=hI hgx
   have HLN:=hI hlen
   clear hown hb1 hcell hcg hgx hg hgl hne
   gi_wp2
   gi_loopw [8,35] (fun z i wr=>∃ j:Nat,j≤L.length∧i=.int .i64 (j:Int)∧EachS J pre a b L own W w1 g j wr) (fun _ i _=>8 - (intOf i).toNat)
   case atStart=>exact ⟨0,Nat.zero_le _,rfl,HST.out⟩
   case round =>
    clear HST
    obtain ⟨j,hj,rfl,⟨own',hjj,hoo,hnn,hne2⟩,⟨p,hm⟩,hvg,hsz2⟩:=hrel
    by_cases hlt:j<L.length
    · have hcl := (cell_same hvg j).trans (HCELL.out j hlt)
      have hxb:=HBD.out _ (List.getElem_mem hlt)
      have hts:=map_take_succ (fun k=>mvP a b k) L j hlt
      generalize L[j]=y at *
      obtain ⟨W2,hW2⟩:∃ W2,wr.setCell ⟨W.heap.size+1,2,none⟩ (.int .u8 y)=W2:=⟨_,rfl⟩
      have hm2:W2.heap[W.heap.size+1]?=some (.cells (mvP a b y).cells.toArray 49 (0,0)):=by rw [← hW2];exact set_mv hm y
      have hj2:J (pre ++ (L.take j).map (fun k=>mvP a b k)) own' W2:=by rw [← hW2];exact HJS.out _ _ _ _ _ _ hjj (by omega) ⟨_,_,_,hm⟩ hne2
      have ho2:HoldsO own badM W W2:=by rw [← hW2];exact hoo.setNew (Nat.le_succ _) _ _
      have hg2:W2.heap[g]?=w1.heap[g]?:=by rw [← hW2];exact (Below.heap_setCell _ _ _ _ (by have:=HGX.out;show g≠W.heap.size+1;exact this)).trans hvg
      have hz2:W.heap.size+2≤W2.heap.size:=by rw [← hW2];simpa [World.setCell] using hsz2
      have df:W2.cell? ⟨W.heap.size+1,0,none⟩=some (.int .i8 a):=(mv_cell hm2).1
      have dt:W2.cell? ⟨W.heap.size+1,1,none⟩=some (.int .i8 b):=(mv_cell hm2).2.1
      have dp:W2.cell? ⟨W.heap.size+1,2,none⟩=some (.int .u8 y):=(mv_cell hm2).2.2.1
      have dd:W2.cell? ⟨W.heap.size+1,3,none⟩=some (.int .u8 0):=(mv_cell hm2).2.2.2.1
      have dc:W2.cell? ⟨W.heap.size+1,4,none⟩=some (.bool false):=(mv_cell hm2).2.2.2.2
      have ep:wr.cell? ⟨W.heap.size+1,2,none⟩=some (.int .u8 p):=(mv_cell hm).2.2.1
      have ef:wr.frozen? ⟨W.heap.size+1,2,none⟩=false:=by simp [World.frozen?,hm]
      have hok:(mvP a b y).Ok:=⟨by show -128≤a∧a≤127;omega,by show -128≤b∧b≤127;omega,(by show 0≤y∧y≤255;omega),(by decide:(0:Int)≤0∧(0:Int)≤255)⟩
      have hpr:(pre ++ (L.take j).map (fun k=>mvP a b k) ++ [mvP a b y]) <+: xs:=by
       have h3:L.map (fun k=>mvP a b k)=(L.take j).map (fun k=>mvP a b k) ++ [mvP a b y] ++ (L.drop (j+1)).map (fun k=>mvP a b k):=by rw [hts,← List.map_append,List.take_append_drop]
       have:=HPRE.out
       rw [h3] at this
       rw [List.append_assoc]
       exact pre_less this
      obtain ⟨fn,tmps,assign,body,hy,hR⟩:=HY.out _ _ own' W2 hj2 hpr hok (k - 1)
      dsimp only [mvP] at hy
      have HTS:=hI hts
      have HW2:=hI hW2
      have HM:=hI hm
      have HM2:=hI hm2
      have HJ2:=hI hj2
      have HO2:=hI ho2
      have HG2:=hI hg2
      have HNN:=hI hnn
      have HNE:=hI hne2
      clear hts hW2 hm hm2 hj2 ho2 hg2 hnn hne2 hjj hoo hvg hpr
      gi_wp2_with (first | rw [HW2.out])
      refine hR.mono ?_
      rintro e W3 ⟨rfl,own'',hJ3,hk3,hn3⟩
      have hm3:W3.heap[W.heap.size+1]?=some (.cells (mvP a b y).cells.toArray 49 (0,0)):=hk3.same _ _ HM2.out (fun e=>HNE.out e.symm) (fun cs t m e=>by cases e;decide)
      have hg3:W3.heap[g]?=w1.heap[g]?:=by
       obtain ⟨cs,m,hc⟩:=HCG.out
       rw [hc]
       refine hk3.same _ _ (HG2.out.trans hc) ?_ (fun cs t m e=>by cases e;decide)
       intro e
       obtain ⟨cs2,m2,hc2⟩:=HJR.out _ _ _ g HJ2.out e.symm
       rw [HG2.out,hc] at hc2
       injection hc2 with hc2
       injection hc2 with _ ht2
       exact absurd ht2 (by decide)
      have hne3:own'' ≠ some (W.heap.size+1):=by
       rcases hn3 with h | ⟨g',h1,h2⟩
       · rw [h];exact HNE.out
       · intro e
         rw [h1] at e
         cases e
         omega
      have HS3:=hI (show EachS J pre a b L own W w1 g (j+1) W3 from ⟨⟨own'',by rw [← HTS.out,← List.append_assoc];exact hJ3,HO2.out.trans hk3 HNN.out,HNN.out.trans hn3 (by omega),hne3⟩,⟨_,hm3⟩,hg3,Nat.le_trans hz2 hk3.size⟩)
      clear hJ3 hk3 hn3 hm3 hg3 hne3 hR hy df dt dp dd dc ep ef
      gi_wp2
      go_roundw
      case rel=>exact ⟨j+1,by omega,by go_num,HS3.out⟩
      case measure=>have:=HLN.out;simp [intOf];omega
    · obtain rfl : j = L.length := by omega
      rw [List.take_length] at hjj
      have HE:=hI (show eachPost J pre (L.map fun k=>mvP a b k) own W (.returned (.bool true)) wr from ⟨rfl,own',hjj,hoo,hnn⟩)
      clear hjj hoo hnn hm hvg
      gi_wp2
      go_ret
      exact HE.out
end Go.Proofs.YteocjaihaegmoaaGreatDoor
namespace Go.Proofs.YteocjaihaegmoaaGreatDoor
open Go Go.RowKit Go.Shelf
attribute [local go_sem] Oper.semAt_some
theorem each_in (n:Nat→Int) (hn:PosOk n) (t:Int) (ht:n 78=t) (h01:t=0∨t=1) (a b:Int) (a0:0≤a) (a1:a<64) (b0:0≤b) (b1:b<64) (A B:BitVec 64)
 (l:Nat) (J:List Mv→Option Nat→World→Prop) (xs pre:List Mv) (own:Option Nat) (W:World) (hJb:Grows2 J) (hJr:Rows2 49 J) (hJs:Sets2 W.heap.size J) (hY:YieldsM l J xs) (h0:J pre own W) (hpre:(pre ++ promM n a b) <+: xs) (k:Nat) :
 CallsIn Fence.wide k Tryz.prog 187 #[.agg (sideA n A B),.agg #[.int .i8 a,.int .i8 b,.int .u8 0,.int .u8 0,.bool false],.func (.yield l) #[] #[]] W (eachPost J pre (promM n a b) own W):=by
 by_cases hk:kndI (n (1+a.toNat))=1
 · by_cases hr : rankC (n 78) b = 7
   · exact each_c n hn t ht h01 a b a0 a1 b0 b1 A B hk hr l J xs pre own W hJb hJr hJs hY h0 hpre k
   · exact each_b n hn t ht h01 a b a0 a1 b0 b1 A B hk hr l J xs pre own W hJb hJr hY h0 hpre k
 · exact each_a n hn t ht h01 a b a0 a1 b0 b1 A B hk l J xs pre own W hJb hJr hY h0 hpre k
theorem HoldsO.keep {own:Option Nat} {A B:World} (h:HoldsO own badM A B) (hr:∀ g,own=some g→∃ cs m,A.heap[g]?=some (.cells cs 49 m)) {g:Nat} {cs:Array Value} {t:TypeId} {m:Nat × Nat} (hg:A.heap[g]?=some (.cells cs t m)) (ht:t≠49) (ht2:t ∉ badM):B.heap[g]?=A.heap[g]?:=by
 rw [hg]
 refine h.same _ _ hg ?_ (fun cs t m e=>by cases e;exact ht2)
 intro e
 obtain ⟨cs2,m2,hc2⟩:=hr g e.symm
 rw [hg] at hc2
 injection hc2 with hc2
 injection hc2 with _ h2
 exact ht h2
theorem ownsI_type {w:World} {B g n c:Nat} {l:List Int} (h:OwnsI w B (.slice (some ⟨g,0,none⟩) n c) l):∃ cs m,w.heap[g]?=some (.cells cs 3 m):=by
 obtain ⟨h1,h2⟩:=h
 rcases h2 with ⟨h2,_⟩ | ⟨g',cap,cur,hv,hg,hgb,rest⟩
 · cases h2
 · cases hv
   exact ⟨_,_,hgb⟩
theorem owns_slice {w:World} {B:Nat} {v:Value} {l:List Int} (h:OwnsI w B v l):∃ a c,v=.slice a l.length c∧(∀ k (hk:k<l.length),∃ g,a=some ⟨g,0,none⟩∧B≤g∧g<w.heap.size∧(∃ cs m,w.heap[g]?=some (.cells cs 3 m))∧w.cell? ⟨g,k,none⟩=some (.int .i64 (l[k]))):=by
 rcases h.form with ⟨hl,a,c,rfl⟩ | ⟨g,c,rfl,hg,hgl,hne,hcell,_⟩
 · subst hl;exact ⟨a,c,rfl,fun k hk=>absurd hk (Nat.not_lt_zero k)⟩
 · exact ⟨_,c,rfl,fun k hk=>⟨g,rfl,hg,hgl,ownsI_type h,hcell k hk⟩⟩
/-- Between two rounds over squares. -/
def MovS (J:List Mv→Option Nat→World→Prop) (own:Option Nat) (w1:World) (f:List Mv) (Wr:World):Prop :=
 ∃ own',J f own' Wr∧HoldsO own badM w1 Wr∧Newer own own' w1
def EncM (x:Mv × Array Value) (W:World):Prop:=x.2=#[.agg #[.int .i8 x.1.f,.int .i8 x.1.t,.int .u8 x.1.p,.int .u8 x.1.d,.bool x.1.c]]∧x.1.Ok
theorem flat_take {β:Type} (f:Int→List β) (l:List Int) (j:Nat) (hj:j<l.length):(l.take j).flatMap f ++ f l[j]=(l.take (j+1)).flatMap f:=by
 rw [List.take_succ_eq_append_getElem hj,List.flatMap_append,List.flatMap_cons,List.flatMap_nil,List.append_nil]
theorem flat_pre {β:Type} (f:Int→List β) (l:List Int) (j:Nat) (hj:j<l.length):∃ r,l.flatMap f=(l.take j).flatMap f ++ f l[j] ++ r :=
 ⟨(l.drop (j+1)).flatMap f,by rw [flat_take f l j hj,← List.flatMap_append,List.take_append_drop]⟩
theorem moves1_in (n:Nat→Int) (hn:PosOk n) (t:Int) (ht:n 78=t) (h01:t=0∨t=1) (Bx:Nat) (w:World) (hS:SideAt w Bx n (ownB n) (othB n)) :
 Iterates2 Tab Tryz.prog 185 #[.pointer (some ⟨Bx,0,none⟩)] 49 badM (pseudoL n) EncM w:=by
 intro l J W hW hJb hJr hJs hJk hY own0 h0 k
 have hYM:YieldsM l J (pseudoL n):=fun pre m own W h1 h2 h3 k=>hY pre m _ own W h1 h2 ⟨rfl,h3⟩ k
 have hSW:SideAt W Bx n (ownB n) (othB n):=hS.below hW hS.lt
 have k88:=hSW.own
 refine callsIn_of_wp Tryz.func185 rfl trivial ?_ rfl
 simp only [Tryz.ntmps185,List.size_toArray,List.length_cons,List.length_nil,Nat.reduceAdd,Nat.reduceSub,Array.replicate_succ,Array.replicate_zero,List.push_toArray,List.append_toArray,List.nil_append,List.cons_append]
 have hd:Fence.wide.depth.isSome=false:=rfl
 have hfn:∀ k,Fence.wide.fn k=True:=fun _=>rfl
 have HJ0:=hI h0
 have HT:=hI (hJk _ _ _ h0)
 have HSW:=hI hSW
 have HJB:=hI hJb
 have HJR:=hI hJr
 have HJS:=hI hJs
 have HJK:=hI hJk
 have HYM:=hI hYM
 have HW:=hI hW
 clear h0 hSW hJb hJr hJs hJk hYM hY hS hW
 gi_wp2
 refine (callsIn_wide.2 (list_any _ rfl _ HT.out)).mono ?_
 rintro e w1 ⟨v1,rfl,hown1,hb1⟩
 obtain ⟨a1,c1,rfl,hrow1⟩:=owns_slice hown1
 have HS1:=hI (HSW.out.below hb1 HSW.out.lt)
 have HM0:=hI (show MovS J own0 w1 [] w1 from ⟨own0,HJB.out _ _ _ _ HJ0.out hb1,HoldsO.of_below bR,.inl rfl⟩)
 have HR1:=hI hrow1
 have HR0:=hI (HJR.out [] own0 w1 · (HJB.out _ _ _ _ HJ0.out hb1))
 have hl1:=listB_length (ownB n)
 have HIN1:=hI (fun (x:Int) (hx:x∈listB (ownB n))=>has_sq ((mem_listB _ _).1 hx))
 have hbw:=HW.out.trans (hb1.mono HW.out.size)
 have HBW:=hI hbw.size
 have HPL:=hI (show pseudoL n=(listB (ownB n)).flatMap (movesFrom n) from rfl)
 clear hown1 hb1 hrow1 k88 hbw
 generalize hL1:listB (ownB n)=L1 at *
 clear hL1
 gi_wp2
 gi_loopw [12] (fun i wr=>∃ j:Nat,j≤L1.length∧i=.int .i64 (j:Int)∧MovS J own0 w1 ((L1.take j).flatMap (movesFrom n)) wr) (fun i _=>66 - (intOf i).toNat)
 case atStart=>exact ⟨0,Nat.zero_le _,rfl,HM0.out⟩
 case round =>
  clear HM0
  obtain ⟨j,hj,rfl,own1,hjj,hoo,hnn⟩:=hrel
  by_cases hlt:j<L1.length
  · obtain ⟨g, rfl, hg, hgl, ⟨cs, m, hc⟩, hcell⟩ := HR1.out j hlt
    have hcl:=(cell_same (hoo.keep (fun g h=>HR0.out g h) hc (by decide) (by decide)) j).trans hcell
    have pS:SideAt wr Bx n (ownB n) (othB n):=(hoo.keep (fun g h=>HR0.out g h) HS1.out (by decide) (by decide)).trans HS1.out
    obtain ⟨s0,s1⟩:=HIN1.out _ (List.getElem_mem hlt)
    have HFT:=hI (flat_take (movesFrom n) L1 j hlt)
    have HFP:=hI (flat_pre (movesFrom n) L1 j hlt)
    have hT:=HJK.out _ _ _ hjj
    have HTO:=hI (fun s s0 s1 w hT=>to_any n hn t ht h01 s s0 s1 w hT)
    have lsd:=run_loadSide pS
    have HPS:=hI pS
    have HTR:=hI hT
    have HJJ:=hI hjj
    have HOO:=hI hoo
    have HNN:=hI hnn
    have HMF:=hI (show ∀ s,movesFrom n s=(listB (toB n s)).flatMap (fun b=>promM n s b) from fun _=>rfl)
    clear hjj hoo hnn pS hT hc hcell
    generalize L1[j]=s at *
    gi_wp2
    refine (callsIn_wide.2 (HTO.out s s0 s1 _ HTR.out)).mono ?_
    rintro e w2 ⟨rfl,hb2⟩
    have hT2:=HTR.out.below hb2 lR
    clear lsd hcl
    gi_wp2
    refine (callsIn_wide.2 (list_any _ rfl _ hT2)).mono ?_
    rintro e w3 ⟨v2,rfl,hown2,hb3⟩
    obtain ⟨a2,c2,rfl,hrow2⟩:=owns_slice hown2
    have hb23:Below wr.heap.size wr w3:=hb2.trans (hb3.mono hb2.size)
    have hj3:=HJB.out _ _ _ _ HJJ.out hb23
    have HS3:=hI (HPS.out.below hb23 HPS.out.lt)
    have HM3:=hI (show MovS J own1 w3 ((L1.take j).flatMap (movesFrom n)) w3 from ⟨own1,hj3,HoldsO.of_below bR,.inl rfl⟩)
    have HR2:=hI hrow2
    have HR3:=hI (HJR.out _ own1 w3 · hj3)
    have HO3:=hI (HOO.out.trans (HoldsO.of_below hb23) HNN.out)
    have hl2:=listB_length (toB n s)
    have HIN2:=hI (fun (x:Int) (hx:x∈listB (toB n s))=>has_sq ((mem_listB _ _).1 hx))
    have hz3:w1.heap.size≤w3.heap.size:=HO3.out.size
    have HMF:=hI (HMF.out s)
    clear hown2 hb2 hb3 hrow2 hb23 hj3 hT2
    generalize hL2:listB (toB n s)=L2 at *
    clear hL2
    gi_wp2
    gi_loopw [21] (fun i wy=>∃ k:Nat,k≤L2.length∧i=.int .i64 (k:Int)∧MovS J own1 w3 ((L1.take j).flatMap (movesFrom n) ++ (L2.take k).flatMap (fun b=>promM n s b)) wy) (fun i _=>66 - (intOf i).toNat)
    case atStart=>exact ⟨0,Nat.zero_le _,rfl,by rw [List.take_zero,List.flatMap_nil,List.append_nil];exact HM3.out⟩
    case round =>
     clear HM3
     obtain ⟨q,hq,rfl,own2,hjj,hoo,hnn⟩:=hrel
     by_cases hlq:q<L2.length
     · obtain ⟨g2, rfl, hg2, hgl2, ⟨cs2, m2, hc2⟩, hcell2⟩ := HR2.out q hlq
       have hcl:=(cell_same (hoo.keep (fun g h=>HR3.out g h) hc2 (by decide) (by decide)) q).trans hcell2
       have pS:SideAt wr Bx n (ownB n) (othB n):=(hoo.keep (fun g h=>HR3.out g h) HS3.out (by decide) (by decide)).trans HS3.out
       obtain ⟨b0,b1⟩:=HIN2.out _ (List.getElem_mem hlq)
       have W1:IntKind.i8.wrap s=s:=IntWalk.i8_in _ (by omega)
       have W2:IntKind.i8.wrap L2[q]=L2[q]:=IntWalk.i8_in _ (by omega)
       have HFT2:=hI (flat_take (fun b=>promM n s b) L2 q hlq)
       have HFP2:=hI (flat_pre (fun b=>promM n s b) L2 q hlq)
       have HPS:=hI pS
       generalize L2[q]=b at *
       obtain ⟨Z,hZ⟩:∃ Z,wr.alloc (.cells #[.int .i8 s,.int .i8 b,.int .u8 0,.int .u8 0,.bool false] 49)=Z:=⟨_,rfl⟩
       have hbZ:Below wr.heap.size wr Z:=by rw [← hZ];exact bR.alloc lR _
       have hm:Z.heap[wr.heap.size]?=some (.cells (mvP s b 0).cells.toArray 49 (0,0)):=by rw [← hZ];exact World.alloc_heap_new wr _
       have df:Z.cell? ⟨wr.heap.size,0,none⟩=some (.int .i8 s):=(mv_cell hm).1
       have dt:Z.cell? ⟨wr.heap.size,1,none⟩=some (.int .i8 b):=(mv_cell hm).2.1
       have dp:Z.cell? ⟨wr.heap.size,2,none⟩=some (.int .u8 0):=(mv_cell hm).2.2.1
       have dd:Z.cell? ⟨wr.heap.size,3,none⟩=some (.int .u8 0):=(mv_cell hm).2.2.2.1
       have dc:Z.cell? ⟨wr.heap.size,4,none⟩=some (.bool false):=(mv_cell hm).2.2.2.2
       have lsd:=run_loadSide (pS.below hbZ pS.lt)
       have hjZ:=HJB.out _ _ _ _ hjj hbZ
       have hpr:((L1.take j).flatMap (movesFrom n) ++ (L2.take q).flatMap (fun b=>promM n s b) ++ promM n s b) <+: pseudoL n:=by
        obtain ⟨r2,hr2⟩:=HFP2.out
        obtain ⟨r1,hr1⟩:=HFP.out
        rw [HPL.out,hr1,HMF.out,hr2]
        exact ⟨r2 ++ r1,by simp [List.append_assoc]⟩
       have hsW:w.heap.size≤Z.heap.size:=by have:=HBW.out;have:=hoo.size;have:=hbZ.size;omega
       have hjsZ:Sets2 Z.heap.size J:=fun pre own W g i v h1 h2 h3 h4=>HJS.out pre own W g i v h1 (Nat.le_trans hsW h2) h3 h4
       have HEA:=hI (each_in n hn t ht h01 s b s0 s1 b0 b1 (ownB n) (othB n) l J (pseudoL n) _ own2 Z HJB.out HJR.out hjsZ HYM.out hjZ hpr (k - 1))
       have HOO2:=hI (hoo.trans (HoldsO.of_below (own:=own2) hbZ) hnn)
       have HNN2:=hI hnn
       have HZ:=hI hZ
       have HZS:=hI (Nat.le_trans hoo.size hbZ.size)
       clear hjj hoo hnn pS hc2 hcell2 hm hbZ hZ hjZ hpr hsW hjsZ
       gi_wp2_with (first | rw [HZ.out])
       refine HEA.out.mono ?_
       rintro e W4 ⟨rfl,own3,hj4,ho4,hn4⟩
       have HM4:=hI (show MovS J own1 w3 ((L1.take j).flatMap (movesFrom n) ++ (L2.take (q+1)).flatMap (fun b=>promM n s b)) W4 from ⟨own3,by rw [← HFT2.out,← List.append_assoc];exact hj4,HOO2.out.trans ho4 HNN2.out,HNN2.out.trans hn4 HZS.out⟩)
       clear hj4 ho4 hn4 HEA df dt dp dd dc lsd hcl
       gi_wp2
       go_roundw
       case rel=>exact ⟨q+1,by omega,by go_num,HM4.out⟩
       case measure=>simp [intOf];omega
     · obtain rfl : q = L2.length := by omega
       rw [List.take_length,← HMF.out] at hjj
       have HM4:=hI (show MovS J own0 w1 ((L1.take (j+1)).flatMap (movesFrom n)) wr from ⟨own2,by rw [← HFT.out];exact hjj,HO3.out.trans hoo HNN.out,HNN.out.trans hnn hz3⟩)
       clear hjj hoo hnn
       gi_wp2
       go_roundw
       case rel=>exact ⟨j+1,by omega,by go_num,HM4.out⟩
       case measure=>simp [intOf];omega
  · obtain rfl : j = L1.length := by omega
    rw [List.take_length,← HPL.out] at hjj
    gi_wp2
    go_end0
    exact ⟨⟨_,rfl⟩,own1,hjj⟩
end Go.Proofs.YteocjaihaegmoaaGreatDoor
namespace Go.Proofs.YteocjaihaegmoaaGreatDoor
open Go Go.RowKit Go.Shelf
attribute [local go_sem] Oper.semAt_some
theorem moves_any (n:Nat→Int) (A B:BitVec 64) (w:World):Calls Tryz.prog 145 #[.agg (sideA n A B)] w fun e w' => e = .returned (.func (.func 185) #[] #[.pointer (some ⟨w.heap.size,0,none⟩)])∧SideAt w' w.heap.size n A B∧Below w.heap.size w w' := by
 obtain ⟨X,hX⟩:∃ X,w.alloc (.cells (sideA n A B) 111)=X:=⟨_,rfl⟩
 obtain ⟨p0,hb⟩:=sideBox w n A B X hX
 have HX:=hI hX
 clear hX
 go_enter Tryz.func145,Tryz.ntmps145
 go_wp2_with (first | rw [HX.out])
 go_ret
 exact ⟨rfl,p0,hb⟩
theorem OwnsM.row {w:World} {B:Nat} {v:Value} {l:List Mv} (h:OwnsM w B v l) {g:Nat} (hg:v.ownBlock=some g):B≤g∧∃ cs m,w.heap[g]?=some (.cells cs 49 m):=by
 obtain ⟨h1,h2⟩:=h
 rcases h2 with ⟨h2,_⟩ | ⟨g',cap,cur,hv,hgg,hgb,rest⟩
 · rw [h2] at hg;cases hg
 · rw [hv] at hg; cases hg
   exact ⟨hgg,_,_,hgb⟩
theorem OwnsM.same {w w' : World} {B:Nat} {v:Value} {l:List Mv} (h:OwnsM w B v l) (hs:∀ g,v.ownBlock=some g→w'.heap[g]?=w.heap[g]?):OwnsM w' B v l:=by
 obtain ⟨h1,h2⟩:=h
 refine ⟨h1,?_⟩
 rcases h2 with h2 | ⟨g',cap,cur,hv,hg,hgb,rest⟩
 · exact .inl h2
 · exact .inr ⟨g',cap,cur,hv,hg,(hs g' (by rw [hv];rfl)).trans hgb,rest⟩
/-- The moves that have come, in a variable's block. -/
def OutM (w:World) (bo B:Nat) (pre:List Mv) (own:Option Nat) (W:World):Prop :=
 ∃ v,W.heap[bo]?=some (.cells #[v] 41 (0,0))∧OwnsM W B v pre∧own=v.ownBlock∧Below w.heap.size w W
theorem OutM.grow {w W W' : World} {bo B:Nat} {pre:List Mv} {own:Option Nat} (h:OutM w bo B pre own W) (hb:Below W.heap.size W W'):OutM w bo B pre own W' := by
 obtain ⟨v,h1,h2,h3,h4⟩:=h
 exact ⟨v,(hb.block _ (Array.getElem?_eq_some_iff.1 h1).1).trans h1,h2.kept hb lR,h3,h4.trans (hb.mono h4.size)⟩
theorem plist_any (n:Nat→Int) (hn:PosOk n) (t:Int) (ht:n 78=t) (h01:t=0∨t=1) (hv:n 0<9) (w:World) (hT:Tab w):Calls Tryz.prog 83 #[.agg (posA n)] w fun e w' => ∃ v,e=.returned v∧OwnsM w' w.heap.size v (pseudoL n)∧Below w.heap.size w w' := by
 refine (callsIn_wide (n:=3)).1 ?_
 obtain ⟨i0,hi,hz0,hz1,hz2⟩:=info_parts infoM
 refine callsIn_of_wp_marks Tryz.func83 rfl trivial ?_ rfl
 simp only [Tryz.ntmps83,List.size_toArray,List.length_cons,List.length_nil,Nat.reduceAdd,Nat.reduceSub,Array.replicate_succ,Array.replicate_zero,List.push_toArray,List.append_toArray,List.nil_append,List.cons_append]
 have hd:Fence.wide.depth.isSome=false:=rfl
 have hfn:∀ k,Fence.wide.fn k=True:=fun _=>rfl
 obtain ⟨X,hX⟩:∃ X,w.alloc (.cells (posA n) 31)=X:=⟨_,rfl⟩
 obtain ⟨p0,hb⟩:=box1 w n X hX
 obtain ⟨i00,r00⟩:=p0.rules
 have HX:=hI hX
 have HI:=hI hi
 have HT:=hI hT
 clear hX hi hT
 gi_wp2_with (first | rw [HX.out])
 refine (callsIn_wide.2 (who_any n hn t ht h01 hv _)).mono ?_
 rintro e w1 ⟨rfl,hb1⟩
 have hbw1:=hb.trans (hb1.mono hb.size)
 clear i00 r00 p0 hb hb1
 have zs:=zSide
 obtain ⟨Y0,hY0⟩:∃ Y0,w1.alloc (.cells (sideA zeroN 0#64 0#64) 111)=Y0:=⟨_,rfl⟩
 obtain ⟨pY0,hbY0⟩:=sideBox w1 zeroN _ _ Y0 hY0
 have st:=run_storeSide (n:=n) (a:=ownB n) (b:=othB n) pY0 (sideA_size _ _ _)
 obtain ⟨Y,hY⟩:∃ Y,Y0.setRow w1.heap.size (sideA n (ownB n) (othB n))=Y:=⟨_,rfl⟩
 have pY:SideAt Y w1.heap.size n (ownB n) (othB n):=by rw [← hY];exact pY0.setRow _ _ _
 have hbY:Below w1.heap.size w1 Y:=by rw [← hY];exact below_setRow hbY0 lR _
 obtain ⟨Z,hZ⟩:∃ Z,Y.alloc (.cells #[.slice none 0 0] 41)=Z:=⟨_,rfl⟩
 have hbZ:Below Y.heap.size Y Z:=by rw [← hZ];exact bR.alloc lR _
 have lsd:=run_loadSide (pY.below hbZ pY.lt)
 have hZB:Z.heap[Y.heap.size]?=some (.cells #[.slice none 0 0] 41 (0,0)):=by rw [← hZ];exact World.alloc_heap_new Y _
 have HY0:=hI hY0
 have HY:=hI hY
 have HZ:=hI hZ
 clear hY hZ hY0 pY0 hbY0
 gi_wp2_with (first | rw [HY0.out] | rw [HY.out] | rw [HZ.out])
 refine (callsIn_wide.2 (moves_any n _ _ _)).mono ?_
 rintro e w4 ⟨rfl,pS,hb4⟩
 have hw4:Below w1.heap.size w1 w4:=(hbY.trans (hbZ.mono hbY.size)).trans (hb4.mono (Nat.le_trans hbY.size hbZ.size))
 have hO4:=(hb4.block _ (Array.getElem?_eq_some_iff.1 hZB).1).trans hZB
 have hbw4:=hbw1.trans (hw4.mono hbw1.size)
 have hzY:w1.heap.size<Y.heap.size:=pY.lt
 have hz4:Y.heap.size<w4.heap.size:=Nat.lt_of_lt_of_le (Array.getElem?_eq_some_iff.1 hZB).1 hb4.size
 have hw0:w.heap.size≤w1.heap.size:=hbw1.size
 clear pY hbY hbZ lsd hb4 hw4 hbw1 st hZB
 gi_wp2
 refine range_own (n:=3) (Kp:=Tab) 49 badM rfl (enters_of Tryz.func185 (by kernel_rfl) rfl)
  (fun pre own W=>OutM w Y.heap.size w4.heap.size pre own W) (pseudoL n) EncM
  (fun p W=>∃ Bm,p.2={ tmps:=#[.agg (posA n),.pointer (some ⟨w.heap.size,0,none⟩),.slice none 0 0,.pointer (some ⟨w1.heap.size,0,none⟩),.bool true,.pointer (some ⟨Y.heap.size,0,none⟩),.pointer (some ⟨Bm,0,none⟩),.tuple #[.agg (sideA n (ownB n) (othB n)),.bool true],.agg (posA n),.tuple #[.agg (sideA n (ownB n) (othB n)),.bool true],.agg (sideA n (ownB n) (othB n)),.bool true,.bool true,.bool false,.agg (sideA n (ownB n) (othB n)),.func (.func 185) #[] #[.pointer (some ⟨Z.heap.size,0,none⟩)],.agg #[.int .i8 p.1.f,.int .i8 p.1.t,.int .u8 p.1.p,.int .u8 p.1.d,.bool p.1.c],undef,undef,undef,undef,undef],defers:=[] }∧W.heap[Bm]?=some (.cells p.1.cells.toArray 49 (0,0))∧w4.heap.size≤Bm)
  ?hsz ?hIb ?hIp ?hIr ?hIs ?hAp ?hIk (moves1_in n hn t ht h01 Z.heap.size w4 pS) none ?h0 ?hassign ?hbody ?hdone
 case hsz =>
  rintro x args W ⟨h,_⟩
  rw [show args=_ from h];rfl
 case hIb=>exact fun pre own W W' h hb=>OutM.grow h hb
 case hIp =>
  rintro pre own W l o o' ⟨v,h1,h2,h3,h4⟩ hl ho hoc
  refine ⟨v,(put_same ho hoc _ _ _ _ h1).trans h1,h2.same (fun g hg=>?_),h3,h4.trans ((below_put W l o').mono (by omega))⟩
  obtain ⟨_,cs,m,hc⟩:=h2.row hg
  exact put_same ho hoc _ _ _ _ hc
 case hIr =>
  rintro pre own W g ⟨v,h1,h2,h3,h4⟩ ho
  exact (h2.row (h3.symm.trans ho)).2
 case hIs =>
  rintro pre own W g i v0 ⟨v,h1,h2,h3,h4⟩ hg hc ho
  refine ⟨v,(Below.heap_setCell _ _ _ _ (by show Y.heap.size≠g;omega)).trans h1,h2.same (fun g' hg' => Below.heap_setCell _ _ _ _ (by rintro (e:g' = g);subst e;exact ho (h3.trans hg'))),h3,h4.setCell (p:=⟨g,i,none⟩) (by show w.heap.size≤g;omega) _⟩
 case hAp =>
  rintro ⟨x,a⟩ W l o o' ⟨Bm,ha,hm,hz⟩ hl ho hoc
  exact ⟨Bm,ha,(put_same ho hoc _ _ _ _ hm).trans hm,hz⟩
 case hIk=>exact fun pre own W ⟨v,h1,h2,h3,h4⟩=>HT.out.below h4 lR
 case h0=>exact ⟨_,hO4,World.ownsRow_nil _ _ _ _,rfl,hbw4⟩
 case hassign =>
  rintro l m pre x args own W K ⟨v,h1,h2,h3,h4⟩ hz ⟨hargs,hok⟩ hK
  rw [show args=_ from hargs]
  have hbn:Below W.heap.size W (W.alloc (.cells #[.int .i8 x.f,.int .i8 x.t,.int .u8 x.p,.int .u8 x.d,.bool x.c] 49)):=bR.alloc lR _
  have HK:=hI (hK { tmps:=#[.agg (posA n),.pointer (some ⟨w.heap.size,0,none⟩),.slice none 0 0,.pointer (some ⟨w1.heap.size,0,none⟩),.bool true,.pointer (some ⟨Y.heap.size,0,none⟩),.pointer (some ⟨W.heap.size,0,none⟩),.tuple #[.agg (sideA n (ownB n) (othB n)),.bool true],.agg (posA n),.tuple #[.agg (sideA n (ownB n) (othB n)),.bool true],.agg (sideA n (ownB n) (othB n)),.bool true,.bool true,.bool false,.agg (sideA n (ownB n) (othB n)),.func (.func 185) #[] #[.pointer (some ⟨Z.heap.size,0,none⟩)],.agg #[.int .i8 x.f,.int .i8 x.t,.int .u8 x.p,.int .u8 x.d,.bool x.c],undef,undef,undef,undef,undef],defers:=[] } _ hbn (OutM.grow ⟨v,h1,h2,h3,h4⟩ hbn) ⟨W.heap.size,rfl,World.alloc_heap_new W _,hz⟩)
  clear hK hargs h1 h2 h3 h4 hbn
  gi_wp2
  exact HK.out
 case hbody =>
  rintro l m pre x a own W ⟨v,h1,h2,h3,h4⟩ hz hpre ⟨Bm,ha,hm,hzb⟩
  rw [show a=_ from ha]
  have hc:W.cell? ⟨Y.heap.size,0,none⟩=some v:=by rw [cell_of_row W _ 0 _ _ _ h1];rfl
  have hfz:W.frozen? ⟨Y.heap.size,0,none⟩=false:=by simp [World.frozen?,h1]
  obtain ⟨m0,m1,m2,m3,m4⟩:=mv_cell hm
  have hlen:pre.length≤20480:=by
   obtain ⟨r,hr⟩:=hpre
   have:=pseudo_len n
   rw [← hr] at this
   simp at this;omega
  have hi:=HI.out
  have hne:v.ownBlock≠some Y.heap.size:=fun e=>by
   obtain ⟨h5,_⟩:=h2.row e
   omega
  have hsY:Y.heap.size<W.heap.size:=(Array.getElem?_eq_some_iff.1 h1).1
  have HW:=hI (show _∧_∧_∧_ from ⟨h1,h2,h3,h4⟩)
  gi_wp2_with (gi_at_builtin;refine wpListIn_append_new _ rfl _ _ 41 rfl w4.heap.size 49 i0 (.agg #[.int .i8 0,.int .i8 0,.int .u8 0,.int .u8 0,.bool false]) 5 5 Tryz.underlying41 hi hz0 hz1 hz2 rfl (by decide) v _ _ rfl (World.ownsRow.alloc h2 _) ⟨W.heap.size,0,none⟩ 1 1 x.cells rfl rfl (cells5_new _ _ _ _ _ _ _) (by simp [Mv.cells,Value.oneCell']) (by unfold maxLen;omega) (by omega) (by simp;omega) (by decide) ?_;intro v' w5 hown' hgrow3 hnew;obtain ⟨g',cap',rfl⟩:=ownsRow_succ hown';have hY5:w5.heap[Y.heap.size]?=some (.cells #[v] 41 (0,0)):=((hgrow3.block _ (by simp;omega) (fun e=>hne e.symm)).trans (Below.heap_alloc _ _ _ hsY)).trans h1;have hc5:w5.cell? ⟨Y.heap.size,0,none⟩=some v:=(by rw [cell_of_row w5 _ 0 _ _ _ hY5];rfl);have hf5:w5.frozen? ⟨Y.heap.size,0,none⟩=false:=(by simp [World.frozen?,hY5]))
  obtain ⟨h1,h2,h3,h4⟩:=HW.out
  have hgg:w4.heap.size≤g' := (OwnsM.app hown').row (g:=g') rfl |>.1
  refine ⟨some g',⟨?_,?_⟩,?_,⟨.slice (some ⟨g',0,none⟩) (pre.length+1) cap',?_,(OwnsM.app hown').same (fun g hg=>?_),rfl,?_⟩⟩
  · have:=hgrow3.size;simp [World.setCell] at *;omega
  · intro g o hg hgo ho
    have hgY:g≠Y.heap.size:=by
     intro e
     subst e
     rw [h1] at hg
     cases hg
     exact ho _ _ _ rfl (by simp)
    have hgl:=(Array.getElem?_eq_some_iff.1 hg).1
    rw [Below.heap_setCell _ _ _ _ hgY,hgrow3.block g (by simp;omega) hgo,Below.heap_alloc _ _ _ hgl]
    exact hg
  · rcases hnew with h | h
    · exact .inl h
    · refine .inr ⟨g', rfl, ?_⟩
      simp [Value.ownBlock] at h
      omega
  · simp only [World.setCell]
    rw [Array.getElem?_modify,if_pos rfl,hY5]
    rfl
  · refine Below.heap_setCell _ _ _ _ ?_
    simp [Value.ownBlock] at hg
    show g≠Y.heap.size
    omega
  · exact (OwnsM.grown (h2.less (by omega)) h4 h4.size _ hgrow3).setCell (p:=⟨Y.heap.size,0,none⟩) (by show w.heap.size≤Y.heap.size;omega) _
 case hdone =>
  rintro D own W hD ⟨v,h1,h2,h3,h4⟩ hK
  have hc:W.cell? ⟨Y.heap.size,0,none⟩=some v:=by rw [cell_of_row W _ 0 _ _ _ h1];rfl
  gi_wp2
  refine ⟨by simp,.inl ⟨_,_,rfl,run_takeDeferred hK,?_⟩⟩
  exact ⟨_,results_tmp rfl _ _ _,v,rfl,ownsRow_less (ownsRow_putObj h2 _ hK rfl) (by omega),h4.trans (belowK_b (w:=w) lR W D _ _ (by omega) hK rfl rfl)⟩
end Go.Proofs.YteocjaihaegmoaaGreatDoor
namespace Go.Proofs.YteocjaihaegmoaaGreatDoor
open Go Go.RowKit
theorem moves_slice {w:World} {B:Nat} {v:Value} {l:List Mv} (h:OwnsM w B v l):∃ a c,v=.slice a l.length c∧(∀ k (hk:k<l.length),∃ g,a=some ⟨g,0,none⟩∧B≤g∧g<w.heap.size ∧
 w.cell? ⟨g,k*5,none⟩=some (.int .i8 (l[k]).f)∧w.cell? ⟨g,k*5+1,none⟩=some (.int .i8 (l[k]).t)∧w.cell? ⟨g,k*5+2,none⟩=some (.int .u8 (l[k]).p)∧w.cell? ⟨g,k*5+3,none⟩=some (.int .u8 (l[k]).d)∧w.cell? ⟨g,k*5+4,none⟩=some (.bool (l[k]).c)):=by
 rcases h.form with ⟨hl,a,c,rfl⟩ | ⟨g,c,rfl,hg,hgl,hne,hcell⟩
 · subst hl;exact ⟨a,c,rfl,fun k hk=>absurd hk (Nat.not_lt_zero k)⟩
 · exact ⟨_,c,rfl,fun k hk=>⟨g,rfl,hg,hgl,hcell k hk⟩⟩
theorem eql_mvc (a b:Mv) (ha:a.Ok) (hb:b.Ok) (w:World):(binOp .eql 49 (.agg #[.int .i8 a.f,.int .i8 a.t,.int .u8 a.p,.int .u8 a.d,.bool a.c]) (.agg #[.int .i8 b.f,.int .i8 b.t,.int .u8 b.p,.int .u8 b.d,.bool b.c])).run Tryz.prog w=.ok (.bool (decide (a=b))) w:=eql_mv a b ha hb w
theorem mvBox_at {w X:World} {m:Mv} (h:w.alloc (.cells #[.int .i8 m.f,.int .i8 m.t,.int .u8 m.p,.int .u8 m.d,.bool m.c] 49)=X):X.heap[w.heap.size]?=some (.cells m.cells.toArray 49 (0,0))∧Below w.heap.size w X:=by
 rw [← h];exact ⟨World.alloc_heap_new w _,bR.alloc lR _⟩
theorem not_mem_take {l:List Mv} {m:Mv} {k:Nat} (hk:k<l.length) (h:m ∉ l.take k) (hne:m≠l[k]):m ∉ l.take (k+1):=by
 rw [List.take_succ_eq_append_getElem hk,List.mem_append,List.mem_singleton]
 rintro (h2 | h2)
 · exact h h2
 · exact hne h2
theorem index_any (l:List Mv) (hok:∀ m∈l,m.Ok) (hlen:l.length≤1000000) (m:Mv) (hm:m.Ok) (w:World) (B:Nat) (v:Value) (h:OwnsM w B v l) :
 Calls Tryz.prog 81 #[v,.agg #[.int .i8 m.f,.int .i8 m.t,.int .u8 m.p,.int .u8 m.d,.bool m.c]] w fun e w' => ∃ i:Int,e=.returned (.int .i64 i)∧decide (0≤i)=decide (m∈l)∧Below w.heap.size w w' := by
 obtain ⟨a,c,rfl,hc⟩:=moves_slice h
 obtain ⟨X,hX⟩:∃ X,w.alloc (.cells #[.int .i8 m.f,.int .i8 m.t,.int .u8 m.p,.int .u8 m.d,.bool m.c] 49)=X:=⟨_,rfl⟩
 obtain ⟨q0,hb⟩:=mvBox_at hX
 have HC:=hI hc
 have HOK:=hI hok
 have HX:=hI hX
 have HQ:=hI q0
 have HB:=hI hb
 have HM:=hI hm
 obtain ⟨n,hn⟩:∃ n,l.length=n:=⟨_,rfl⟩
 have HN:=hI hn
 rw [hn] at hlen ⊢
 clear hc hok hX q0 hb hn h
 go_enter Tryz.func81,Tryz.ntmps81
 go_wp2_with (first | rw [HX.out])
 go_loopw [8] (fun i wr=>∃ k:Nat,k≤n∧i=.int .i64 k∧m ∉ l.take k∧Below X.heap.size X wr) (fun i _=>n - (intOf i).toNat)
 case atStart=>exact ⟨0,by omega,rfl,by simp,bR⟩
 case round =>
  obtain ⟨k,hk,rfl,hnm,hr⟩:=hrel
  by_cases hlt:k<n
  · have hkl : k < l.length := by rw [HN.out]; exact hlt
    obtain ⟨g,rfl,_,hgl,p0,p1,p2,p3,p4⟩:=HC.out k hkl
    have hmk:=HOK.out l[k] (List.getElem_mem hkl)
    have HNM:=hI (not_mem_take hkl hnm)
    have HMEM:=hI (List.getElem_mem hkl)
    generalize l[k]=z at p0 p1 p2 p3 p4 hmk HNM HMEM
    have hwx:Below w.heap.size w wr:=HB.out.trans (hr.mono HB.out.size)
    have p0:=(hwx.cell (p:=⟨g,k*5,none⟩) hgl).trans p0
    have p1:=(hwx.cell (p:=⟨g,k*5+1,none⟩) hgl).trans p1
    have p2:=(hwx.cell (p:=⟨g,k*5+2,none⟩) hgl).trans p2
    have p3:=(hwx.cell (p:=⟨g,k*5+3,none⟩) hgl).trans p3
    have p4:=(hwx.cell (p:=⟨g,k*5+4,none⟩) hgl).trans p4
    obtain ⟨q0,q1,q2,q3,q4⟩:=mv_cell ((hr.block _ (Array.getElem?_eq_some_iff.1 HQ.out).1).trans HQ.out)
    have ne:=eql_mvc m z HM.out hmk
    have i0:(0:Int)≤(k:Int):=by omega
    have i1:(k:Int)<(n:Int):=by omega
    by_cases he:m=z
    · rw [decide_eq_true he] at ne
      have HE:=hI he
      clear hmk hkl he hnm
      go_wp2
      go_quiet (fail)
      go_wp2
      go_ret
      exact ⟨_,rfl,by rw [decide_eq_true i0,decide_eq_true (by rw [HE.out];exact HMEM.out)],hwx.trans ((blN15 _ _).mono hwx.size)⟩
    · rw [decide_eq_false he] at ne
      have HNM:=hI (HNM.out he)
      clear hmk hkl he hnm
      go_wp2
      go_quiet (fail)
      go_wp2
      go_roundw
      case rel=>exact ⟨k+1,by omega,by go_num,HNM.out,hr.trans ((blN15 _ _).mono hr.size)⟩
      case measure=>simp [intOf];omega
  · obtain rfl : k = n := by omega
    have HE:=hI (show m ∉ l by rw [← HN.out,List.take_length] at hnm;exact hnm)
    clear hnm
    go_wp2
    go_ret
    exact ⟨_,rfl,by rw [decide_eq_false HE.out];rfl,HB.out.trans (hr.mono HB.out.size)⟩
theorem contains_any (l:List Mv) (hok:∀ m∈l,m.Ok) (hlen:l.length≤1000000) (m:Mv) (hm:m.Ok) (w:World) (B:Nat) (v:Value) (h:OwnsM w B v l) :
 Calls Tryz.prog 31 #[v,.agg #[.int .i8 m.f,.int .i8 m.t,.int .u8 m.p,.int .u8 m.d,.bool m.c]] w fun e w' => e = .returned (.bool (decide (m∈l)))∧Below w.heap.size w w' := by
 obtain ⟨X,hX⟩:∃ X,w.alloc (.cells #[.int .i8 m.f,.int .i8 m.t,.int .u8 m.p,.int .u8 m.d,.bool m.c] 49)=X:=⟨_,rfl⟩
 obtain ⟨q0,hb⟩:=mvBox_at hX
 obtain ⟨q0,q1,q2,q3,q4⟩:=mv_cell q0
 have HI:=hI (index_any l hok hlen m hm X B v (h.kept hb lR))
 have HX:=hI hX
 clear hX h hok
 go_enter Tryz.func31,Tryz.ntmps31
 go_wp2_with (first | rw [HX.out])
 refine HI.out.mono ?_
 rintro e Y ⟨i,rfl,hi,h1⟩
 have hb:=hb.trans (h1.mono hb.size)
 clear h1 q0 q1 q2 q3 q4
 go_wp2
 go_ret
 exact ⟨rB (by first | exact hi | rfl),hb⟩
end Go.Proofs.YteocjaihaegmoaaGreatDoor
