/- Parts of the proof: Range, B4. -/
import Derived.Test.YteocjaihaegmoaaGreatDoorWAB
import Derived.LoopIn
import Derived.LoopNIn
import Derived.OwnWalkIn
import Derived.RangeFuncBound
import Derived.RangeFuncBox
import Derived.RangeFuncCalls
import Derived.RangeFuncLeaves
import Derived.RangeFuncNested
import Derived.Shelf.Abstract
import Derived.Shelf.RegionOpen
import Derived.TacticsInMore
set_option maxHeartbeats 2000000
set_option maxRecDepth 100000
namespace Go.Proofs.YteocjaihaegmoaaGreatDoor
open Go Go.RowKit Go.Shelf
/-- How a round's body may end: off its end; the iterator's variable lies as it lay. -/
def roundEnd (I:List Int→World→Prop) (Bx:Nat) (xs:List Int) (W:World):Exit→Act→World→Prop
 | .normal,_,W' => KeepsOthers W W' ∧ W'.heap[Bx]?=W.heap[Bx]?∧I xs W'
 | .ret,_,_=>False
 | .exit _,_,_=>False
 | .goto _,_,_=>False
 | .panic _,_,_=>False
 | .outgrown,_,_=>False
theorem range_box {P:Program} {g:Operand} {ps:Array Tmp} {assign body:Code} {Q:Exit→Act→World→Prop} {a:Act} {w:World} {n:Nat} {gf Bx:Nat} (h1:1≤n)
 (hg:a.eval g=.func (.func gf) #[] #[.pointer (some ⟨Bx,0,none⟩)]) (eg:∀ args w,(callFunc gf args).run P w=.ok (.enter gf args) w) (hps:ps.size=1) (hBx:Bx<w.heap.size)
 (I:List Int→World→Prop) (xs:List Int)
 (hput:∀ pre W l o o',I pre W→w.heap.size≤l→W.heap[l]?=some o→o.isCells=false→I pre (W.putObj l o'))
 (hnew:∀ pre W o,I pre W→I pre (W.alloc o))
 (hset:∀ pre W v,I pre W→I pre (W.setCell ⟨Bx,0,none⟩ v))
 (hiter:∀ (l:Nat) (J:List Int→World→Prop) (W:World),W.heap[Bx]?=w.heap[Bx]?→(∀ pre W,J pre W→I pre W)→(∀ pre W v,J pre W→J pre (W.setCell ⟨Bx,0,none⟩ v)) →
   (∀ pre x W,J pre W→pre.length<xs.length→YieldAt Fence.wide (n - 1 - 1) P l #[.int .i64 x] W fun e W' => e = .returned (.bool true)∧J (pre ++ [x]) W' ∧ W'.heap[Bx]?=W.heap[Bx]?) →
   J [] W→CallsIn Fence.wide (n - 1) P gf #[.func (.yield l) #[] #[],.pointer (some ⟨Bx,0,none⟩)] W fun e W' => (∃ v,e=.returned v)∧J xs W')
 (h0:I [] w) (a₁:Int→Act)
 (hassign:∀ (l:Nat) (x:Int) (W:World) (K:Act→World→Prop),K (a₁ x) W →
   assign.wpIn (Fence.wide.inRound l) (n - 1 - 1) P (Exit.then K (fun _ _ _=>False)) { tmps:=(ps.zip #[.int .i64 x]).foldl (fun t (p,v)=>t.setIfInBounds p v) a.tmps,defers:=[] } W)
 (hbody:∀ (l:Nat) (pre:List Int) (x:Int) (W:World),I pre W→pre.length<xs.length→body.wpIn (Fence.wide.inRound l) (n - 1 - 1) P (roundEnd I Bx (pre ++ [x]) W) (a₁ x) W)
 (hdone:∀ (D:Nat) (W:World),w.heap.size≤D→I xs W→W.heap[D]?=some (.deferred (some []))→Q .normal { a with defers:={ target:=.collected D,args:=#[] } :: a.defers } W) :
 (Code.rangeFunc g ps assign body).wpIn Fence.wide n P Q a w:=by
 refine wpIn_rangeFunc fun fn hfn=>?_
 generalize hS:w.heap.size=S at *
 obtain ⟨rd,hrd⟩:∃ rd:Loop,rd={ state:=.ready,pending:=none,fn,tmps:=a.tmps,params:=ps,assign,body,defers:=S }:=⟨_,rfl⟩
 obtain ⟨bz,hbz⟩:∃ bz:Loop,bz={ rd with state:=.busy }:=⟨_,rfl⟩
 obtain ⟨W1,hW1⟩:∃ W1,(w.alloc (.deferred (some []))).alloc (.loop rd)=W1:=⟨_,rfl⟩
 have hD1:W1.heap[S]?=some (.deferred (some [])):=by
  rw [← hW1,← hS];exact (Below.heap_alloc _ _ _ (by simp)).trans (World.alloc_heap_new w _)
 have hL1:W1.heap[S+1]?=some (.loop rd):=by
  have:=World.alloc_heap_new (w.alloc (.deferred (some []))) (.loop rd)
  rw [World.size_alloc,hS] at this
  rw [← hW1];exact this
 have hB1:W1.heap[Bx]?=w.heap[Bx]?:=by
  rw [← hW1,Below.heap_alloc _ _ _ (by simp;omega),Below.heap_alloc _ _ _ (by omega)]
 have hI1:I [] W1:=by rw [← hW1];exact hnew _ _ _ (hnew _ _ _ h0)
 have henter:(Instr.enterLoop fn a.tmps ps assign body none).run P w=.ok (S+1,[{ target:=.collected S,args:=#[] }]) W1:=by
  rw [run_enterLoop_outer,← hW1,hrd,hS]
 refine ⟨S+1,[{ target:=.collected S,args:=#[] }],W1,{ target:=.fn (.func gf) #[.pointer (some ⟨Bx,0,none⟩)],args:=#[.func (.yield (S+1)) #[] #[]] },W1,gf,
  #[.func (.yield (S + 1)) #[] #[], .pointer (some ⟨Bx, 0, none⟩)], W1, henter, ?_, fun _ _ => trivial, ?_, fun _ => h1, ?_⟩
 · simp only [resolve, hg]
   simp [go_sem]
 · simp [invoke,go_sem,eg]
 · refine (hiter (S + 1) (fun pre W => I pre W ∧ W.heap[S + 1]? = some (.loop rd) ∧ W.heap[S]? = some (.deferred (some []))) W1 hB1 (fun _ _ h => h.1)
    (fun pre W v h=>⟨hset _ _ _ h.1,(Below.heap_setCell _ _ _ _ (by show S+1≠Bx;omega)).trans h.2.1,(Below.heap_setCell _ _ _ _ (by show S≠Bx;omega)).trans h.2.2⟩) ?_ ⟨hI1,hL1,hD1⟩).mono ?_
   · rintro pre x W ⟨hi, hl, hd⟩ hxs
     have hlt:S+1<W.heap.size:=(Array.getElem?_eq_some_iff.1 hl).1
     have hy:=run_yield (P:=P) (args:=#[.int .i64 x]) hl (by rw [hrd];exact hps.symm)
     have hbeg:=run_beginRound (P:=P) hl (by rw [hrd])
     rw [← hbz] at hbeg
     have e1:rd.fn=fn∧rd.assign=assign∧rd.body=body∧rd.params=ps∧rd.tmps=a.tmps:=by rw [hrd];exact ⟨rfl,rfl,rfl,rfl,rfl⟩
     rw [e1.1,e1.2.1,e1.2.2.1,e1.2.2.2.1,e1.2.2.2.2] at hy
     refine ⟨fn,_,assign,body,hy,roundIn_of_wpIn hfn (hassign _ x W _ ⟨_,hbeg,?_⟩)⟩
     have hi2:I pre (W.putObj (S+1) (.loop bz)):=hput _ _ _ _ _ hi (by omega) hl rfl
     refine wpIn_mono (hbody _ pre x _ hi2 hxs) ?_
     rintro e a3 W3 hp
     cases e with
     | normal =>
       obtain ⟨hk3,hb3,hi3⟩:=hp
       have hl3:W3.heap[S+1]?=some (.loop bz):=hk3.same _ _ (World.putObj_heap_same hlt) rfl
       have hd3:W3.heap[S]?=some (.deferred (some [])):=hk3.same _ _ ((World.putObj_heap_other (by omega)).trans hd) rfl
       have hlt3:S+1<W3.heap.size:=(Array.getElem?_eq_some_iff.1 hl3).1
       have hend:=run_endRound (P:=P) none hl3
       have e2:({ bz with state:=if (none:Option Code).isNone then .ready else .done,pending:=none }:Loop)=rd:=by rw [hbz,hrd];rfl
       rw [e2] at hend
       refine ⟨_,_,hend,rfl,⟨hput _ _ _ _ _ hi3 (by omega) hl3 rfl,World.putObj_heap_same hlt3,(World.putObj_heap_other (by omega)).trans hd3⟩,?_⟩
       rw [World.putObj_heap_other (by omega),hb3,World.putObj_heap_other (by omega)]
     | ret=>exact hp.elim
     | exit id=>exact hp.elim
     | goto t=>exact hp.elim
     | panic ch=>exact hp.elim
     | outgrown=>exact hp.elim
   · rintro e W2 ⟨⟨v, rfl⟩, hi, hl, hd⟩
     have hend:=run_endLoop (P:=P) hl (by rw [hrd];simp)
     have e3:rd.pending=none:=by rw [hrd]
     rw [e3] at hend
     exact ⟨none,_,hend,hdone S _ lR (hput _ _ _ _ _ hi (by omega) hl rfl) ((World.putObj_heap_other (by omega)).trans hd)⟩
end Go.Proofs.YteocjaihaegmoaaGreatDoor
namespace Go.Proofs.YteocjaihaegmoaaGreatDoor
open Go Go.RowKit Go.Shelf
attribute [local go_sem] Oper.semAt_some
/-- How much the iterator's variable holds: for its loop's measure. -/
def boxLeft (Bx:Nat) (w:World):Nat:=match w.cell? ⟨Bx,0,none⟩ with | some (.int _ x)=>x.toNat | _=>0
theorem boxLeft_of {Bx:Nat} {w:World} {t:TypeId} {c:BitVec 64} (h:Boxed w Bx t (.int .u64 (u c))):boxLeft Bx w=c.toNat:=by
 unfold boxLeft;rw [h.cell];unfold u;simp
theorem all_any (b:BitVec 64) (w:World) :
 Calls Tryz.prog 154 #[.int .u64 (u b)] w fun e w' => e = .returned (.func (.func 193) #[] #[.pointer (some ⟨w.heap.size,0,none⟩)])∧w' = w.alloc (.cells #[.int .u64 (u b)] 23):=by
 have hmf:∀ (fn:Fn) (first cap:Array Value) (w:World),(Instr.makeFunc fn first cap).run Tryz.prog w=.ok (.func fn first cap) w:=fun _ _ _ _=>rfl
 go_enter Tryz.func154,Tryz.ntmps154
 go_wp2
 go_ret
 exact ⟨rfl,rfl⟩
theorem sub1_u (b:BitVec 64):IntKind.u64.wrap (u b - 1)=u (b - 1#64):=by
 rw [IntKind.wrap_u64];unfold u;rw [BitVec.toNat_sub];have:=b.isLt;have:(1#64).toNat=1:=rfl;omega
attribute [local go_sem ↓] sub1_u
theorem all1_in (n l Bx:Nat) (hn:1≤n) (b:BitVec 64) (J:List Int→World→Prop) (W:World)
 (hset:∀ pre W v,J pre W→J pre (W.setCell ⟨Bx,0,none⟩ v)) (hT:∀ pre W,J pre W→Tab W)
 (hY:∀ pre x W,J pre W→pre.length<(listB b).length→YieldAt Fence.wide (n - 1) Tryz.prog l #[.int .i64 x] W fun e W' => e = .returned (.bool true)∧J (pre ++ [x]) W' ∧ W'.heap[Bx]?=W.heap[Bx]?)
 (hB:Boxed W Bx 23 (.int .u64 (u b))) (h0:J [] W) :
 CallsIn Fence.wide n Tryz.prog 193 #[.func (.yield l) #[] #[],.pointer (some ⟨Bx,0,none⟩)] W fun e W' => (∃ v,e=.returned v)∧J (listB b) W' := by
 refine callsIn_of_wp Tryz.func193 rfl trivial ?_ rfl
 simp only [Tryz.ntmps193,List.size_toArray,List.length_cons,List.length_nil,Nat.reduceAdd,Nat.reduceSub,Array.replicate_succ,Array.replicate_zero,List.push_toArray,List.append_toArray,List.nil_append,List.cons_append]
 have hc:=hB.cell
 gi_wp2
 gi_loopw [3] (fun _ wr=>∃ (pre:List Int) (c:BitVec 64),listB b=pre ++ listB c∧Boxed wr Bx 23 (.int .u64 (u c))∧J pre wr) (fun _ wr=>boxLeft Bx wr)
 case atStart=>exact ⟨[],b,rfl,hB,h0⟩
 case round =>
  obtain ⟨pre,c,hl,hb,hj⟩:=hrel
  have hcc:=hb.cell
  have HL:=hI hl
  have hTw:=hT pre wr hj
  clear hl
  by_cases hz:c=0#64
  · subst hz
    have hz0:(u 0#64 != 0)=false:=rfl
    gi_wp2
    go_end0
    exact ⟨⟨_,rfl⟩,by rw [HL.out,listB_none,List.append_nil];exact hj⟩
  · have hz0 : (u c != 0) = true := by
     rw [bne_iff_ne];intro e;exact hz (u_inj.1 e)
    have HR:=hI (listB_rest c hz)
    have HT:=hI hTw
    clear hTw
    obtain ⟨fn,tmps,assign,body,hy,hR⟩:=hY pre (firstB c) wr hj (by rw [HL.out,HR.out.1];simp)
    gi_wp2_with (refine ⟨trivial,?_⟩;gi_at_call 155;refine (callsIn_wide.2 (first_any c rfl _ HT.out)).mono ?_;rintro e w' ⟨rfl,rfl⟩)
    refine hR.mono ?_
    rintro e W3 ⟨rfl,hJ3,hk3⟩
    have hb3:Boxed W3 Bx 23 (.int .u64 (u c)):=hk3.trans hb
    have hc3:=hb3.cell
    have hf3:=hb3.frozen
    clear hk3 hR hy hcc
    gi_wp2
    have hms:=boxLeft_of (hb3.set (.int .u64 (u (restB c))))
    go_roundw
    case rel=>exact ⟨pre ++ [firstB c],restB c,by rw [HL.out,HR.out.1];simp,hb3.set _,hset _ _ _ hJ3⟩
    case measure=>rw [boxLeft_of hb];exact Nat.lt_of_le_of_lt (Nat.le_of_eq hms) HR.out.2
/-- One append onto a row that lies beyond the two variables' boxes. -/
theorem appended2 {W w1:World} {n₀:Nat} {t e:TypeId} {v v' : Value} {k m:Nat} {xs ys:List Value} {tmp:Obj}
 (hv:Boxed W n₀ t v) (hte:t≠e) (hrow:W.ownsRow (n₀+2) e 1 v k xs) (hn₀:n₀≤W.heap.size)
 (hown' : w1.ownsRow (n₀+2) e 1 v' m ys) (hgrow:(W.alloc tmp).grownBy w1 v.ownBlock) (hlt:n₀+1<W.heap.size) :
 Boxed w1 n₀ t v∧Boxed (w1.setCell ⟨n₀,0,none⟩ v') n₀ t v' ∧ (w1.setCell ⟨n₀,0,none⟩ v').ownsRow (n₀+2) e 1 v' m ys∧KeepsOthers W (w1.setCell ⟨n₀,0,none⟩ v')∧Below n₀ W (w1.setCell ⟨n₀,0,none⟩ v') ∧
  (w1.setCell ⟨n₀,0,none⟩ v').heap[n₀+1]?=W.heap[n₀+1]?:=by
 obtain ⟨h1,h2,_,h4,h5⟩:=hv.appended hte (ownsRow_less hrow (by omega)) hn₀ lR (ownsRow_less hown' (by omega)) hgrow
 refine ⟨h1,h2,hown'.kept (grownBy_setCell' w1 n₀ v') (.inr (h1.not_row hte hown').symm),h4,h5,?_⟩
 rw [Below.heap_setCell _ _ _ _ (by show n₀+1≠n₀;omega),hgrow.block (n₀+1) (by simp;omega) ?_,Below.heap_alloc _ _ _ hlt]
 intro e'
 have:=(hrow.lt (n₀+1) e'.symm).1
 omega
theorem list_any (b:BitVec 64) {a:Int} (ha:a=u b) (w:World) (hT:Tab w) :
 Calls Tryz.prog 94 #[.int .u64 a] w fun e w' => ∃ v,e=.returned v∧OwnsI w' w.heap.size v (listB b)∧Below w.heap.size w w' := by
 subst ha
 refine (callsIn_wide (n:=3)).1 ?_
 obtain ⟨i0,hi,hz0,hz1,hz2⟩:=info_parts Tryz.infoI
 have hlen:=listB_length b
 refine callsIn_of_wp_marks Tryz.func94 rfl trivial ?_ rfl
 simp only [Tryz.ntmps94,List.size_toArray,List.length_cons,List.length_nil,Nat.reduceAdd,Nat.reduceSub,Array.replicate_succ,Array.replicate_zero,List.push_toArray,List.append_toArray,List.nil_append,List.cons_append]
 gi_wp2_with (refine ⟨trivial,?_⟩;gi_at_call 154;refine (callsIn_wide.2 (all_any b _)).mono ?_;rintro e w' ⟨rfl,rfl⟩)
 have bO:=Boxed.new w 121 (.slice none 0 0)
 have bN:=Boxed.new (w.alloc (.cells #[.slice none 0 0] 121)) 23 (.int .u64 (u b))
 rw [World.size_alloc] at bN
 have hB0:Below w.heap.size w ((w.alloc (.cells #[.slice none 0 0] 121)).alloc (.cells #[.int .u64 (u b)] 23)):=((Below.refl _ w).alloc lR _).alloc (by simp) _
 refine range_box (n:=3) (gf:=193) (Bx:=w.heap.size+1) (by omega) rfl (enters_of Tryz.func193 (by kernel_rfl) rfl) rfl (by simp)
  (fun pre W=>(∃ v,Boxed W w.heap.size 121 v∧W.ownsRow (w.heap.size+2) 3 1 v pre.length (pre.map (Value.int .i64)))∧Below w.heap.size w W∧w.heap.size+1<W.heap.size) (listB b) ?hput ?hnew ?hset ?hiter ?h0
  (fun x=>{ tmps:=#[.int .u64 (u b),undef,.slice none 0 0,.pointer (some ⟨w.heap.size,0,none⟩),.int .i64 x,.int .u64 (u b),.func (.func 193) #[] #[.pointer (some ⟨w.heap.size+1,0,none⟩)],.int .i64 x,undef,undef,undef,undef,undef],defers:=[] }) ?hassign ?hbody ?hdone
 case hput =>
  rintro pre W l o o' ⟨⟨v,hv,hr⟩,hb,hz⟩ hl ho hoc
  simp at hl
  have hv' : Boxed (W.putObj l o') w.heap.size 121 v:=(World.putObj_heap_other (by omega)).trans hv
  exact ⟨⟨v,hv',ownsRow_putObj hr _ ho hoc⟩,hb.grown (grownBy_putObj' W l o') hb.size (fun k e=>by cases e;omega),by simpa using hz⟩
 case hnew =>
  rintro pre W o ⟨⟨v,hv,hr⟩,hb,hz⟩
  exact ⟨⟨v,hv.alloc _,hr.alloc _⟩,hb.alloc hb.size _,by simp;omega⟩
 case hset =>
  rintro pre W v0 ⟨⟨v,hv,hr⟩,hb,hz⟩
  refine ⟨⟨v,(Below.heap_setCell _ _ _ _ (by show w.heap.size≠w.heap.size+1;omega)).trans hv,ownsRow_setCell_below hr (by show w.heap.size+1 < _;omega) _⟩,hb.setCell (by show w.heap.size≤w.heap.size+1;omega) _,by simpa [World.setCell] using hz⟩
 case hiter =>
  intro l J W hW hJI hJs hY h0
  exact all1_in 2 l (w.heap.size+1) (by omega) b J W hJs (fun pre W h=>hT.below (hJI pre W h).2.1 lR) hY (hW.trans bN) h0
 case h0=>exact ⟨⟨_,bO.alloc _,World.ownsRow_nil _ _ _ _⟩,hB0,by simp⟩
 case hassign =>
  intro l x W K hK
  gi_wp2
  exact hK
 case hbody =>
  rintro l pre x W ⟨⟨v,hv,hrow⟩,hB,hvl1⟩ hlt
  have hc:=hv.cell
  have hvl:=hv.lt
  gi_wp2_with (gi_at_builtin;refine wpListIn_append_own _ rfl _ _ 121 rfl (w.heap.size+2) 3 i0 (.int .i64 0) 1 8 Tryz.underlying121 hi hz0 hz1 hz2 rfl (by decide) _ _ _ rfl (hrow.alloc _) ⟨W.heap.size,0,none⟩ 1 1 [.int .i64 x] rfl rfl (cell_one_new _ _ _) (by simp [Value.oneCell']) (by unfold maxLen;omega) (by omega) (by simp;omega) ?_;intro v' w1 hown' hgrow _;obtain ⟨g',cap',rfl⟩:=ownsRow_succ hown';obtain ⟨hv1,hv2,hr2,hk2,hb2,hx2⟩:=appended2 hv (by decide) hrow hB.size hown' hgrow hvl1;have hc1:=hv1.cell;have hf1:=hv1.frozen)
  exact ⟨hk2,hx2,⟨_,hv2,by simpa using hr2⟩,hB.trans hb2,Nat.lt_of_lt_of_le hvl1 hb2.size⟩
 case hdone =>
  rintro D W hD ⟨⟨v,hv,hrow⟩,hB,_⟩ hK
  have hc:=hv.cell
  gi_wp2
  refine ⟨by simp,.inl ⟨_,_,rfl,run_takeDeferred hK,?_⟩⟩
  exact ⟨_,results_tmp rfl _ _ _,v,rfl,ownsRow_less (ownsRow_putObj hrow _ hK rfl) (by omega),hB.trans (belowK_b (w:=w) lR W D _ _ (by simp at hD;omega) hK rfl rfl)⟩
end Go.Proofs.YteocjaihaegmoaaGreatDoor
