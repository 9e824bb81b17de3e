/- TopEnds: whatever the position and the way, the law returns true and each argument reads as it did. No condition of ours. The frame round the walk. -/
import Derived.Test.YteocjaihaegmoaaGreatDoorZAA
import Derived.Test.YteocjaihaegmoaaGreatDoorZAC
import Derived.Test.YteocjaihaegmoaaGreatDoorZBP
import Derived.Test.YteocjaihaegmoaaGreatDoorZBT
import Derived.Test.YteocjaihaegmoaaGreatDoorCards
import Derived.Test.YteocjaihaegmoaaGreatDoorTie
import Derived.Below
import Derived.ChangeOld
import Derived.ChangeSlices
import Derived.Deep.DeepHandedRow
import Derived.Lib.LaidTab
import Derived.OpenShut
import Derived.ProofKit
import Derived.ShutString
import Derived.WalkKit
import Derived.WideKeyArgs
namespace Go.Proofs.YteocjaihaegmoaaGreatDoor
open Go Go.ChangeShapes Go.WideShapes Go.ChangeAt Go.RowKit
set_option linter.unusedVariables false
set_option maxRecDepth 100000 in
theorem cellsU8:Tryz.prog.cellsOf 5=1:=by kernel_rfl
set_option maxRecDepth 100000 in
theorem open_way {H:Type} {enc:TypeId × Value→H} {W:World} {b0:Nat} {v:Value} {d:DataW H} {ps:List MemPlace} (hval:Value.okWide Tryz.prog W .any b0 32 v) (hd:DataW.Trod enc Tryz.prog W 0 (fun _=>true) true 32 v d ps) :
 ∃ wl:List Int,WayAt W v wl∧∀ i,0≤wl.getD i 0∧wl.getD i 0≤255:=by
 obtain ⟨a,len,cap,rfl⟩:=okWide_slice Tryz.underlying32 hval
 obtain ⟨f,hf⟩:=hd
 rcases open_ints Tryz.underlying32 Tryz.underlying5 cellsU8 hf with ⟨hcs,hx⟩ | ⟨a',len',cap',zs,hcs,_,hl,_,hz,hx,hcell,hwz⟩
 · simp [Value.cells] at hcs
   obtain ⟨rfl,rfl,rfl⟩:=hcs
   exact ⟨[],⟨none,0,rfl,fun i hi=>absurd hi (Nat.not_lt_zero _)⟩,fun i=>by simp⟩
 · simp [Value.cells] at hcs
   obtain ⟨rfl,rfl,rfl⟩:=hcs
   simp only [if_true] at hz
   have hln:(zs.take len).length=len:=by rw [List.length_take];omega
   refine ⟨zs.take len,⟨some a',cap,by rw [hln],fun i hi=>?_⟩,fun i=>?_⟩
   · rw [hln] at hi
     have h0:=hcell 0 (by omega)
     obtain ⟨g,o,spot⟩:=a'
     have hspot:spot=none:=by simpa [Addr.add] using World.cell?_spot h0
     subst hspot
     have hc:=hcell i (by omega)
     rw [add_plain] at hc
     exact ⟨g,o,rfl,World.block_lt_of_cell? _ _ hc,by rw [hc];simp [List.getD,hi]⟩
   · by_cases hi : i < (zs.take len).length
     · have hm := hwz _ (List.mem_of_mem_take (List.getElem_mem hi))
       have e:(zs.take len).getD i 0=(zs.take len)[i]:=by simp only [List.getD,List.getElem?_eq_getElem hi,Option.getD_some]
       rw [e]
       generalize (zs.take len)[i]=x at hm
       exact wf_u8 hm
     · have e : (zs.take len).getD i 0 = 0 := by simp only [List.getD, List.getElem?_eq_none (by omega : (zs.take len).length ≤ i), Option.getD_none]
       rw [e];decide
set_option maxRecDepth 100000 in
theorem stay_way {H:Type} {enc:TypeId × Value→H} {W W' : World} {v:Value} {d:DataW H} {ps:List MemPlace} (hlo:laidOutB Tryz.prog=true) (hd:DataW.Trod enc Tryz.prog W 0 (fun _=>true) true 32 v d ps) (hlt:∀ x∈ps,x.block<W.heap.size) (hb:Below W.heap.size W W') :
 DataW.Trod enc Tryz.prog W' 0 (fun x=>decide (x<W.heap.size)) true 32 v d ps :=
 WideElems.Trod_stays hlo (by kernel_rfl) (of_decide_eq_true (by kernel_rfl)) hd (fun x hx=>hb.same (hlt x hx)) (fun x hx=>by simpa using hlt x hx)
end Go.Proofs.YteocjaihaegmoaaGreatDoor
namespace Go.Proofs.YteocjaihaegmoaaGreatDoor
open Go Go.ChangeShapes Go.WideShapes Go.ChangeAt Go.RowKit
theorem gTab:Tryz.prog.globalNamed "math/bits.deBruijn64tab" = some 0:=by kernel_rfl
theorem gTabType:(Tryz.prog.globals[0]?).map (·.type)=some 22:=by kernel_rfl
theorem cellsTab:Tryz.prog.cellsOf 22=64:=by kernel_rfl
theorem cellsByte:Tryz.prog.cellsOf 5=1:=by kernel_rfl
theorem table {W:World} (h:laidMetH Tryz.prog [("math/bits.deBruijn64tab",Rows.laid_math_bits_deBruijn64tab)] W):Lib.TabIs Tryz.prog W "math/bits.deBruijn64tab" .u8 tabL :=
 Lib.tabIs_of_head (rest:=[]) gTab gTabType Tryz.underlying22 Tryz.underlying5 cellsByte cellsTab h
theorem tab_of_laid {W:World} (h:laidMetH Tryz.prog [("math/bits.deBruijn64tab",Rows.laid_math_bits_deBruijn64tab)] W):Tab W:=fun k hk =>
 (table h).cell gTab k hk
/-- A world for the witness: the settled one, the table holding what its initialiser lays. -/
noncomputable def laidWorld (os:Os):World :=
 { World.holding Tryz.prog os ⟨#[],#[],[]⟩ with heap:=(World.holding Tryz.prog os ⟨#[],#[],[]⟩).heap.modify 0 fun
  | .cells _ t frozen=>.cells #[.int .u8 0,.int .u8 1,.int .u8 56,.int .u8 2,.int .u8 57,.int .u8 49,.int .u8 28,.int .u8 3,.int .u8 61,.int .u8 58,.int .u8 42,.int .u8 50,.int .u8 38,.int .u8 29,.int .u8 17,.int .u8 4,.int .u8 62,.int .u8 47,.int .u8 59,.int .u8 36,.int .u8 45,.int .u8 43,.int .u8 51,.int .u8 22,.int .u8 53,.int .u8 39,.int .u8 33,.int .u8 30,.int .u8 24,.int .u8 18,.int .u8 12,.int .u8 5,.int .u8 63,.int .u8 55,.int .u8 48,.int .u8 27,.int .u8 60,.int .u8 41,.int .u8 37,.int .u8 16,.int .u8 46,.int .u8 35,.int .u8 44,.int .u8 21,.int .u8 52,.int .u8 32,.int .u8 23,.int .u8 11,.int .u8 54,.int .u8 26,.int .u8 40,.int .u8 15,.int .u8 34,.int .u8 20,.int .u8 31,.int .u8 10,.int .u8 25,.int .u8 14,.int .u8 19,.int .u8 9,.int .u8 13,.int .u8 8,.int .u8 7,.int .u8 6] t frozen
  | o=>o }
end Go.Proofs.YteocjaihaegmoaaGreatDoor
namespace Go.Proofs.YteocjaihaegmoaaGreatDoor.topEnds
open Go Go.ChangeShapes Go.WideShapes Go.ChangeAt Go.RowKit
open Go.ChangeMaps (open_string shut_string)
set_option linter.unusedVariables false
theorem own:ownKnob Tryz.prog.godebug=none:=by kernel_rfl
theorem laidOut:laidOutB Tryz.prog=true:=by kernel_rfl
set_option maxRecDepth 100000 in
theorem contract (H:Type) (enc:TypeId × Value→H) (W:World) (base:Nat) (args:Array Value) (ds gs:List (DataW H)) (before:List MemPlace)
 (hval:∀ (j:Nat) t v,Tryz.f3.params[j]?=some t→args[j]?=some v→Value.okWide Tryz.prog W .any base t v)
 (hW:DataW.Whole enc Tryz.prog Tryz.f3.params.toList Rows.topEndsSpec.vars false W args.toList ds gs before) (hL:laidMetH Tryz.prog Rows.topEndsRow.laid W) :
 Calls Tryz.prog 3 args W fun e W' => ∃ v,e=.returned v∧Rows.topEndsSpec.post enc Tryz.prog Tryz.f3 false true false false W args v W' := by
 have hW' := hW
 obtain ⟨p,q,hA0,hV,rfl,hfz,hnd⟩:=hW
 have hA:DataW.TrodAll enc Tryz.prog W 0 (fun _=>true) true Tryz.f3.params.toList args.toList ds p:=hA0
 rw [Tryz.params3] at hA hval
 obtain ⟨v0,vs0,d0,ds0,p0,q0,hargs,rfl,rfl,h0,r0⟩:=trodAll_cons hA
 obtain ⟨v1,vs1,d1,ds1,p1,q1,rfl,rfl,rfl,h1,r1⟩:=trodAll_cons r0
 obtain ⟨rfl,rfl,rfl⟩:=trodAll_nil r1
 obtain rfl:args=#[v0,v1]:=by cases args;simp_all
 obtain ⟨rfl,rfl⟩:=trodVars_none hV
 obtain ⟨a0,rfl,w0⟩:=open_pos (hval 0 31 v0 rfl rfl)
 obtain ⟨rfl,t0⟩:=trod_pos enc w0 h0
 obtain ⟨a1,y1,w1⟩:=open_way (hval 1 32 v1 rfl rfl) h1
 clear hA0
 simp only [List.append_nil] at hW'
 have hlt1:∀ x∈p1,x.block<W.heap.size:=fun x hx=>by simpa using hW'.lt x (by simpa using hx)
 have hT:Tab W:=tab_of_laid hL
 refine (topEnds_walk a0 a1 w0 w1 v1 W y1 hT).mono fun e W' ⟨he,bel⟩=>?_
 subst he
 exact ⟨_,rfl,_,_,_,[],_,[],hW',trodAll_mk1 (shut_bool Tryz.underlying4 _),(trodAll_cons_mk (t0 _ _ _ _) (trodAll_cons_mk (stay_way laidOut h1 hlt1 bel) trodAll_mk0)),rfl,bel.frame _,fun h=>by cases h⟩
theorem laid_met (os:Os):laidMet Tryz.prog Rows.topEndsRow.laid ((laidWorld os).forCall (fun _ _=>0) ⟨#[],#[.agg (posA zeroN),.slice none 0 0],[]⟩).memory :=
 laidMet_of_run' 8 (by kernel_rfl) (by kernel_rfl)
theorem reads (os:Os) {H:Type} (enc:TypeId × Value→H):∃ places,DataW.whole enc Tryz.prog ((laidWorld os).forCall (fun _ _=>0) ⟨#[],#[.agg (posA zeroN),.slice none 0 0],[]⟩).memory Tryz.f3.params.toList Rows.topEndsSpec.vars false (#[Value.agg (posA zeroN),Value.slice none 0 0]:Array Value).toList 8=some ([.agg [.lit (.int .u8 0),.agg [.lit (.int .u8 0),.lit (.int .u8 0),.lit (.int .u8 0),.lit (.int .u8 0),.lit (.int .u8 0),.lit (.int .u8 0),.lit (.int .u8 0),.lit (.int .u8 0),.lit (.int .u8 0),.lit (.int .u8 0),.lit (.int .u8 0),.lit (.int .u8 0),.lit (.int .u8 0),.lit (.int .u8 0),.lit (.int .u8 0),.lit (.int .u8 0),.lit (.int .u8 0),.lit (.int .u8 0),.lit (.int .u8 0),.lit (.int .u8 0),.lit (.int .u8 0),.lit (.int .u8 0),.lit (.int .u8 0),.lit (.int .u8 0),.lit (.int .u8 0),.lit (.int .u8 0),.lit (.int .u8 0),.lit (.int .u8 0),.lit (.int .u8 0),.lit (.int .u8 0),.lit (.int .u8 0),.lit (.int .u8 0),.lit (.int .u8 0),.lit (.int .u8 0),.lit (.int .u8 0),.lit (.int .u8 0),.lit (.int .u8 0),.lit (.int .u8 0),.lit (.int .u8 0),.lit (.int .u8 0),.lit (.int .u8 0),.lit (.int .u8 0),.lit (.int .u8 0),.lit (.int .u8 0),.lit (.int .u8 0),.lit (.int .u8 0),.lit (.int .u8 0),.lit (.int .u8 0),.lit (.int .u8 0),.lit (.int .u8 0),.lit (.int .u8 0),.lit (.int .u8 0),.lit (.int .u8 0),.lit (.int .u8 0),.lit (.int .u8 0),.lit (.int .u8 0),.lit (.int .u8 0),.lit (.int .u8 0),.lit (.int .u8 0),.lit (.int .u8 0),.lit (.int .u8 0),.lit (.int .u8 0),.lit (.int .u8 0),.lit (.int .u8 0)],.lit (.int .u64 0),.agg [.agg [.lit (.int .u8 0),.lit (.int .u8 0),.lit (.int .u8 0),.lit (.int .u8 0),.lit (.int .u8 0),.lit (.int .u8 0)],.agg [.lit (.int .u8 0),.lit (.int .u8 0),.lit (.int .u8 0),.lit (.int .u8 0),.lit (.int .u8 0),.lit (.int .u8 0)]],.lit (.int .u8 0),.agg [.agg [.lit (.int .i8 0),.lit (.int .i8 0)],.agg [.lit (.int .i8 0),.lit (.int .i8 0)]],.lit (.int .i8 0),.agg [.lit (.int .u8 0),.lit (.int .u8 0)],.lit (.int .i64 0),.lit (.int .i64 0)],.nil],[],places) :=
 ⟨[],by kernel_rfl⟩
set_option maxRecDepth 100000 in
theorem lifted (os:Os) (started:os.Started) (H:Type) (enc:TypeId × Value→H) (F:Stop.Interp) :
 ReturnsInHanded {} Tryz.checked os 3 .any ((OpenSpec.ofChange Rows.topEndsSpec).preRow enc Tryz.prog Tryz.f3 Rows.topEndsRow.domain false Rows.topEndsRow.laid) (((OpenSpec.ofChange Rows.topEndsSpec).at F).post enc Tryz.prog Tryz.f3 false true false false):=by
 obtain ⟨places,hx⟩:=reads os enc
 refine returnsInHanded_of_row (C:=Tryz.checked) (s:=OpenSpec.ofChange Rows.topEndsSpec) own started (by kernel_rfl) Tryz.func3
  (witness_row_at (enc:=enc) (C:=Tryz.checked) false (laidWorld os) #[.agg (posA zeroN),.slice none 0 0] rfl (by kernel_rfl) (by kernel_rfl) (by kernel_rfl)
    (OpenSpec.preRow_of_cond 8 hx (by kernel_rfl) (fun k hk=>by cases hk) (by kernel_rfl) (laid_met os))) ?_
 intro W base args ds gs before hval hW _ _ _ hL _ _
 exact contract H enc W base args ds gs before hval hW hL
theorem said:Rows.TopEndsSaid :=
 OpenClaim.holds_of_cond 3 Tryz.f3 rfl rfl rfl rfl rfl rfl rfl ⟨rfl,rfl,rfl,rfl,rfl⟩ rfl rfl rfl rfl rfl (by kernel_rfl) Tryz.func3 (by kernel_rfl)
  (of_decide_eq_true (by kernel_rfl)) (by unfold Func.isWrapper;first | (rw [if_pos (by decide +kernel)];kernel_rfl) | (rw [if_neg (by decide +kernel)];exact ⟨rfl,rfl⟩))
  (fun os started H enc _ F=>by rw [OpenClaim.pre_eq_preRow];exact lifted os started H enc F)
theorem plain (f:FuncId) (fn:Func) (hf:Tryz.pinned.checked.prog.funcNamed "kibitzer/kibitzertop.TopEnds" = some f) (hfn:Tryz.pinned.checked.prog.funcs[f]?=some fn) :
 true=Tryz.pinned.checked.prog.looks []∧∀ (j:Nat) t,fn.params[j]?=some t→Tryz.pinned.checked.prog.wantsStandIn t=false:=by
 obtain rfl:f=3:=Option.some.inj ((show Tryz.prog.funcNamed "kibitzer/kibitzertop.TopEnds" = some 3 by kernel_rfl).symm.trans hf) |>.symm
 obtain rfl:fn=Tryz.f3:=(Option.some.inj (Tryz.func3.symm.trans hfn)).symm
 refine ⟨by kernel_rfl,fun j t ht=>?_⟩
 rw [Tryz.params3] at ht
 have hm:t=31∨t=32:=by have:=Array.mem_of_getElem? ht;simp at this;omega
 rcases hm with rfl | rfl
 · exact (show Tryz.prog.wantsStandIn 31=false by kernel_rfl)
 · exact (show Tryz.prog.wantsStandIn 32=false by kernel_rfl)
theorem proved:Rows.TopEndsCardSaid :=
 Claim7.holds_tied_plain_at .later [] _ _ _ _ said (fun _ h=>by cases h) (by kernel_rfl) (fun _ h=>by cases h) topEnds_row_tie rfl ⟨rfl,rfl⟩ (by kernel_rfl) rfl plain (by kernel_rfl)
#print axioms proved
end Go.Proofs.YteocjaihaegmoaaGreatDoor.topEnds
