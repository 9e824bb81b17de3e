/- Parts of the proof: C1, C2, C3, C4, C5, C6, C7, C8, C9, N3. -/
import Derived.Test.YteocjaihaegmoaaGreatDoorWAM
import Derived.Test.YteocjaihaegmoaaGreatDoorWBB
import Derived.Test.YteocjaihaegmoaaGreatDoorWBC
import Derived.Test.YteocjaihaegmoaaGreatDoorWBF
import Derived.RangeFuncFrom
set_option linter.unusedVariables false
set_option maxHeartbeats 16000000
set_option maxRecDepth 100000
namespace Go.Proofs.YteocjaihaegmoaaGreatDoor
open Go Go.RowKit Go.Shelf
attribute [local go_sem] Oper.semAt_some
abbrev SqI:={ x:Int // 0≤x∧x<64 }
def encS (x:SqI):Array Value:=#[.int .i64 x.1]
theorem chome_any (c:Int) (hc:c=0∨c=1) (w:World):Calls Tryz.prog 146 #[.int .u8 c] w fun e w' => e = .returned (.int .i64 (homeC c))∧w=w' := by
 rcases hc with rfl | rfl
 · go_enter Tryz.func146, Tryz.ntmps146
   go_wp2
   go_ret
   exact ⟨rfl,rfl⟩
 · go_enter Tryz.func146, Tryz.ntmps146
   go_wp2
   go_ret
   exact ⟨rfl,rfl⟩
theorem cfrom_any (a b:Int) (w:World):Calls Tryz.prog 211 #[.int .i64 a,.int .i64 b] w fun e w' => e = .returned (.func (.func 220) #[] #[.pointer (some ⟨w.heap.size,0,none⟩),.pointer (some ⟨w.heap.size+1,0,none⟩)]) ∧
 w'.heap[w.heap.size]?=some (.cells #[.int .i64 a] 3 (0,0))∧w'.heap[w.heap.size+1]?=some (.cells #[.int .i64 b] 3 (0,0))∧Below w.heap.size w w' := by
 have h1:((w.alloc (.cells #[.int .i64 a] 3)).alloc (.cells #[.int .i64 b] 3)).heap[w.heap.size]?=some (.cells #[.int .i64 a] 3 (0,0)):=(Below.heap_alloc _ _ _ (by simp)).trans (World.alloc_heap_new w _)
 have h2:((w.alloc (.cells #[.int .i64 a] 3)).alloc (.cells #[.int .i64 b] 3)).heap[w.heap.size+1]?=some (.cells #[.int .i64 b] 3 (0,0)):=by
  have:=World.alloc_heap_new (w.alloc (.cells #[.int .i64 a] 3)) (.cells #[.int .i64 b] 3)
  rwa [World.size_alloc] at this
 have hb:Below w.heap.size w ((w.alloc (.cells #[.int .i64 a] 3)).alloc (.cells #[.int .i64 b] 3)):=(bR.alloc lR _).alloc (by simp) _
 have H:=hI (show _∧_∧_ from ⟨h1,h2,hb⟩)
 clear h1 h2 hb
 go_enter Tryz.func211,Tryz.ntmps211
 go_wp2
 go_ret
 exact ⟨rfl,H.out⟩
theorem fromTo_len (a b:Int):(fromTo a b).length=(hiI a b - loI a b+1).toNat:=by unfold fromTo;rw [List.length_map,List.length_range]
theorem fromTo_get (a b:Int) (k:Nat) (hk:k<(fromTo a b).length):(fromTo a b)[k]=loI a b+k:=by
 simp only [fromTo,List.getElem_map,List.getElem_range]
theorem take_next {l:List Int} {pre:List SqI} {x:SqI} {k:Nat} (hk:k<l.length) (h:pre.map (·.1)=l.take k) (hx:x.1=l[k]):(pre ++ [x]).map (·.1)=l.take (k+1):=by
 rw [List.take_succ_eq_append_getElem hk,List.map_append,h,← hx];rfl
theorem lo_hi {a b:Int} (a0:0≤a) (a1:a<64) (b0:0≤b) (b1:b<64):0≤loI a b∧loI a b≤hiI a b∧hiI a b<64:=by
 unfold loI hiI;split <;> omega
theorem from1_stops (n:Nat) (hn:1≤n) (a b:Int) (a0:0≤a) (a1:a<64) (b0:0≤b) (b1:b<64) (Ba Bb:Nat) (w:World) (hA:w.heap[Ba]?=some (.cells #[.int .i64 a] 3 (0,0))) (hB:w.heap[Bb]?=some (.cells #[.int .i64 b] 3 (0,0))) :
 SeqStopsK Fence.wide n Tryz.prog 220 #[.pointer (some ⟨Ba,0,none⟩),.pointer (some ⟨Bb,0,none⟩)] encS (Below w.heap.size) (fun xs=>xs.map (·.1)=fromTo a b) (fun pre=>pre.map (·.1) <+: fromTo a b) 65 w:=by
 intro l J Jx W hW hAJ hAJx hY h0
 have HCA:=hI (fun (W' : World) (h:Below w.heap.size W W')=>(show W'.cell? ⟨Ba,0,none⟩=some (.int .i64 a)∧W'.cell? ⟨Bb,0,none⟩=some (.int .i64 b) from
  have hh:=hW.trans h
  ⟨by rw [cell_of_row W' _ 0 _ _ _ ((hh.block _ (Array.getElem?_eq_some_iff.1 hA).1).trans hA)];rfl,by rw [cell_of_row W' _ 0 _ _ _ ((hh.block _ (Array.getElem?_eq_some_iff.1 hB).1).trans hB)];rfl⟩))
 have HY:=hI hY
 have HJ0:=hI h0
 clear hW hAJ hAJx hY h0 hA hB
 obtain ⟨l0,l1,l2⟩:=lo_hi a0 a1 b0 b1
 have hlen:=fromTo_len a b
 have HGET:=hI (fromTo_get a b)
 have e1:min a b=loI a b:=by unfold loI;split <;> omega
 have e2:max a b=hiI a b:=by unfold hiI;split <;> omega
 generalize fromTo a b=L at *
 generalize loI a b=lo at *
 generalize hiI a b=hi at *
 obtain ⟨ca,cb⟩:=HCA.out W bR
 refine callsIn_of_wp Tryz.func220 rfl trivial ?_ rfl
 simp only [Tryz.ntmps220,List.size_toArray,List.length_cons,List.length_nil,Nat.reduceAdd,Nat.reduceSub,Array.replicate_succ,Array.replicate_zero,List.push_toArray,List.append_toArray,List.nil_append,List.cons_append]
 have hd:Fence.wide.depth.isSome=false:=rfl
 have hfn:∀ k,Fence.wide.fn k=True:=fun _=>rfl
 gi_wp2
 gi_loopw [4] (fun i wr=>∃ (k:Nat) (pre:List SqI),k≤L.length∧i=.int .i64 (lo+k)∧pre.map (·.1)=L.take k∧J pre wr∧Below w.heap.size W wr) (fun i _=>66 - (intOf i).toNat)
 case atStart=>exact ⟨0,[],Nat.zero_le _,by simp,rfl,HJ0.out,bR⟩
 case round =>
  obtain ⟨k,pre,hk,rfl,hpre,hj,hr⟩:=hrel
  obtain ⟨ca,cb⟩:=HCA.out wr hr
  by_cases hlt:k<L.length
  · have hpl : pre.length = k := by
     have:=congrArg List.length hpre
     rw [List.length_map,List.length_take] at this;omega
    have hg:=HGET.out k hlt
    have dl:decide (lo+(k:Int)≤hi)=true:=decide_eq_true (by omega)
    obtain ⟨x,hx⟩:∃ x:SqI,x.1=lo+(k:Int):=⟨⟨lo+k,by omega,by omega⟩,rfl⟩
    obtain ⟨fn,tmps,assign,body,hy,hR⟩:=HY.out pre x wr hj (by omega)
    have HTN:=hI (take_next hlt hpre (hx.trans hg.symm))
    have HRR:=hI hr
    unfold encS at hy
    rw [hx] at hy
    clear hpre hj hg hr hx
    gi_wp2
    refine hR.mono ?_
    rintro e W3 (⟨rfl,hJ3,hK3⟩ | ⟨rfl,hJ3⟩)
    · have hr3 := HRR.out.trans hK3
      have HJ3:=hI hJ3
      clear hJ3 hK3 hR hy ca cb
      gi_wp2
      go_roundw
      case rel=>exact ⟨k+1,_,by omega,by go_num,HTN.out,HJ3.out,hr3⟩
      case measure=>simp [intOf];omega
    · have HE := hideIt (show (∃ v, Ending.returned (.tuple #[]) = .returned v) ∧ ((∃ xs : List SqI, xs.map (·.1) = L ∧ J xs W3) ∨ (∃ pre : List SqI, pre.map (·.1) <+: L ∧ Jx pre W3)) from ⟨⟨_, rfl⟩, .inr ⟨_, by rw [HTN.out]; exact List.take_prefix _ _, hJ3⟩⟩)
      clear hJ3 hR hy ca cb
      gi_wp2
      refine bodyPost_ret (results_none rfl _ _ _) rfl ?_
      exact HE.out
  · obtain rfl : k = L.length := by omega
    have dl:decide (lo+(L.length:Int)≤hi)=false:=decide_eq_false (by omega)
    rw [List.take_length] at hpre
    have HE:=hI (show (∃ v,Ending.returned (.tuple #[])=.returned v)∧((∃ xs:List SqI,xs.map (·.1)=L∧J xs wr)∨(∃ pre:List SqI,pre.map (·.1) <+: L∧Jx pre wr)) from ⟨⟨_,rfl⟩,.inl ⟨pre,hpre,hj⟩⟩)
    clear hpre hj hr
    gi_wp2
    go_end0
    exact HE.out
/-- A closure that asks something of a square. -/
def AsksB (f:Nat) (lb:Array Value) (p:Int→Bool) (w:World):Prop :=
 ∀ x,0≤x→x<64→∀ W,Below w.heap.size w W→Calls Tryz.prog f (#[.int .i64 x] ++ lb) W fun e W' => e = .returned (.bool (p x))∧Below W.heap.size W W'
theorem grown_keep {W W' : World} {row:Option Nat} {B k:Nat} {o:Obj} (hg:W.grownBy W' row) (hr:∀ r,row=some r→B≤r∧∃ o:Obj,W.heap[r]?=some o∧o.isCells=false) (h:W.heap[k]?=some o) (hk:k<B):W'.heap[k]?=some o :=
 (hg.block k (Array.getElem?_eq_some_iff.1 h).1 (fun e=>by have:=(hr k e.symm).1;omega)).trans h
theorem bool_result {fn:Func} {p:Tmp} (h:fn.results=#[.cell p 4]) (tmps:Array Value) (w:World) (g:Nat) (b:Bool) (hp:tmps.getD p undef=.pointer (some ⟨g,0,none⟩)) (hg:w.heap[g]?=some (.cells #[.bool b] 4 (0,0))) :
 (results fn tmps).run Tryz.prog w=.ok (.bool b) w:=by
 have hp' : tmps[p]?.getD undef=.pointer (some ⟨g,0,none⟩):=by simpa using hp
 have hc:w.cell? ⟨g,0,none⟩=some (.bool b):=by rw [cell_of_row w _ 0 _ _ _ hg];rfl
 simp [results,h,hp',asAddr,go_sem,hc]
/-- What all wants of a world between two rounds. -/
def AllS (w:World) (f:Nat) (lb:Array Value) (W:World):Prop :=
 W.heap[w.heap.size]?=some (.cells #[.func (.func f) #[] lb] 91 (0,0))∧(∃ r,W.heap[w.heap.size+1]?=some (.cells #[.bool r] 4 (0,0)))∧Below w.heap.size w W
theorem call_any (a b:Int) (a0:0≤a) (a1:a<64) (b0:0≤b) (b1:b<64) (f:Nat) (lb:Array Value) (p:Int→Bool) (w:World) (eg:∀ args w,(callFunc f args).run Tryz.prog w=.ok (.enter f args) w) (hp:AsksB f lb p w) :
 Calls Tryz.prog 191 #[.int .i64 a,.int .i64 b,.func (.func f) #[] lb] w fun e w' => e = .returned (.bool ((fromTo a b).all p))∧Below w.heap.size w w' := by
 refine (callsIn_wide (n:=9)).1 ?_
 refine callsIn_of_wp_marks Tryz.func191 rfl trivial ?_ rfl
 simp only [Tryz.ntmps191,List.size_toArray,List.length_cons,List.length_nil,Nat.reduceAdd,Nat.reduceSub,Array.replicate_succ,Array.replicate_zero,List.push_toArray,List.append_toArray,List.nil_append,List.cons_append]
 have hd:Fence.wide.depth.isSome=false:=rfl
 have hfn:∀ k,Fence.wide.fn k=True:=fun _=>rfl
 obtain ⟨X,hX⟩:∃ X,(w.alloc (.cells #[.func (.func f) #[] lb] 91)).alloc (.cells #[.bool false] 4)=X:=⟨_,rfl⟩
 have HX:=hI hX
 gi_wp2_with (first | rw [HX.out])
 refine (callsIn_wide.2 (cfrom_any a b _)).mono ?_
 rintro e w1 ⟨rfl,hA,hB,hb1⟩
 have hbX:Below w.heap.size w X:=by rw [← HX.out];exact (bR.alloc lR _).alloc (by simp) _
 have hx1:X.heap[w.heap.size]?=some (.cells #[.func (.func f) #[] lb] 91 (0,0)):=by rw [← HX.out];exact (Below.heap_alloc _ _ _ (by simp)).trans (World.alloc_heap_new w _)
 have hx2:X.heap[w.heap.size+1]?=some (.cells #[.bool false] 4 (0,0)):=by
  rw [← HX.out]
  have:=World.alloc_heap_new (w.alloc (.cells #[.func (.func f) #[] lb] 91)) (.cells #[.bool false] 4)
  rwa [World.size_alloc] at this
 have hbw:=hbX.trans (hb1.mono hbX.size)
 have hz1:w.heap.size+1<X.heap.size:=(Array.getElem?_eq_some_iff.1 hx2).1
 have hz2:X.heap.size≤w1.heap.size:=hb1.size
 have hf1:=(hb1.block _ (by omega)).trans hx1
 have hr1:=(hb1.block _ (by omega)).trans hx2
 have HP:=hI hp
 have HBW:=hI hbw
 have HF1:=hI hf1
 have HR1:=hI hr1
 have HST:=hI (from1_stops 8 (by decide) a b a0 a1 b0 b1 X.heap.size (X.heap.size+1) w1 hA hB)
 clear hbX hx1 hx2 hb1 hbw hp hf1 hr1 hA hB
 gi_wp2
 refine wpIn_rangeFunc_ownF (n:=9) rfl (by decide) (gf:=220) (lb:=#[.pointer (some ⟨X.heap.size,0,none⟩),.pointer (some ⟨X.heap.size+1,0,none⟩)]) rfl trivial (enters_of Tryz.func220 (by kernel_rfl) rfl) HST.out (fun h k=>h.trans k) (fun W l o o' hl _ _ _=>(below_put W l o').mono hl) bR (fun _=>rfl)
  (fun pre W=>(∀ x∈pre,p x.1=true)∧AllS w f lb W∧w1.heap.size≤W.heap.size) (fun c pre W=>c=.ret∧(∃ x∈pre,p x.1=false)∧W.heap[w.heap.size+1]?=some (.cells #[.bool false] 4 (0,0))∧Below w.heap.size w W) ?hI ?hIx ?h0
  (fun x=>{ tmps:=#[.int .i64 a,.int .i64 b,.func (.func f) #[] lb,undef,undef,.pointer (some ⟨w.heap.size,0,none⟩),.pointer (some ⟨w.heap.size+1,0,none⟩),.int .i64 x.1,.int .i64 a,.int .i64 b,.func (.func 220) #[] #[.pointer (some ⟨X.heap.size,0,none⟩),.pointer (some ⟨X.heap.size+1,0,none⟩)],.int .i64 x.1,undef,undef,undef,undef],defers:=[] }) ?hassign ?hbody ?hdone ?hstop
 case hI =>
  rintro pre W W' row ⟨h1,⟨h2,⟨r,h3⟩,h4⟩,h5⟩ hg hr
  refine ⟨h1,?_,Nat.le_trans h5 hg.size⟩
  exact ⟨grown_keep hg hr h2 (by omega),⟨r,grown_keep hg hr h3 (by omega)⟩,h4.grown hg h4.size (fun k e=>by have:=(hr k e).1;omega)⟩
 case hIx =>
  rintro c pre W W' row ⟨h1,h2,h3,h4⟩ hg hr
  exact ⟨h1,h2,grown_keep hg hr h3 (by omega),h4.grown hg h4.size (fun k e=>by have:=(hr k e).1;omega)⟩
 case h0=>exact ⟨(fun _ h=>by cases h),⟨HF1.out,⟨_,HR1.out⟩,HBW.out⟩,Nat.le_refl _⟩
 case hassign =>
  intro l x W K hK
  unfold encS
  gi_wp2
  exact hK
 case hbody =>
  rintro l pre x W ⟨h1,⟨h2,⟨r,h3⟩,h4⟩,h5⟩ _
  have hc:W.cell? ⟨w.heap.size,0,none⟩=some (.func (.func f) #[] lb):=by rw [cell_of_row W _ 0 _ _ _ h2];rfl
  have HC:=hI (HP.out x.1 x.2.1 x.2.2 W h4)
  have HS:=hI (show _∧_∧_∧_ from ⟨h1,h2,h3,h4⟩)
  clear h1 h2 h3 h4
  obtain ⟨x,hx⟩:=x
  dsimp only at HC
  gi_wp2
  refine ((callsIn_wide.2 HC.out).inRound l).mono ?_
  rintro e W2 ⟨rfl,hb2⟩
  obtain ⟨h1,h2,h3,h4⟩:=HS.out
  have k2:=(hb2.block _ (Array.getElem?_eq_some_iff.1 h2).1).trans h2
  have k3:=(hb2.block _ (Array.getElem?_eq_some_iff.1 h3).1).trans h3
  have k4:=h4.trans (hb2.mono h4.size)
  have hd2:w1.heap.size≤W.heap.size:=h5
  have hk:KeepsOthers W W2:=(Holds.of_below (bad:=[]) hb2).others
  cases hpx:p x with
  | true =>
    have HE:=hI (show KeepsOthers W W2∧Below w1.heap.size W W2∧(∀ y∈pre ++ [⟨x,hx⟩],p y.1=true)∧AllS w f lb W2∧w1.heap.size≤W2.heap.size from ⟨hk,hb2.mono hd2,fun y hy=>by
     rw [List.mem_append,List.mem_singleton] at hy
     rcases hy with hy | rfl
     · exact h1 y hy
     · exact hpx,⟨k2,⟨r,k3⟩,k4⟩,Nat.le_trans hd2 hb2.size⟩)
    clear hb2 k2 k3 k4 hk hpx h1 h2 h3 h4
    gi_wp2
    exact HE.out
  | false =>
    have ec:W2.cell? ⟨w.heap.size+1,0,none⟩=some (.bool r):=by rw [cell_of_row W2 _ 0 _ _ _ k3];rfl
    have ef:W2.frozen? ⟨w.heap.size+1,0,none⟩=false:=by simp [World.frozen?,k3]
    have HE:=hI (show KeepsOthers W (W2.setCell ⟨w.heap.size+1,0,none⟩ (.bool false))∧(Code.ret=Code.ret∧(∃ y∈pre ++ [(⟨x,hx⟩:SqI)],p y.1=false)∧(W2.setCell ⟨w.heap.size+1,0,none⟩ (.bool false)).heap[w.heap.size+1]?=some (.cells #[.bool false] 4 (0,0))∧Below w.heap.size w (W2.setCell ⟨w.heap.size+1,0,none⟩ (.bool false))) from
     ⟨hk.trans (KeepsOthers.setCell _ _ _),rfl,⟨⟨x,hx⟩,by simp,hpx⟩,by simp only [World.setCell];rw [Array.getElem?_modify,if_pos rfl,k3];rfl,k4.setCell (p:=⟨w.heap.size+1,0,none⟩) (by show w.heap.size≤w.heap.size+1;omega) _⟩)
    clear hb2 k2 k3 k4 hk hpx h1 h2 h3 h4
    gi_wp2
    exact ⟨HE.out.1,rfl,HE.out.2.2⟩
 case hdone =>
  rintro D xs W hD hxs ⟨h1,⟨h2,⟨r,h3⟩,h4⟩,h5⟩ hK
  have HE:=hI (show (fromTo a b).all p=true by
   rw [← hxs,List.all_map,List.all_eq_true]
   exact h1)
  have ec:W.cell? ⟨w.heap.size+1,0,none⟩=some (.bool r):=by rw [cell_of_row W _ 0 _ _ _ h3];rfl
  have ef:W.frozen? ⟨w.heap.size+1,0,none⟩=false:=by simp [World.frozen?,h3]
  have k3:(W.setCell ⟨w.heap.size+1,0,none⟩ (.bool true)).heap[w.heap.size+1]?=some (.cells #[.bool true] 4 (0,0)):=by simp only [World.setCell];rw [Array.getElem?_modify,if_pos rfl,h3];rfl
  have hK2:(W.setCell ⟨w.heap.size+1,0,none⟩ (.bool true)).heap[D]?=some (.deferred (some [])):=(KeepsOthers.setCell W _ _).same D _ hK rfl
  have k4:=h4.setCell (p:=⟨w.heap.size+1,0,none⟩) (by show w.heap.size≤w.heap.size+1;omega) (.bool true)
  gi_wp2
  refine ⟨by simp,.inl ⟨_,_,rfl,run_takeDeferred hK2,?_⟩⟩
  exact ⟨_,bool_result Tryz.results191 _ _ _ _ rfl ((World.putObj_heap_other (by omega)).trans k3),rB HE.out.symm,k4.trans (belowK_b (w:=w) lR _ D _ _ (by omega) hK2 rfl rfl)⟩
 case hstop =>
  rintro D c pre W hD hpre ⟨rfl,h2,h3,h4⟩ hK
  have HE:=hI (show (fromTo a b).all p=false by
   obtain ⟨x,hx,hpx⟩:=h2
   rw [List.all_eq_false]
   exact ⟨x.1,hpre.subset (List.mem_map_of_mem hx),by rw [hpx];decide⟩)
  gi_wp2
  refine ⟨by simp,.inl ⟨_,_,rfl,run_takeDeferred hK,?_⟩⟩
  exact ⟨_,bool_result Tryz.results191 _ _ _ _ rfl ((World.putObj_heap_other (by omega)).trans h3),rB HE.out.symm,h4.trans (belowK_b (w:=w) lR _ D _ _ (by omega) hK rfl rfl)⟩
end Go.Proofs.YteocjaihaegmoaaGreatDoor
namespace Go.Proofs.YteocjaihaegmoaaGreatDoor
open Go Go.RowKit Go.Shelf
theorem bit_zero (b:BitVec 64) {s:Int} (s0:0≤s) (s1:s<64):(bits .and .u64 (u b / 2 ^ s.toNat) 1==0)=!hasB b s:=by
 obtain ⟨k,rfl⟩:=Int.eq_ofNat_of_zero_le s0
 have hk:k<64:=by omega
 have h:=bit_test b (s:=(k:Int)) (by omega) (by omega)
 rw [show ((k:Nat):Int).toNat=k from rfl,shr_u,show (1:Int)=u 1#64 from rfl,bits_and_u] at h ⊢
 rw [← h,u_beq,u_eq_zero]
 have:(b >>> k&&&1#64)=0#64∨(b >>> k&&&1#64)=1#64:=by
  cases hx:(b >>> k).getLsbD 0 with
  | false =>
    left
    apply BitVec.eq_of_getLsbD_eq
    intro i hi
    rw [BitVec.getLsbD_and]
    by_cases e:i=0
    · subst e;rw [hx];rfl
    · have := bit_one 0 i (by decide)
      rw [show (1#64 <<< 0)=1#64 from rfl] at this
      rw [this,decide_eq_false e,Bool.and_false];simp
  | true =>
    right
    apply BitVec.eq_of_getLsbD_eq
    intro i hi
    rw [BitVec.getLsbD_and]
    by_cases e:i=0
    · subst e;rw [hx];rfl
    · have := bit_one 0 i (by decide)
      rw [show (1#64 <<< 0)=1#64 from rfl] at this
      rw [this,decide_eq_false e,Bool.and_false]
 rcases this with e | e <;> rw [e] <;> rfl
def rookV (n:Nat→Int) (side:Nat):Value:=.tuple #[.int .i64 (if 0≤rFile n side∧rFile n side≤7 then rSq n side else 0),.bool (rookOk n side)]
theorem rookV_no {n:Nat→Int} {side:Nat} (h:¬(0≤rFile n side∧rFile n side≤7)):rookV n side=.tuple #[.int .i64 0,.bool false]:=by
 unfold rookV rookOk
 rw [if_neg h]
 by_cases h1:0≤rFile n side
 · rw [decide_eq_true h1,decide_eq_false (fun h2=>h ⟨h1,h2⟩)];rfl
 · rw [decide_eq_false h1];rfl
theorem rookV_yes {n:Nat→Int} {side:Nat} {r:Int} (h:0≤rFile n side∧rFile n side≤7) (hr:rSq n side=r):rookV n side=.tuple #[.int .i64 r,.bool ((n (1+r.toNat)==8*n 78+4)&&(decide (kSq n<r)==(side==0))&&!(r==kSq n))]:=by
 unfold rookV rookOk
 rw [if_pos h,hr,decide_eq_true h.1,decide_eq_true h.2];rfl
abbrev oCk0:Oper:={ dst:=some 29,op:=Op.move (Operand.tmp 9),type:=3,pos := "castle.go:48",after:=#[],guard:=none }
abbrev oCk1:Oper:={ dst:=some 30,op:=Op.move (Operand.tmp 9),type:=3,pos := "castle.go:48",after:=#[],guard:=none }
abbrev oCk2:Oper:={ dst:=some 31,op:=Op.fieldAddr 31 (Operand.tmp 3) 1,type:=0,pos := "castle.go:48",after:=#[],guard:=none }
abbrev oCk3:Oper:={ dst:=some 32,op:=Op.indexAddr 22 (Operand.tmp 31) (Operand.tmp 30),type:=0,pos := "castle.go:48",after:=#[{ on:=2,ground:=Ground.data },{ on:=1,ground:=Ground.data }],guard:=none }
abbrev oCk4:Oper:={ dst:=some 33,op:=Op.load 5 (Operand.tmp 32),type:=5,pos := "castle.go:48",after:=#[{ on:=3,ground:=Ground.data }],guard:=none }
abbrev oCk5:Oper:={ dst:=some 34,op:=Op.fieldAddr 31 (Operand.tmp 3) 4,type:=0,pos := "castle.go:48",after:=#[],guard:=none }
abbrev oCk6:Oper:={ dst:=some 35,op:=Op.load 5 (Operand.tmp 34),type:=5,pos := "castle.go:48",after:=#[{ on:=5,ground:=Ground.data }],guard:=none }
abbrev oCk7:Oper:={ dst:=some 36,op:=Op.binOp BinOp.mul 5 (Operand.const (Value.int IntKind.u8 8)) (Operand.tmp 35) 5,type:=5,pos := "castle.go:48",after:=#[{ on:=6,ground:=Ground.data }],guard:=none }
abbrev oCk8:Oper:={ dst:=some 37,op:=Op.binOp BinOp.add 5 (Operand.tmp 36) (Operand.const (Value.int IntKind.u8 4)) 5,type:=5,pos := "castle.go:48",after:=#[{ on:=7,ground:=Ground.data }],guard:=none }
abbrev oCk9:Oper:={ dst:=some 38,op:=Op.binOp BinOp.eql 5 (Operand.tmp 33) (Operand.tmp 37) 5,type:=4,pos := "castle.go:48",after:=#[{ on:=4,ground:=Ground.data },{ on:=8,ground:=Ground.data }],guard:=none }
abbrev oCk10:Oper:={ dst:=some 39,op:=Op.move (Operand.tmp 38),type:=4,pos := "castle.go:48",after:=#[{ on:=9,ground:=Ground.data }],guard:=none }
abbrev oCk11:Oper:={ dst:=some 40,op:=Op.move (Operand.tmp 9),type:=3,pos := "castle.go:48",after:=#[{ on:=10,ground:=Ground.guard }],guard:=some (10,true) }
abbrev oCk12:Oper:={ dst:=some 41,op:=Op.move (Operand.tmp 1),type:=3,pos := "castle.go:48",after:=#[{ on:=10,ground:=Ground.guard }],guard:=some (10,true) }
abbrev oCk13:Oper:={ dst:=some 42,op:=Op.binOp BinOp.gtr 3 (Operand.tmp 40) (Operand.tmp 41) 3,type:=4,pos := "castle.go:48",after:=#[{ on:=11,ground:=Ground.data },{ on:=12,ground:=Ground.data },{ on:=10,ground:=Ground.guard }],guard:=some (10,true) }
abbrev oCk14:Oper:={ dst:=some 43,op:=Op.move (Operand.tmp 2),type:=3,pos := "castle.go:48",after:=#[{ on:=10,ground:=Ground.guard }],guard:=some (10,true) }
abbrev oCk15:Oper:={ dst:=some 44,op:=Op.binOp BinOp.eql 3 (Operand.tmp 43) (Operand.const (Value.int IntKind.i64 0)) 3,type:=4,pos := "castle.go:48",after:=#[{ on:=14,ground:=Ground.data },{ on:=10,ground:=Ground.guard }],guard:=some (10,true) }
abbrev oCk16:Oper:={ dst:=some 45,op:=Op.binOp BinOp.eql 4 (Operand.tmp 42) (Operand.tmp 44) 4,type:=4,pos := "castle.go:48",after:=#[{ on:=13,ground:=Ground.data },{ on:=15,ground:=Ground.data },{ on:=10,ground:=Ground.guard }],guard:=some (10,true) }
abbrev oCk17:Oper:={ dst:=some 46,op:=Op.pick (Operand.tmp 39) (Operand.tmp 45) (Operand.const (Value.bool false)),type:=4,pos := "castle.go:48",after:=#[{ on:=10,ground:=Ground.data },{ on:=16,ground:=Ground.data }],guard:=none }
abbrev oCk18:Oper:={ dst:=some 47,op:=Op.move (Operand.tmp 46),type:=4,pos := "castle.go:48",after:=#[{ on:=17,ground:=Ground.data },{ on:=10,ground:=Ground.chain }],guard:=none }
abbrev oCk19:Oper:={ dst:=some 48,op:=Op.move (Operand.tmp 9),type:=3,pos := "castle.go:48",after:=#[{ on:=18,ground:=Ground.guard },{ on:=23,ground:=Ground.gcOnly Departure.lateStores }],guard:=some (18,true) }
abbrev oCk20:Oper:={ dst:=some 49,op:=Op.move (Operand.tmp 1),type:=3,pos := "castle.go:48",after:=#[{ on:=18,ground:=Ground.guard },{ on:=23,ground:=Ground.gcOnly Departure.lateStores }],guard:=some (18,true) }
abbrev oCk21:Oper:={ dst:=some 50,op:=Op.binOp BinOp.neq 3 (Operand.tmp 48) (Operand.tmp 49) 3,type:=4,pos := "castle.go:48",after:=#[{ on:=19,ground:=Ground.data },{ on:=20,ground:=Ground.data },{ on:=18,ground:=Ground.guard },{ on:=23,ground:=Ground.gcOnly Departure.lateStores }],guard:=some (18,true) }
abbrev oCk22:Oper:={ dst:=some 51,op:=Op.pick (Operand.tmp 47) (Operand.tmp 50) (Operand.const (Value.bool false)),type:=4,pos := "castle.go:48",after:=#[{ on:=18,ground:=Ground.data },{ on:=21,ground:=Ground.data },{ on:=23,ground:=Ground.gcOnly Departure.lateStores }],guard:=none }
abbrev oCk23:Oper:={ dst:=some 6,op:=Op.assign (Operand.tmp 29),type:=3,pos := "castle.go:48",after:=#[{ on:=0,ground:=Ground.data },{ on:=18,ground:=Ground.chain },{ on:=0,ground:=Ground.phase },{ on:=1,ground:=Ground.textOnly Departure.lateStores },{ on:=2,ground:=Ground.textOnly Departure.lateStores },{ on:=3,ground:=Ground.textOnly Departure.lateStores },{ on:=4,ground:=Ground.textOnly Departure.lateStores },{ on:=5,ground:=Ground.textOnly Departure.lateStores },{ on:=6,ground:=Ground.textOnly Departure.lateStores },{ on:=7,ground:=Ground.textOnly Departure.lateStores },{ on:=8,ground:=Ground.textOnly Departure.lateStores },{ on:=9,ground:=Ground.textOnly Departure.lateStores },{ on:=10,ground:=Ground.textOnly Departure.lateStores },{ on:=11,ground:=Ground.textOnly Departure.lateStores },{ on:=12,ground:=Ground.textOnly Departure.lateStores },{ on:=13,ground:=Ground.textOnly Departure.lateStores },{ on:=14,ground:=Ground.textOnly Departure.lateStores },{ on:=15,ground:=Ground.textOnly Departure.lateStores },{ on:=16,ground:=Ground.textOnly Departure.lateStores },{ on:=17,ground:=Ground.textOnly Departure.lateStores },{ on:=18,ground:=Ground.textOnly Departure.lateStores },{ on:=19,ground:=Ground.textOnly Departure.lateStores },{ on:=20,ground:=Ground.textOnly Departure.lateStores },{ on:=21,ground:=Ground.textOnly Departure.lateStores },{ on:=22,ground:=Ground.textOnly Departure.lateStores }],guard:=none }
abbrev oCk24:Oper:={ dst:=some 7,op:=Op.assign (Operand.tmp 51),type:=4,pos := "castle.go:48",after:=#[{ on:=22,ground:=Ground.data },{ on:=23,ground:=Ground.chain },{ on:=0,ground:=Ground.phase },{ on:=1,ground:=Ground.phase },{ on:=2,ground:=Ground.phase },{ on:=3,ground:=Ground.phase },{ on:=4,ground:=Ground.phase },{ on:=5,ground:=Ground.phase },{ on:=6,ground:=Ground.phase },{ on:=7,ground:=Ground.phase },{ on:=8,ground:=Ground.phase },{ on:=9,ground:=Ground.phase },{ on:=10,ground:=Ground.phase },{ on:=11,ground:=Ground.phase },{ on:=12,ground:=Ground.phase },{ on:=13,ground:=Ground.phase },{ on:=14,ground:=Ground.phase },{ on:=15,ground:=Ground.phase },{ on:=16,ground:=Ground.phase },{ on:=17,ground:=Ground.phase },{ on:=18,ground:=Ground.phase },{ on:=19,ground:=Ground.phase },{ on:=20,ground:=Ground.phase },{ on:=21,ground:=Ground.phase },{ on:=22,ground:=Ground.phase },{ on:=23,ground:=Ground.phase }],guard:=none }
theorem crook_any (n:Nat→Int) (hn:PosOk n) (t:Int) (ht:n 78=t) (h01:t=0∨t=1) (side:Nat) (hs:side=0∨side=1) (w:World):Calls Tryz.prog 188 #[.agg (posA n),.int .i64 (kSq n),.int .i64 (side:Int)] w fun e w' => e = .returned (rookV n side)∧Below w.heap.size w w' := by
 have HCH:=hI (fun w=>chome_any t h01 w)
 obtain ⟨t,rfl⟩:∃ t' : Nat,t=(t' : Int):=⟨t.toNat,by omega⟩
 have ht1:t≤1:=by omega
 have hs1:side≤1:=by omega
 obtain ⟨hm,hhm⟩:∃ h,homeC (t:Int)=h:=⟨_,rfl⟩
 have hm56:hm=56*t:=by rw [← hhm];rfl
 have hkd:kindAt (79+t*2+side)=.i8:=by rcases (show t=0∨t=1 by omega) with rfl | rfl <;> rcases hs with rfl | rfl <;> rfl
 obtain ⟨X,hX⟩:∃ X,w.alloc (.cells (posA n) 31)=X:=⟨_,rfl⟩
 obtain ⟨p0,hb⟩:=box1 w n X hX
 obtain ⟨i0,r0⟩:=p0.rules
 have c78:X.cell? ⟨w.heap.size,78,none⟩=some (.int .u8 t):=by rw [← ht];exact p0.cell 78 (by decide)
 have cf:X.cell? ⟨w.heap.size,79+t*2+side,none⟩=some (.int .i8 (n (79+t*2+side))):=by
  have:=p0.cell (79+t*2+side) (by omega)
  rwa [hkd] at this
 have hrf:rFile n side=n (79+t*2+side):=by unfold rFile;rw [ht,Int.toNat_natCast,Nat.mul_comm]
 have HNO:=hI (@rookV_no n side)
 have HYES:=hI (fun r=>@rookV_yes n side r)
 rw [hrf] at HNO HYES
 have HRS:=hI (show rSq n side=hm+n (79+t*2+side) by unfold rSq;rw [ht,hhm,hrf])
 have HBRD:=hI (fun (s:Int) (s0:0≤s) (s1:s<64)=>(show X.cell? ⟨w.heap.size,1+s.toNat,none⟩=some (.int .u8 (n (1+s.toNat))) from p0.board _ (by omega)))
 obtain ⟨k,hk⟩:∃ k,kSq n=k:=⟨_,rfl⟩
 rw [hk]
 rw [hhm] at HCH
 have HX:=hI hX
 have HK:=hI hk
 have HT:=hI ht
 have HSD:=hI (show ((side:Int)==0)=(side==0) by rcases hs with rfl | rfl <;> rfl)
 obtain ⟨v0,v1⟩:=hn.i8 (79+t*2+side) (by omega) hkd
 generalize n (79+t*2+side)=f at *
 clear hX p0 hrf hk ht hhm h01 hs hkd
 by_cases h0:0≤f
 · by_cases h7 : f ≤ 7
   · have d0 : decide (f < 0) = false := decide_eq_false (by omega)
     have d7:decide (7<f)=false:=decide_eq_false (by omega)
     have HV:=hI (HYES.out (hm+f) ⟨h0,h7⟩ HRS.out)
     rw [HK.out,HT.out,← HSD.out] at HV
     have cb:=HBRD.out (hm+f) (by omega) (by omega)
     obtain ⟨x0,x1⟩:=hn.u8 (1+(hm+f).toNat) (by omega) (kB (by omega))
     have i1:(0:Int)≤hm+f:=by omega
     have i2:(hm+f:Int)<64:=by omega
     generalize n (1+(hm+f).toNat)=x at *
     clear HNO HYES
     have W3:=IntWalk.u8_in (8*(t:Int)) (by omega)
     have W4:=IntWalk.u8_in (8*(t:Int)+4) (by omega)
     have W5:=IntWalk.i64_in (hm+f) (by omega)
     clear hm56
     cases hx:(x==8*(t:Int)+4) <;> cases hl:decide (k<hm+f) <;> cases he:((side:Int)==0)
     all_goals
      rw [hx,hl,he] at HV
      go_enter Tryz.func188,Tryz.ntmps188
      go_wp2_with (first | rw [HX.out] | (go_at_call 146;refine (HCH.out _).mono ?_;rintro e w2 ⟨rfl,rfl⟩))
      refine wp_region_held_drew (S:=(fun W=>(W.cell? ⟨w.heap.size,78,none⟩=some (.int .u8 t)∧W.cell? ⟨w.heap.size,1+Int.toNat (hm+f),none⟩=some (.int .u8 x))∧Below X.heap.size X W)) (by kernel_rfl) ?_ (fun hHeld=>?_)
      · (try dsimp only);(refine ⟨⟨c78,cb⟩,?_⟩;repeat (first | exact bR | assumption | refine bD ?_))
      (refine tl 0 (oi:=oCk0) (v:=?_) ?_ ?_;rotate_left;(focus (intro w hSw;(try dsimp only at hSw);go_simp;try (with_reducible rfl)));try simp only [Act.put,lA,lB,lC])
      (refine tl 1 (oi:=oCk1) (v:=?_) ?_ ?_;rotate_left;(focus (intro w hSw;(try dsimp only at hSw);go_simp;try (with_reducible rfl)));try simp only [Act.put,lA,lB,lC])
      (refine tl 2 (oi:=oCk2) (v:=?_) ?_ ?_;rotate_left;(focus (intro w hSw;(try dsimp only at hSw);go_simp;try (with_reducible rfl)));try simp only [Act.put,lA,lB,lC])
      (refine tl 3 (oi:=oCk3) (v:=?_) ?_ ?_;rotate_left;(focus (intro w hSw;(try dsimp only at hSw);go_simp;try (with_reducible rfl)));try simp only [Act.put,lA,lB,lC])
      (refine tl 4 (oi:=oCk4) (v:=?_) ?_ ?_;rotate_left;(focus (intro w hSw;(try dsimp only at hSw);go_simp;try (with_reducible rfl)));try simp only [Act.put,lA,lB,lC])
      (refine tl 5 (oi:=oCk5) (v:=?_) ?_ ?_;rotate_left;(focus (intro w hSw;(try dsimp only at hSw);go_simp;try (with_reducible rfl)));try simp only [Act.put,lA,lB,lC])
      (refine tl 6 (oi:=oCk6) (v:=?_) ?_ ?_;rotate_left;(focus (intro w hSw;(try dsimp only at hSw);go_simp;try (with_reducible rfl)));try simp only [Act.put,lA,lB,lC])
      (refine tl 7 (oi:=oCk7) (v:=?_) ?_ ?_;rotate_left;(focus (intro w hSw;(try dsimp only at hSw);go_simp;try (with_reducible rfl)));try simp only [Act.put,lA,lB,lC])
      (refine tl 8 (oi:=oCk8) (v:=?_) ?_ ?_;rotate_left;(focus (intro w hSw;(try dsimp only at hSw);go_simp;try (with_reducible rfl)));try simp only [Act.put,lA,lB,lC])
      (refine tl 9 (oi:=oCk9) (v:=?_) ?_ ?_;rotate_left;(focus (intro w hSw;(try dsimp only at hSw);go_simp;try (with_reducible rfl)));try simp only [Act.put,lA,lB,lC])
      (refine tl 10 (oi:=oCk10) (v:=?_) ?_ ?_;rotate_left;(focus (intro w hSw;(try dsimp only at hSw);go_simp;try (with_reducible rfl)));try simp only [Act.put,lA,lB,lC])
      first | (refine tl 11 (oi:=oCk11) (v:=?_) ?_ ?_;rotate_left;(focus (intro w hSw;(try dsimp only at hSw);go_simp;try (with_reducible rfl)));try simp only [Act.put,lA,lB,lC]) | (refine tr 11 (oi:=oCk11) ?_;try simp only [Act.put,lA,lB,lC])
      first | (refine tl 12 (oi:=oCk12) (v:=?_) ?_ ?_;rotate_left;(focus (intro w hSw;(try dsimp only at hSw);go_simp;try (with_reducible rfl)));try simp only [Act.put,lA,lB,lC]) | (refine tr 12 (oi:=oCk12) ?_;try simp only [Act.put,lA,lB,lC])
      first | (refine tl 13 (oi:=oCk13) (v:=?_) ?_ ?_;rotate_left;(focus (intro w hSw;(try dsimp only at hSw);go_simp;try (with_reducible rfl)));try simp only [Act.put,lA,lB,lC]) | (refine tr 13 (oi:=oCk13) ?_;try simp only [Act.put,lA,lB,lC])
      first | (refine tl 14 (oi:=oCk14) (v:=?_) ?_ ?_;rotate_left;(focus (intro w hSw;(try dsimp only at hSw);go_simp;try (with_reducible rfl)));try simp only [Act.put,lA,lB,lC]) | (refine tr 14 (oi:=oCk14) ?_;try simp only [Act.put,lA,lB,lC])
      first | (refine tl 15 (oi:=oCk15) (v:=?_) ?_ ?_;rotate_left;(focus (intro w hSw;(try dsimp only at hSw);go_simp;try (with_reducible rfl)));try simp only [Act.put,lA,lB,lC]) | (refine tr 15 (oi:=oCk15) ?_;try simp only [Act.put,lA,lB,lC])
      first | (refine tl 16 (oi:=oCk16) (v:=?_) ?_ ?_;rotate_left;(focus (intro w hSw;(try dsimp only at hSw);go_simp;try (with_reducible rfl)));try simp only [Act.put,lA,lB,lC]) | (refine tr 16 (oi:=oCk16) ?_;try simp only [Act.put,lA,lB,lC])
      (refine tl 17 (oi:=oCk17) (v:=?_) ?_ ?_;rotate_left;(focus (intro w hSw;(try dsimp only at hSw);go_simp;try (with_reducible rfl)));try simp only [Act.put,lA,lB,lC])
      (refine tl 18 (oi:=oCk18) (v:=?_) ?_ ?_;rotate_left;(focus (intro w hSw;(try dsimp only at hSw);go_simp;try (with_reducible rfl)));try simp only [Act.put,lA,lB,lC])
      first | (refine tl 19 (oi:=oCk19) (v:=?_) ?_ ?_;rotate_left;(focus (intro w hSw;(try dsimp only at hSw);go_simp;try (with_reducible rfl)));try simp only [Act.put,lA,lB,lC]) | (refine tr 19 (oi:=oCk19) ?_;try simp only [Act.put,lA,lB,lC])
      first | (refine tl 20 (oi:=oCk20) (v:=?_) ?_ ?_;rotate_left;(focus (intro w hSw;(try dsimp only at hSw);go_simp;try (with_reducible rfl)));try simp only [Act.put,lA,lB,lC]) | (refine tr 20 (oi:=oCk20) ?_;try simp only [Act.put,lA,lB,lC])
      first | (refine tl 21 (oi:=oCk21) (v:=?_) ?_ ?_;rotate_left;(focus (intro w hSw;(try dsimp only at hSw);go_simp;try (with_reducible rfl)));try simp only [Act.put,lA,lB,lC]) | (refine tr 21 (oi:=oCk21) ?_;try simp only [Act.put,lA,lB,lC])
      (refine tl 22 (oi:=oCk22) (v:=?_) ?_ ?_;rotate_left;(focus (intro w hSw;(try dsimp only at hSw);go_simp;try (with_reducible rfl)));try simp only [Act.put,lA,lB,lC])
      (refine tl 23 (oi:=oCk23) (v:=?_) ?_ ?_;rotate_left;(focus (intro w hSw;(try dsimp only at hSw);go_simp;try (with_reducible rfl)));try simp only [Act.put,lA,lB,lC])
      (refine tl 24 (oi:=oCk24) (v:=?_) ?_ ?_;rotate_left;(focus (intro w hSw;(try dsimp only at hSw);go_simp;try (with_reducible rfl)));try simp only [Act.put,lA,lB,lC])
      refine wpAnyH_done (by kernel_rfl) ?_ _
      go_wp2
      go_ret2
      exact ⟨ret_val (HV.out.trans rfl).symm,bD hb⟩
   · have d0 : decide (f < 0) = false := decide_eq_false (by omega)
     have d7:decide (7<f)=true:=decide_eq_true (by omega)
     have HV:=hI (HNO.out (fun h=>h7 h.2))
     go_enter Tryz.func188,Tryz.ntmps188
     go_wp2_with (first | rw [HX.out])
     go_ret2
     exact ⟨ret_val HV.out.symm,hb⟩
 · have d0 : decide (f < 0) = true := decide_eq_true (by omega)
   have HV:=hI (HNO.out (fun h=>h0 h.1))
   go_enter Tryz.func188,Tryz.ntmps188
   go_wp2_with (first | rw [HX.out])
   go_ret2
   exact ⟨ret_val HV.out.symm,hb⟩
theorem empty_clo (b:BitVec 64) (s:Int) (s0:0≤s) (s1:s<64) (g:Nat) (w:World) (h:w.heap[g]?=some (.cells #[.int .u64 (u b)] 23 (0,0))) :
 Calls Tryz.prog 189 #[.int .i64 s,.pointer (some ⟨g,0,none⟩)] w fun e w' => e = .returned (.bool (!hasB b s))∧Below w.heap.size w w' := by
 have hc:w.cell? ⟨g,0,none⟩=some (.int .u64 (u b)):=by rw [cell_of_row w _ 0 _ _ _ h];rfl
 have hz:=bit_zero b s0 s1
 go_enter Tryz.func189,Tryz.ntmps189
 go_wp2
 go_ret
 exact ⟨rB (by first | exact hz | rfl),bR⟩
abbrev oCs0:Oper:={ dst:=some 6,op:=Op.fieldAddr 31 (Operand.tmp 1) 0,type:=0,pos := "castle.go:65",after:=#[],guard:=none }
abbrev oCs1:Oper:={ dst:=some 7,op:=Op.load 5 (Operand.tmp 6),type:=5,pos := "castle.go:65",after:=#[{ on:=0,ground:=Ground.data }],guard:=none }
abbrev oCs2:Oper:={ dst:=some 8,op:=Op.binOp BinOp.eql 5 (Operand.tmp 7) (Operand.const (Value.int IntKind.u8 3)) 5,type:=4,pos := "castle.go:65",after:=#[{ on:=1,ground:=Ground.data }],guard:=none }
abbrev oCs3:Oper:={ dst:=some 9,op:=Op.move (Operand.tmp 8),type:=4,pos := "castle.go:65",after:=#[{ on:=2,ground:=Ground.data }],guard:=none }
abbrev oCs4:Oper:={ dst:=some 10,op:=Op.move (Operand.tmp 0),type:=3,pos := "castle.go:65",after:=#[{ on:=3,ground:=Ground.guard }],guard:=some (3,true) }
abbrev oCs5:Oper:={ dst:=some 11,op:=Op.call { callee:=Callee.value (Operand.func 124),args:=#[Operand.tmp 10],argTypes:=#[3] },type:=23,pos := "castle.go:65",after:=#[{ on:=4,ground:=Ground.data },{ on:=3,ground:=Ground.chain },{ on:=3,ground:=Ground.guard }],guard:=some (3,true) }
abbrev oCs6:Oper:={ dst:=some 12,op:=Op.load 23 (Operand.tmp 2),type:=23,pos := "castle.go:65",after:=#[{ on:=3,ground:=Ground.guard }],guard:=some (3,true) }
abbrev oCs7:Oper:={ dst:=some 13,op:=Op.binOp BinOp.and 23 (Operand.tmp 11) (Operand.tmp 12) 23,type:=23,pos := "castle.go:65",after:=#[{ on:=5,ground:=Ground.data },{ on:=6,ground:=Ground.data },{ on:=3,ground:=Ground.guard }],guard:=some (3,true) }
abbrev oCs8:Oper:={ dst:=some 14,op:=Op.binOp BinOp.neq 23 (Operand.tmp 13) (Operand.const (Value.int IntKind.u64 0)) 23,type:=4,pos := "castle.go:65",after:=#[{ on:=7,ground:=Ground.data },{ on:=3,ground:=Ground.guard }],guard:=some (3,true) }
abbrev oCs9:Oper:={ dst:=some 15,op:=Op.pick (Operand.tmp 9) (Operand.tmp 14) (Operand.const (Value.bool false)),type:=4,pos := "castle.go:65",after:=#[{ on:=3,ground:=Ground.data },{ on:=8,ground:=Ground.data }],guard:=none }
abbrev oCs10:Oper:={ dst:=some 16,op:=Op.move (Operand.tmp 15),type:=4,pos := "castle.go:65",after:=#[{ on:=9,ground:=Ground.data },{ on:=5,ground:=Ground.chain }],guard:=none }
abbrev oCs11:Oper:={ dst:=some 17,op:=Op.load 31 (Operand.tmp 3),type:=31,pos := "castle.go:65",after:=#[{ on:=10,ground:=Ground.guard }],guard:=some (10,false) }
abbrev oCs12:Oper:={ dst:=some 18,op:=Op.move (Operand.tmp 0),type:=3,pos := "castle.go:65",after:=#[{ on:=10,ground:=Ground.guard }],guard:=some (10,false) }
abbrev oCs13:Oper:={ dst:=some 19,op:=Op.fieldAddr 31 (Operand.tmp 1) 4,type:=0,pos := "castle.go:65",after:=#[{ on:=10,ground:=Ground.guard }],guard:=some (10,false) }
abbrev oCs14:Oper:={ dst:=some 20,op:=Op.load 5 (Operand.tmp 19),type:=5,pos := "castle.go:65",after:=#[{ on:=13,ground:=Ground.data },{ on:=10,ground:=Ground.guard }],guard:=some (10,false) }
abbrev oCs15:Oper:={ dst:=some 21,op:=Op.binOp BinOp.sub 5 (Operand.const (Value.int IntKind.u8 1)) (Operand.tmp 20) 5,type:=5,pos := "castle.go:65",after:=#[{ on:=14,ground:=Ground.data },{ on:=10,ground:=Ground.guard }],guard:=some (10,false) }
abbrev oCs16:Oper:={ dst:=some 22,op:=Op.call { callee:=Callee.value (Operand.func 52),args:=#[Operand.tmp 17,Operand.tmp 18,Operand.tmp 21],argTypes:=#[31,3,5] },type:=4,pos := "castle.go:65",after:=#[{ on:=11,ground:=Ground.data },{ on:=12,ground:=Ground.data },{ on:=15,ground:=Ground.data },{ on:=10,ground:=Ground.chain },{ on:=10,ground:=Ground.guard }],guard:=some (10,false) }
abbrev oCs17:Oper:={ dst:=some 23,op:=Op.unOp UnOp.not 4 (Operand.tmp 22),type:=4,pos := "castle.go:65",after:=#[{ on:=16,ground:=Ground.data },{ on:=10,ground:=Ground.guard }],guard:=some (10,false) }
abbrev oCs18:Oper:={ dst:=some 24,op:=Op.pick (Operand.tmp 16) (Operand.const (Value.bool true)) (Operand.tmp 23),type:=4,pos := "castle.go:65",after:=#[{ on:=10,ground:=Ground.data },{ on:=17,ground:=Ground.data }],guard:=none }
abbrev oCs19:Oper:={ dst:=some 5,op:=Op.assign (Operand.tmp 24),type:=4,pos := "castle.go:65",after:=#[{ on:=18,ground:=Ground.data },{ on:=16,ground:=Ground.chain },{ on:=0,ground:=Ground.phase },{ on:=1,ground:=Ground.phase },{ on:=2,ground:=Ground.phase },{ on:=3,ground:=Ground.phase },{ on:=4,ground:=Ground.phase },{ on:=5,ground:=Ground.phase },{ on:=6,ground:=Ground.phase },{ on:=7,ground:=Ground.phase },{ on:=8,ground:=Ground.phase },{ on:=9,ground:=Ground.phase },{ on:=10,ground:=Ground.phase },{ on:=11,ground:=Ground.phase },{ on:=12,ground:=Ground.phase },{ on:=13,ground:=Ground.phase },{ on:=14,ground:=Ground.phase },{ on:=15,ground:=Ground.phase },{ on:=16,ground:=Ground.phase },{ on:=17,ground:=Ground.phase },{ on:=18,ground:=Ground.phase }],guard:=none }
theorem safe_clo (n q:Nat→Int) (hn:PosOk n) (hq:PosOk q) (t:Int) (ht:n 78=t) (h01:t=0∨t=1) (s:Int) (s0:0≤s) (s1:s<64) (Bp Bo Bq:Nat) (w:World) (hp:PosAt w Bp n) (ho:w.heap[Bo]?=some (.cells #[.int .u64 (u (ofN n (1 - t) 6))] 23 (0,0))) (hqq:PosAt w Bq q) (hT:Tab w) :
 Calls Tryz.prog 190 #[.int .i64 s,.pointer (some ⟨Bp,0,none⟩),.pointer (some ⟨Bo,0,none⟩),.pointer (some ⟨Bq,0,none⟩)] w fun e w' => e = .returned (.bool (safeB n q s))∧Below w.heap.size w w' := by
 have HD:=hI (show safeB n q s=(((n 0==3)&&!((kingB s&&&ofN n (1 - t) 6)==0#64)) || (byN q s (1 - t)==0#64)) by unfold safeB;rw [ht])
 have HGB:=hI (fun (W:World) (h:Below w.heap.size w W)=>(show ((IsPos W Bq∧rowOf W Bq=posA q)∧W.cell? ⟨Bp,0,none⟩=some (.int .u8 (n 0))∧W.cell? ⟨Bp,78,none⟩=some (.int .u8 t)∧W.cell? ⟨Bo,0,none⟩=some (.int .u64 (u (ofN n (1 - t) 6))))∧Below w.heap.size w W from
  ⟨⟨(hqq.below h hqq.lt).rules,(hp.below h hp.lt).board 0 (by decide),by rw [← ht];exact (hp.below h hp.lt).cell 78 (by decide),by rw [cell_of_row W _ 0 _ _ _ ((h.block _ (Array.getElem?_eq_some_iff.1 ho).1).trans ho)];rfl⟩,h⟩))
 have HT:=hI hT
 have W1:IntKind.u8.wrap (1 - t)=1 - t:=IntWalk.u8_in _ (by omega)
 clear hp ho hqq hT ht
 obtain ⟨z,hz⟩:∃ z,(kingB s&&&ofN n (1 - t) 6==0#64)=z:=⟨_,rfl⟩
 have hz2:(u (kingB s&&&ofN n (1 - t) 6) != 0)=!z:=by rw [nz_u,hz]
 rw [hz] at HD
 clear hz
 cases hv:(n 0==3) <;> cases z
 all_goals
  rw [hv] at HD
  go_enter Tryz.func190,Tryz.ntmps190
  go_wp2
  refine wp_region_held_drew (S:=(fun W=>((IsPos W Bq∧rowOf W Bq=posA q)∧W.cell? ⟨Bp,0,none⟩=some (.int .u8 (n 0))∧W.cell? ⟨Bp,78,none⟩=some (.int .u8 t)∧W.cell? ⟨Bo,0,none⟩=some (.int .u64 (u (ofN n (1 - t) 6))))∧Below w.heap.size w W)) (by kernel_rfl) ?_ (fun hHeld=>?_)
  · (try dsimp only);(refine HGB.out _ ?_;repeat (first | exact bR | assumption | refine bD ?_ | refine bT ?_ (by assumption)))
  (refine tl 0 (oi:=oCs0) (v:=?_) ?_ ?_;rotate_left;(focus (intro w hSw;(try dsimp only at hSw);go_simp;try (with_reducible rfl)));try simp only [Act.put,lA,lB,lC])
  (refine tl 1 (oi:=oCs1) (v:=?_) ?_ ?_;rotate_left;(focus (intro w hSw;(try dsimp only at hSw);go_simp;try (with_reducible rfl)));try simp only [Act.put,lA,lB,lC])
  (refine tl 2 (oi:=oCs2) (v:=?_) ?_ ?_;rotate_left;(focus (intro w hSw;(try dsimp only at hSw);go_simp;try (with_reducible rfl)));try simp only [Act.put,lA,lB,lC])
  (refine tl 3 (oi:=oCs3) (v:=?_) ?_ ?_;rotate_left;(focus (intro w hSw;(try dsimp only at hSw);go_simp;try (with_reducible rfl)));try simp only [Act.put,lA,lB,lC])
  first | (refine tl 4 (oi:=oCs4) (v:=?_) ?_ ?_;rotate_left;(focus (intro w hSw;(try dsimp only at hSw);go_simp;try (with_reducible rfl)));try simp only [Act.put,lA,lB,lC]) | (refine tr 4 (oi:=oCs4) ?_;try simp only [Act.put,lA,lB,lC])
  first | (refine tl 6 (oi:=oCs6) (v:=?_) ?_ ?_;rotate_left;(focus (intro w hSw;(try dsimp only at hSw);go_simp;try (with_reducible rfl)));try simp only [Act.put,lA,lB,lC]) | (refine tr 6 (oi:=oCs6) ?_;try simp only [Act.put,lA,lB,lC])
  first
  | (refine tr 5 (oi:=oCs5) ?_;try simp only [Act.put,lA,lB,lC])
  | refine wpAnyH_ready (rs := [5]) (by kernel_rfl) (by simp) ?_
    refine AllReadyH.cons (o:=oCs5) rfl (fun K hK=>?_) AllReadyH.nil
    go_simp
    refine (king_any s _).mono ?_
    rintro e wa ⟨rfl,hba⟩
    refine hK.out _ _ ?_ (fun hHeld=>?_)
    · (try dsimp only);(refine HGB.out _ ?_;repeat (first | exact bR | assumption | refine bD ?_ | refine bT ?_ (by assumption)))
    clear hK K
    try simp only [Act.put,lA,lB,lC]
  first | (refine tl 7 (oi:=oCs7) (v:=?_) ?_ ?_;rotate_left;(focus (intro w hSw;(try dsimp only at hSw);go_simp;try (with_reducible rfl)));try simp only [Act.put,lA,lB,lC]) | (refine tr 7 (oi:=oCs7) ?_;try simp only [Act.put,lA,lB,lC])
  first | (refine tl 8 (oi:=oCs8) (v:=?_) ?_ ?_;rotate_left;(focus (intro w hSw;(try dsimp only at hSw);go_simp;try (with_reducible rfl)));try simp only [Act.put,lA,lB,lC]) | (refine tr 8 (oi:=oCs8) ?_;try simp only [Act.put,lA,lB,lC])
  (refine tl 9 (oi:=oCs9) (v:=?_) ?_ ?_;rotate_left;(focus (intro w hSw;(try dsimp only at hSw);go_simp;try (with_reducible rfl)));try simp only [Act.put,lA,lB,lC])
  (refine tl 10 (oi:=oCs10) (v:=?_) ?_ ?_;rotate_left;(focus (intro w hSw;(try dsimp only at hSw);go_simp;try (with_reducible rfl)));try simp only [Act.put,lA,lB,lC])
  first | (refine tl 11 (oi:=oCs11) (v:=?_) ?_ ?_;rotate_left;(focus (intro w hSw;(try dsimp only at hSw);go_simp;try (with_reducible rfl)));try simp only [Act.put,lA,lB,lC]) | (refine tr 11 (oi:=oCs11) ?_;try simp only [Act.put,lA,lB,lC])
  first | (refine tl 12 (oi:=oCs12) (v:=?_) ?_ ?_;rotate_left;(focus (intro w hSw;(try dsimp only at hSw);go_simp;try (with_reducible rfl)));try simp only [Act.put,lA,lB,lC]) | (refine tr 12 (oi:=oCs12) ?_;try simp only [Act.put,lA,lB,lC])
  first | (refine tl 13 (oi:=oCs13) (v:=?_) ?_ ?_;rotate_left;(focus (intro w hSw;(try dsimp only at hSw);go_simp;try (with_reducible rfl)));try simp only [Act.put,lA,lB,lC]) | (refine tr 13 (oi:=oCs13) ?_;try simp only [Act.put,lA,lB,lC])
  first | (refine tl 14 (oi:=oCs14) (v:=?_) ?_ ?_;rotate_left;(focus (intro w hSw;(try dsimp only at hSw);go_simp;try (with_reducible rfl)));try simp only [Act.put,lA,lB,lC]) | (refine tr 14 (oi:=oCs14) ?_;try simp only [Act.put,lA,lB,lC])
  first | (refine tl 15 (oi:=oCs15) (v:=?_) ?_ ?_;rotate_left;(focus (intro w hSw;(try dsimp only at hSw);go_simp;try (with_reducible rfl)));try simp only [Act.put,lA,lB,lC]) | (refine tr 15 (oi:=oCs15) ?_;try simp only [Act.put,lA,lB,lC])
  first
  | (refine tr 16 (oi:=oCs16) ?_;try simp only [Act.put,lA,lB,lC])
  | refine wpAnyH_ready (rs := [16]) (by kernel_rfl) (by simp) ?_
    refine AllReadyH.cons (o:=oCs16) rfl (fun K hK=>?_) AllReadyH.nil
    go_simp
    refine (on_any q hq s (1 - t) s0 s1 (by omega) (by omega) _ (HT.out.below (And.right ‹((IsPos _ _∧_)∧_)∧_›) lR)).mono ?_
    rintro e wb ⟨rfl,hbb⟩
    refine hK.out _ _ ?_ (fun hHeld=>?_)
    · (try dsimp only);(refine HGB.out _ ?_;repeat (first | exact bR | assumption | refine bD ?_ | refine bT ?_ (by assumption)))
    clear hK K
    try simp only [Act.put,lA,lB,lC]
  first | (refine tl 17 (oi:=oCs17) (v:=?_) ?_ ?_;rotate_left;(focus (intro w hSw;(try dsimp only at hSw);go_simp;try (with_reducible rfl)));try simp only [Act.put,lA,lB,lC]) | (refine tr 17 (oi:=oCs17) ?_;try simp only [Act.put,lA,lB,lC])
  (refine tl 18 (oi:=oCs18) (v:=?_) ?_ ?_;rotate_left;(focus (intro w hSw;(try dsimp only at hSw);go_simp;try (with_reducible rfl)));try simp only [Act.put,lA,lB,lC])
  (refine tl 19 (oi:=oCs19) (v:=?_) ?_ ?_;rotate_left;(focus (intro w hSw;(try dsimp only at hSw);go_simp;try (with_reducible rfl)));try simp only [Act.put,lA,lB,lC])
  refine wpAnyH_done (by kernel_rfl) ?_ _
  go_wp2
  go_ret
  exact ⟨rB (by rw [HD.out];try simp),by first | exact bT (bT (bD bR) hba) hbb | exact bT (bD bR) hbb | exact bT (bD bR) hba⟩
end Go.Proofs.YteocjaihaegmoaaGreatDoor
namespace Go.Proofs.YteocjaihaegmoaaGreatDoor
open Go Go.RowKit Go.Shelf
theorem mov_result2 {fn:Func} {p u:Tmp} (h:fn.results=#[.cell p 49,.tmp u]) (tmps:Array Value) (w:World) (g:Nat) (m:Mv) (v:Value)
 (hp:tmps.getD p undef=.pointer (some ⟨g,0,none⟩)) (hv:tmps.getD u undef=v) (hg:w.heap[g]?=some (.cells m.cells.toArray 49 (0,0))):(results fn tmps).run Tryz.prog w=.ok (.tuple #[.agg m.cells.toArray,v]) w:=by
 have hl:=run_loadVar_row w g _ _ m.cells.toArray _ _ hg Tryz.underlying49 rfl (by
  have:=(info_parts infoM)
  obtain ⟨i0,hi,hz0,hz1,hz2⟩:=this
  rw [hi];simp [hz1,Mv.cells])
 rw [results_cell_tmp h,hp,hv]
 simp [asAddr,hl,Result.andThen]
def mvStore (p v:Value):Sem Unit:=Instr.storeAt 49 p v
theorem storeAt_mv (p v:Value):Instr.storeAt 49 p v=mvStore p v:=rfl
theorem sizeMv:(Tryz.prog.info? 49).map (·.size)=some 5:=by kernel_rfl
theorem run_storeMv {w:World} {g:Nat} {old:Array Value} (m:Mv) (h:w.heap[g]?=some (.cells old 49 (0,0))) (hs:old.size=5) :
 (mvStore (.pointer (some ⟨g,0,none⟩)) (.agg #[.int .i8 m.f,.int .i8 m.t,.int .u8 m.p,.int .u8 m.d,.bool m.c])).run Tryz.prog w=.ok () (w.setRow g m.cells.toArray):=by
 unfold mvStore
 simp only [Instr.storeAt,Instr.sureAddr,Sem.run_bind,Sem.run_pure,Result.andThen_ok]
 exact run_storeVar_row w g _ _ old m.cells.toArray h sizeMv (by rw [hs];rfl) (by simp [Mv.cells,Value.oneCell'])
attribute [local go_sem ↓] storeAt_mv
theorem mv_setRow {w:World} {g:Nat} {old:Array Value} (h:w.heap[g]?=some (.cells old 49 (0,0))) (m:Mv):(w.setRow g m.cells.toArray).heap[g]?=some (.cells m.cells.toArray 49 (0,0)):=by
 unfold World.setRow
 simp only [Array.getElem?_modify,if_pos,h]
 rfl
theorem cgoals_any (w:World):Calls Tryz.prog 152 #[] w fun e w' => e = .returned (.agg #[.int .i64 6,.int .i64 5,.int .i64 2,.int .i64 3])∧Below w.heap.size w w' := by
 go_enter Tryz.func152,Tryz.ntmps152
 go_wp2
 refine bodyPost_ret (results_cell_row Tryz.results152 _ _ w.heap.size _ _ _ _ rfl (World.alloc_heap_new w _) Tryz.underlying163 rfl (by kernel_rfl)) rfl ⟨rfl,bR.alloc lR _⟩
theorem kSq_bd {n:Nat→Int} (h:kingOk n=true):0≤kSq n∧kSq n<64:=by
 unfold kingOk at h
 rw [Bool.and_eq_true,decide_eq_true_iff] at h
 rcases king_sq n (n 78) with h2 | h2
 · exact absurd h.1 (by unfold kSq;omega)
 · exact h2
theorem rook_bd {n:Nat→Int} {side:Nat} (h01:n 78=0∨n 78=1) (h:rookOk n side=true):(0≤rFile n side∧rFile n side≤7)∧0≤rSq n side∧rSq n side<64:=by
 unfold rookOk at h
 simp only [Bool.and_eq_true,decide_eq_true_iff] at h
 obtain ⟨⟨⟨⟨h1,h2⟩,_⟩,_⟩,_⟩:=h
 refine ⟨⟨h1,h2⟩,?_⟩
 unfold rSq homeC
 omega
theorem off_ok {n:Nat→Int} (hn:PosOk n) {k r:Int} (k0:0≤k) (k1:k<64) (r0:0≤r) (r1:r<64):PosOk (offN n k r):=by
 intro i hi
 unfold offN upd
 split
 · rename_i h;rw [h,kB (by omega)];rfl
 · split
   · rename_i h;rw [h,kB (by omega)];rfl
   · exact hn i hi
theorem mayV_no (n:Nat→Int) (side:Nat) (h:rookOk n side=false):rookV n side=.tuple #[.int .i64 (if 0≤rFile n side∧rFile n side≤7 then rSq n side else 0),.bool false]:=by unfold rookV;rw [h]
theorem mayV_yes (n:Nat→Int) (side:Nat) (h01:n 78=0∨n 78=1) (h:rookOk n side=true):rookV n side=.tuple #[.int .i64 (rSq n side),.bool true]:=by unfold rookV;rw [h,if_pos (rook_bd h01 h).1]
def castV (n:Nat→Int) (side:Nat):Value:=.tuple #[.agg (if rookOk n side=true then castM n side else ⟨0,0,0,0,false⟩:Mv).cells.toArray,.bool (rookOk n side&&wayOk n side)]
abbrev oCm0:Oper:={ dst:=some 31,op:=Op.fieldAddr 31 (Operand.tmp 3) 4,type:=0,pos := "castle.go:58",after:=#[],guard:=none }
abbrev oCm1:Oper:={ dst:=some 32,op:=Op.load 5 (Operand.tmp 31),type:=5,pos := "castle.go:58",after:=#[{ on:=0,ground:=Ground.data }],guard:=none }
abbrev oCm2:Oper:={ dst:=some 33,op:=Op.call { callee:=Callee.value (Operand.func 146),args:=#[Operand.tmp 32],argTypes:=#[5] },type:=3,pos := "castle.go:58",after:=#[{ on:=1,ground:=Ground.data }],guard:=none }
abbrev oCm3:Oper:={ dst:=some 34,op:=Op.indexAddr 93 (Operand.tmp 10) (Operand.const (Value.int IntKind.i64 0)),type:=0,pos := "castle.go:58",after:=#[],guard:=none }
abbrev oCm4:Oper:={ dst:=some 35,op:=Op.load 3 (Operand.tmp 34),type:=3,pos := "castle.go:58",after:=#[{ on:=3,ground:=Ground.data }],guard:=none }
abbrev oCm5:Oper:={ dst:=some 36,op:=Op.binOp BinOp.add 3 (Operand.tmp 33) (Operand.tmp 35) 3,type:=3,pos := "castle.go:58",after:=#[{ on:=2,ground:=Ground.data },{ on:=4,ground:=Ground.data }],guard:=none }
abbrev oCm6:Oper:={ dst:=some 37,op:=Op.fieldAddr 31 (Operand.tmp 3) 4,type:=0,pos := "castle.go:58",after:=#[],guard:=none }
abbrev oCm7:Oper:={ dst:=some 38,op:=Op.load 5 (Operand.tmp 37),type:=5,pos := "castle.go:58",after:=#[{ on:=6,ground:=Ground.data }],guard:=none }
abbrev oCm8:Oper:={ dst:=some 39,op:=Op.call { callee:=Callee.value (Operand.func 146),args:=#[Operand.tmp 38],argTypes:=#[5] },type:=3,pos := "castle.go:58",after:=#[{ on:=7,ground:=Ground.data },{ on:=2,ground:=Ground.chain }],guard:=none }
abbrev oCm9:Oper:={ dst:=some 40,op:=Op.indexAddr 93 (Operand.tmp 10) (Operand.const (Value.int IntKind.i64 1)),type:=0,pos := "castle.go:58",after:=#[{ on:=12,ground:=Ground.gcOnly Departure.lateStores }],guard:=none }
abbrev oCm10:Oper:={ dst:=some 41,op:=Op.load 3 (Operand.tmp 40),type:=3,pos := "castle.go:58",after:=#[{ on:=9,ground:=Ground.data },{ on:=12,ground:=Ground.gcOnly Departure.lateStores }],guard:=none }
abbrev oCm11:Oper:={ dst:=some 42,op:=Op.binOp BinOp.add 3 (Operand.tmp 39) (Operand.tmp 41) 3,type:=3,pos := "castle.go:58",after:=#[{ on:=8,ground:=Ground.data },{ on:=10,ground:=Ground.data },{ on:=12,ground:=Ground.gcOnly Departure.lateStores }],guard:=none }
abbrev oCm12:Oper:={ dst:=some 11,op:=Op.assign (Operand.tmp 36),type:=3,pos := "castle.go:58",after:=#[{ on:=5,ground:=Ground.data },{ on:=8,ground:=Ground.chain },{ on:=0,ground:=Ground.phase },{ on:=1,ground:=Ground.phase },{ on:=2,ground:=Ground.phase },{ on:=3,ground:=Ground.phase },{ on:=4,ground:=Ground.phase },{ on:=5,ground:=Ground.phase },{ on:=6,ground:=Ground.textOnly Departure.lateStores },{ on:=7,ground:=Ground.textOnly Departure.lateStores },{ on:=8,ground:=Ground.textOnly Departure.lateStoresUnsure },{ on:=9,ground:=Ground.textOnly Departure.lateStores },{ on:=10,ground:=Ground.textOnly Departure.lateStores },{ on:=11,ground:=Ground.textOnly Departure.lateStores }],guard:=none }
abbrev oCm13:Oper:={ dst:=some 12,op:=Op.assign (Operand.tmp 42),type:=3,pos := "castle.go:58",after:=#[{ on:=11,ground:=Ground.data },{ on:=12,ground:=Ground.chain },{ on:=0,ground:=Ground.phase },{ on:=1,ground:=Ground.phase },{ on:=2,ground:=Ground.phase },{ on:=3,ground:=Ground.phase },{ on:=4,ground:=Ground.phase },{ on:=5,ground:=Ground.phase },{ on:=6,ground:=Ground.phase },{ on:=7,ground:=Ground.phase },{ on:=8,ground:=Ground.phase },{ on:=9,ground:=Ground.phase },{ on:=10,ground:=Ground.phase },{ on:=11,ground:=Ground.phase },{ on:=12,ground:=Ground.phase }],guard:=none }
theorem cmay_v (n:Nat→Int) (hn:PosOk n) (t:Int) (ht:n 78=t) (h01:t=0∨t=1) (hk:kingOk n=true) (side:Nat) (hs:side=0∨side=1) (w:World) (hT:Tab w):Calls Tryz.prog 147 #[.agg (posA n),.int .i64 (kSq n),.int .i64 (side:Int)] w fun e w' => e = .returned (castV n side)∧Below w.heap.size w w' := by
 obtain ⟨k0,k1⟩:=kSq_bd hk
 have hs0:(0:Int)≤side:=by omega
 have hs2:(side:Int)<2:=by omega
 have hg7:0≤kGoal side∧kGoal side≤7:=by rcases hs with rfl | rfl <;> decide
 have hr7:0≤rGoal side∧rGoal side≤7:=by rcases hs with rfl | rfl <;> decide
 have hix:∀ w,(Instr.index 163 (.agg #[.int .i64 6,.int .i64 5,.int .i64 2,.int .i64 3]) (.int .i64 side)).run Tryz.prog w=.ok (.agg #[.int .i64 (kGoal side),.int .i64 (rGoal side)]) w:=fun _=>by rcases hs with rfl | rfl <;> kernel_rfl
 have HWY:=hI (show wayOk n side=((fromTo (kSq n) (homeC t+kGoal side)).all (emptyB (offN n (kSq n) (rSq n side)))&&(fromTo (rSq n side) (homeC t+rGoal side)).all (emptyB (offN n (kSq n) (rSq n side)))&&(fromTo (kSq n) (homeC t+kGoal side)).all (safeB n (offN n (kSq n) (rSq n side)))) by unfold wayOk;rw [ht])
 generalize kGoal side=kg at *
 generalize rGoal side=rg at *
 obtain ⟨X,hX⟩:∃ X,(w.alloc (.cells (posA n) 31)).alloc (.cells #[.int .i8 0,.int .i8 0,.int .u8 0,.int .u8 0,.bool false] 49)=X:=⟨_,rfl⟩
 have p0:PosAt X w.heap.size n:=by rw [← hX];exact (PosAt.new w n).alloc _
 have m0:X.heap[w.heap.size+1]?=some (.cells #[.int .i8 0,.int .i8 0,.int .u8 0,.int .u8 0,.bool false] 49 (0,0)):=by
  rw [← hX]
  have:=World.alloc_heap_new (w.alloc (.cells (posA n) 31)) (.cells #[.int .i8 0,.int .i8 0,.int .u8 0,.int .u8 0,.bool false] 49)
  rwa [World.size_alloc] at this
 have hb:Below w.heap.size w X:=by rw [← hX];exact (bR.alloc lR _).alloc (by simp) _
 have hXs:X.heap.size=w.heap.size+2:=by rw [← hX];simp
 obtain ⟨i0,r0⟩:=p0.rules
 have HX:=hI hX
 have HP:=hI p0
 have HM:=hI m0
 have HXS:=hI hXs
 have HB:=hI hb
 have HRK:=hI (crook_any n hn t ht h01 side hs)
 have HT:=hI hT
 have HTT:=hI ht
 have HGO:=hI cgoals_any
 have hzp:=zeroPos
 clear hX p0 m0 hXs hb hT
 cases hr:rookOk n side with
 | false =>
   have HRV:=hI (mayV_no n side hr)
   rw [HRV.out] at HRK
   have HCV:=hI (show castV n side=.tuple #[.agg (⟨0,0,0,0,false⟩:Mv).cells.toArray,.bool false] by unfold castV;rw [hr];rfl)
   generalize (if 0≤rFile n side∧rFile n side≤7 then rSq n side else 0)=rr at *
   generalize kSq n=k at *
   go_enter Tryz.func147,Tryz.ntmps147
   go_wp2_with (first | rw [HX.out])
   refine (HRK.out _).mono ?_
   rintro e w1 ⟨rfl,h1⟩
   have m1:=(h1.block _ (Array.getElem?_eq_some_iff.1 HM.out).1).trans HM.out
   have st:=run_storeMv ⟨0,0,0,0,false⟩ m1 rfl
   have hbE:=below_setRow (hb:=Nat.le_succ w.heap.size) (HB.out.trans (h1.mono HB.out.size)) (⟨0,0,0,0,false⟩:Mv).cells.toArray
   have mE:=mv_setRow m1 ⟨0,0,0,0,false⟩
   clear h1 i0 r0
   go_wp2
   exact bodyPost_ret (v:=.tuple #[.agg (⟨0,0,0,0,false⟩:Mv).cells.toArray,.bool false]) (mov_result2 Tryz.results147 _ _ _ _ _ rfl rfl mE) rfl ⟨ret_val HCV.out.symm,hbE⟩
 | true =>
   have HRV:=hI (mayV_yes n side (by omega) hr)
   rw [HRV.out] at HRK
   obtain ⟨_,q0,q1⟩:=rook_bd (by omega) hr
   have HCV:=hI (show castV n side=.tuple #[.agg (castM n side).cells.toArray,.bool (wayOk n side)] by unfold castV;rw [hr];rfl)
   have HCM:=hI (show castM n side=⟨kSq n,rSq n side,0,0,true⟩ from rfl)
   have HOK:=hI (off_ok hn k0 k1 q0 q1)
   generalize rSq n side=r at *
   generalize kSq n=k at *
   have h00:0≤homeC t∧homeC t≤56:=by unfold homeC;omega
   obtain ⟨h00,h56⟩:=h00
   have W6:IntKind.i64.wrap (homeC t+kg)=homeC t+kg:=IntWalk.i64_in _ (by omega)
   have W5:IntKind.i64.wrap (homeC t+rg)=homeC t+rg:=IntWalk.i64_in _ (by omega)
   have HCH:=hI (chome_any t h01)
   have HOF:=hI (of_any n hn (1 - t) 6)
   generalize homeC t=hm at *
   go_enter Tryz.func147,Tryz.ntmps147
   go_wp2_with (first | rw [HX.out])
   refine (HRK.out _).mono ?_
   rintro e w1 ⟨rfl,h1⟩
   have p1:=HP.out.below h1 HP.out.lt
   have m1:=(h1.block _ (Array.getElem?_eq_some_iff.1 HM.out).1).trans HM.out
   have hb1:=HB.out.trans (h1.mono HB.out.size)
   have hz1:=h1.size
   clear h1 i0 r0
   go_wp2_with fail
   refine (HGO.out _).mono ?_
   rintro e w2 ⟨rfl,h1⟩
   obtain ⟨G,hG⟩:∃ G,w2.alloc (.cells #[.int .i64 kg,.int .i64 rg] 93)=G:=⟨_,rfl⟩
   have hbG:Below w2.heap.size w2 G:=by rw [← hG];exact bR.alloc lR _
   have h1G:=h1.trans (hbG.mono h1.size)
   have pG:=p1.below h1G p1.lt
   have mG:=(h1G.block _ (Array.getElem?_eq_some_iff.1 m1).1).trans m1
   have hbwG:=hb1.trans (h1G.mono hb1.size)
   have gG:G.heap[w2.heap.size]?=some (.cells #[.int .i64 kg,.int .i64 rg] 93 (0,0)):=by rw [← hG];exact World.alloc_heap_new w2 _
   have g0:G.cell? ⟨w2.heap.size,0,none⟩=some (.int .i64 kg):=by rw [cell_of_row G _ 0 _ _ _ gG];rfl
   have g1:G.cell? ⟨w2.heap.size,1,none⟩=some (.int .i64 rg):=by rw [cell_of_row G _ 1 _ _ _ gG];rfl
   have c78:G.cell? ⟨w.heap.size,78,none⟩=some (.int .u8 t):=by rw [← HTT.out];exact pG.cell 78 (by decide)
   have HG:=hI hG
   have HPG:=hI pG
   have HMG:=hI mG
   have HBG:=hI hbwG
   have hszG:X.heap.size≤w1.heap.size∧w1.heap.size≤G.heap.size:=⟨hz1,h1G.size⟩
   clear h1 hbG h1G p1 m1 hb1 pG mG hbwG gG hG hz1
   go_wp2_with (first | rw [HG.out])
   refine wp_region_held_drew (S:=(fun W=>(W.cell? ⟨w.heap.size,78,none⟩=some (.int .u8 t)∧W.cell? ⟨w2.heap.size,0,none⟩=some (.int .i64 kg)∧W.cell? ⟨w2.heap.size,1,none⟩=some (.int .i64 rg))∧Below G.heap.size G W)) (by kernel_rfl) ?_ (fun hHeld=>?_)
   · (try dsimp only);(refine ⟨⟨c78,g0,g1⟩,?_⟩;repeat (first | exact bR | assumption | refine bD ?_))
   (refine tl 0 (oi:=oCm0) (v:=?_) ?_ ?_;rotate_left;(focus (intro w hSw;(try dsimp only at hSw);go_simp;try (with_reducible rfl)));try simp only [Act.put,lA,lB,lC])
   (refine tl 1 (oi:=oCm1) (v:=?_) ?_ ?_;rotate_left;(focus (intro w hSw;(try dsimp only at hSw);go_simp;try (with_reducible rfl)));try simp only [Act.put,lA,lB,lC])
   (refine tl 3 (oi:=oCm3) (v:=?_) ?_ ?_;rotate_left;(focus (intro w hSw;(try dsimp only at hSw);go_simp;try (with_reducible rfl)));try simp only [Act.put,lA,lB,lC])
   (refine tl 4 (oi:=oCm4) (v:=?_) ?_ ?_;rotate_left;(focus (intro w hSw;(try dsimp only at hSw);go_simp;try (with_reducible rfl)));try simp only [Act.put,lA,lB,lC])
   (refine tl 6 (oi:=oCm6) (v:=?_) ?_ ?_;rotate_left;(focus (intro w hSw;(try dsimp only at hSw);go_simp;try (with_reducible rfl)));try simp only [Act.put,lA,lB,lC])
   (refine tl 7 (oi:=oCm7) (v:=?_) ?_ ?_;rotate_left;(focus (intro w hSw;(try dsimp only at hSw);go_simp;try (with_reducible rfl)));try simp only [Act.put,lA,lB,lC])
   (refine tl 9 (oi:=oCm9) (v:=?_) ?_ ?_;rotate_left;(focus (intro w hSw;(try dsimp only at hSw);go_simp;try (with_reducible rfl)));try simp only [Act.put,lA,lB,lC])
   (refine tl 10 (oi:=oCm10) (v:=?_) ?_ ?_;rotate_left;(focus (intro w hSw;(try dsimp only at hSw);go_simp;try (with_reducible rfl)));try simp only [Act.put,lA,lB,lC])
   refine wpAnyH_ready (rs:=[2]) (by kernel_rfl) (by simp) ?_
   refine AllReadyH.cons (o:=oCm2) rfl (fun K hK=>?_) AllReadyH.nil
   go_simp
   refine (HCH.out _).mono ?_
   rintro e wa ⟨rfl,rfl⟩
   refine hK.out _ _ ?_ (fun hHeld=>?_)
   · (try dsimp only);(refine ⟨⟨c78,g0,g1⟩,?_⟩;repeat (first | exact bR | assumption | refine bD ?_))
   clear hK K
   try simp only [Act.put,lA,lB,lC]
   (refine tl 5 (oi:=oCm5) (v:=?_) ?_ ?_;rotate_left;(focus (intro w hSw;(try dsimp only at hSw);go_simp;try (with_reducible rfl)));try simp only [Act.put,lA,lB,lC])
   refine wpAnyH_ready (rs:=[8]) (by kernel_rfl) (by simp) ?_
   refine AllReadyH.cons (o:=oCm8) rfl (fun K hK=>?_) AllReadyH.nil
   go_simp
   refine (HCH.out _).mono ?_
   rintro e wb ⟨rfl,rfl⟩
   refine hK.out _ _ ?_ (fun hHeld=>?_)
   · (try dsimp only);(refine ⟨⟨c78,g0,g1⟩,?_⟩;repeat (first | exact bR | assumption | refine bD ?_))
   clear hK K
   try simp only [Act.put,lA,lB,lC]
   (refine tl 11 (oi:=oCm11) (v:=?_) ?_ ?_;rotate_left;(focus (intro w hSw;(try dsimp only at hSw);go_simp;try (with_reducible rfl)));try simp only [Act.put,lA,lB,lC])
   (refine tl 12 (oi:=oCm12) (v:=?_) ?_ ?_;rotate_left;(focus (intro w hSw;(try dsimp only at hSw);go_simp;try (with_reducible rfl)));try simp only [Act.put,lA,lB,lC])
   (refine tl 13 (oi:=oCm13) (v:=?_) ?_ ?_;rotate_left;(focus (intro w hSw;(try dsimp only at hSw);go_simp;try (with_reducible rfl)));try simp only [Act.put,lA,lB,lC])
   refine wpAnyH_done (by kernel_rfl) ?_ _
   obtain ⟨G1,hG1⟩:∃ G1,G.drew=G1:=⟨_,rfl⟩
   have hbG1:Below G.heap.size G G1:=by rw [← hG1];exact bD bR
   have hs1:G.heap.size=G1.heap.size:=by rw [← hG1];rfl
   have p1:PosAt G1 w.heap.size n:=HPG.out.below hbG1 HPG.out.lt
   have m1:=(hbG1.block _ (Array.getElem?_eq_some_iff.1 HMG.out).1).trans HMG.out
   have hbw1:=HBG.out.trans (hbG1.mono HBG.out.size)
   obtain ⟨Q0,hQ0⟩:∃ Q0,G1.alloc (.cells (posA zeroN) 31)=Q0:=⟨_,rfl⟩
   obtain ⟨z0,hbQ0⟩:=box1 G1 zeroN Q0 hQ0
   obtain ⟨Q1,hQ1⟩:∃ Q1,Q0.setRow G1.heap.size (posA n)=Q1:=⟨_,rfl⟩
   have y1:PosAt Q1 G1.heap.size n:=by rw [← hQ1];exact z0.setRow n
   have hbQ1:Below G1.heap.size G1 Q1:=by rw [← hQ1];exact below_setRow hbQ0 lR _
   obtain ⟨Q2,hQ2⟩:∃ Q2,Q1.setCell ⟨G1.heap.size,1+k.toNat,none⟩ (.int .u8 0)=Q2:=⟨_,rfl⟩
   have y2:PosAt Q2 G1.heap.size (upd n (1+k.toNat) 0):=by rw [← hQ2];exact y1.setB _ (by omega) 0
   have hbQ2:Below G1.heap.size G1 Q2:=by rw [← hQ2];exact hbQ1.setCell (p:=⟨G1.heap.size,1+k.toNat,none⟩) lR _
   obtain ⟨Q3,hQ3⟩:∃ Q3,Q2.setCell ⟨G1.heap.size,1+r.toNat,none⟩ (.int .u8 0)=Q3:=⟨_,rfl⟩
   have y3:PosAt Q3 G1.heap.size (offN n k r):=by rw [← hQ3];exact y2.setB _ (by omega) 0
   have hbQ3:Below G1.heap.size G1 Q3:=by rw [← hQ3];exact hbQ2.setCell (p:=⟨G1.heap.size,1+r.toNat,none⟩) lR _
   obtain ⟨i1,r1⟩:=p1.rules
   obtain ⟨i2,r2⟩:=z0.rules
   obtain ⟨i3,r3⟩:=y3.rules
   have b1:=y1.board (1+k.toNat) (by omega)
   have f1:=y1.free (1+k.toNat)
   have b2:=y2.board (1+r.toNat) (by omega)
   have f2:=y2.free (1+r.toNat)
   have HG1:=hI hG1
   have HQ0:=hI hQ0
   have HQ1:=hI hQ1
   have HQ2:=hI hQ2
   have HQ3:=hI hQ3
   have HY3:=hI y3
   have HP3:=hI (p1.below hbQ3 p1.lt)
   have HM3:=hI ((hbQ3.block _ (Array.getElem?_eq_some_iff.1 m1).1).trans m1)
   have HB3:=hI (hbw1.trans (hbQ3.mono hbw1.size))
   have HS1:=hI hs1
   clear hG1 hbG1 hs1 m1 hbw1 hQ0 z0 hbQ0 hQ1 y1 hbQ1 hQ2 y2 hbQ2 hQ3 y3 hbQ3 p1
   rw [HG1.out]
   go_wp2_with (first | rw [HQ0.out] | rw [HQ1.out] | rw [HQ2.out] | rw [HQ3.out])
   refine (ball_any (offN n k r) HOK.out _).mono ?_
   rintro e w5 ⟨rfl,h1⟩
   have hR:=h1
   clear h1
   obtain ⟨M,hM⟩:∃ M,w5.alloc (.cells #[.int .u64 (u (allN (offN n k r)))] 23)=M:=⟨_,rfl⟩
   have hbM:Below w5.heap.size w5 M:=by rw [← hM];exact bR.alloc lR _
   have mM:M.heap[w5.heap.size]?=some (.cells #[.int .u64 (u (allN (offN n k r)))] 23 (0,0)):=by rw [← hM];exact World.alloc_heap_new w5 _
   have hR:=bT hR hbM
   have pM:=HP3.out.below hR HP3.out.lt
   obtain ⟨i1,r1⟩:=pM.rules
   have c78:M.cell? ⟨w.heap.size,78,none⟩=some (.int .u8 t):=by rw [← HTT.out];exact pM.cell 78 (by decide)
   have WU:IntKind.u8.wrap (1 - t)=1 - t:=IntWalk.u8_in _ (by omega)
   have HM0:=hI hM
   have HMM:=hI mM
   clear hM hbM mM pM i2 r2 i3 r3 b1 f1 b2 f2
   go_wp2_with (first | rw [HM0.out])
   refine (HOF.out _).mono ?_
   rintro e w6 ⟨rfl,h1⟩
   have mM6:=(h1.block _ (Array.getElem?_eq_some_iff.1 HMM.out).1).trans HMM.out
   have hR:=bT hR h1
   obtain ⟨O,hO⟩:∃ O,w6.alloc (.cells #[.int .u64 (u (ofN n (1 - t) 6))] 23)=O:=⟨_,rfl⟩
   have hbO:Below w6.heap.size w6 O:=by rw [← hO];exact bR.alloc lR _
   have oO:O.heap[w6.heap.size]?=some (.cells #[.int .u64 (u (ofN n (1 - t) 6))] 23 (0,0)):=by rw [← hO];exact World.alloc_heap_new w6 _
   have mO:=(hbO.block _ (Array.getElem?_eq_some_iff.1 mM6).1).trans mM6
   have hR:=bT hR hbO
   have pO:=HP3.out.below hR HP3.out.lt
   have qO:=HY3.out.below hR HY3.out.lt
   have tO:=HT.out.below (HB3.out.trans (hR.mono HB3.out.size)) lR
   have HAE:=hI (show ∀ W,Below O.heap.size O W→AsksB 189 #[.pointer (some ⟨w5.heap.size,0,none⟩)] (emptyB (offN n k r)) W from fun W0 hW0 x x0 x1 W hW =>
    empty_clo (allN (offN n k r)) x x0 x1 w5.heap.size W (((hW0.trans (hW.mono hW0.size)).block _ (Array.getElem?_eq_some_iff.1 mO).1).trans mO))
   have HAS:=hI (show ∀ W,Below O.heap.size O W→AsksB 190 #[.pointer (some ⟨w.heap.size,0,none⟩),.pointer (some ⟨w6.heap.size,0,none⟩),.pointer (some ⟨G1.heap.size,0,none⟩)] (safeB n (offN n k r)) W from fun W0 hW0 x x0 x1 W hW =>
    have hh:=hW0.trans (hW.mono hW0.size)
    safe_clo n (offN n k r) hn HOK.out t HTT.out h01 x x0 x1 w.heap.size w6.heap.size G1.heap.size W (pO.below hh pO.lt) ((hh.block _ (Array.getElem?_eq_some_iff.1 oO).1).trans oO) (qO.below hh qO.lt) (tO.below hh lR))
   have HO:=hI hO
   have HRO:=hI hR
   have hk0:Below O.heap.size O O:=bR
   have h5:0≤hm+kg∧hm+kg<64:=by omega
   have h6:0≤hm+rg∧hm+rg<64:=by omega
   have HC1:=hI (fun W hW=>call_any k (hm+kg) k0 k1 h5.1 h5.2 189 #[.pointer (some ⟨w5.heap.size,0,none⟩)] (emptyB (offN n k r)) W (enters_of Tryz.func189 (by kernel_rfl) rfl) (HAE.out W hW))
   have HC2:=hI (fun W hW=>call_any r (hm+rg) q0 q1 h6.1 h6.2 189 #[.pointer (some ⟨w5.heap.size,0,none⟩)] (emptyB (offN n k r)) W (enters_of Tryz.func189 (by kernel_rfl) rfl) (HAE.out W hW))
   have HC3:=hI (fun W hW=>call_any k (hm+kg) k0 k1 h5.1 h5.2 190 #[.pointer (some ⟨w.heap.size,0,none⟩),.pointer (some ⟨w6.heap.size,0,none⟩),.pointer (some ⟨G1.heap.size,0,none⟩)] (safeB n (offN n k r)) W (enters_of Tryz.func190 (by kernel_rfl) rfl) (HAS.out W hW))
   have WK:IntKind.i8.wrap k=k:=IntWalk.i8_in _ (by omega)
   have WR:IntKind.i8.wrap r=r:=IntWalk.i8_in _ (by omega)
   generalize (fromTo k (hm+kg)).all (emptyB (offN n k r))=e1 at *
   generalize (fromTo r (hm+rg)).all (emptyB (offN n k r))=e2 at *
   generalize (fromTo k (hm+kg)).all (safeB n (offN n k r))=e3 at *
   have HFIN:=hI (fun (W:World) (h:Below O.heap.size O W)=>(show (W.heap[w.heap.size+1]?=some (.cells #[.int .i8 0,.int .i8 0,.int .u8 0,.int .u8 0,.bool false] 49 (0,0)))∧Below w.heap.size w (W.setRow (w.heap.size+1) (⟨k,r,0,0,true⟩:Mv).cells.toArray) from
    ⟨((bT hR h).block _ (Array.getElem?_eq_some_iff.1 HM3.out).1).trans HM3.out,below_setRow (HB3.out.trans ((bT hR h).mono HB3.out.size)) (Nat.le_succ _) _⟩))
   clear h1 mM6 hO hbO oO mO hR pO qO tO h5 h6 i1 r1 c78
   have HST:=hI (fun (W:World) (h:Below O.heap.size O W)=>run_storeMv (⟨k,r,0,0,true⟩:Mv) (HFIN.out W h).1 rfl)
   rw [HCM.out] at HCV
   cases e1 with
   | false =>
     go_wp2_with (first | rw [HO.out])
     refine (HC1.out _ hk0).mono ?_
     rintro e w7 ⟨rfl,h1⟩
     have hk1:=bT hk0 h1
     clear h1
     have st:=HST.out _ hk1
     have HW:=hI (show wayOk n side=false by rw [HWY.out];simp)
     go_wp2
     exact bodyPost_ret (v:=.tuple #[.agg (⟨k,r,0,0,true⟩:Mv).cells.toArray,.bool false]) (mov_result2 Tryz.results147 _ _ _ _ _ rfl rfl (mv_setRow (HFIN.out _ hk1).1 _)) rfl ⟨ret_val (by rw [HCV.out,HW.out]),(HFIN.out _ hk1).2⟩
   | true =>
     cases e2 with
     | false =>
       go_wp2_with (first | rw [HO.out])
       refine (HC1.out _ hk0).mono ?_
       rintro e w7 ⟨rfl,h1⟩
       have hk1:=bT hk0 h1
       clear h1
       go_wp2_with (first | rw [HO.out])
       refine (HC2.out _ hk1).mono ?_
       rintro e w8 ⟨rfl,h1⟩
       have hk2:=bT hk1 h1
       clear h1
       have st:=HST.out _ hk2
       have HW:=hI (show wayOk n side=false by rw [HWY.out];simp)
       go_wp2
       exact bodyPost_ret (v:=.tuple #[.agg (⟨k,r,0,0,true⟩:Mv).cells.toArray,.bool false]) (mov_result2 Tryz.results147 _ _ _ _ _ rfl rfl (mv_setRow (HFIN.out _ hk2).1 _)) rfl ⟨ret_val (by rw [HCV.out,HW.out]),(HFIN.out _ hk2).2⟩
     | true =>
       go_wp2_with (first | rw [HO.out])
       refine (HC1.out _ hk0).mono ?_
       rintro e w7 ⟨rfl,h1⟩
       have hk1:=bT hk0 h1
       clear h1
       go_wp2_with (first | rw [HO.out])
       refine (HC2.out _ hk1).mono ?_
       rintro e w8 ⟨rfl,h1⟩
       have hk2:=bT hk1 h1
       clear h1
       go_wp2_with (first | rw [HO.out])
       refine (HC3.out _ hk2).mono ?_
       rintro e w9 ⟨rfl,h1⟩
       have hk3:=bT hk2 h1
       clear h1
       have st:=HST.out _ hk3
       have HW:=hI (show wayOk n side=e3 by rw [HWY.out];simp)
       go_wp2
       exact bodyPost_ret (v:=.tuple #[.agg (⟨k,r,0,0,true⟩:Mv).cells.toArray,.bool e3]) (mov_result2 Tryz.results147 _ _ _ _ _ rfl rfl (mv_setRow (HFIN.out _ hk3).1 _)) rfl ⟨ret_val (by rw [HCV.out,HW.out]),(HFIN.out _ hk3).2⟩
end Go.Proofs.YteocjaihaegmoaaGreatDoor
namespace Go.Proofs.YteocjaihaegmoaaGreatDoor
open Go Go.RowKit Go.Shelf
def castMv (n:Nat→Int) (side:Nat):Mv:=if rookOk n side=true then castM n side else ⟨0,0,0,0,false⟩
theorem cmay_any (n:Nat→Int) (hn:PosOk n) (t:Int) (ht:n 78=t) (h01:t=0∨t=1) (hk:kingOk n=true) (side:Nat) (hs:side=0∨side=1) (w:World) (hT:Tab w):Calls Tryz.prog 147 #[.agg (posA n),.int .i64 (kSq n),.int .i64 (side:Int)] w fun e w' => e = .returned (.tuple #[.agg #[.int .i8 (castMv n side).f,.int .i8 (castMv n side).t,.int .u8 (castMv n side).p,.int .u8 (castMv n side).d,.bool (castMv n side).c],.bool (rookOk n side&&wayOk n side)])∧Below w.heap.size w w' := by
 exact cmay_v n hn t ht h01 hk side hs w hT
def accC (n:Nat→Int) (k:Nat):List Mv:=if k=0 then [] else if k=1 then castIf n 1 else castIf n 1 ++ castIf n 0
theorem castB_is (n:Nat→Int) (h01:n 78=0∨n 78=1) (hc:casB (n 0).toNat=true) (hk:kingOk n=true) (side:Nat):castB n side=(rookOk n side&&wayOk n side):=by
 unfold castB
 rw [hc,hk,decide_eq_true (by omega)];simp
theorem castIf_yes {n:Nat→Int} {side:Nat} (h:castB n side=true):castIf n side=[castMv n side]:=by
 unfold castIf castMv
 rw [if_pos h]
 have:rookOk n side=true:=by unfold castB at h;simp only [Bool.and_eq_true] at h;exact h.1.2
 rw [if_pos this]
theorem castIf_no {n:Nat→Int} {side:Nat} (h:castB n side=false):castIf n side=[]:=by
 unfold castIf;rw [if_neg (by rw [h];decide)]
theorem castleL_none {n:Nat→Int} (h:casB (n 0).toNat=false∨kingOk n=false):castleL n=[]:=by
 have hb:∀ side,castB n side=false:=fun side=>by
  unfold castB
  rcases h with h | h <;> rw [h] <;> simp
 unfold castleL
 rw [castIf_no (hb 1),castIf_no (hb 0)];rfl
theorem kingOk_is (n:Nat→Int) (t:Int) (ht:n 78=t) (h01:t=0∨t=1) (s:Int) (hs:kSq n=s) (s0:0≤s):kingOk n=!(s / 8 != homeC t / 8):=by
 unfold kingOk
 rw [hs,ht,decide_eq_true s0,Bool.true_and]
 have:homeC t / 8=7*t:=by unfold homeC;omega
 rw [this];simp [bne]
theorem clist_any (n:Nat→Int) (hn:PosOk n) (t:Int) (ht:n 78=t) (h01:t=0∨t=1) (w:World) (hT:Tab w):Calls Tryz.prog 84 #[.agg (posA n)] w fun e w' => ∃ v,e=.returned v∧OwnsM w' w.heap.size v (castleL n)∧Below w.heap.size w w' := by
 obtain ⟨i0,hi,hz0,hz1,hz2⟩:=info_parts infoM
 obtain ⟨X,hX⟩:∃ X,w.alloc (.cells (posA n) 31)=X:=⟨_,rfl⟩
 obtain ⟨p0,hb⟩:=box1 w n X hX
 have HX:=hI hX
 have HI:=hI hi
 have HP:=hI p0
 have HB:=hI hb
 have HT:=hI (hT.below hb lR)
 have HG:=hI (fun (W:World) (h:Below X.heap.size X W)=>(show (IsPos W w.heap.size∧rowOf W w.heap.size=posA n)∧W.cell? ⟨w.heap.size,78,none⟩=some (.int .u8 t)∧W.cell? ⟨w.heap.size,0,none⟩=some (.int .u8 (n 0)) from (fun p=>⟨p.rules,by rw [← ht];exact p.cell 78 (by decide),p.board 0 (by decide)⟩) (p0.below h p0.lt)))
 have hR:Below X.heap.size X X:=bR
 obtain ⟨⟨q0,r0⟩,c78,c0⟩:=HG.out _ hR
 obtain ⟨z0,z1⟩:=hn.u8 0 (by decide) rfl
 have HCS:=hI (vcastles_any (n 0).toNat (by omega))
 rw [show (((n 0).toNat:Nat):Int)=n 0 by omega] at HCS
 have d1:decide ((1:Int)<t)=false:=decide_eq_false (by omega)
 have HFD:=hI (fun w hT=>bfind_any n hn t 6 w hT)
 have HKS:=hI (show firstB (ofN n t 6)=kSq n by unfold kSq;rw [ht])
 rw [HKS.out] at HFD
 have HCH:=hI (chome_any t h01)
 have h00:0≤homeC t∧homeC t≤56:=by unfold homeC;omega
 obtain ⟨h00,h56⟩:=h00
 have HKO:=hI (kingOk_is n t ht h01)
 have HN:=hI (@castleL_none n)
 have HMAY:=hI (fun (hk:kingOk n=true) side hs w hT=>cmay_any n hn t ht h01 hk side hs w hT)
 have HCB:=hI (castB_is n (by omega))
 clear hX p0 hb hi hT
 cases hc:casB (n 0).toNat with
 | false =>
   rw [hc] at HCS
   have HN:=hI (HN.out (.inl hc))
   clear hc
   go_enter Tryz.func84,Tryz.ntmps84
   go_wp2_with (first | rw [HX.out])
   refine (HCS.out _).mono ?_
   rintro e w1 ⟨rfl,h1⟩
   have hbE:=HB.out.trans (h1.mono HB.out.size)
   clear h1 q0 r0 c78 c0
   go_wp2
   go_ret
   exact ⟨_,rfl,by rw [HN.out];exact World.ownsRow_nil _ _ _ _,hbE⟩
 | true =>
 rw [hc] at HCS
 have HCB:=hI (HCB.out hc)
 clear hc
 rcases (show kSq n<0∨0≤kSq n by omega) with hk | hk
 · have HN := hideIt (HN.out (.inr (by unfold kingOk; rw [decide_eq_false (by omega)]; rfl)))
   have dk:decide (kSq n<0)=true:=decide_eq_true hk
   clear HKO HMAY HCB
   generalize kSq n=k at *
   go_enter Tryz.func84,Tryz.ntmps84
   go_wp2_with (first | rw [HX.out])
   refine (HCS.out _).mono ?_
   rintro e w1 ⟨rfl,h1⟩
   have hR:=bT hR h1
   clear h1
   obtain ⟨⟨q0,r0⟩,c78,c0⟩:=HG.out _ hR
   go_wp2_with fail
   refine (HFD.out _ (HT.out.below hR lR)).mono ?_
   rintro e w2 ⟨rfl,h1⟩
   have hR:=bT hR h1
   clear h1
   obtain ⟨⟨q0,r0⟩,c78,c0⟩:=HG.out _ hR
   go_wp2
   go_ret
   exact ⟨_,rfl,by rw [HN.out];exact World.ownsRow_nil _ _ _ _,HB.out.trans (hR.mono HB.out.size)⟩
 · have dk : decide (kSq n < 0) = false := decide_eq_false (by omega)
   have HKO:=hI (HKO.out _ rfl hk)
   have hk64:kSq n<64:=by
    rcases king_sq n (n 78) with h | h
    · unfold kSq at hk;omega
    · exact h.2
   cases hko:kingOk n with
   | false =>
     have HN:=hI (HN.out (.inr hko))
     have e8:(kSq n / 8 != homeC t / 8)=true:=by have:=HKO.out;rw [hko] at this;simpa using this.symm
     clear HMAY HCB hko
     generalize kSq n=k at *
     generalize homeC t=hm at *
     go_enter Tryz.func84,Tryz.ntmps84
     go_wp2_with (first | rw [HX.out])
     refine (HCS.out _).mono ?_
     rintro e w1 ⟨rfl,h1⟩
     have hR:=bT hR h1
     clear h1
     obtain ⟨⟨q0,r0⟩,c78,c0⟩:=HG.out _ hR
     go_wp2_with fail
     refine (HFD.out _ (HT.out.below hR lR)).mono ?_
     rintro e w2 ⟨rfl,h1⟩
     have hR:=bT hR h1
     clear h1
     obtain ⟨⟨q0,r0⟩,c78,c0⟩:=HG.out _ hR
     go_wp2_with (go_at_call 146;refine (HCH.out _).mono ?_;rintro e w3 ⟨rfl,rfl⟩)
     go_ret
     exact ⟨_,rfl,by rw [HN.out];exact World.ownsRow_nil _ _ _ _,HB.out.trans (hR.mono HB.out.size)⟩
   | true =>
     have e8:(kSq n / 8 != homeC t / 8)=false:=by have:=HKO.out;rw [hko] at this;simpa using this.symm
     have HM1:=hI (HMAY.out hko 1 (.inr rfl))
     have HM0:=hI (HMAY.out hko 0 (.inl rfl))
     have HCB1:=hI (HCB.out hko 1)
     have HCB0:=hI (HCB.out hko 0)
     rw [← HCB1.out] at HM1
     rw [← HCB0.out] at HM0
     have HY1:=hI (@castIf_yes n 1)
     have HN1:=hI (@castIf_no n 1)
     have HY0:=hI (@castIf_yes n 0)
     have HN0:=hI (@castIf_no n 0)
     clear HMAY HCB hko HKO HCB1 HCB0
     generalize castMv n 1=m1 at *
     generalize castMv n 0=m0 at *
     generalize kSq n=k at *
     generalize homeC t=hm at *
     have HCL:=hI (show castleL n=castIf n 1 ++ castIf n 0 from rfl)
     go_enter Tryz.func84,Tryz.ntmps84
     go_wp2_with (first | rw [HX.out])
     refine (HCS.out _).mono ?_
     rintro e w1 ⟨rfl,h1⟩
     have hR:=bT hR h1
     clear h1
     obtain ⟨⟨q0,r0⟩,c78,c0⟩:=HG.out _ hR
     go_wp2_with fail
     refine (HFD.out _ (HT.out.below hR lR)).mono ?_
     rintro e w2 ⟨rfl,h1⟩
     have hR:=bT hR h1
     clear h1
     obtain ⟨⟨q0,r0⟩,c78,c0⟩:=HG.out _ hR
     obtain ⟨S0,hS0⟩:∃ S0,w2.alloc (.cells #[.int .i64 1,.int .i64 0] 3)=S0:=⟨_,rfl⟩
     have HS0:=hI hS0
     go_wp2_with (first | rw [HS0.out] | (go_at_call 146;refine (HCH.out _).mono ?_;rintro e w3 ⟨rfl,rfl⟩))
     have hbS:Below w2.heap.size w2 S0:=by rw [← HS0.out];exact bR.alloc lR _
     have hS1:S0.heap[w2.heap.size]?=some (.cells #[.int .i64 1,.int .i64 0] 3 (0,0)):=by rw [← HS0.out];exact World.alloc_heap_new w2 _
     have hRS:=hR.trans (hbS.mono hR.size)
     have HA:=hI (show OwnsM S0 X.heap.size (.slice none 0 0) (accC n 0)∧Below X.heap.size X S0∧S0.heap[w2.heap.size]?=some (.cells #[.int .i64 1,.int .i64 0] 3 (0,0)) from ⟨World.ownsRow_nil _ _ _ _,hRS,hS1⟩)
     have h2:accC n 1=castIf n 1:=rfl
     have h3:accC n 2=castIf n 1 ++ castIf n 0:=rfl
     have HC1:=hI h2
     have HC2:=hI h3
     have HCL2:=hI (HCL.out.trans h3.symm)
     clear hbS hS1 hRS q0 r0 c78 c0 hS0 h2 h3
     go_loopg [4,35] 2 (fun g v i wr=>∃ k:Nat,k+g=2∧i=.int .i64 k∧OwnsM wr X.heap.size v (accC n k)∧Below X.heap.size X wr∧wr.heap[w2.heap.size]?=some (.cells #[.int .i64 1,.int .i64 0] 3 (0,0)))
     case atStart=>exact ⟨0,rfl,rfl,HA.out⟩
     case round =>
      clear HA
      obtain ⟨j,hgj,rfl,hown,hr,hsl⟩:=hrel
      have hj:j=0∨j=1∨j=2:=by omega
      rcases hj with rfl | rfl | rfl
      · have hse : wr.cell? ⟨w2.heap.size, 0, none⟩ = some (.int .i64 1) := by rw [cell_of_row wr _ 0 _ _ _ hsl]; rfl
        obtain ⟨⟨q0,r0⟩,c78,c0⟩:=HG.out _ hr
        have HOWN:=hI hown
        have HTR:=hI (HT.out.below hr lR)
        clear hown
        cases hb1:castB n 1 with
        | false =>
          rw [hb1] at HM1
          have HACC:=hI (show accC n 1=accC n 0 by rw [HC1.out,HN1.out hb1];rfl)
          clear hb1
          go_wp2_with fail
          refine (HM1.out _ HTR.out).mono ?_
          rintro e w3 ⟨rfl,h1⟩
          have hown3:=HOWN.out.kept h1 lR
          have hr3:=bT hr h1
          have hsl3:=(h1.block _ (Array.getElem?_eq_some_iff.1 hsl).1).trans hsl
          clear h1 q0 r0 c78 c0 hse
          obtain ⟨Z,hZ⟩:∃ Z,w3.alloc (.cells #[.int .i8 m1.f,.int .i8 m1.t,.int .u8 m1.p,.int .u8 m1.d,.bool m1.c] 49)=Z:=⟨_,rfl⟩
          obtain ⟨qm,hbZ⟩:=mvBox_at hZ
          obtain ⟨x0,x1,x2,x3,x4⟩:=mv_cell qm
          have hown4:=hown3.kept hbZ lR
          have hr4:=bT hr3 hbZ
          have hsl4:=(hbZ.block _ (Array.getElem?_eq_some_iff.1 hsl3).1).trans hsl3
          have HZ:=hI hZ
          have hsz4:=hr4.size
          have HO4:=hI hown4
          have HSL4:=hI hsl4
          clear hZ hbZ hown3 hr3 hsl3 qm hsl4 hsl hown4
          go_wp2_with (first | rw [HZ.out])
          go_roundg 1
          case measure=>omega
          case rel=>exact ⟨1,rfl,by go_num,by rw [HACC.out];exact HO4.out,hr4,HSL4.out⟩
        | true =>
          rw [hb1] at HM1
          have HACC:=hI (show accC n 1=accC n 0 ++ [m1] by rw [HC1.out,HY1.out hb1];rfl)
          clear hb1
          go_wp2_with fail
          refine (HM1.out _ HTR.out).mono ?_
          rintro e w3 ⟨rfl,h1⟩
          have hown3:=HOWN.out.kept h1 lR
          have hr3:=bT hr h1
          have hsl3:=(h1.block _ (Array.getElem?_eq_some_iff.1 hsl).1).trans hsl
          clear h1 q0 r0 c78 c0 hse
          obtain ⟨Z,hZ⟩:∃ Z,w3.alloc (.cells #[.int .i8 m1.f,.int .i8 m1.t,.int .u8 m1.p,.int .u8 m1.d,.bool m1.c] 49)=Z:=⟨_,rfl⟩
          obtain ⟨qm,hbZ⟩:=mvBox_at hZ
          obtain ⟨x0,x1,x2,x3,x4⟩:=mv_cell qm
          have hown4:=hown3.kept hbZ lR
          have hr4:=bT hr3 hbZ
          have hsl4:=(hbZ.block _ (Array.getElem?_eq_some_iff.1 hsl3).1).trans hsl3
          have HZ:=hI hZ
          have hsz4:=hr4.size
          have HO4:=hI hown4
          have HSL4:=hI hsl4
          have hsn:u4.ownBlock≠some w2.heap.size:=fun e=>by
           obtain ⟨_,cs2,m2,hc2⟩:=hown4.row e
           rw [hsl4] at hc2
           injection hc2 with hc2
           injection hc2 with _ ht2
           exact absurd ht2 (by decide)
          have HSN:=hI hsn
          have hslz:=(Array.getElem?_eq_some_iff.1 hsl4).1
          clear hZ hbZ hown3 hr3 hsl3 qm hsl4 hsl hsn
          have hla:(accC n 0).length≤10:=by unfold accC;simp
          generalize accC n 0=acc at *
          go_wp2_with (first | rw [HZ.out] | (at_builtin;refine wpList_append_new _ rfl _ _ 41 rfl X.heap.size 49 i0 (.agg #[.int .i8 0,.int .i8 0,.int .u8 0,.int .u8 0,.bool false]) 5 5 Tryz.underlying41 HI.out hz0 hz1 hz2 rfl (by decide) u4 _ _ rfl (World.ownsRow.alloc hown4 _) ⟨Z.heap.size,0,none⟩ 1 1 m1.cells rfl rfl (cells5_new _ _ _ _ _ _ _) (by simp [Mv.cells,Value.oneCell']) (by unfold maxLen;omega) (by omega) (by simp;omega) (by decide) ?_;intro v' w5 hown' hgrow3 hnew))
          go_roundg 1
          case measure=>omega
          case rel=>exact ⟨1,rfl,by go_num,by rw [HACC.out];exact OwnsM.app hown',OwnsM.grown hown4 hr4 hsz4 _ hgrow3,((hgrow3.block _ (by simp;omega) (fun e=>HSN.out e.symm)).trans (Below.heap_alloc _ _ _ hslz)).trans HSL4.out⟩
      · have hse : wr.cell? ⟨w2.heap.size, 1, none⟩ = some (.int .i64 0) := by rw [cell_of_row wr _ 1 _ _ _ hsl]; rfl
        obtain ⟨⟨q0,r0⟩,c78,c0⟩:=HG.out _ hr
        have HOWN:=hI hown
        have HTR:=hI (HT.out.below hr lR)
        clear hown
        cases hb1:castB n 0 with
        | false =>
          rw [hb1] at HM0
          have HACC:=hI (show accC n 2=accC n 1 by rw [HC2.out,HC1.out,HN0.out hb1];exact List.append_nil _)
          clear hb1
          go_wp2_with fail
          refine (HM0.out _ HTR.out).mono ?_
          rintro e w3 ⟨rfl,h1⟩
          have hown3:=HOWN.out.kept h1 lR
          have hr3:=bT hr h1
          have hsl3:=(h1.block _ (Array.getElem?_eq_some_iff.1 hsl).1).trans hsl
          clear h1 q0 r0 c78 c0 hse
          obtain ⟨Z,hZ⟩:∃ Z,w3.alloc (.cells #[.int .i8 m0.f,.int .i8 m0.t,.int .u8 m0.p,.int .u8 m0.d,.bool m0.c] 49)=Z:=⟨_,rfl⟩
          obtain ⟨qm,hbZ⟩:=mvBox_at hZ
          obtain ⟨x0,x1,x2,x3,x4⟩:=mv_cell qm
          have hown4:=hown3.kept hbZ lR
          have hr4:=bT hr3 hbZ
          have hsl4:=(hbZ.block _ (Array.getElem?_eq_some_iff.1 hsl3).1).trans hsl3
          have HZ:=hI hZ
          have hsz4:=hr4.size
          have HO4:=hI hown4
          have HSL4:=hI hsl4
          clear hZ hbZ hown3 hr3 hsl3 qm hsl4 hsl hown4
          go_wp2_with (first | rw [HZ.out])
          go_roundg 0
          case measure=>omega
          case rel=>exact ⟨2,rfl,by go_num,by rw [HACC.out];exact HO4.out,hr4,HSL4.out⟩
        | true =>
          rw [hb1] at HM0
          have HACC:=hI (show accC n 2=accC n 1 ++ [m0] by rw [HC2.out,HC1.out,HY0.out hb1])
          clear hb1
          go_wp2_with fail
          refine (HM0.out _ HTR.out).mono ?_
          rintro e w3 ⟨rfl,h1⟩
          have hown3:=HOWN.out.kept h1 lR
          have hr3:=bT hr h1
          have hsl3:=(h1.block _ (Array.getElem?_eq_some_iff.1 hsl).1).trans hsl
          clear h1 q0 r0 c78 c0 hse
          obtain ⟨Z,hZ⟩:∃ Z,w3.alloc (.cells #[.int .i8 m0.f,.int .i8 m0.t,.int .u8 m0.p,.int .u8 m0.d,.bool m0.c] 49)=Z:=⟨_,rfl⟩
          obtain ⟨qm,hbZ⟩:=mvBox_at hZ
          obtain ⟨x0,x1,x2,x3,x4⟩:=mv_cell qm
          have hown4:=hown3.kept hbZ lR
          have hr4:=bT hr3 hbZ
          have hsl4:=(hbZ.block _ (Array.getElem?_eq_some_iff.1 hsl3).1).trans hsl3
          have HZ:=hI hZ
          have hsz4:=hr4.size
          have HO4:=hI hown4
          have HSL4:=hI hsl4
          have hsn:u4.ownBlock≠some w2.heap.size:=fun e=>by
           obtain ⟨_,cs2,m2,hc2⟩:=hown4.row e
           rw [hsl4] at hc2
           injection hc2 with hc2
           injection hc2 with _ ht2
           exact absurd ht2 (by decide)
          have HSN:=hI hsn
          have hslz:=(Array.getElem?_eq_some_iff.1 hsl4).1
          clear hZ hbZ hown3 hr3 hsl3 qm hsl4 hsl hsn
          have hla:(accC n 1).length≤10:=by rw [HC1.out];unfold castIf;split <;> simp
          generalize accC n 1=acc at *
          go_wp2_with (first | rw [HZ.out] | (at_builtin;refine wpList_append_new _ rfl _ _ 41 rfl X.heap.size 49 i0 (.agg #[.int .i8 0,.int .i8 0,.int .u8 0,.int .u8 0,.bool false]) 5 5 Tryz.underlying41 HI.out hz0 hz1 hz2 rfl (by decide) u4 _ _ rfl (World.ownsRow.alloc hown4 _) ⟨Z.heap.size,0,none⟩ 1 1 m0.cells rfl rfl (cells5_new _ _ _ _ _ _ _) (by simp [Mv.cells,Value.oneCell']) (by unfold maxLen;omega) (by omega) (by simp;omega) (by decide) ?_;intro v' w5 hown' hgrow3 hnew))
          go_roundg 0
          case measure=>omega
          case rel=>exact ⟨2,rfl,by go_num,by rw [HACC.out];exact OwnsM.app hown',OwnsM.grown hown4 hr4 hsz4 _ hgrow3,((hgrow3.block _ (by simp;omega) (fun e=>HSN.out e.symm)).trans (Below.heap_alloc _ _ _ hslz)).trans HSL4.out⟩
      · have HE := hideIt (show OwnsM wr w.heap.size u4 (castleL n) from by rw [HCL2.out]; exact hown.less HB.out.size)
        clear hown hsl
        go_wp2
        go_ret
        exact ⟨_,rfl,HE.out,HB.out.trans (hr.mono HB.out.size)⟩
end Go.Proofs.YteocjaihaegmoaaGreatDoor
namespace Go.Proofs.YteocjaihaegmoaaGreatDoor
open Go Go.RowKit
theorem goals14_any (side:Nat) (hs:side=0∨side=1) (w:World):Calls Tryz.prog 165 #[.int .i64 (side:Int)] w fun e w' => e = .returned (.tuple #[.int .i64 (kGoal side),.int .i64 (rGoal side)])∧w=w' := by
 rcases hs with rfl | rfl
 · go_enter Tryz.func165, Tryz.ntmps165
   go_wp2
   go_ret2
   exact ⟨rfl,rfl⟩
 · go_enter Tryz.func165, Tryz.ntmps165
   go_wp2
   go_ret2
   exact ⟨rfl,rfl⟩
def withinB (s a b:Int):Bool:=(decide (a≤s)&&decide (s≤b)) || (decide (b≤s)&&decide (s≤a))
theorem within_any (s a b:Int) (w:World):Calls Tryz.prog 199 #[.int .i64 s,.int .i64 a,.int .i64 b] w fun e w' => e = .returned (.bool (withinB s a b))∧w=w' := by
 have HD:=hI (show withinB s a b=((decide (a≤s)&&decide (s≤b)) || (decide (b≤s)&&decide (s≤a))) from rfl)
 cases h1:decide (a≤s) <;> cases h2:decide (s≤b) <;> cases h3:decide (b≤s) <;> cases h4:decide (s≤a)
 all_goals
  have HD:=hI (HD.out.trans (by rw [h1,h2,h3,h4]))
  go_enter Tryz.func199,Tryz.ntmps199
  go_wp2
  go_ret
  exact ⟨rB (by rw [HD.out];rfl),rfl⟩
def safeQ (q:Nat→Int) (s:Int):Bool:=((q 0==3)&&!((kingB s&&&ofN q (1 - q 78) 6)==0#64)) || (byN q s (1 - q 78)==0#64)
theorem safe14_any (q:Nat→Int) (hq:PosOk q) (t:Int) (ht:q 78=t) (h01:t=0∨t=1) (s:Int) (s0:0≤s) (s1:s<64) (w:World):Calls Tryz.prog 200 #[.agg (posA q),.int .i64 s] w fun e w' => e = .returned (.bool (safeQ q s))∧Below w.heap.size w w' := by
 obtain ⟨X,hX⟩:∃ X,w.alloc (.cells (posA q) 31)=X:=⟨_,rfl⟩
 obtain ⟨p0,hb⟩:=box1 w q X hX
 have HX:=hI hX
 have HB:=hI hb
 have HG:=hI (fun (W:World) (h:Below X.heap.size X W)=>(show (IsPos W w.heap.size∧rowOf W w.heap.size=posA q)∧W.cell? ⟨w.heap.size,78,none⟩=some (.int .u8 t)∧W.cell? ⟨w.heap.size,0,none⟩=some (.int .u8 (q 0)) from (fun p=>⟨p.rules,by rw [← ht];exact p.cell 78 (by decide),p.board 0 (by decide)⟩) (p0.below h p0.lt)))
 have hR:Below X.heap.size X X:=bR
 obtain ⟨⟨i0,r0⟩,c78,c0⟩:=HG.out _ hR
 have HD:=hI (show safeQ q s=(((q 0==3)&&!((kingB s&&&ofN q (1 - t) 6)==0#64)) || (byN q s (1 - t)==0#64)) by unfold safeQ;rw [ht])
 have W1:IntKind.u8.wrap (1 - t)=1 - t:=IntWalk.u8_in _ (by omega)
 have HBY:=hI (by8_any q hq s (1 - t) s0 s1 (by omega) (by omega))
 have HIS:=hI (fun (j:Nat) (hj:j<64)=>is8_any q hq j hj (1 - t) 6)
 have HIN:=hI (fun (j:Nat) (hj:j<64)=>isN_of q (j:Int) (1 - t) 6 (by decide) (by omega) (by omega))
 have HNS:=hI (fun (a:Int)=>@near_some q s t a)
 have HNN:=hI (@near_none q s t)
 clear hX p0 hb
 cases hv:(q 0==3) with
 | false =>
   have HD:=hI (show safeQ q s=(byN q s (1 - t)==0#64) by rw [HD.out,hv];rfl)
   go_enter Tryz.func200,Tryz.ntmps200
   go_wp2_with (first | rw [HX.out])
   refine wp_loop_rounds 1 ?_
   rw [rounds_succ]
   go_wp2_with fail
   refine (HBY.out _).mono ?_
   rintro e Y ⟨rfl,h1⟩
   have hR:=bT hR h1
   clear h1 i0 r0 c78 c0
   go_wp2
   go_ret
   exact ⟨rB (by rw [HD.out];first | rfl | exact (u_eq_zero _) | simp),HB.out.trans (hR.mono HB.out.size)⟩
 | true =>
   have HE:=hI hv
   clear hv
   go_enter Tryz.func200,Tryz.ntmps200
   go_wp2_with (first | rw [HX.out])
   go_loopw [5] (fun i wr=>∃ j:Nat,j≤64∧i=.int .i64 j∧Hid (∀ t' : Nat,t' < j→(hasB (ofN q (1 - t) 6) (t' : Int)&&hasB (kingB s) (t' : Int))=false)∧Below X.heap.size X wr) (fun i _=>64 - (intOf i).toNat)
   case atStart=>exact ⟨0,by omega,rfl,hI (fun t ht=>absurd ht (Nat.not_lt_zero _)),bR⟩
   case round =>
    obtain ⟨j,hj,rfl,hno,hr⟩:=hrel
    obtain ⟨⟨i0,r0⟩,c78,c0⟩:=HG.out _ hr
    by_cases hlt:j<64
    · have e3 := HE.out
      have HI:=hI (HIN.out j hlt)
      have HIJ:=hI (HIS.out j hlt)
      have HT:=hI (kingT (a:=(j:Int)) (b:=s) (by omega) (by omega) s0 s1)
      have HBE:=hI (beside_any (j:Int) s (by omega) (by omega) s0 s1)
      cases h1:hasB (ofN q (1 - t) 6) (j:Int) with
      | false =>
        have hno2:Hid (∀ t' : Nat,t' < j+1→(hasB (ofN q (1 - t) 6) (t' : Int)&&hasB (kingB s) (t' : Int))=false):=hI (fun t' ht=>by
         by_cases e:t' = j
         · rw [e,h1];rfl
         · exact hno.out t' (by omega))
        rw [h1] at HI
        rw [HI.out] at HIJ
        clear h1 hno
        go_wp2_with fail
        refine (HIJ.out _).mono ?_
        rintro e w3 ⟨rfl,h2⟩
        have hr:=bT hr h2
        clear h2
        go_wp2
        go_roundw
        case rel=>exact ⟨j+1,by omega,by go_num,hno2,hr⟩
        case measure=>simp [intOf];omega
      | true =>
        rw [h1] at HI
        rw [HI.out] at HIJ
        cases h3:hasB (kingB s) (j:Int) with
        | false =>
          have hno2:Hid (∀ t' : Nat,t' < j+1→(hasB (ofN q (1 - t) 6) (t' : Int)&&hasB (kingB s) (t' : Int))=false):=hI (fun t' ht=>by
           by_cases e:t' = j
           · rw [e,h3,Bool.and_false]
           · exact hno.out t' (by omega))
          rw [h3] at HT
          rw [HT.out] at HBE
          clear h1 h3 hno
          go_wp2_with fail
          refine (HIJ.out _).mono ?_
          rintro e w3 ⟨rfl,h2⟩
          have hr:=bT hr h2
          clear h2
          go_wp2_with fail
          refine (HBE.out _).mono ?_
          rintro e w4 ⟨rfl,rfl⟩
          go_wp2
          go_roundw
          case rel=>exact ⟨j+1,by omega,by go_num,hno2,hr⟩
          case measure=>simp [intOf];omega
        | true =>
          have HD:=hI (show safeQ q s=true by rw [HD.out,HE.out,HNS.out _ h1 h3];rfl)
          rw [h3] at HT
          rw [HT.out] at HBE
          clear h1 h3 hno
          go_wp2_with fail
          refine (HIJ.out _).mono ?_
          rintro e w3 ⟨rfl,h2⟩
          have hr:=bT hr h2
          clear h2
          go_wp2_with fail
          refine (HBE.out _).mono ?_
          rintro e w4 ⟨rfl,rfl⟩
          go_wp2
          go_ret
          exact ⟨rB HD.out.symm,HB.out.trans (hr.mono HB.out.size)⟩
    · obtain rfl : j = 64 := by omega
      have HD:=hI (show safeQ q s=(byN q s (1 - t)==0#64) by rw [HD.out,HE.out,HNN.out hno.out];rfl)
      clear hno
      go_wp2_with fail
      refine (HBY.out _).mono ?_
      rintro e Y ⟨rfl,h1⟩
      have hR:=bT hr h1
      clear h1 i0 r0 c78 c0
      go_wp2
      go_ret
      exact ⟨rB (by rw [HD.out];first | rfl | exact (u_eq_zero _) | simp),HB.out.trans (hR.mono HB.out.size)⟩
theorem mem_fromTo {s a b:Int}:s∈fromTo a b↔withinB s a b=true:=by
 unfold fromTo withinB
 rw [List.mem_map]
 simp only [List.mem_range,Bool.or_eq_true,Bool.and_eq_true,decide_eq_true_iff]
 unfold loI hiI
 constructor
 · rintro ⟨j, hj, rfl⟩
   split at hj <;> split <;> omega
 · intro h
   refine ⟨(s - (if a≤b then a else b)).toNat,?_,?_⟩
   · split <;> omega
   · split <;> omega
theorem all_fromTo (a b:Int) (p:Int→Bool):(fromTo a b).all p=true↔∀ s,withinB s a b=true→p s=true:=by
 rw [List.all_eq_true]
 exact ⟨fun h s hs=>h s (mem_fromTo.2 hs),fun h s hs=>h s (mem_fromTo.1 hs)⟩
def badB (q:Nat→Int) (k r kg rg s:Int):Bool:=((withinB s k kg || withinB s r rg)&&isB (q (1+s.toNat))) || (withinB s k kg&&!safeQ q s)
theorem bad_none {q n:Nat→Int} {k r kg rg hm:Int} (hs:∀ s,0≤s→s<64→safeQ q s=safeB n q s) (h0:0≤hm) (h1:hm≤56) (hk:hm≤k∧k≤hm+7) (hr:hm≤r∧r≤hm+7) (hkg:hm≤kg∧kg≤hm+7) (hrg:hm≤rg∧rg≤hm+7) :
 (∀ i:Nat,i<8→badB q k r kg rg (hm+i)=false)↔((fromTo k kg).all (emptyB q)&&(fromTo r rg).all (emptyB q)&&(fromTo k kg).all (safeB n q))=true:=by
 have hin:∀ s a b,hm≤a∧a≤hm+7→hm≤b∧b≤hm+7→withinB s a b=true→hm≤s∧s≤hm+7:=by
  intro s a b ha hb h
  unfold withinB at h
  simp only [Bool.or_eq_true,Bool.and_eq_true,decide_eq_true_iff] at h
  omega
 have hem:∀ s,0≤s→s<64→emptyB q s=!isB (q (1+s.toNat)):=fun s s0 s1=>by unfold emptyB;rw [has_all q s s0 s1]
 rw [Bool.and_eq_true,Bool.and_eq_true,all_fromTo,all_fromTo,all_fromTo]
 constructor
 · intro h
   have key:∀ s,hm≤s∧s≤hm+7→badB q k r kg rg s=false:=fun s hs=>by
    have:=h (s - hm).toNat (by omega)
    rwa [show hm+(((s - hm).toNat:Nat):Int)=s by omega] at this
   refine ⟨⟨fun s hw=>?_,fun s hw=>?_⟩,fun s hw=>?_⟩
   · have hb := hin s _ _ hk hkg hw
     have:=key s hb
     unfold badB at this
     rw [hw] at this
     rw [hem s (by omega) (by omega)]
     cases hi:isB (q (1+s.toNat)) with
     | false=>rfl
     | true=>rw [hi] at this;simp at this
   · have hb := hin s _ _ hr hrg hw
     have:=key s hb
     unfold badB at this
     rw [hw,Bool.or_true] at this
     rw [hem s (by omega) (by omega)]
     cases hi:isB (q (1+s.toNat)) with
     | false=>rfl
     | true=>rw [hi] at this;simp at this
   · have hb := hin s _ _ hk hkg hw
     have:=key s hb
     unfold badB at this
     rw [hw] at this
     rw [← hs s (by omega) (by omega)]
     cases hi:safeQ q s with
     | true=>rfl
     | false=>rw [hi] at this;simp at this
 · rintro ⟨⟨h1', h2⟩, h3⟩ i hi
   unfold badB
   have e0:(0:Int)≤hm+(i:Int):=by omega
   have e1:hm+(i:Int)<64:=by omega
   cases hw:withinB (hm+(i:Int)) k kg with
   | true =>
     have a1:=h1' _ hw
     have a3:=h3 _ hw
     rw [hem _ e0 e1,Bool.not_eq_true'] at a1
     rw [← hs _ e0 e1] at a3
     rw [a1,a3];simp
   | false =>
     cases hw2:withinB (hm+(i:Int)) r rg with
     | true =>
       have a2:=h2 _ hw2
       rw [hem _ e0 e1,Bool.not_eq_true'] at a2
       rw [a2];simp
     | false=>simp
theorem of_off {n:Nat→Int} {t k r:Int} (h01:t=0∨t=1) (hk:ofP t 0 (n (1+k.toNat))=true) (hr:ofP t 0 (n (1+r.toNat))=true):ofN (offN n k r) (1 - t) 6=ofN n (1 - t) 6:=by
 have key:∀ x:Int,ofP t 0 x=true→ofP (1 - t) 6 x=false:=by
  intro x hx
  unfold ofP at hx ⊢
  simp only [Bool.and_eq_true,beq_iff_eq,Bool.or_eq_true] at hx
  cases h:(colI x==1 - t) with
  | false=>rfl
  | true=>rw [beq_iff_eq] at h;omega
 apply ext_has
 intro j hj
 rw [has_of _ _ _ _ (by omega) (by omega),has_of _ _ _ _ (by omega) (by omega)]
 unfold offN upd
 by_cases e1:1+((j:Nat):Int).toNat=1+r.toNat
 · rw [if_pos e1,e1,key _ hr,Bool.and_false];rfl
 · rw [if_neg e1]
   by_cases e2:1+((j:Nat):Int).toNat=1+k.toNat
   · rw [if_pos e2,e2,key _ hk,Bool.and_false];rfl
   · rw [if_neg e2]
theorem king_at {n:Nat→Int} (h:kingOk n=true):isB (n (1+(kSq n).toNat))=true∧colI (n (1+(kSq n).toNat))=n 78∧kndI (n (1+(kSq n).toNat))=6:=by
 obtain ⟨k0,k1⟩:=kSq_bd h
 have hh:hasB (ofN n (n 78) 6) (kSq n)=true:=by
  unfold kSq
  rcases first_cases (ofN n (n 78) 6) with ⟨_,e⟩ | ⟨i,hi,hb,_,e⟩
  · unfold kSq at k0;omega
  · rw [e,hasB_nat _ _ hi];exact hb
 rw [has_of n _ _ _ k0 k1,Bool.and_eq_true] at hh
 refine ⟨hh.1,?_⟩
 have:=hh.2
 unfold ofP at this
 simp only [Bool.and_eq_true,beq_iff_eq,Bool.or_eq_true] at this
 exact ⟨this.1,by rcases this.2 with h | h <;> omega⟩
theorem rook_at {x t:Int} (h01:t=0∨t=1):((kndI x==4)&&(x / 8==t))=(x==8*t+4):=by
 rw [Bool.eq_iff_iff,Bool.and_eq_true,beq_iff_eq,beq_iff_eq,beq_iff_eq]
 unfold kndI
 constructor
 · rintro ⟨h1, h2⟩
   split at h1 <;> omega
 · intro h
   subst h
   rcases h01 with rfl | rfl <;> exact ⟨by decide,by decide⟩
def mayV14 (n:Nat→Int) (side:Nat):Value:=if castB n side=true then .tuple #[.int .i64 (kSq n),.int .i64 (rSq n side),.bool true] else .tuple #[.int .i64 0,.int .i64 0,.bool false]
theorem mayV14_no {n:Nat→Int} {side:Nat} (h:castB n side=false):mayV14 n side=.tuple #[.int .i64 0,.int .i64 0,.bool false]:=by unfold mayV14;rw [if_neg (by rw [h];decide)]
theorem mayV14_yes {n:Nat→Int} {side:Nat} (h:castB n side=true):mayV14 n side=.tuple #[.int .i64 (kSq n),.int .i64 (rSq n side),.bool true]:=by unfold mayV14;rw [if_pos h]
theorem rng_no {a b k:Int} (h:¬(a≤k∧k≤b)):(decide (a≤k)&&decide (k≤b))=false:=by
 by_cases h1:a≤k
 · rw [decide_eq_false (fun h2=>h ⟨h1,h2⟩),Bool.and_false]
 · rw [decide_eq_false h1];rfl
theorem first_bd14 (b:BitVec 64):-1≤firstB b∧firstB b<64:=by
 rcases first_cases b with ⟨_,h⟩ | ⟨i,hi,_,_,h⟩ <;> rw [h] <;> omega
theorem castB_parts (n:Nat→Int) (side:Nat):castB n side=(decide (n 78≤1)&&casB (n 0).toNat&&kingOk n&&rookOk n side&&wayOk n side):=rfl
theorem castB_c {n:Nat→Int} {side:Nat} (h:casB (n 0).toNat=false):castB n side=false:=by rw [castB_parts,h];simp
theorem castB_k {n:Nat→Int} {side:Nat} (h:kingOk n=false):castB n side=false:=by rw [castB_parts,h];simp
theorem castB_r {n:Nat→Int} {side:Nat} (h:rookOk n side=false):castB n side=false:=by rw [castB_parts,h];simp
theorem kingOk_rng {n:Nat→Int} {t hm k:Int} (ht:n 78=t) (hk:kSq n=k) (he:hm=56*t) (h01:t=0∨t=1):kingOk n=(decide (hm≤k)&&decide (k≤hm+7)):=by
 unfold kingOk
 rw [hk,ht,Bool.eq_iff_iff,Bool.and_eq_true,Bool.and_eq_true,decide_eq_true_iff,decide_eq_true_iff,decide_eq_true_iff,beq_iff_eq]
 omega
theorem rookOk_f {n:Nat→Int} {side:Nat} (h:¬(0≤rFile n side∧rFile n side≤7)):rookOk n side=false:=by
 unfold rookOk
 by_cases h1:0≤rFile n side
 · rw [decide_eq_false (fun h2=>h ⟨h1,h2⟩)];simp
 · rw [decide_eq_false h1];rfl
theorem rookOk_is {n:Nat→Int} {side:Nat} {t k r:Int} (h01:t=0∨t=1) (ht:n 78=t) (hko:kingOk n=true) (hf:0≤rFile n side∧rFile n side≤7) (hk:kSq n=k) (hr:rSq n side=r) (r0:0≤r) :
 rookOk n side=(isN n r t 4&&(decide (k<r)==(side==0))):=by
 have hka:=king_at hko
 unfold rookOk
 rw [decide_eq_true hf.1,decide_eq_true hf.2,hr,hk,ht,← rook_at h01]
 have:isN n r t 4=((kndI (n (1+r.toNat))==4)&&(n (1+r.toNat) / 8==t)):=rfl
 rw [this]
 cases h4:((kndI (n (1+r.toNat))==4)&&(n (1+r.toNat) / 8==t)) with
 | false=>simp
 | true =>
   have hne:(r==k)=false:=by
    rw [beq_eq_false_iff_ne]
    rintro rfl
    rw [Bool.and_eq_true,beq_iff_eq] at h4
    rw [hk] at hka
    omega
   rw [hne];simp
theorem safe_same {n:Nat→Int} {t k r:Int} (h01:t=0∨t=1) (ht:n 78=t) (hk:ofP t 0 (n (1+k.toNat))=true) (hr:ofP t 0 (n (1+r.toNat))=true) (k0:0≤k) (k1:k<64) (r0:0≤r) (r1:r<64) (s:Int):safeQ (offN n k r) s=safeB n (offN n k r) s:=by
 have e0:offN n k r 0=n 0:=by unfold offN upd;rw [if_neg (by omega),if_neg (by omega)]
 have e78:offN n k r 78=n 78:=by unfold offN upd;rw [if_neg (by omega),if_neg (by omega)]
 unfold safeQ safeB
 rw [e0,e78,ht,of_off h01 hk hr]
theorem rook_ne {n:Nat→Int} {t k r:Int} (h01:t=0∨t=1) (hko:kingOk n=true) (hk:kSq n=k) (h:isN n r t 4=true):r≠k:=by
 rintro rfl
 have hka:=king_at hko
 have h2:((kndI (n (1+r.toNat))==4)&&(n (1+r.toNat) / 8==t))=true:=h
 rw [Bool.and_eq_true,beq_iff_eq] at h2
 rw [hk] at hka
 omega
theorem off_at {n:Nat→Int} {k r:Int} (i:Nat) (hi:i=0∨65≤i) (k0:0≤k) (k1:k<64) (r0:0≤r) (r1:r<64):offN n k r i=n i:=by unfold offN upd;rw [if_neg (by omega),if_neg (by omega)]
theorem bad_or {q:Nat→Int} {k r kg rg s:Int} {a b c d:Bool} (ha:withinB s k kg=a) (hb:withinB s r rg=b) (hc:isB (q (1+s.toNat))=c) (hd:safeQ q s=d):badB q k r kg rg s=(((a || b)&&c) || (a&&!d)):=by unfold badB;rw [ha,hb,hc,hd]
theorem own_king {n:Nat→Int} {t:Int} (ht:n 78=t) (hko:kingOk n=true):ofP t 0 (n (1+(kSq n).toNat))=true:=by
 have:=king_at hko
 unfold ofP
 rw [this.2.1,ht];simp
theorem own_rook {n:Nat→Int} {t r:Int} (h01:t=0∨t=1) (h:isN n r t 4=true):ofP t 0 (n (1+r.toNat))=true:=by
 have h2:((kndI (n (1+r.toNat))==4)&&(n (1+r.toNat) / 8==t))=true:=h
 rw [rook_at h01,beq_iff_eq] at h2
 unfold ofP
 rw [h2]
 rcases h01 with rfl | rfl <;> rfl
theorem may14_any (n:Nat→Int) (hn:PosOk n) (t:Int) (ht:n 78=t) (h01:t=0∨t=1) (side:Nat) (hs:side=0∨side=1) (w:World):Calls Tryz.prog 163 #[.agg (posA n),.int .i64 (side:Int)] w fun e w' => e = .returned (mayV14 n side)∧Below w.heap.size w w' := by
 obtain ⟨t,rfl⟩:∃ t' : Nat,t=(t' : Int):=⟨t.toNat,by omega⟩
 have ht1:t≤1:=by omega
 have hs1:side≤1:=by omega
 have hkd:kindAt (79+t*2+side)=.i8:=by rcases (show t=0∨t=1 by omega) with rfl | rfl <;> rcases hs with rfl | rfl <;> rfl
 have HGO:=hI (fun w=>goals14_any side hs w)
 have hkg:0≤kGoal side∧kGoal side≤7:=by rcases hs with rfl | rfl <;> decide
 have hrg:0≤rGoal side∧rGoal side≤7:=by rcases hs with rfl | rfl <;> decide
 have HWY:=hI (show wayOk n side=((fromTo (kSq n) (56*t+kGoal side)).all (emptyB (offN n (kSq n) (rSq n side)))&&(fromTo (rSq n side) (56*t+rGoal side)).all (emptyB (offN n (kSq n) (rSq n side)))&&(fromTo (kSq n) (56*t+kGoal side)).all (safeB n (offN n (kSq n) (rSq n side)))) by unfold wayOk homeC;rw [ht])
 generalize kGoal side=kg at *
 generalize rGoal side=rg at *
 obtain ⟨X,hX⟩:∃ X,w.alloc (.cells (posA n) 31)=X:=⟨_,rfl⟩
 obtain ⟨p0,hb⟩:=box1 w n X hX
 have HX:=hI hX
 have HB:=hI hb
 have HG:=hI (fun (W:World) (h:Below X.heap.size X W)=>(show (IsPos W w.heap.size∧rowOf W w.heap.size=posA n)∧W.cell? ⟨w.heap.size,78,none⟩=some (.int .u8 t)∧W.cell? ⟨w.heap.size,0,none⟩=some (.int .u8 (n 0))∧W.cell? ⟨w.heap.size,79+t*2+side,none⟩=some (.int .i8 (n (79+t*2+side))) from (fun p=>⟨p.rules,by rw [← ht];exact p.cell 78 (by decide),p.board 0 (by decide),by have:=p.cell (79+t*2+side) (by omega);rwa [hkd] at this⟩) (p0.below h p0.lt)))
 have hR:Below X.heap.size X X:=bR
 obtain ⟨⟨q0,r0⟩,c78,c0,cf⟩:=HG.out _ hR
 obtain ⟨z0,z1⟩:=hn.u8 0 (by decide) rfl
 have HCS:=hI (rcastles_any (n 0).toNat (by omega))
 rw [show (((n 0).toNat:Nat):Int)=n 0 by omega] at HCS
 have HNO:=hI (@mayV14_no n side)
 have HYES:=hI (@mayV14_yes n side)
 have ti0:(0:Int)≤t:=by omega
 have ti1:(t:Int)<2:=by omega
 have e78' : decide ((1:Int)<t)=false:=decide_eq_false (by omega)
 have w1:=IntWalk.i64_in (56*(t:Int)) (by omega)
 have w2:=IntWalk.i64_in (56*(t:Int)+7) (by omega)
 have w3:=IntWalk.i64_in (56*(t:Int)+8) (by omega)
 have w4:=IntWalk.i64_in (56*(t:Int)+kg) (by omega)
 have w5:=IntWalk.i64_in (56*(t:Int)+rg) (by omega)
 clear hX p0 hb
 cases hc:casB (n 0).toNat with
 | false =>
   rw [hc] at HCS
   have HV:=hI (HNO.out (castB_c hc))
   clear hc HG HWY
   go_enter Tryz.func163,Tryz.ntmps163
   go_wp2_with (first | rw [HX.out] | (go_at_call 198;refine (HCS.out _).mono ?_;rintro e w2 ⟨rfl,rfl⟩))
   go_ret3;exact ⟨ret_val HV.out.symm,HB.out.trans (hR.mono HB.out.size)⟩
 | true =>
 rw [hc] at HCS
 have HFD:=hI (find8_any n hn t 6 (by decide))
 have HKS:=hI (show firstB (ofN n t 6)=kSq n by unfold kSq;rw [ht])
 rw [HKS.out] at HFD
 have HKR:=hI (kingOk_rng (n:=n) (hm:=56*t) ht rfl rfl h01)
 have hrf:rFile n side=n (79+t*2+side):=by unfold rFile;rw [ht,Int.toNat_natCast,Nat.mul_comm]
 have hrs:rSq n side=56*t+n (79+t*2+side):=by unfold rSq homeC;rw [ht,hrf]
 obtain ⟨f0,f1⟩:=hn.i8 (79+t*2+side) (by omega) hkd
 obtain ⟨k0,k1⟩:=first_bd14 (ofN n t 6)
 rw [HKS.out] at k0 k1
 have HCC:=hI hc
 have HT:=hI ht
 have HRF:=hI hrf
 have HRS:=hI hrs
 have HRO:=hI (fun hko hf r0=>rookOk_is (side:=side) (n:=n) h01 ht hko hf rfl rfl r0)
 have HNE:=hI (fun hko h=>rook_ne (n:=n) (t:=t) (r:=rSq n side) h01 hko rfl h)
 have HOF:=hI (fun a b c d=>off_ok hn (k:=kSq n) (r:=rSq n side) a b c d)
 have HSA:=hI (fun hko hi a b c d s=>safe_same (n:=n) h01 ht (own_king ht hko) (own_rook h01 hi) (k:=kSq n) (r:=rSq n side) a b c d s)
 have HIS:=hI (fun (s:Int) (h:0≤s∧s<64)=>(show ∀ w,Calls Tryz.prog 130 #[.agg (posA n),.int .i64 s,.int .u8 t,.int .u8 4] w fun e w' => e = .returned (.bool (isN n s t 4))∧Below w.heap.size w w' from by have:=is8_any n hn s.toNat (by omega) t 4;rwa [show ((s.toNat:Nat):Int)=s by omega] at this))
 have HEE:=hI (fun a b c d=>(off_at (n:=n) (k:=kSq n) (r:=rSq n side) 78 (by omega) a b c d).trans ht)
 rw [hrf] at HRO
 clear hc ht hrf hrs
 generalize n (79+t*2+side)=f at *
 generalize rSq n side=r at *
 generalize kSq n=k at *
 go_enter Tryz.func163,Tryz.ntmps163
 go_wp2_with (first | rw [HX.out] | (go_at_call 198;refine (HCS.out _).mono ?_;rintro e w2 ⟨rfl,rfl⟩))
 refine (HFD.out _).mono ?_
 rintro e w3 ⟨rfl,h1⟩
 have hR:=bT hR h1
 clear h1
 obtain ⟨⟨q0,r0⟩,c78,c0,cf⟩:=HG.out _ hR
 by_cases ha:56*t≤k∧k≤56*t+7
 case neg =>
  have HV:=hI (HNO.out (castB_k (by rw [HKR.out];exact rng_no ha)))
  rcases (show decide (k<56*t)=true∨(decide (k<56*t)=false∧decide (56*t+7<k)=true) by rw [decide_eq_true_iff,decide_eq_true_iff,decide_eq_false_iff_not];omega) with d1 | ⟨d1,d2⟩
  all_goals
   clear ha
   go_wp2
   go_ret3;exact ⟨ret_val HV.out.symm,HB.out.trans (hR.mono HB.out.size)⟩
 have hko:kingOk n=true:=by rw [HKR.out,decide_eq_true ha.1,decide_eq_true ha.2];rfl
 have d1:decide (k<56*t)=false:=decide_eq_false (by omega)
 have d2:decide (56*t+7<k)=false:=decide_eq_false (by omega)
 by_cases hf:0≤f∧f≤7
 case neg =>
  have HV:=hI (HNO.out (castB_r (rookOk_f (by rw [HRF.out];exact hf))))
  rcases (show decide (f<0)=true∨(decide (f<0)=false∧decide (7<f)=true) by rw [decide_eq_true_iff,decide_eq_true_iff,decide_eq_false_iff_not];omega) with d3 | ⟨d3,d4⟩
  all_goals
   clear ha hf hko
   go_wp2
   go_ret3;exact ⟨ret_val HV.out.symm,HB.out.trans (hR.mono HB.out.size)⟩
 have d3:decide (f<0)=false:=decide_eq_false (by omega)
 have d4:decide (7<f)=false:=decide_eq_false (by omega)
 have hrr:=HRS.out
 have hr0:0≤r:=by omega
 have hr1:r<64:=by omega
 have kb0:0≤k:=by omega
 have w6:=IntWalk.i64_in (56*(t:Int)+f) (by omega)
 rw [← hrr] at w6
 have HHA:=hI ha
 have HHF:=hI hf
 have HKO:=hI hko
 have hro:=HRO.out hko hf hr0
 have HI:=hI (HIS.out r ⟨hr0,hr1⟩)
 have HCB:=hI (show castB n side=(rookOk n side&&wayOk n side) by rw [castB_parts,HCC.out,hko,HT.out,decide_eq_true (show (t:Int)≤1 by omega)];simp)
 clear ha hf hko hrr
 go_wp2_with fail
 rw [← HRS.out]
 refine (HI.out _).mono ?_
 rintro e w4 ⟨rfl,h1⟩
 have hR:=bT hR h1
 clear h1 q0 r0 c78 c0 cf
 obtain ⟨⟨q0,r0⟩,c78,c0,cf⟩:=HG.out _ hR
 cases his:isN n r t 4 with
 | false =>
   have HV:=hI (HNO.out (by rw [HCB.out,hro,his];rfl))
   clear hro his
   go_wp2
   go_ret3;exact ⟨ret_val HV.out.symm,HB.out.trans (hR.mono HB.out.size)⟩
 | true =>
 rw [his,Bool.true_and] at hro
 have HSM:=hI (fun a b c d s=>HSA.out HKO.out his a b c d s)
 have hne:=HNE.out HKO.out his
 clear his
 rcases (show (((side:Int)==0)=true∧((side:Int)==1)=false∧decide (r<k)=true∧rookOk n side=false)∨(((side:Int)==0)=false∧((side:Int)==1)=true∧decide (k<r)=true∧rookOk n side=false)∨(((side:Int)==0)=true∧((side:Int)==1)=false∧decide (r<k)=false∧rookOk n side=true)∨(((side:Int)==0)=false∧((side:Int)==1)=true∧decide (k<r)=false∧rookOk n side=true) by
  rw [hro]
  rcases hs with rfl | rfl
  · rcases (show r < k ∨ k < r by omega) with h | h
    · exact .inl ⟨rfl,rfl,decide_eq_true h,by rw [decide_eq_false (show ¬ k<r by omega)];rfl⟩
    · exact .inr (.inr (.inl ⟨rfl,rfl,decide_eq_false (by omega),by rw [decide_eq_true h];rfl⟩))
  · rcases (show r < k ∨ k < r by omega) with h | h
    · exact .inr (.inr (.inr ⟨rfl,rfl,decide_eq_false (by omega),by rw [decide_eq_false (show ¬ k<r by omega)];rfl⟩))
    · exact .inr (.inl ⟨rfl,rfl,decide_eq_true h,by rw [decide_eq_true h];rfl⟩)) with ⟨s0,s1,dl,hrk⟩ | ⟨s0,s1,dl,hrk⟩ | ⟨s0,s1,dl,hrk⟩ | ⟨s0,s1,dl,hrk⟩
 iterate 2
  · have HV := hideIt (HNO.out (by rw [HCB.out, hrk]; rfl))
    clear hro hrk
    go_wp2
    go_ret3;exact ⟨ret_val HV.out.symm,HB.out.trans (hR.mono HB.out.size)⟩
 all_goals
  have HCB:=hI (show castB n side=wayOk n side by rw [HCB.out,hrk,Bool.true_and])
  have HBN:=hI (bad_none (n:=n) (q:=offN n k r) (k:=k) (r:=r) (kg:=56*t+kg) (rg:=56*t+rg) (hm:=56*t) (fun s _ _=>HSM.out (by omega) (by omega) hr0 hr1 s) (by omega) (by omega) HHA.out (by have:=HRS.out;have:=HHF.out;omega) (by omega) (by omega))
  rw [← HWY.out,← HCB.out] at HBN
  have HOFF:=hI (HOF.out (by omega) (by omega) hr0 hr1)
  have HE78:=hI (HEE.out (by omega) (by omega) hr0 hr1)
  clear hro hrk
  generalize hqq:offN n k r=q at *
  have HQQ:=hI hqq
  obtain ⟨Q0,hQ0⟩:∃ Q0,w4.alloc (.cells (posA zeroN) 31)=Q0:=⟨_,rfl⟩
  obtain ⟨y0,hbQ0⟩:=box1 w4 zeroN Q0 hQ0
  obtain ⟨Q1,hQ1⟩:∃ Q1,Q0.setRow w4.heap.size (posA n)=Q1:=⟨_,rfl⟩
  have y1:PosAt Q1 w4.heap.size n:=by rw [← hQ1];exact y0.setRow n
  have hbQ1:Below w4.heap.size w4 Q1:=by rw [← hQ1];exact below_setRow hbQ0 lR _
  obtain ⟨Q2,hQ2⟩:∃ Q2,Q1.setCell ⟨w4.heap.size,1+k.toNat,none⟩ (.int .u8 0)=Q2:=⟨_,rfl⟩
  have y2:PosAt Q2 w4.heap.size (upd n (1+k.toNat) 0):=by rw [← hQ2];exact y1.setB _ (by omega) 0
  have hbQ2:Below w4.heap.size w4 Q2:=by rw [← hQ2];exact hbQ1.setCell (p:=⟨w4.heap.size,1+k.toNat,none⟩) lR _
  obtain ⟨Q3,hQ3⟩:∃ Q3,Q2.setCell ⟨w4.heap.size,1+r.toNat,none⟩ (.int .u8 0)=Q3:=⟨_,rfl⟩
  have y3:PosAt Q3 w4.heap.size q:=by rw [← hQ3,← HQQ.out];exact y2.setB _ (by omega) 0
  have hbQ3:Below w4.heap.size w4 Q3:=by rw [← hQ3];exact hbQ2.setCell (p:=⟨w4.heap.size,1+r.toNat,none⟩) lR _
  obtain ⟨i2,r2⟩:=y0.rules
  have b1:=y1.board (1+k.toNat) (by omega)
  have f1' := y1.free (1+k.toNat)
  have b2:=y2.board (1+r.toNat) (by omega)
  have f2' := y2.free (1+r.toNat)
  have kb1:k<64:=by omega
  have hzp:=zeroPos
  have HQ0:=hI hQ0
  have HQ1:=hI hQ1
  have HQ2:=hI hQ2
  have HQ3:=hI hQ3
  have HBE:=hI (HB.out.trans ((bT hR hbQ3).mono HB.out.size))
  have HY:=hI y3
  have HS0:=hI (fun s s0 s1=>safe14_any q HOFF.out t HE78.out h01 s s0 s1)
  have HKN:=hI (fun (s:Int) (s0:0≤s) (s1:s<64)=>(show 0≤q (1+s.toNat)∧q (1+s.toNat)≤255 from HOFF.out.u8 _ (by omega) (kB (by omega))))
  clear hQ0 y0 hbQ0 hQ1 y1 hbQ1 hQ2 y2 hbQ2 hQ3 y3 hbQ3 hqq hs h01 hne
  go_wp2_with (first | rw [HQ0.out] | rw [HQ1.out] | rw [HQ2.out] | rw [HQ3.out] | (go_at_call 165;refine (HGO.out _).mono ?_;rintro e w5 ⟨rfl,rfl⟩))
  go_loopw [14] (fun i wr=>∃ (j:Nat) (s:Int),j≤8∧s=56*(t:Int)+(j:Int)∧i=.int .i64 s∧Hid (∀ i' : Nat,i' < 8→i' < j→badB q k r (56*t+kg) (56*t+rg) (56*t+(i' : Int))=false)∧Below Q3.heap.size Q3 wr) (fun i _=>56*t+9 - (intOf i).toNat)
  case atStart=>exact ⟨0,56*t,by omega,by omega,rfl,hI (fun _ _ h=>absurd h (Nat.not_lt_zero _)),bR⟩
  case round =>
   obtain ⟨j,s,hj,hs,rfl,hno,hr⟩:=hrel
   by_cases hlt:j<8
   · have s0' : 0 ≤ s := by omega
     have s1' : s<64:=by omega
     have py:=HY.out.below hr HY.out.lt
     obtain ⟨i3,r3⟩:=py.rules
     have cb:=py.board (1+s.toNat) (by omega)
     obtain ⟨v0,v1⟩:=HKN.out s s0' s1'
     have HSF:=hI (HS0.out s s0' s1')
     have HWA:=hI (within_any s k (56*t+kg))
     have HWB:=hI (within_any s r (56*t+rg))
     have HKD:=hI (k8_any _ v0 v1)
     have HKP:=hI (show ∀ x:Int,(kndI x != 0)=isB x from fun x=>by
      cases hi:isB x with
      | true=>have:=knd_pos hi;exact bne_iff_ne.2 (by omega)
      | false=>rw [knd_none hi];rfl)
     have HBO:=hI (fun a b c d ha hb hc hd=>@bad_or q k r (56*t+kg) (56*t+rg) s a b c d ha hb hc hd)
     have HJ:=hI (show badB q k r (56*t+kg) (56*t+rg) (56*t+(j:Int))=badB q k r (56*t+kg) (56*t+rg) s by rw [hs])
     have HNX:=hI (show badB q k r (56*t+kg) (56*t+rg) s=false→∀ i' : Nat,i' < 8→i' < j+1→badB q k r (56*t+kg) (56*t+rg) (56*t+(i' : Int))=false from fun h i' h8 hi' => by
      by_cases e:i' = j
      · rw [e,HJ.out];exact h
      · exact hno.out i' h8 (by omega))
     have HBAD:=hI (show badB q k r (56*t+kg) (56*t+rg) s=true→castB n side=false from fun h=>by
      cases hcb:castB n side with
      | false=>rfl
      | true=>have:=HBN.out.2 hcb j hlt;rw [HJ.out,h] at this;cases this)
     have HSJ:=hI hs
     have dl8:decide (s<56*t+8)=true:=decide_eq_true (by omega)
     clear py hno hs
     obtain ⟨wa,hw⟩:∃ wa,withinB s k (56*t+kg)=wa:=⟨_,rfl⟩
     obtain ⟨wb,hw2⟩:∃ wb,withinB s r (56*t+rg)=wb:=⟨_,rfl⟩
     obtain ⟨wc,hc⟩:∃ wc,isB (q (1+s.toNat))=wc:=⟨_,rfl⟩
     obtain ⟨wd,hd⟩:∃ wd,safeQ q s=wd:=⟨_,rfl⟩
     have HBO:=hI (HBO.out wa wb wc wd hw hw2 hc hd)
     rw [hw] at HWA
     rw [hw2] at HWB
     rw [hd] at HSF
     have hkp:=(HKP.out (q (1+s.toNat))).trans hc
     clear hw hw2 hc hd
     generalize q (1+s.toNat)=x at *
     cases wa <;> cases wb <;> cases wc <;> cases wd
     all_goals
      rcases (show badB q k r (56*t+kg) (56*t+rg) s=true∨badB q k r (56*t+kg) (56*t+rg) s=false by rw [HBO.out];first | exact .inl rfl | exact .inr rfl) with hbd | hbd
      all_goals first | (exfalso;rw [HBO.out] at hbd;exact Bool.noConfusion hbd) | skip
      all_goals
       have HBD:=hI hbd
       clear hbd
       go_wp2_with (first | (go_at_call_of 199 (Value.int IntKind.i64 k);refine (HWA.out _).mono ?_;rintro e w6 ⟨rfl,rfl⟩) | (go_at_call_of 199 (Value.int IntKind.i64 r);refine (HWB.out _).mono ?_;rintro e w6 ⟨rfl,rfl⟩) | (go_at_call 63;refine (HKD.out _).mono ?_;rintro e w6 ⟨rfl,rfl⟩) | (go_at_call 200;refine (HSF.out _).mono ?_;rintro e w6 ⟨rfl,h1⟩;have hr:=bT hr h1;clear h1))
       first
       | (go_ret3;exact ⟨ret_val (HNO.out (HBAD.out HBD.out)).symm,HBE.out.trans (hr.mono HBE.out.size)⟩)
       | (go_roundw
          case rel=>exact ⟨j+1,s+1,by omega,by have:=HSJ.out;omega,by go_num,hI (HNX.out HBD.out),hr⟩
          case measure=>have:=HSJ.out;simp [intOf];omega)
   · obtain rfl : j = 8 := by omega
     have dl8:decide (s<56*t+8)=false:=decide_eq_false (by omega)
     have HV:=hI (HYES.out (HBN.out.1 (fun i hi=>hno.out i hi hi)))
     clear hs
     clear hno
     go_wp2
     go_ret3
     exact ⟨ret_val HV.out.symm,HBE.out.trans (hr.mono HBE.out.size)⟩
theorem castB_bd {n:Nat→Int} {side:Nat} (h:castB n side=true):(0≤kSq n∧kSq n<64)∧0≤rSq n side∧rSq n side<64:=by
 rw [castB_parts] at h
 simp only [Bool.and_eq_true,decide_eq_true_iff] at h
 obtain ⟨⟨⟨⟨h1,_⟩,h2⟩,h3⟩,_⟩:=h
 refine ⟨kSq_bd h2,?_⟩
 unfold rookOk at h3
 simp only [Bool.and_eq_true,decide_eq_true_iff] at h3
 obtain ⟨⟨⟨⟨a1,a2⟩,_⟩,_⟩,_⟩:=h3
 have hk:=kSq_bd h2
 unfold kingOk at h2
 rw [Bool.and_eq_true,decide_eq_true_iff,beq_iff_eq] at h2
 unfold rSq homeC
 omega
theorem list14_any (n:Nat→Int) (hn:PosOk n) (t:Int) (ht:n 78=t) (h01:t=0∨t=1) (w:World):Calls Tryz.prog 102 #[.agg (posA n)] w fun e w' => ∃ v,e=.returned v∧OwnsM w' w.heap.size v (castleL n)∧Below w.heap.size w w' := by
 obtain ⟨i0,hi,hz0,hz1,hz2⟩:=info_parts infoM
 obtain ⟨X,hX⟩:∃ X,w.alloc (.cells (posA n) 31)=X:=⟨_,rfl⟩
 obtain ⟨p0,hb⟩:=box1 w n X hX
 have HX:=hI hX
 have HI:=hI hi
 have HB:=hI hb
 have HG:=hI (fun (W:World) (h:Below X.heap.size X W)=>(p0.below h p0.lt).rules)
 have HM1:=hI (may14_any n hn t ht h01 1 (.inr rfl))
 have HM0:=hI (may14_any n hn t ht h01 0 (.inl rfl))
 have HC1:=hI (show accC n 1=castIf n 1 from rfl)
 have HC2:=hI (show accC n 2=castIf n 1 ++ castIf n 0 from rfl)
 have HCL2:=hI (show castleL n=accC n 2 from rfl)
 have HI1:=hI (show castIf n 1=if castB n 1=true then [castM n 1] else [] from rfl)
 have HI0:=hI (show castIf n 0=if castB n 0=true then [castM n 0] else [] from rfl)
 have hR:Below X.heap.size X X:=bR
 have HA:=hI (show OwnsM X X.heap.size (.slice none 0 0) (accC n 0)∧Below X.heap.size X X from ⟨World.ownsRow_nil _ _ _ _,hR⟩)
 clear hX p0 hb hi hR
 go_enter Tryz.func102,Tryz.ntmps102
 go_wp2_with (first | rw [HX.out])
 go_loopg [3,4] 2 (fun g v i wr=>∃ k:Nat,k+g=2∧i=.int .i64 (1 - (k:Int))∧OwnsM wr X.heap.size v (accC n k)∧Below X.heap.size X wr)
 case atStart=>exact ⟨0,rfl,rfl,HA.out⟩
 case round =>
  clear HA
  obtain ⟨j,hgj,rfl,hown,hr⟩:=hrel
  have hj:j=0∨j=1∨j=2:=by omega
  rcases hj with rfl | rfl | rfl
  · obtain ⟨q0, r0⟩ := HG.out _ hr
    have HOWN:=hI hown
    clear hown
    cases hb1:castB n 1 with
    | false =>
      have hmv:=mayV14_no hb1
      rw [hmv] at HM1
      have HACC:=hI (show accC n 1=accC n 0 by rw [HC1.out,HI1.out,if_neg (by rw [hb1];decide)];rfl)
      clear hb1 hmv
      go_wp2_with fail
      refine (HM1.out _).mono ?_
      rintro e w3 ⟨rfl,h1⟩
      have hown3:=HOWN.out.kept h1 lR
      have hr3:=bT hr h1
      have hsz3:=hr3.size
      have HO3:=hI hown3
      clear h1 q0 r0 hr
      clear hown3
      go_wp2
      go_roundg 1
      case measure=>omega
      case rel=>exact ⟨1,rfl,by go_num,by rw [HACC.out];exact HO3.out,hr3⟩
    | true =>
      have hmv:=mayV14_yes hb1
      rw [hmv] at HM1
      have HACC:=hI (show accC n 1=accC n 0 ++ [castM n 1] by rw [HC1.out,HI1.out,if_pos hb1];rfl)
      obtain ⟨⟨k0,k1⟩,q2,q3⟩:=castB_bd hb1
      have HCM:=hI (show castM n 1=⟨kSq n,rSq n 1,0,0,true⟩ from rfl)
      clear hb1 hmv
      generalize kSq n=k at *
      generalize rSq n 1=r at *
      have WK:IntKind.i8.wrap k=k:=IntWalk.i8_in _ (by omega)
      have WR:IntKind.i8.wrap r=r:=IntWalk.i8_in _ (by omega)
      go_wp2_with fail
      refine (HM1.out _).mono ?_
      rintro e w3 ⟨rfl,h1⟩
      have hown3:=HOWN.out.kept h1 lR
      have hr3:=bT hr h1
      have hsz3:=hr3.size
      have HO3:=hI hown3
      clear h1 q0 r0 hr
      have hla:(accC n 0).length≤10:=by unfold accC;simp
      generalize accC n 0=acc at *
      have bld:∀ w,(Instr.build 49 #[(0,.int .i8 k),(1,.int .i8 r),(4,.bool true)]).run Tryz.prog w=.ok (.agg #[.int .i8 k,.int .i8 r,.int .u8 0,.int .u8 0,.bool true]) w:=fun _=>by kernel_rfl
      go_wp2_with (first | (at_builtin;refine wpList_append_new _ rfl _ _ 41 rfl X.heap.size 49 i0 (.agg #[.int .i8 0,.int .i8 0,.int .u8 0,.int .u8 0,.bool false]) 5 5 Tryz.underlying41 HI.out hz0 hz1 hz2 rfl (by decide) u3 _ _ rfl (World.ownsRow.alloc hown3 _) ⟨w3.heap.size,0,none⟩ 1 1 (⟨k,r,0,0,true⟩:Mv).cells rfl rfl (cells5_new _ _ _ _ _ _ _) (by simp [Mv.cells,Value.oneCell']) (by unfold maxLen;omega) (by omega) (by simp;omega) (by decide) ?_;intro v' w5 hown' hgrow3 hnew))
      go_roundg 1
      case measure=>omega
      case rel=>exact ⟨1,rfl,by go_num,by rw [HACC.out,HCM.out];exact OwnsM.app hown',OwnsM.grown hown3 hr3 hsz3 _ hgrow3⟩
  · obtain ⟨q0, r0⟩ := HG.out _ hr
    have HOWN:=hI hown
    clear hown
    cases hb1:castB n 0 with
    | false =>
      have hmv:=mayV14_no hb1
      rw [hmv] at HM0
      have HACC:=hI (show accC n 2=accC n 1 by rw [HC2.out,HC1.out,HI0.out,if_neg (by rw [hb1];decide)];exact List.append_nil _)
      clear hb1 hmv
      go_wp2_with fail
      refine (HM0.out _).mono ?_
      rintro e w3 ⟨rfl,h1⟩
      have hown3:=HOWN.out.kept h1 lR
      have hr3:=bT hr h1
      have hsz3:=hr3.size
      have HO3:=hI hown3
      clear h1 q0 r0 hr
      clear hown3
      go_wp2
      go_roundg 0
      case measure=>omega
      case rel=>exact ⟨2,rfl,by go_num,by rw [HACC.out];exact HO3.out,hr3⟩
    | true =>
      have hmv:=mayV14_yes hb1
      rw [hmv] at HM0
      have HACC:=hI (show accC n 2=accC n 1 ++ [castM n 0] by rw [HC2.out,HC1.out,HI0.out,if_pos hb1])
      obtain ⟨⟨k0,k1⟩,q2,q3⟩:=castB_bd hb1
      have HCM:=hI (show castM n 0=⟨kSq n,rSq n 0,0,0,true⟩ from rfl)
      clear hb1 hmv
      generalize kSq n=k at *
      generalize rSq n 0=r at *
      have WK:IntKind.i8.wrap k=k:=IntWalk.i8_in _ (by omega)
      have WR:IntKind.i8.wrap r=r:=IntWalk.i8_in _ (by omega)
      go_wp2_with fail
      refine (HM0.out _).mono ?_
      rintro e w3 ⟨rfl,h1⟩
      have hown3:=HOWN.out.kept h1 lR
      have hr3:=bT hr h1
      have hsz3:=hr3.size
      have HO3:=hI hown3
      clear h1 q0 r0 hr
      have hla:(accC n 1).length≤10:=by rw [HC1.out];unfold castIf;split <;> simp
      generalize accC n 1=acc at *
      have bld:∀ w,(Instr.build 49 #[(0,.int .i8 k),(1,.int .i8 r),(4,.bool true)]).run Tryz.prog w=.ok (.agg #[.int .i8 k,.int .i8 r,.int .u8 0,.int .u8 0,.bool true]) w:=fun _=>by kernel_rfl
      go_wp2_with (first | (at_builtin;refine wpList_append_new _ rfl _ _ 41 rfl X.heap.size 49 i0 (.agg #[.int .i8 0,.int .i8 0,.int .u8 0,.int .u8 0,.bool false]) 5 5 Tryz.underlying41 HI.out hz0 hz1 hz2 rfl (by decide) u3 _ _ rfl (World.ownsRow.alloc hown3 _) ⟨w3.heap.size,0,none⟩ 1 1 (⟨k,r,0,0,true⟩:Mv).cells rfl rfl (cells5_new _ _ _ _ _ _ _) (by simp [Mv.cells,Value.oneCell']) (by unfold maxLen;omega) (by omega) (by simp;omega) (by decide) ?_;intro v' w5 hown' hgrow3 hnew))
      go_roundg 0
      case measure=>omega
      case rel=>exact ⟨2,rfl,by go_num,by rw [HACC.out,HCM.out];exact OwnsM.app hown',OwnsM.grown hown3 hr3 hsz3 _ hgrow3⟩
  · have HE := hideIt (show OwnsM wr w.heap.size u3 (castleL n) from by rw [HCL2.out]; exact hown.less HB.out.size)
    clear hown
    go_wp2
    go_ret
    exact ⟨_,rfl,HE.out,HB.out.trans (hr.mono HB.out.size)⟩
def rigS (q0:Nat→Int) (m:Mv) (tk:Int):Nat→Nat→Int
 | 0=>q0
 | i+1=>rig1 (rigS q0 m tk i) m tk (i / 2) (i % 2)
theorem rigN_is (n q:Nat→Int) (m:Mv) (tk:Int):rigN n q m tk=rigS (rig0 n q m) m tk 4:=rfl
theorem rig1_board (q:Nat→Int) (m:Mv) (tk:Int) (c side:Nat) (i:Nat) (hi:i≤78):rig1 q m tk c side i=q i:=by
 unfold rig1
 split
 · unfold upd;rw [if_neg (by omega)]
 · rfl
theorem rigS_board (q0:Nat→Int) (m:Mv) (tk:Int) (i:Nat) (hi:i≤78):∀ k,rigS q0 m tk k i=q0 i
 | 0=>rfl
 | k+1=>by unfold rigS;rw [rig1_board _ _ _ _ _ i hi,rigS_board q0 m tk i hi k]
theorem rigS_of (q0:Nat→Int) (m:Mv) (tk:Int) (c k:Int) (i:Nat):ofN (rigS q0 m tk i) c k=ofN q0 c k :=
 selN_same (ofP c k) _ _ (fun j hj=>rigS_board q0 m tk (1+j) (by omega) i) 64 (Nat.le_refl 64)
/-- What the reference asks. -/
def goneR (q:Nat→Int) (m:Mv) (tk king:Int) (c:Nat) (s:Int):Bool :=
 decide (king<56*(c:Int)) || decide (56*(c:Int)+7<king) || !isN q s (c:Int) 4 || (tk==s) || ((m.d==0)&&(m.f==s))
theorem gone_same (q:Nat→Int) (m:Mv) (tk:Int) (c:Nat) (hc:c=0∨c=1) (s:Int) (s0:0≤s) (s1:s<64):goneB q m tk c s=goneR q m tk (firstB (ofN q (c:Int) 6)) c s:=by
 unfold goneB goneR
 have hk:-1≤firstB (ofN q (c:Int) 6)∧firstB (ofN q (c:Int) 6)<64:=by
  rcases first_cases (ofN q (c:Int) 6) with ⟨_,h⟩ | ⟨i,hi,_,_,h⟩ <;> rw [h] <;> omega
 have h1:isN q s (c:Int) 4=(q (1+s.toNat)==8*(c:Int)+4):=by
  rw [← rook_at (t:=(c:Int)) (by omega)];rfl
 have h2:(decide (firstB (ofN q (c:Int) 6)<0) || !(firstB (ofN q (c:Int) 6) / 8==7*(c:Int)))=(decide (firstB (ofN q (c:Int) 6)<56*(c:Int)) || decide (56*(c:Int)+7<firstB (ofN q (c:Int) 6))):=by
  generalize firstB (ofN q (c:Int) 6)=k at *
  rw [Bool.eq_iff_iff,Bool.or_eq_true,Bool.or_eq_true,decide_eq_true_iff,decide_eq_true_iff,decide_eq_true_iff,Bool.not_eq_true',beq_eq_false_iff_ne]
  rcases hc with rfl | rfl <;> omega
 rw [h1,← h2]
 generalize decide (firstB (ofN q (c:Int) 6)<0)=a
 generalize (firstB (ofN q (c:Int) 6) / 8==7*(c:Int))=b
 generalize (q (1+s.toNat)==8*(c:Int)+4)=d
 generalize (tk==s)=e
 generalize ((m.d==0)&&(m.f==s))=f
 cases a <;> cases b <;> cases d <;> cases e <;> cases f <;> rfl
theorem wfi8 {x:Int} (h0:-128≤x) (h1:x≤127):(Lit.int .i8 x).wf=true:=by
 simp [Lit.wf]
 have e1:IntKind.i8.min=-128:=by decide
 have e2:IntKind.i8.max=127:=by decide
 omega
theorem rig1_ok {q:Nat→Int} (hq:PosOk q) (m:Mv) (tk:Int) (c side:Nat) (hc:c≤1) (hs:side≤1):PosOk (rig1 q m tk c side):=by
 unfold rig1
 split
 · refine upd_ok hq ?_
   have:kindAt (79+2*c+side)=.i8:=by
    have h:(79+2*c+side=79∨79+2*c+side=80)∨(79+2*c+side=81∨79+2*c+side=82):=by omega
    rcases h with (h | h) | (h | h) <;> rw [h] <;> rfl
   rw [this];exact wfi8 (by decide) (by decide)
 · exact hq
theorem rigS_ok {q0:Nat→Int} (hq:PosOk q0) (m:Mv) (tk:Int):∀ k,k≤4→PosOk (rigS q0 m tk k)
 | 0,_=>hq
 | k+1,h=>rig1_ok (rigS_ok hq m tk k (by omega)) m tk _ _ (by omega) (by omega)
theorem rig0_ok {n q:Nat→Int} (hq:PosOk q) (ht:n 78=0∨n 78=1) (m:Mv):PosOk (rig0 n q m):=by
 unfold rig0
 split
 · have h1 : (Lit.int .i8 (-1)).wf = true := wfi8 (by decide) (by decide)
   rcases ht with e | e <;> rw [e]
   · exact upd_ok (i:=80) (upd_ok (i:=79) hq h1) h1
   · exact upd_ok (i:=82) (upd_ok (i:=81) hq h1) h1
 · exact hq
theorem pass_bd {n q:Nat→Int} {m:Mv} (f0:0≤m.f) (f1:m.f<64) (t0:0≤m.t) (t1:m.t<64):-1≤passI n q m∧passI n q m<64:=by
 unfold passI
 split
 · omega
 · split
   · omega
   · split <;> omega
end Go.Proofs.YteocjaihaegmoaaGreatDoor
