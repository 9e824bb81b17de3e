/- Parts of the proof: A1, AO. -/
import Derived.Test.YteocjaihaegmoaaGreatDoorWBA
import Derived.Test.YteocjaihaegmoaaGreatDoorWBE
import Derived.Test.YteocjaihaegmoaaGreatDoorWBG
import Derived.Laws.AppendOwnNone
set_option linter.unusedVariables false
set_option maxHeartbeats 4000000
set_option maxRecDepth 100000
namespace Go.Proofs.YteocjaihaegmoaaGreatDoor
open Go Go.RowKit
theorem OwnsM.src {w:World} {B:Nat} {v:Value} {l:List Mv} (h:OwnsM w B v l):(v=.slice none 0 0∧l=[])∨∃ g cap,v=.slice (some ⟨g,0,none⟩) l.length cap∧∀ j u,(cellsL l)[j]?=some u→w.cell? ((⟨g,0,none⟩:Addr).add j)=some u:=by
 have h0:w.ownsRow B 49 5 v l.length (cellsL l):=h
 rcases h.2 with ⟨hv,hx⟩ | ⟨g,cap,cur,hv,rest⟩
 · exact .inl ⟨hv,List.eq_nil_of_length_eq_zero hx⟩
 · subst hv
   exact .inr ⟨g,cap,rfl,World.ownsRow.cells h0 rfl⟩
theorem OwnsM.len {w:World} {B:Nat} {v:Value} {l:List Mv} (h:OwnsM w B v l):∃ a c,v=.slice a l.length c:=by
 rcases h.src with ⟨hv,hl⟩ | ⟨g,c,hv,_⟩
 · subst hl;exact ⟨_,_,hv⟩
 · exact ⟨_,_,hv⟩
theorem oneCells (l:List Mv):∀ u∈cellsL l,u.oneCell' = true:=by
 intro u hu
 unfold cellsL at hu
 rw [List.mem_flatMap] at hu
 obtain ⟨m,_,hm⟩:=hu
 unfold Mv.cells at hm
 simp at hm
 rcases hm with rfl | rfl | rfl | rfl | rfl <;> rfl
/-- Onto a row of its own, the moves of another slice. -/
theorem wpList_append_mvs {w:World} {ops:Array Oper} {rest:List Oper} {o:Oper} {a:Act} {Q:Exit→Act→World→Prop} (hg:o.guard=none) (s x:Operand)
 (hop:o.op=Op.call { callee:=Callee.builtin Builtin.append,args:=#[s,x],argTypes:=#[41,41] })
 (B B2:Nat) (v v2:Value) (l l2:List Mv) (hs:a.eval s=v) (hown:OwnsM w B v l) (hx:a.eval x=v2) (hown2:OwnsM w B2 v2 l2) (hlen:l.length+l2.length≤100000) (hB:B≤w.heap.size)
 (hK:∀ v' w',OwnsM w' B v' (l ++ l2)→w.grownBy w' v.ownBlock→wpList Tryz.prog ops Q rest (a.put o.dst v') w'):wpList Tryz.prog ops Q (o :: rest) a w:=by
 obtain ⟨i0,hi,hz0,hz1,hz2⟩:=info_parts infoM
 rcases hown2.src with ⟨hv2,rfl⟩ | ⟨g,cap,hv2,hc⟩
 · refine wpList_append_own_none hg s x 41 hop B 49 i0 5 Tryz.underlying41 hi v l.length (cellsL l) hs hown (hx.trans hv2) ?_
   exact hK v w (by rw [List.append_nil];exact hown) ⟨rfl,rfl,rfl,Nat.le_refl _,fun _ _ _=>rfl⟩
 · refine wpList_append_own w hg s x 41 hop B 49 i0 (.agg #[.int .i8 0, .int .i8 0, .int .u8 0, .int .u8 0, .bool false]) 5 5 Tryz.underlying41 hi hz0 hz1 hz2 rfl (by decide) v l.length (cellsL l) hs hown ⟨g, 0, none⟩ l2.length cap (cellsL l2) (hx.trans hv2) (cellsL_len l2) hc (oneCells l2) (by unfold maxLen; omega) (by omega) hB ?_
   intro v' w' h1 h2 _
   refine hK v' w' ?_ h2
   unfold OwnsM
   rw [cellsL_app,List.length_append]
   exact h1
theorem castleL_len (n:Nat→Int):(castleL n).length≤2:=by
 unfold castleL castIf
 rw [List.length_append]
 split <;> split <;> simp
theorem pseuL_is {n:Nat→Int} (ht:n 78=0∨n 78=1) (hv:n 0<9):pseuL n=pseudoL n:=by
 unfold pseuL thereN
 rw [decide_eq_true hv,decide_eq_true (by omega)];rfl
theorem all16_any (n:Nat→Int) (hn:PosOk n) (t:Int) (ht:n 78=t) (h01:t=0∨t=1) (hv:n 0<9) (w:World):Calls Tryz.prog 42 #[.agg (posA n)] w fun e w' => ∃ v,e=.returned v∧OwnsM w' w.heap.size v (allL n)∧Below w.heap.size w w' := by
 obtain ⟨X,hX⟩:∃ X,w.alloc (.cells (posA n) 31)=X:=⟨_,rfl⟩
 obtain ⟨p0,hb⟩:=box1 w n X hX
 have HX:=hI hX
 have HB:=hI hb
 have HG:=hI (fun (W:World) (h:Below X.heap.size X W)=>(p0.below h p0.lt).rules)
 obtain ⟨z0,z1⟩:=hn.u8 0 (by decide) rfl
 have HL1:=hI (list13_any n hn t ht h01 hv)
 have HL2:=hI (list14_any n hn t ht h01)
 have HL3:=hI (rdl_any n hn (n 0).toNat (n 78).toNat (by omega) (by omega) (by omega))
 have HPS:=hI ((pseuL_is (n:=n) (by omega) hv).trans (pseudo_same n (by omega)))
 have hl1:=rpseudoK_len n 64
 have hl2:=castleL_len n
 have hl3:=dropL_len n (n 0).toNat (n 78).toNat
 have HD:=hI (show allL n=pseuL n ++ castleL n ++ dropL n (n 0).toNat (n 78).toNat from rfl)
 rw [HPS.out] at HD
 have hR:Below X.heap.size X X:=bR
 obtain ⟨q0,r0⟩:=HG.out _ hR
 clear hX p0 hb
 generalize rpseudoK n 64=l1 at *
 generalize castleL n=l2 at *
 generalize dropL n (n 0).toNat (n 78).toNat=l3 at *
 go_enter Tryz.func42,Tryz.ntmps42
 go_wp2_with (first | rw [HX.out])
 refine (HL1.out _).mono ?_
 rintro e w1 ⟨v1,rfl,ho1,h1⟩
 have hR:=bT hR h1
 clear h1 q0 r0
 obtain ⟨q0,r0⟩:=HG.out _ hR
 have hs1:=hR.size
 have hn1:OwnsM w1 X.heap.size (.slice none 0 0) []:=World.ownsRow_nil _ _ _ _
 have HR1:=hI hR
 go_wp2_with (at_builtin;refine wpList_append_mvs rfl _ _ rfl X.heap.size X.heap.size (.slice none 0 0) v1 [] l1 rfl hn1 rfl ho1 (by simp;omega) hs1 ?_;intro v4 w4 ho4 hg4)
 have hR:=hR.grown hg4 hR.size (fun k e=>(hn1.row e).1)
 clear ho1 hn1 hg4 hs1 q0 r0 HR1
 obtain ⟨q0,r0⟩:=HG.out _ hR
 go_simp
 go_wp2_with fail
 refine (HL2.out _).mono ?_
 rintro e w5 ⟨v5,rfl,ho5,h1⟩
 have ho4:=ho4.kept h1 lR
 have hR:=bT hR h1
 clear h1 q0 r0
 obtain ⟨q0,r0⟩:=HG.out _ hR
 have hs5:=hR.size
 go_wp2_with (at_builtin;refine wpList_append_mvs rfl _ _ rfl X.heap.size w4.heap.size v4 v5 ([] ++ l1) l2 rfl ho4 rfl ho5 (by simp;omega) hs5 ?_;intro v6 w6 ho6 hg6)
 have hR:=hR.grown hg6 hR.size (fun k e=>(ho4.row e).1)
 clear ho4 ho5 hg6 hs5 q0 r0
 obtain ⟨q0,r0⟩:=HG.out _ hR
 go_simp
 go_wp2_with fail
 refine (HL3.out _).mono ?_
 rintro e w7 ⟨v7,rfl,ho7,h1⟩
 have ho6:=ho6.kept h1 lR
 have hR:=bT hR h1
 clear h1 q0 r0
 have hs7:=hR.size
 go_wp2_with (at_builtin;refine wpList_append_mvs rfl _ _ rfl X.heap.size w6.heap.size v6 v7 ([] ++ l1 ++ l2) l3 rfl ho6 rfl ho7 (by simp;omega) hs7 ?_;intro v8 w8 ho8 hg8)
 have hR:=hR.grown hg8 hR.size (fun k e=>(ho6.row e).1)
 clear ho6 ho7 hg8 hs7
 go_ret
 exact ⟨_,rfl,by rw [HD.out];exact ho8.less HB.out.size,HB.out.trans (hR.mono HB.out.size)⟩
@[reducible] def mvV (m : Mv) : Value := .agg #[.int .i8 m.f, .int .i8 m.t, .int .u8 m.p, .int .u8 m.d, .bool m.c]
/-- A closure that asks something of the moves of a list, in all worlds behind one. -/
def AsksM (B:Nat) (w:World) (f:Nat) (lb:Array Value) (p:Mv→Bool) (l:List Mv):Prop :=
 ∀ m∈l,∀ W,Below B w W→Calls Tryz.prog f (#[mvV m] ++ lb) W fun e W' => e = .returned (.bool (p m))∧Below W.heap.size W W'
def FirstAt (p:Mv→Bool) (l:List Mv) (i:Int):Prop:=(i=-1∧∀ m∈l,p m=false)∨∃ (k:Nat) (hk:k<l.length),i=k∧p l[k]=true∧∀ m∈l.take k,p m=false
theorem take_all {p:Mv→Bool} {l:List Mv} {k:Nat} (hk:k<l.length) (h:∀ m∈l.take k,p m=false) (hn:p l[k]=false):∀ m∈l.take (k+1),p m=false:=by
 intro m hm
 rw [List.take_succ_eq_append_getElem hk,List.mem_append,List.mem_singleton] at hm
 rcases hm with hm | rfl
 · exact h m hm
 · exact hn
theorem idxf_any (l:List Mv) (hlen:l.length≤1000000) (f:Nat) (lb:Array Value) (p:Mv→Bool) (eg:∀ args w,(callFunc f args).run Tryz.prog w=.ok (.enter f args) w) (w:World) (B:Nat) (v:Value) (h:OwnsM w B v l) (hp:AsksM w.heap.size w f lb p l) :
 Calls Tryz.prog 140 #[v,.func (.func f) #[] lb] w fun e w' => ∃ i:Int,e=.returned (.int .i64 i)∧FirstAt p l i∧Below w.heap.size w w' := by
 obtain ⟨a,c,rfl,hc⟩:=moves_slice h
 have HC:=hI hc
 have HP:=hI hp
 obtain ⟨n,hn⟩:∃ n,l.length=n:=⟨_,rfl⟩
 have HN:=hI hn
 rw [hn] at hlen ⊢
 clear hc hn h hp
 go_enter Tryz.func140,Tryz.ntmps140
 go_wp2
 go_loopw [8] (fun i wr=>∃ k:Nat,k≤n∧i=.int .i64 k∧(∀ m∈l.take k,p m=false)∧Below w.heap.size w wr) (fun i _=>n - (intOf i).toNat)
 case atStart=>exact ⟨0,by omega,rfl,by simp,bR⟩
 case round =>
  obtain ⟨k,hk,rfl,hnm,hr⟩:=hrel
  by_cases hlt:k<n
  · have hkl : k < l.length := by rw [HN.out]; exact hlt
    obtain ⟨g,rfl,_,hgl,p0,p1,p2,p3,p4⟩:=HC.out k hkl
    have HA:=hI (HP.out l[k] (List.getElem_mem hkl) wr hr)
    have HNM:=hI (take_all hkl hnm)
    have HF:=hI (fun (h:p l[k]=true)=>(show FirstAt p l k from .inr ⟨k,hkl,rfl,h,hnm⟩))
    have c0:=(hr.cell (p:=⟨g,k*5,none⟩) hgl).trans p0
    have c1:=(hr.cell (p:=⟨g,k*5+1,none⟩) hgl).trans p1
    have c2:=(hr.cell (p:=⟨g,k*5+2,none⟩) hgl).trans p2
    have c3:=(hr.cell (p:=⟨g,k*5+3,none⟩) hgl).trans p3
    have c4:=(hr.cell (p:=⟨g,k*5+4,none⟩) hgl).trans p4
    have HR:=hI hr
    have i0:(0:Int)≤(k:Int):=by omega
    have i1:(k:Int)<(n:Int):=by omega
    clear p0 p1 p2 p3 p4
    generalize l[k]=z at c0 c1 c2 c3 c4 HA HNM HF
    clear hkl hnm hr
    go_wp2_with fail
    refine HA.out.mono ?_
    rintro e V ⟨rfl,hb⟩
    have HV:=hI (HR.out.trans (hb.mono HR.out.size))
    clear hb c0 c1 c2 c3 c4
    cases hz:p z
    · have HNM := hideIt (HNM.out hz)
      go_wp2
      go_roundw
      case rel=>exact ⟨k+1,by omega,by go_num,HNM.out,HV.out⟩
      case measure=>simp [intOf];omega
    · have HF := hideIt (HF.out hz)
      go_wp2
      go_ret
      exact ⟨_,rfl,HF.out,HV.out⟩
  · obtain rfl : k = n := by omega
    have HE:=hI (show FirstAt p l (-1) from .inl ⟨rfl,by rw [← HN.out,List.take_length] at hnm;exact hnm⟩)
    have HR:=hI hr
    clear hnm hr
    go_wp2
    go_ret
    exact ⟨_,rfl,HE.out,HR.out⟩
theorem contf_any (l:List Mv) (hlen:l.length≤1000000) (f:Nat) (lb:Array Value) (p:Mv→Bool) (eg:∀ args w,(callFunc f args).run Tryz.prog w=.ok (.enter f args) w) (w:World) (B:Nat) (v:Value) (h:OwnsM w B v l) (hp:AsksM w.heap.size w f lb p l) :
 Calls Tryz.prog 76 #[v,.func (.func f) #[] lb] w fun e w' => e = .returned (.bool (l.any p))∧Below w.heap.size w w' := by
 have HI:=hI (idxf_any l hlen f lb p eg w B v h hp)
 go_enter Tryz.func76,Tryz.ntmps76
 go_wp2_with fail
 refine HI.out.mono ?_
 rintro e V ⟨i,rfl,hi,hb⟩
 have hd:decide (i≥0)=l.any p:=by
  rw [Bool.eq_iff_iff,decide_eq_true_iff,List.any_eq_true]
  rcases hi with ⟨rfl,hi⟩ | ⟨k,hk,rfl,hi,_⟩
  · constructor
    · intro h;omega
    · rintro ⟨m,hm,h⟩;rw [hi m hm] at h;cases h
  · exact ⟨fun _=>⟨_,List.getElem_mem hk,hi⟩,fun _=>by omega⟩
 have HD:=hI hd
 clear hd hi
 go_wp2
 go_ret
 exact ⟨rB HD.out,hb⟩
end Go.Proofs.YteocjaihaegmoaaGreatDoor
