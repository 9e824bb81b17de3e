/- Parts of the proof: BS. -/
import Derived.Test.YteocjaihaegmoaaGreatDoorWBD
import Derived.Great.BuildSlice
set_option linter.unusedVariables false
namespace Go.Proofs.YteocjaihaegmoaaGreatDoor
open Go Go.RowKit
def cellsP (l:List (Nat→Int)):List Value:=l.flatMap (fun n=>(posA n).toList)
theorem cellsP_app (l k:List (Nat→Int)):cellsP (l ++ k)=cellsP l ++ cellsP k:=List.flatMap_append
theorem cellsP_get (l:List (Nat→Int)) (k j:Nat) (hk:k<l.length) (hj:j<88):(cellsP l)[k*88+j]?=(posA l[k]).toList[j]?:=by
 induction l generalizing k with
 | nil=>exact absurd hk (Nat.not_lt_zero _)
 | cons m l ih =>
   show ((posA m).toList ++ cellsP l)[k*88+j]?=_
   cases k with
   | zero=>rw [List.getElem?_append_left (by rw [posL_len];omega),Nat.zero_mul,Nat.zero_add];rfl
   | succ k =>
     rw [List.getElem?_append_right (by rw [posL_len];omega)]
     have:(k+1)*88+j - (posA m).toList.length=k*88+j:=by rw [posL_len];omega
     rw [this,ih k (by simpa using hk)];rfl
def OwnsP (w:World) (base:Nat) (v:Value) (l:List (Nat→Int)):Prop:=w.ownsRow base 31 88 v l.length (cellsP l)
theorem OwnsP.app {w:World} {base:Nat} {v:Value} {l:List (Nat→Int)} {m:Nat→Int} (h:w.ownsRow base 31 88 v (l.length+1) (cellsP l ++ (posA m).toList)):OwnsP w base v (l ++ [m]):=by
 unfold OwnsP
 rw [cellsP_app,List.length_append,show cellsP [m]=(posA m).toList from List.append_nil _]
 exact h
theorem OwnsP.grown {w w1 w2:World} {B:Nat} {v:Value} {l:List (Nat→Int)} (hown:OwnsP w1 B v l) (hbel:Below B w w1) (hB:B≤w1.heap.size) (o:Obj) (hg:(w1.alloc o).grownBy w2 v.ownBlock):Below B w w2 :=
 (hbel.alloc hB o).grown hg (by simp;omega) (fun j hj=>(World.ownsRow.lt hown j hj).1)
theorem OwnsP.less {w:World} {B B' : Nat} {v:Value} {l:List (Nat→Int)} (h:OwnsP w B v l) (hb:B' ≤ B):OwnsP w B' v l:=by
 obtain ⟨h1,h2⟩:=h
 refine ⟨h1,?_⟩
 rcases h2 with h2 | ⟨g,cap,cur,hv,hg,rest⟩
 · exact .inl h2
 · exact .inr ⟨g,cap,cur,hv,Nat.le_trans hb hg,rest⟩
theorem OwnsP.kept {w w' : World} {B C:Nat} {v:Value} {l:List (Nat→Int)} (h:OwnsP w B v l) (hb:Below C w w') (hC:w.heap.size≤C):OwnsP w' B v l:=by
 have hlt:=World.ownsRow.lt h
 obtain ⟨h1,h2⟩:=h
 refine ⟨h1,?_⟩
 rcases h2 with h2 | ⟨g,cap,cur,hv,hg,hgb,rest⟩
 · exact .inl h2
 · have := (hlt g (by rw [hv]; rfl)).2
   exact .inr ⟨g,cap,cur,hv,hg,(hb.block g (by omega)).trans hgb,rest⟩
/-- The slice; where each position of it lies. -/
theorem OwnsP.form {w:World} {base:Nat} {v:Value} {l:List (Nat→Int)} (h:OwnsP w base v l):∃ a c,v=.slice a l.length c∧∀ k (hk:k<l.length),∃ g,a=some ⟨g,0,none⟩∧base≤g∧g<w.heap.size∧w.rangeAt g (k*88) (posA l[k]).toList:=by
 have hlt:=World.ownsRow.lt h
 obtain ⟨h1,h2⟩:=id h
 rcases h2 with ⟨hv,hx⟩ | ⟨g,cap,cur,hv,rest⟩
 · exact ⟨none,0,by rw [hv,hx],fun k hk=>by rw [hx] at hk;exact absurd hk (Nat.not_lt_zero _)⟩
 · subst hv
   have hlt:=hlt g rfl
   refine ⟨_,_,rfl,fun k hk=>⟨g,rfl,hlt.1,hlt.2,?_⟩⟩
   intro j v hv
   have hj:j<88:=by
    have:=(List.getElem?_eq_some_iff.1 hv).1
    rwa [posL_len] at this
   have e:=World.ownsRow.cellAt h (k*88+j) (by omega)
   rw [e,cellsP_get l k j hk hj]
   exact hv
def IsMid (w:World) (g o:Nat):Prop:=∃ n,w.rangeAt g o (posA n).toList
def midOf (w:World) (g o:Nat):Array Value:=posA (posOff w g o)
theorem mid_rules {w:World} {g o:Nat} {n:Nat→Int} (h:w.rangeAt g o (posA n).toList):IsMid w g o∧midOf w g o=posA n:=by
 refine ⟨⟨n,h⟩,?_⟩
 unfold midOf
 rw [show posOff w g o=cut n from ?_,posA_cut]
 funext i
 unfold posOff cut
 by_cases hi:i<88
 · rw [if_pos hi,if_pos hi,h i _ (posL_get n i hi)];rfl
 · rw [if_neg hi,if_neg hi]
theorem range_below {w w' : World} {g o B:Nat} {cs:List Value} (h:w.rangeAt g o cs) (hb:Below B w w') (hg:g<B):w'.rangeAt g o cs:=fun j v hv=>by
 rw [hb.cell (p:=⟨g,o+j,none⟩) hg];exact h j v hv
@[go_sem] theorem run_loadMid (w : World) (g o : Nat) (h : IsMid w g o) : (posLoad (.pointer (some ⟨g, o, none⟩))).run Tryz.prog w = .ok (.agg (midOf w g o)) w := by
  obtain ⟨n,hn⟩:=h
  rw [(mid_rules hn).2]
  unfold posLoad
  exact run_loadAt_mid w g o 31 (posA n).toList _ hn Tryz.underlying31 rfl (sizePos.trans (by rw [posL_len]))
theorem infoP:(Tryz.prog.info? 31).map (fun i=>(i.zero,i.size,i.bytes))=some (some (.agg (posA zeroN)),88,120):=by kernel_rfl
def posSlice (parts:Array (Nat × Value)):Sem Value:=Instr.buildSlice 36 1 parts
@[go_sem ↓] theorem build_posSlice (parts : Array (Nat × Value)) : Instr.buildSlice 36 1 parts = posSlice parts := rfl
@[go_sem] theorem run_posSlice (w : World) (n : Nat → Int) : (posSlice #[(0, .agg (posA n))]).run Tryz.prog w = .ok (.slice (some ⟨w.heap.size, 0, none⟩) 1 1) (w.alloc (.cells (posA n) 31)) := by
  have h:=infoP
  cases hi:Tryz.prog.info? 31 with
  | none=>rw [hi] at h;cases h
  | some i =>
    rw [hi] at h
    simp only [Option.map_some,Option.some.injEq,Prod.mk.injEq] at h
    obtain ⟨h1,h2,_⟩:=h
    exact run_buildSlice w 36 31 1 #[(0,.agg (posA n))] (posA n) i (.agg (posA zeroN)) Tryz.underlying36 hi h1 (by rw [h2];decide) (by rw [h2];decide) (by rw [h2];kernel_rfl)
end Go.Proofs.YteocjaihaegmoaaGreatDoor
