/- Parts of the proof: AB. -/
import Derived.Test.YteocjaihaegmoaaGreatDoorWAW
import Derived.Test.YteocjaihaegmoaaGreatDoorWBC
set_option linter.unusedVariables false
namespace Go.Proofs.YteocjaihaegmoaaGreatDoor
open Go Go.RowKit
theorem upd_upd (n:Nat→Int) (i:Nat) (x y:Int):upd (upd n i x) i y=upd n i y:=by
 funext j;unfold upd;split <;> rfl
theorem upd_same (n:Nat→Int) (i:Nat):upd n i (n i)=n:=by
 funext j;unfold upd;split
 · rename_i e;rw [e]
 · rfl
theorem upd_at (n:Nat→Int) (i:Nat) (x:Int):upd n i x i=x:=if_pos rfl
theorem upd_ne (n:Nat→Int) {i j:Nat} (h:j≠i) (x:Int):upd n i x j=n j:=if_neg h
theorem PosOk.i64 {n:Nat→Int} (h:PosOk n) (i:Nat) (hi:i<88) (hk:kindAt i=.i64):-9223372036854775808≤n i∧n i≤9223372036854775807:=by
 have h2:=h i hi
 rw [hk] at h2
 simp [Lit.wf] at h2
 have e1:IntKind.i64.min=-9223372036854775808:=by decide
 have e2:IntKind.i64.max=9223372036854775807:=by decide
 omega
def movL (q n:Nat→Int) (m:Mv) (tk:Int):List Value:=(posA q).toList ++ ((posA n).toList ++ (m.cells ++ [.int .i64 tk]))
def movA (q n:Nat→Int) (m:Mv) (tk:Int):Array Value:=(movL q n m tk).toArray
def MovAt (w:World) (g:Nat) (q n:Nat→Int) (m:Mv) (tk:Int):Prop:=w.heap[g]?=some (.cells (movA q n m tk) 68 (0,0))
theorem posL_len (n:Nat→Int):(posA n).toList.length=88:=by rw [Array.length_toList,posA_size]
theorem posL_get (n:Nat→Int) (i:Nat) (h:i<88):(posA n).toList[i]?=some (cellP n i):=by rw [Array.getElem?_toList,posA_get n i h]
theorem movA_q (q n:Nat→Int) (m:Mv) (tk:Int) (i:Nat) (h:i<88):(movA q n m tk)[i]?=some (cellP q i):=by
 unfold movA movL
 rw [List.getElem?_toArray,List.getElem?_append_left (by rw [posL_len];exact h),posL_get q i h]
theorem movA_n (q n:Nat→Int) (m:Mv) (tk:Int) (i:Nat) (h:i<88):(movA q n m tk)[88+i]?=some (cellP n i):=by
 unfold movA movL
 rw [List.getElem?_toArray,List.getElem?_append_right (by rw [posL_len];omega),posL_len,show 88+i - 88=i by omega,List.getElem?_append_left (by rw [posL_len];exact h),posL_get n i h]
theorem movA_m (q n:Nat→Int) (m:Mv) (tk:Int) (i:Nat):(movA q n m tk)[176+i]?=(m.cells ++ [.int .i64 tk])[i]?:=by
 unfold movA movL
 rw [List.getElem?_toArray,List.getElem?_append_right (by rw [posL_len];omega),posL_len,List.getElem?_append_right (by rw [posL_len];omega),posL_len,show 176+i - 88 - 88=i by omega]
theorem MovAt.lt {w:World} {g:Nat} {q n:Nat→Int} {m:Mv} {tk:Int} (h:MovAt w g q n m tk):g<w.heap.size:=(Array.getElem?_eq_some_iff.1 h).1
theorem MovAt.cell {w:World} {g:Nat} {q n:Nat→Int} {m:Mv} {tk:Int} (h:MovAt w g q n m tk) (i:Nat) (hi:i<88):w.cell? ⟨g,i,none⟩=some (.int (kindAt i) (q i)):=by
 rw [cell_of_row w g i _ _ _ h,movA_q q n m tk i hi];rfl
theorem MovAt.old {w:World} {g:Nat} {q n:Nat→Int} {m:Mv} {tk:Int} (h:MovAt w g q n m tk) (i:Nat) (hi:i<88):w.cell? ⟨g,88+i,none⟩=some (.int (kindAt i) (n i)):=by
 rw [cell_of_row w g (88+i) _ _ _ h,movA_n q n m tk i hi];rfl
theorem MovAt.board {w:World} {g:Nat} {q n:Nat→Int} {m:Mv} {tk:Int} (h:MovAt w g q n m tk) (i:Nat) (hi:i≤64):w.cell? ⟨g,i,none⟩=some (.int .u8 (q i)):=by
 rw [h.cell i (by omega),kB hi]
theorem MovAt.oldBoard {w:World} {g:Nat} {q n:Nat→Int} {m:Mv} {tk:Int} (h:MovAt w g q n m tk) (i:Nat) (hi:i≤64):w.cell? ⟨g,88+i,none⟩=some (.int .u8 (n i)):=by
 rw [h.old i (by omega),kB hi]
theorem MovAt.mv {w:World} {g:Nat} {q n:Nat→Int} {m:Mv} {tk:Int} (h:MovAt w g q n m tk) :
 w.cell? ⟨g,176,none⟩=some (.int .i8 m.f)∧w.cell? ⟨g,177,none⟩=some (.int .i8 m.t)∧w.cell? ⟨g,178,none⟩=some (.int .u8 m.p)∧w.cell? ⟨g,179,none⟩=some (.int .u8 m.d)∧w.cell? ⟨g,180,none⟩=some (.bool m.c)∧w.cell? ⟨g,181,none⟩=some (.int .i64 tk):=by
 have e:∀ i,w.cell? ⟨g,176+i,none⟩=(m.cells ++ [.int .i64 tk])[i]?:=fun i=>by rw [cell_of_row w g (176+i) _ _ _ h,movA_m]
 exact ⟨e 0,e 1,e 2,e 3,e 4,e 5⟩
theorem MovAt.free {w:World} {g:Nat} {q n:Nat→Int} {m:Mv} {tk:Int} (h:MovAt w g q n m tk) (i:Nat):w.frozen? ⟨g,i,none⟩=false:=by
 simp [World.frozen?,show w.heap[g]?=_ from h]
theorem MovAt.below {w w' : World} {g B:Nat} {q n:Nat→Int} {m:Mv} {tk:Int} (h:MovAt w g q n m tk) (hb:Below B w w') (hg:g<B):MovAt w' g q n m tk:=(hb.block g hg).trans h
theorem MovAt.grow {w w' : World} {g:Nat} {q n:Nat→Int} {m:Mv} {tk:Int} (h:MovAt w g q n m tk) (hb:Below w.heap.size w w'):MovAt w' g q n m tk:=h.below hb h.lt
theorem MovAt.drew {w:World} {g:Nat} {q n:Nat→Int} {m:Mv} {tk:Int} (h:MovAt w g q n m tk):MovAt w.drew g q n m tk:=h
theorem movA_upd (q n:Nat→Int) (m:Mv) (tk:Int) (i:Nat) (hi:i<88) (x:Int):(movA q n m tk).setIfInBounds i (.int (kindAt i) x)=movA (upd q i x) n m tk:=by
 unfold movA movL
 rw [List.setIfInBounds_toArray,List.set_append_left _ _ (by rw [posL_len];exact hi),← posA_upd,Array.toList_setIfInBounds]
theorem MovAt.set {w:World} {g:Nat} {q n:Nat→Int} {m:Mv} {tk:Int} (h:MovAt w g q n m tk) (i:Nat) (hi:i<88) (x:Int):MovAt (w.setCell ⟨g,i,none⟩ (.int (kindAt i) x)) g (upd q i x) n m tk:=by
 unfold MovAt at h ⊢
 rw [← movA_upd q n m tk i hi]
 simp only [World.setCell]
 rw [Array.getElem?_modify,if_pos rfl,h]
 rfl
theorem MovAt.setK {w:World} {g:Nat} {q n:Nat→Int} {m:Mv} {tk:Int} (h:MovAt w g q n m tk) (i:Nat) (hi:i<88) (k:IntKind) (hk:kindAt i=k) (x:Int):MovAt (w.setCell ⟨g,i,none⟩ (.int k x)) g (upd q i x) n m tk:=by
 rw [← hk];exact h.set i hi x
theorem MovAt.other {w:World} {g b i:Nat} {q n:Nat→Int} {m:Mv} {tk:Int} (h:MovAt w g q n m tk) (hb:b≠g) (v:Value):MovAt (w.setCell ⟨b,i,none⟩ v) g q n m tk:=by
 unfold MovAt at h ⊢
 simp only [World.setCell]
 rw [Array.getElem?_modify,if_neg hb,h]
theorem MovAt.range0 {w:World} {g:Nat} {q n:Nat→Int} {m:Mv} {tk:Int} (h:MovAt w g q n m tk):w.rangeAt g 0 (posA q).toList:=by
 intro j v hv
 have hj:j<88:=by
  have:=(List.getElem?_eq_some_iff.1 hv).1
  rwa [posL_len] at this
 rw [posL_get q j hj] at hv
 rw [Nat.zero_add,h.cell j hj,← hv];rfl
theorem MovAt.range88 {w:World} {g:Nat} {q n:Nat→Int} {m:Mv} {tk:Int} (h:MovAt w g q n m tk):w.rangeAt g 88 (posA n).toList:=by
 intro j v hv
 have hj:j<88:=by
  have:=(List.getElem?_eq_some_iff.1 hv).1
  rwa [posL_len] at this
 rw [posL_get n j hj] at hv
 rw [h.old j hj,← hv];rfl
theorem MovAt.there {w:World} {g:Nat} {q n:Nat→Int} {m:Mv} {tk:Int} (h:MovAt w g q n m tk):w.there g 0 88:=fun j hj=>by
 rw [Nat.zero_add,h.cell j hj];exact ⟨rfl,h.free j⟩
theorem setCells_heap (b:Nat) (ty:TypeId) (fz:Nat × Nat) (rest:List Value):∀ (vs old done:List Value) (w:World),old.length=vs.length→w.heap[b]?=some (.cells (done ++ (old ++ rest)).toArray ty fz) →
 (w.setCells b done.length vs).heap[b]?=some (.cells (done ++ (vs ++ rest)).toArray ty fz)
 | [],[],done,w,_,h=>h
 | v :: vs, o :: old, done, w, hl, h => by
   rw [World.setCells]
   have e:(w.setCell ⟨b,done.length,none⟩ v).heap[b]?=some (.cells ((done ++ [v]) ++ (old ++ rest)).toArray ty fz):=by
    simp only [World.setCell]
    rw [Array.getElem?_modify,if_pos rfl,h]
    simp
   have:=setCells_heap b ty fz rest vs old (done ++ [v]) _ (by simpa using hl) e
   rw [List.length_append] at this
   rw [show done.length+1=done.length+[v].length from rfl,this]
   simp
theorem setCells_below (b B:Nat) (hB:B≤b):∀ (vs:List Value) (o:Nat) (w0 w:World),Below B w0 w→Below B w0 (w.setCells b o vs)
 | [],_,_,_,h=>h
 | v :: vs,o,w0,w,h=>setCells_below b B hB vs (o+1) w0 _ (h.setCell (p:=⟨b,o,none⟩) hB v)
theorem MovAt.setPos {w:World} {g:Nat} {q n:Nat→Int} {m:Mv} {tk:Int} (h:MovAt w g q n m tk) (r:Nat→Int):MovAt (w.setCells g 0 (posA r).toList) g r n m tk:=by
 have hr:∀ x:Nat→Int,movA x n m tk=([] ++ ((posA x).toList ++ ((posA n).toList ++ (m.cells ++ [Value.int .i64 tk])))).toArray:=fun _=>rfl
 unfold MovAt at h ⊢
 rw [hr] at h ⊢
 exact setCells_heap g 68 (0,0) _ (posA r).toList (posA q).toList [] w (by rw [posL_len,posL_len]) h
/-- Some mover lies there. -/
def IsMov (w:World) (g:Nat):Prop:=∃ q n m tk,MovAt w g q n m tk
def posOff (w:World) (g o:Nat):Nat→Int:=fun i=>if i<88 then (match w.cell? ⟨g,o+i,none⟩ with | some (.int _ x)=>x | _=>0) else 0
def movNow (w:World) (g:Nat):Array Value:=posA (posOff w g 0)
def movWas (w:World) (g:Nat):Array Value:=posA (posOff w g 88)
theorem MovAt.is {w:World} {g:Nat} {q n:Nat→Int} {m:Mv} {tk:Int} (h:MovAt w g q n m tk):IsMov w g:=⟨q,n,m,tk,h⟩
theorem MovAt.now {w:World} {g:Nat} {q n:Nat→Int} {m:Mv} {tk:Int} (h:MovAt w g q n m tk):movNow w g=posA q:=by
 unfold movNow
 rw [show posOff w g 0=cut q from ?_,posA_cut]
 funext i
 unfold posOff cut
 by_cases hi:i<88
 · rw [if_pos hi,if_pos hi,Nat.zero_add,h.cell i hi]
 · rw [if_neg hi,if_neg hi]
theorem MovAt.was {w:World} {g:Nat} {q n:Nat→Int} {m:Mv} {tk:Int} (h:MovAt w g q n m tk):movWas w g=posA n:=by
 unfold movWas
 rw [show posOff w g 88=cut n from ?_,posA_cut]
 funext i
 unfold posOff cut
 by_cases hi:i<88
 · rw [if_pos hi,if_pos hi,h.old i hi]
 · rw [if_neg hi,if_neg hi]
theorem MovAt.rules {w:World} {g:Nat} {q n:Nat→Int} {m:Mv} {tk:Int} (h:MovAt w g q n m tk):IsMov w g∧movNow w g=posA q∧movWas w g=posA n:=⟨h.is,h.now,h.was⟩
@[go_sem] theorem run_loadNow (w : World) (g : Nat) (h : IsMov w g) : (posLoad (.pointer (some ⟨g, 0, none⟩))).run Tryz.prog w = .ok (.agg (movNow w g)) w := by
  obtain ⟨q,n,m,tk,hn⟩:=h
  rw [hn.now]
  unfold posLoad
  exact run_loadAt_mid w g 0 31 (posA q).toList _ hn.range0 Tryz.underlying31 rfl (sizePos.trans (by rw [posL_len]))
@[go_sem] theorem run_loadWas (w : World) (g : Nat) (h : IsMov w g) : (posLoad (.pointer (some ⟨g, 88, none⟩))).run Tryz.prog w = .ok (.agg (movWas w g)) w := by
  obtain ⟨q,n,m,tk,hn⟩:=h
  rw [hn.was]
  unfold posLoad
  exact run_loadAt_mid w g 88 31 (posA n).toList _ hn.range88 Tryz.underlying31 rfl (sizePos.trans (by rw [posL_len]))
def putNow (w:World) (g:Nat) (r:Nat→Int):World:=w.setCells g 0 (posA r).toList
@[go_sem] theorem run_storeNow (w : World) (g : Nat) (r : Nat → Int) (h : IsMov w g) : (posStore (.pointer (some ⟨g, 0, none⟩)) (.agg (posA r))).run Tryz.prog w = .ok () (putNow w g r) := by
  obtain ⟨q,n,m,tk,hn⟩:=h
  unfold posStore putNow
  exact run_storeAt_mid w g 0 _ (posA r) (by rw [posA_size];exact hn.there) (by rw [posA_size];exact sizePos) (oneP r)
theorem MovAt.put {w:World} {g:Nat} {q n:Nat→Int} {m:Mv} {tk:Int} (h:MovAt w g q n m tk) (r:Nat→Int):MovAt (putNow w g r) g r n m tk:=h.setPos r
theorem belowPut {B:Nat} {w w' : World} (h:Below B w w') {b:Nat} (hb:B≤b) (r:Nat→Int):Below B w (putNow w' b r):=setCells_below b B hb _ _ _ _ h
end Go.Proofs.YteocjaihaegmoaaGreatDoor
