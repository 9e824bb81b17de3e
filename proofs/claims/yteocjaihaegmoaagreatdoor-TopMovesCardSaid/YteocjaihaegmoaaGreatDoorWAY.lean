/- Parts of the proof: K8. -/
import Derived.Test.YteocjaihaegmoaaGreatDoorWAD
set_option linter.unusedVariables false
namespace Go.Proofs.YteocjaihaegmoaaGreatDoor
open Go Go.RowKit
def r8 (l:Nat→Int):Array Value:=((List.range 8).map fun j=>Value.int .u8 (l j)).toArray
theorem r8_size (l:Nat→Int):(r8 l).size=8:=by simp [r8]
theorem r8_get (l:Nat→Int) (i:Nat) (h:i<8):(r8 l)[i]?=some (.int .u8 (l i)):=by
 unfold r8
 rw [List.getElem?_toArray,List.getElem?_map,List.getElem?_range h];rfl
theorem r8_one (l:Nat→Int):(r8 l).all (·.oneCell')=true:=by
 rw [Array.all_eq_true]
 intro i hi
 have h:=r8_get l i (by rw [r8_size] at hi;exact hi)
 rw [Array.getElem?_eq_some_iff] at h
 obtain ⟨_,h⟩:=h
 rw [h];rfl
theorem info8:(Tryz.prog.info? 80).map (fun i=>(i.zero,i.size))=some (some (.agg (r8 zeroN)),8):=by kernel_rfl
theorem zero8:∀ w,(zeroValue 80).run Tryz.prog w=.ok (.agg (r8 zeroN)) w:=(zero_of_info info8).1
theorem size8:(Tryz.prog.info? 80).map (·.size)=some 8:=(zero_of_info info8).2
def R8At (w:World) (g:Nat) (l:Nat→Int):Prop:=w.heap[g]?=some (.cells (r8 l) 80 (0,0))
theorem R8At.lt {w:World} {g:Nat} {n:Nat→Int} (h:R8At w g n):g<w.heap.size:=(Array.getElem?_eq_some_iff.1 h).1
theorem R8At.cell {w:World} {g:Nat} {n:Nat→Int} (h:R8At w g n) (i:Nat) (hi:i<8):w.cell? ⟨g,i,none⟩=some (.int .u8 (n i)):=by
 rw [cell_of_row w g i _ _ _ h,r8_get n i hi]
theorem R8At.free {w:World} {g:Nat} {n:Nat→Int} (h:R8At w g n) (i:Nat):w.frozen? ⟨g,i,none⟩=false:=by
 simp [World.frozen?,show w.heap[g]?=_ from h]
theorem R8At.below {w w' : World} {g B:Nat} {n:Nat→Int} (h:R8At w g n) (hb:Below B w w') (hg:g<B):R8At w' g n:=(hb.block g hg).trans h
theorem R8At.new (w:World) (n:Nat→Int):R8At (w.alloc (.cells (r8 n) 80)) w.heap.size n:=heap_alloc_last w _
theorem R8At.alloc {w:World} {g:Nat} {n:Nat→Int} (h:R8At w g n) (o:Obj):R8At (w.alloc o) g n:=(heap_alloc_old w o h.lt).trans h
theorem r8_upd (n:Nat→Int) (i:Nat) (x:Int):(r8 n).setIfInBounds i (.int .u8 x)=r8 (upd n i x):=by
 apply Array.ext_getElem?
 intro j
 rw [Array.getElem?_setIfInBounds]
 by_cases hj:j<8
 · rw [r8_get (upd n i x) j hj]
   by_cases e:i=j
   · subst e;rw [if_pos rfl,r8_size,if_pos hj];unfold upd;rw [if_pos rfl]
   · rw [if_neg e,r8_get n j hj];unfold upd;rw [if_neg (fun h=>e h.symm)]
 · have e1 : (r8 (upd n i x))[j]? = none := by rw [Array.getElem?_eq_none_iff, r8_size]; omega
   have e2:(r8 n)[j]?=none:=by rw [Array.getElem?_eq_none_iff,r8_size];omega
   rw [e1,e2,r8_size]
   by_cases e:i=j
   · subst e;rw [if_pos rfl,if_neg hj]
   · rw [if_neg e]
theorem R8At.set {w:World} {g:Nat} {n:Nat→Int} (h:R8At w g n) (i:Nat) (x:Int):R8At (w.setCell ⟨g,i,none⟩ (.int .u8 x)) g (upd n i x):=by
 unfold R8At at h ⊢
 rw [← r8_upd]
 simp only [World.setCell]
 rw [Array.getElem?_modify,if_pos rfl,h]
 rfl
theorem R8At.other {w:World} {g b i:Nat} {n:Nat→Int} (h:R8At w g n) (hb:b≠g) (v:Value):R8At (w.setCell ⟨b,i,none⟩ v) g n:=by
 unfold R8At at h ⊢
 simp only [World.setCell]
 rw [Array.getElem?_modify,if_neg hb,h]
theorem R8At.setRow {w:World} {g:Nat} {n:Nat→Int} (h:R8At w g n) (m:Nat→Int):R8At (w.setRow g (r8 m)) g m:=by
 unfold R8At at h ⊢
 simp only [World.setRow]
 rw [Array.getElem?_modify,if_pos rfl,h]
 rfl
theorem R8At.otherRow {w:World} {g b:Nat} {n:Nat→Int} (h:R8At w g n) (hb:b≠g) (c:Array Value):R8At (w.setRow b c) g n:=by
 unfold R8At at h ⊢
 simp only [World.setRow]
 rw [Array.getElem?_modify,if_neg hb,h]
/-- What the walk asks: which row lies there. -/
def IsR8 (w:World) (g:Nat):Prop:=∃ n,R8At w g n
def r8Of (w:World) (g:Nat):Array Value:=r8 (fun i=>match w.cell? ⟨g,i,none⟩ with | some (.int _ x)=>x | _=>0)
theorem r8_congr {n m:Nat→Int} (h:∀ i,i<8→n i=m i):r8 n=r8 m:=by
 apply Array.ext_getElem?
 intro i
 by_cases hi:i<8
 · rw [r8_get _ i hi,r8_get _ i hi,h i hi]
 · rw [Array.getElem?_eq_none_iff.2 (by rw [r8_size];omega),Array.getElem?_eq_none_iff.2 (by rw [r8_size];omega)]
theorem R8At.rules {w:World} {g:Nat} {n:Nat→Int} (h:R8At w g n):IsR8 w g∧r8Of w g=r8 n :=
 ⟨⟨n,h⟩,r8_congr fun i hi=>by rw [h.cell i hi]⟩
def r8Load (v:Value):Sem Value:=Instr.loadAt 80 v
def r8Store (p v:Value):Sem Unit:=Instr.storeAt 80 p v
@[go_sem ↓] theorem loadAt_r8 (v : Value) : Instr.loadAt 80 v = r8Load v := rfl
@[go_sem ↓] theorem storeAt_r8 (p v : Value) : Instr.storeAt 80 p v = r8Store p v := rfl
@[go_sem] theorem run_load8 (w : World) (g : Nat) (h : IsR8 w g) : (r8Load (.pointer (some ⟨g, 0, none⟩))).run Tryz.prog w = .ok (.agg (r8Of w g)) w := by
  obtain ⟨n,hn⟩:=h
  rw [hn.rules.2]
  unfold r8Load
  simp only [Instr.loadAt,Instr.sureAddr,Sem.run_bind,Sem.run_pure,Result.andThen_ok]
  exact run_loadVar_row w g _ _ (r8 n) _ _ hn Tryz.underlying80 rfl (by rw [r8_size];exact size8)
@[go_sem] theorem run_store8 (w : World) (g : Nat) (m : Nat → Int) (h : IsR8 w g) : (r8Store (.pointer (some ⟨g, 0, none⟩)) (.agg (r8 m))).run Tryz.prog w = .ok () (w.setRow g (r8 m)) := by
  obtain ⟨n,hn⟩:=h
  unfold r8Store
  simp only [Instr.storeAt,Instr.sureAddr,Sem.run_bind,Sem.run_pure,Result.andThen_ok]
  exact run_storeVar_row w g _ _ (r8 n) (r8 m) hn (by rw [r8_size];exact size8) (by rw [r8_size,r8_size]) (r8_one m)
@[go_sem] theorem isR8_new (w : World) (n : Nat → Int) : IsR8 (w.alloc (.cells (r8 n) 80)) w.heap.size := (R8At.new w n).rules.1
@[go_sem] theorem r8Of_new (w : World) (n : Nat → Int) : r8Of (w.alloc (.cells (r8 n) 80)) w.heap.size = r8 n := (R8At.new w n).rules.2
theorem index_r8 (l:Nat→Int) (k:Nat) (hk:k<8) (w:World):(Instr.index 80 (.agg (r8 l)) (.int .i64 (k:Int))).run Tryz.prog w=.ok (.int .u8 (l k)) w:=by
 have hc:=r8_get l k hk
 have hs:=r8_size l
 obtain ⟨A,hA⟩:∃ A,r8 l=A:=⟨_,rfl⟩
 rw [hA] at hc hs ⊢
 clear hA
 simp [Instr.index,part,go_sem,hc]
 intro h;omega
end Go.Proofs.YteocjaihaegmoaaGreatDoor
