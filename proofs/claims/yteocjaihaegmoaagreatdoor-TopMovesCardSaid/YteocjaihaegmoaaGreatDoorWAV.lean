/- Parts of the proof: G1. -/
import Derived.Test.YteocjaihaegmoaaGreatDoorWAA
import Derived.Test.YteocjaihaegmoaaGreatDoorWAC
set_option linter.unusedVariables false
namespace Go.Proofs.YteocjaihaegmoaaGreatDoor
open Go Go.RowKit Go.WideShapes
def sideN (n:Nat→Int) (a b:BitVec 64):Nat→Value:=fun i=>if i<88 then cellP n i else if i=88 then .int .u64 (u a) else .int .u64 (u b)
def sideA (n:Nat→Int) (a b:BitVec 64):Array Value:=((List.range 90).map (sideN n a b)).toArray
theorem sideA_size (n:Nat→Int) (a b:BitVec 64):(sideA n a b).size=90:=by simp [sideA]
theorem sideA_get (n:Nat→Int) (a b:BitVec 64) (i:Nat) (h:i<90):(sideA n a b)[i]?=some (sideN n a b i):=by
 unfold sideA
 rw [List.getElem?_toArray,List.getElem?_map,List.getElem?_range h];rfl
theorem sideA_eq (n:Nat→Int) (a b:BitVec 64):sideA n a b=posA n ++ #[.int .u64 (u a),.int .u64 (u b)]:=by kernel_rfl
theorem sizeSide:(Tryz.prog.info? 111).map (·.size)=some 90:=by kernel_rfl
theorem oneSide (n:Nat→Int) (a b:BitVec 64):(sideA n a b).all (·.oneCell')=true:=by
 rw [Array.all_eq_true]
 intro i hi
 have h:=sideA_get n a b i (by rw [sideA_size] at hi;exact hi)
 rw [Array.getElem?_eq_some_iff] at h
 obtain ⟨_,h⟩:=h
 rw [h];unfold sideN cellP;split
 · rfl
 · split <;> rfl
def SideAt (w:World) (g:Nat) (n:Nat→Int) (a b:BitVec 64):Prop:=w.heap[g]?=some (.cells (sideA n a b) 111 (0,0))
theorem SideAt.lt {w:World} {g:Nat} {n:Nat→Int} {a b:BitVec 64} (h:SideAt w g n a b):g<w.heap.size:=(Array.getElem?_eq_some_iff.1 h).1
theorem SideAt.below {w w' : World} {g B:Nat} {n:Nat→Int} {a b:BitVec 64} (h:SideAt w g n a b) (hb:Below B w w') (hg:g<B):SideAt w' g n a b:=(hb.block g hg).trans h
theorem SideAt.new (w:World) (n:Nat→Int) (a b:BitVec 64):SideAt (w.alloc (.cells (sideA n a b) 111)) w.heap.size n a b:=heap_alloc_last w _
theorem SideAt.pos {w:World} {g:Nat} {n:Nat→Int} {a b:BitVec 64} (h:SideAt w g n a b) (i:Nat) (hi:i<88):w.cell? ⟨g,i,none⟩=some (.int (kindAt i) (n i)):=by
 rw [cell_of_row w g i _ _ _ h,sideA_get n a b i (by omega)];unfold sideN;rw [if_pos hi];rfl
theorem SideAt.own {w:World} {g:Nat} {n:Nat→Int} {a b:BitVec 64} (h:SideAt w g n a b):w.cell? ⟨g,88,none⟩=some (.int .u64 (u a)):=by
 rw [cell_of_row w g 88 _ _ _ h,sideA_get n a b 88 (by decide)];rfl
theorem SideAt.oth {w:World} {g:Nat} {n:Nat→Int} {a b:BitVec 64} (h:SideAt w g n a b):w.cell? ⟨g,89,none⟩=some (.int .u64 (u b)):=by
 rw [cell_of_row w g 89 _ _ _ h,sideA_get n a b 89 (by decide)];rfl
theorem SideAt.kept {W W' : World} {g:Nat} {n:Nat→Int} {a b:BitVec 64} {bad:List TypeId} (h:SideAt W g n a b) (hb:∀ (g:Nat) (o:Obj),W.heap[g]?=some o→(∀ (cs:Array Value) (t:TypeId) (m:Nat × Nat),o=Obj.cells cs t m→t ∉ bad)→W'.heap[g]?=some o) (ht:111 ∉ bad):SideAt W' g n a b :=
 hb g _ h (fun cs t' m e=>by cases e;exact ht)
def sideLoad (v:Value):Sem Value:=Instr.loadAt 111 v
def sideStore (p v:Value):Sem Unit:=Instr.storeAt 111 p v
@[go_sem ↓] theorem loadAt_side (v : Value) : Instr.loadAt 111 v = sideLoad v := rfl
@[go_sem ↓] theorem storeAt_side (p v : Value) : Instr.storeAt 111 p v = sideStore p v := rfl
theorem run_loadSide {w:World} {g:Nat} {n:Nat→Int} {a b:BitVec 64} (h:SideAt w g n a b):(sideLoad (.pointer (some ⟨g,0,none⟩))).run Tryz.prog w=.ok (.agg (sideA n a b)) w:=by
 unfold sideLoad
 simp only [Instr.loadAt,Instr.sureAddr,Sem.run_bind,Sem.run_pure,Result.andThen_ok]
 exact run_loadVar_row w g _ _ (sideA n a b) _ _ h Tryz.underlying111 rfl (by rw [sideA_size];exact sizeSide)
theorem run_storeSide {w:World} {g:Nat} {old:Array Value} {n:Nat→Int} {a b:BitVec 64} (h:w.heap[g]?=some (.cells old 111 (0,0))) (hs:old.size=90):(sideStore (.pointer (some ⟨g,0,none⟩)) (.agg (sideA n a b))).run Tryz.prog w=.ok () (w.setRow g (sideA n a b)):=by
 unfold sideStore
 simp only [Instr.storeAt,Instr.sureAddr,Sem.run_bind,Sem.run_pure,Result.andThen_ok]
 exact run_storeVar_row w g _ _ old (sideA n a b) h (by rw [sideA_size];exact sizeSide) (by rw [hs,sideA_size]) (oneSide n a b)
theorem zeroSide:(Tryz.prog.info? 111).map (fun i=>(i.zero,i.size))=some (some (.agg (sideA zeroN 0#64 0#64)),90):=by kernel_rfl
theorem build_side (n:Nat→Int) (a b:BitVec 64) (w:World):(Instr.build 111 #[(0,.agg (posA n)),(1,.int .u64 (u a)),(2,.int .u64 (u b))]).run Tryz.prog w=.ok (.agg (sideA n a b)) w:=by
 rw [sideA_eq]
 kernel_rfl
end Go.Proofs.YteocjaihaegmoaaGreatDoor
