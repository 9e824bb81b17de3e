/- Parts of the proof: P, P1, P2, P3, P4, PK. -/
import Derived.Test.YteocjaihaegmoaaGreatDoorRows
import Derived.Below
import Derived.ChangeOld
import Derived.Deep.MidRow
import Derived.Deep.WholeRow
import Derived.DeepKeys
import Derived.Laws.StructEq
import Derived.OneCell
import Derived.OpenShut
import Derived.ProofKit
import Derived.WalkKit
set_option maxRecDepth 100000
namespace Go.Proofs.YteocjaihaegmoaaGreatDoor
open Go Go.RowKit Go.WideShapes
def kindAt (i:Nat):IntKind:=if i≤64 then .u8 else if i=65 then .u64 else if i≤78 then .u8 else if i≤83 then .i8 else if i≤85 then .u8 else .i64
def cellP (n:Nat→Int) (i:Nat):Value:=.int (kindAt i) (n i)
def posA (n:Nat→Int):Array Value:=((List.range 88).map (cellP n)).toArray
def PosOk (n:Nat→Int):Prop:=∀ i,i<88→(Lit.int (kindAt i) (n i)).wf=true
theorem posA_size (n:Nat→Int):(posA n).size=88:=by simp [posA]
theorem posA_get (n:Nat→Int) (i:Nat) (h:i<88):(posA n)[i]?=some (cellP n i):=by
 unfold posA
 rw [List.getElem?_toArray,List.getElem?_map,List.getElem?_range h];rfl
theorem posA_toList (n:Nat→Int):(posA n).toList=(List.range 88).map (cellP n):=rfl
section
variable {H:Type} (enc:TypeId × Value→H)
end
end Go.Proofs.YteocjaihaegmoaaGreatDoor
namespace Go.Proofs.YteocjaihaegmoaaGreatDoor
open Go Go.RowKit Go.WideShapes
def zeroN:Nat→Int:=fun _=>0
theorem infoPos:(Tryz.prog.info? 31).map (fun i=>(i.zero,i.size))=some (some (.agg (posA zeroN)),88):=by kernel_rfl
theorem zeroPos:∀ w,(zeroValue 31).run Tryz.prog w=.ok (.agg (posA zeroN)) w:=(zero_of_info infoPos).1
theorem sizePos:(Tryz.prog.info? 31).map (·.size)=some 88:=(zero_of_info infoPos).2
theorem cellsPos:Tryz.prog.cellsOf 31=88:=by kernel_rfl
/-- The block of a position. -/
def PosAt (w:World) (g:Nat) (n:Nat→Int):Prop:=w.heap[g]?=some (.cells (posA n) 31 (0,0))
def upd (n:Nat→Int) (i:Nat) (x:Int):Nat→Int:=fun j=>if j=i then x else n j
theorem PosAt.lt {w:World} {g:Nat} {n:Nat→Int} (h:PosAt w g n):g<w.heap.size:=(Array.getElem?_eq_some_iff.1 h).1
theorem PosAt.cell {w:World} {g:Nat} {n:Nat→Int} (h:PosAt w g n) (i:Nat) (hi:i<88):w.cell? ⟨g,i,none⟩=some (.int (kindAt i) (n i)):=by
 rw [cell_of_row w g i _ _ _ h,posA_get n i hi];rfl
theorem PosAt.free {w:World} {g:Nat} {n:Nat→Int} (h:PosAt w g n) (i:Nat):w.frozen? ⟨g,i,none⟩=false:=by
 simp [World.frozen?,show w.heap[g]?=_ from h]
theorem PosAt.below {w w' : World} {g B:Nat} {n:Nat→Int} (h:PosAt w g n) (hb:Below B w w') (hg:g<B):PosAt w' g n:=(hb.block g hg).trans h
theorem PosAt.new (w:World) (n:Nat→Int):PosAt (w.alloc (.cells (posA n) 31)) w.heap.size n:=heap_alloc_last w _
theorem PosAt.alloc {w:World} {g:Nat} {n:Nat→Int} (h:PosAt w g n) (o:Obj):PosAt (w.alloc o) g n:=(heap_alloc_old w o h.lt).trans h
theorem PosAt.drew {w:World} {g:Nat} {n:Nat→Int} (h:PosAt w g n):PosAt w.drew g n:=h
theorem posA_upd (n:Nat→Int) (i:Nat) (x:Int):(posA n).setIfInBounds i (.int (kindAt i) x)=posA (upd n i x):=by
 apply Array.ext_getElem?
 intro j
 rw [Array.getElem?_setIfInBounds]
 by_cases hj:j<88
 · rw [posA_get (upd n i x) j hj]
   by_cases e:i=j
   · subst e;rw [if_pos rfl,posA_size,if_pos hj];unfold cellP upd;rw [if_pos rfl]
   · rw [if_neg e,posA_get n j hj];unfold cellP upd;rw [if_neg (fun h=>e h.symm)]
 · have e1 : (posA (upd n i x))[j]? = none := by rw [Array.getElem?_eq_none_iff, posA_size]; omega
   have e2:(posA n)[j]?=none:=by rw [Array.getElem?_eq_none_iff,posA_size];omega
   rw [e1,e2,posA_size]
   by_cases e:i=j
   · subst e;rw [if_pos rfl,if_neg hj]
   · rw [if_neg e]
theorem PosAt.set {w:World} {g:Nat} {n:Nat→Int} (h:PosAt w g n) (i:Nat) (x:Int):PosAt (w.setCell ⟨g,i,none⟩ (.int (kindAt i) x)) g (upd n i x):=by
 unfold PosAt at h ⊢
 rw [← posA_upd]
 simp only [World.setCell]
 rw [Array.getElem?_modify,if_pos rfl,h]
 rfl
theorem PosAt.other {w:World} {g b i:Nat} {n:Nat→Int} (h:PosAt w g n) (hb:b≠g) (v:Value):PosAt (w.setCell ⟨b,i,none⟩ v) g n:=by
 unfold PosAt at h ⊢
 simp only [World.setCell]
 rw [Array.getElem?_modify,if_neg hb,h]
theorem PosAt.setRow {w:World} {g:Nat} {n:Nat→Int} (h:PosAt w g n) (m:Nat→Int):PosAt (w.setRow g (posA m)) g m:=by
 unfold PosAt at h ⊢
 simp only [World.setRow]
 rw [Array.getElem?_modify,if_pos rfl,h]
 rfl
theorem PosAt.otherRow {w:World} {g b:Nat} {n:Nat→Int} (h:PosAt w g n) (hb:b≠g) (c:Array Value):PosAt (w.setRow b c) g n:=by
 unfold PosAt at h ⊢
 simp only [World.setRow]
 rw [Array.getElem?_modify,if_neg hb,h]
theorem below_setRow {B:Nat} {w w' : World} (h:Below B w w') {b:Nat} (hb:B≤b) (c:Array Value):Below B w (w'.setRow b c) :=
 h.trans ⟨rfl,rfl,rfl,by simp [World.setRow],fun k hk=>by simp only [World.setRow];rw [Array.getElem?_modify,if_neg (by omega)]⟩
theorem oneP (n:Nat→Int):(posA n).all (·.oneCell')=true:=by
 rw [Array.all_eq_true]
 intro i hi
 have h:=posA_get n i (by rw [posA_size] at hi;exact hi)
 rw [Array.getElem?_eq_some_iff] at h
 obtain ⟨_,h⟩:=h
 rw [h];rfl
theorem pos_result {fn:Func} {p:Tmp} (h:fn.results=#[.cell p 31]) (tmps:Array Value) (w:World) (g:Nat) (n:Nat→Int)
 (hp:tmps.getD p undef=.pointer (some ⟨g,0,none⟩)) (hg:PosAt w g n):(results fn tmps).run Tryz.prog w=.ok (.agg (posA n)) w :=
 results_cell_row h tmps w g _ (posA n) _ _ hp hg Tryz.underlying31 rfl (by rw [posA_size];exact sizePos)
end Go.Proofs.YteocjaihaegmoaaGreatDoor
namespace Go.Proofs.YteocjaihaegmoaaGreatDoor
open Go Go.RowKit Go.WideShapes
theorem row_drop (n:Nat→Int) (o k:Nat) (h:o+k≤88):((posA n).toList.drop o).take k=(List.range k).map (fun j=>cellP n (o+j)):=by
 rw [posA_toList]
 apply List.ext_getElem?
 intro i
 rw [List.getElem?_take]
 by_cases hi:i<k
 · rw [if_pos hi,List.getElem?_drop,List.getElem?_map,List.getElem?_range (by omega),List.getElem?_map,List.getElem?_range hi];rfl
 · rw [if_neg hi,List.getElem?_eq_none (by simp;omega)]
theorem row_drop2 (n:Nat→Int) (o k p q:Nat) (h:p+q≤k):((((List.range k).map (fun j=>cellP n (o+j))).drop p).take q)=(List.range q).map (fun j=>cellP n (o+p+j)):=by
 apply List.ext_getElem?
 intro i
 rw [List.getElem?_take]
 by_cases hi:i<q
 · rw [if_pos hi, List.getElem?_drop, List.getElem?_map, List.getElem?_range (by omega), List.getElem?_map, List.getElem?_range hi]
   simp [Nat.add_assoc]
 · rw [if_neg hi,List.getElem?_eq_none (by simp;omega)]
section
variable {H:Type} (enc:TypeId × Value→H)
end
end Go.Proofs.YteocjaihaegmoaaGreatDoor
namespace Go.Proofs.YteocjaihaegmoaaGreatDoor
open Go Go.RowKit
def litP (n:Nat→Int) (i:Nat):Lit:=.int (kindAt i) (n i)
def eqP (n m:Nat→Int):Bool:=(List.range 88).all fun i=>n i==m i
theorem eqP_iff (n m:Nat→Int):eqP n m=true↔∀ i,i<88→n i=m i:=by
 unfold eqP
 rw [List.all_eq_true]
 constructor
 · intro h i hi;exact beq_iff_eq.1 (h i (List.mem_range.2 hi))
 · intro h i hi;exact beq_iff_eq.2 (h i (List.mem_range.1 hi))
theorem lits_iff (n m:Nat→Int):(List.range 88).map (litP n)=(List.range 88).map (litP m)↔eqP n m=true:=by
 rw [eqP_iff]
 constructor
 · intro h i hi
   have h1:=congrArg (fun l=>l[i]?) h
   simp only [List.getElem?_map,List.getElem?_range hi,Option.map_some,Option.some.injEq] at h1
   unfold litP at h1
   injection h1
 · intro h
   apply List.map_congr_left
   intro i hi
   unfold litP
   rw [h i (List.mem_range.1 hi)]
theorem keys_cell (n:Nat→Int) (hn:PosOk n) (t:TypeId) (i k:Nat) (hi:i<88) (ht:Tryz.prog.underlying t=some (.int (kindAt i))):Tryz.prog.keyLits (k+1) t ((List.range 1).map (fun j=>cellP n (i+j)))=some [litP n i]:=by
 show Tryz.prog.keyLits (k+1) t [.int (kindAt (i+0)) (n (i+0))]=_
 have:=hn i hi
 simp [Program.keyLits,ht,litP,this]
theorem mapM_all {α β:Type} (g:α→Option β) (f:α→β):∀ l:List α,(∀ x∈l,g x=some (f x))→l.mapM g=some (l.map f)
 | [],_=>rfl
 | x :: l, h => by
   rw [List.mapM_cons,h x (List.mem_cons_self ..),mapM_all g f l (fun y hy=>h y (List.mem_cons_of_mem _ hy))];rfl
theorem flat_one {α β:Type} (f:α→β) (l:List α):(l.map fun x=>[f x]).flatten=l.map f:=by
 induction l with
 | nil=>rfl
 | cons x l ih=>rw [List.map_cons,List.flatten_cons,ih];rfl
theorem keys_row (n:Nat→Int) (hn:PosOk n) (t e:TypeId) (o k d:Nat) (h:o+k≤88) (ht:Tryz.prog.underlying t=some (.array k e)) (hc:Tryz.prog.cellsOf t=k) (h1:Tryz.prog.cellsOf e=1) (he:∀ i,i<k→Tryz.prog.underlying e=some (.int (kindAt (o+i)))) :
 Tryz.prog.keyLits (d+2) t ((List.range k).map (fun j=>cellP n (o+j)))=some ((List.range k).map (fun j=>litP n (o+j))):=by
 show Tryz.prog.keyLits ((d+1)+1) t _=_
 unfold Program.keyLits
 simp only [ht]
 rw [if_pos (by rw [List.length_map,List.length_range,hc])]
 rw [mapM_all _ (fun i=>[litP n (o+i)]) (List.range k) (fun i hi=>by
  rw [h1,Nat.mul_one,row_drop2 n o k i 1 (by have:=List.mem_range.1 hi;omega)]
  exact keys_cell n hn e (o+i) d (by have:=List.mem_range.1 hi;omega) (he i (List.mem_range.1 hi)))]
 rw [Option.map_some,flat_one]
theorem keys_rows (n:Nat→Int) (hn:PosOk n) (t r e:TypeId) (o m k d:Nat) (h:o+m*k≤88) (ht:Tryz.prog.underlying t=some (.array m r)) (hc:Tryz.prog.cellsOf t=m*k) (hr:Tryz.prog.underlying r=some (.array k e)) (hcr:Tryz.prog.cellsOf r=k) (h1:Tryz.prog.cellsOf e=1) (he:∀ i,i<m*k→Tryz.prog.underlying e=some (.int (kindAt (o+i)))) :
 Tryz.prog.keyLits (d+3) t ((List.range (m*k)).map (fun j=>cellP n (o+j)))=some (((List.range m).map fun i=>(List.range k).map (fun j=>litP n (o+i*k+j))).flatten):=by
 show Tryz.prog.keyLits ((d+2)+1) t _=_
 unfold Program.keyLits
 simp only [ht]
 rw [if_pos (by rw [List.length_map,List.length_range,hc])]
 rw [mapM_all _ (fun i=>(List.range k).map (fun j=>litP n (o+i*k+j))) (List.range m) (fun i hi=>by
  have hi:=List.mem_range.1 hi
  have hb:i*k+k≤m*k:=by
   have:=Nat.mul_le_mul_right k (show i+1≤m by omega)
   rw [Nat.add_mul,Nat.one_mul] at this;exact this
  rw [hcr,row_drop2 n o (m*k) (i*k) k hb]
  exact keys_row n hn r e (o+i*k) k d (by omega) hr hcr h1 (fun j hj=>by rw [Nat.add_assoc];exact he _ (by omega)))]
 rfl
theorem keys_pos (n:Nat→Int) (hn:PosOk n) (d:Nat):Tryz.prog.keyLits (d+4) 31 (posA n).toList=some ((List.range 88).map (litP n)):=by
 have c8:Tryz.prog.cellsOf 5=1:=by kernel_rfl
 have c64:Tryz.prog.cellsOf 23=1:=by kernel_rfl
 have ci8:Tryz.prog.cellsOf 26=1:=by kernel_rfl
 have ci:Tryz.prog.cellsOf 3=1:=by kernel_rfl
 have cB:Tryz.prog.cellsOf 22=64:=by kernel_rfl
 have cP:Tryz.prog.cellsOf 25=2*6:=by kernel_rfl
 have cp:Tryz.prog.cellsOf 24=6:=by kernel_rfl
 have cR:Tryz.prog.cellsOf 28=2*2:=by kernel_rfl
 have cr:Tryz.prog.cellsOf 27=2:=by kernel_rfl
 have cC:Tryz.prog.cellsOf 29=2:=by kernel_rfl
 have k8:∀ i,(i≤64∨(66≤i∧i≤78)∨(84≤i∧i≤85))→Tryz.prog.underlying 5=some (.int (kindAt i)):=by
  intro i hi
  have:kindAt i=.u8:=by
   unfold kindAt
   repeat (first | rfl | omega | split)
  rw [this];exact Tryz.underlying5
 have ki:∀ i,79≤i∧i≤83→Tryz.prog.underlying 26=some (.int (kindAt i)):=by
  intro i hi
  have:kindAt i=.i8:=by
   unfold kindAt
   repeat (first | rfl | omega | split)
  rw [this];exact Tryz.underlying26
 show Tryz.prog.keyLits ((d+3)+1) 31 _=_
 unfold Program.keyLits
 simp only [Tryz.underlying31]
 rw [if_pos ⟨by rw [Array.length_toList,posA_size,cellsPos],by decide +kernel⟩]
 simp only [List.mapM_cons,List.mapM_nil]
 rw [c8,cB,c64,cP,cR,ci8,cC,ci]
 rw [row_drop n 0 1 (by decide),row_drop n 1 64 (by decide),row_drop n 65 1 (by decide),row_drop n 66 (2*6) (by decide),row_drop n 78 1 (by decide),row_drop n 79 (2*2) (by decide),row_drop n 83 1 (by decide),row_drop n 84 2 (by decide),row_drop n 86 1 (by decide),row_drop n 87 1 (by decide)]
 rw [keys_cell n hn _ 0 (d+2) (by decide) Tryz.underlying5,keys_row n hn _ _ 1 64 (d+1) (by decide) Tryz.underlying22 cB c8 (fun i hi=>k8 _ (by omega)),keys_cell n hn _ 65 (d+2) (by decide) Tryz.underlying23,
  keys_rows n hn _ _ _ 66 2 6 d (by decide) Tryz.underlying25 cP Tryz.underlying24 cp c8 (fun i hi=>k8 _ (by omega)),keys_cell n hn _ 78 (d+2) (by decide) Tryz.underlying5,
  keys_rows n hn _ _ _ 79 2 2 d (by decide) Tryz.underlying28 cR Tryz.underlying27 cr ci8 (fun i hi=>ki _ (by omega)),keys_cell n hn _ 83 (d+2) (by decide) Tryz.underlying26,
  keys_row n hn _ _ 84 2 (d+1) (by decide) Tryz.underlying29 cC c8 (fun i hi=>k8 _ (by omega)),keys_cell n hn _ 86 (d+2) (by decide) Tryz.underlying3,keys_cell n hn _ 87 (d+2) (by decide) Tryz.underlying3]
 rfl
theorem equal_pos (n m:Nat→Int) (hn:PosOk n) (hm:PosOk m) (w:World):(Op.equalIn 10000 31 (.agg (posA n)) (.agg (posA m))).run Tryz.prog w=.ok (eqP n m) w:=by
 have E:EqAt Tryz.prog (9996+4) 31:=run_equalIn_deep 9996 4 31 (by kernel_rfl)
 have f:∀ n,(Value.agg (posA n)).formed Tryz.prog 31=true:=by
  intro n
  simp only [Value.formed,Tryz.underlying31,posA_size,cellsPos];rfl
 obtain ⟨r,h1,h2⟩:=E w (0+4) (0+4) (.agg (posA n)) (.agg (posA m)) _ _ (f n) (f m) (keys_pos n hn 0) (keys_pos m hm 0)
 rw [lits_iff] at h2
 have:r=eqP n m:=by rw [Bool.eq_iff_iff];exact h2
 rw [← this];exact h1
theorem eql_pos (n m:Nat→Int) (hn:PosOk n) (hm:PosOk m) (w:World):(binOp .eql 31 (.agg (posA n)) (.agg (posA m))).run Tryz.prog w=.ok (.bool (eqP n m)) w:=by
 rw [run_eql_struct,equal_pos n m hn hm];rfl
theorem neq_pos (n m:Nat→Int) (hn:PosOk n) (hm:PosOk m) (w:World):(binOp .neq 31 (.agg (posA n)) (.agg (posA m))).run Tryz.prog w=.ok (.bool (!eqP n m)) w:=by
 rw [run_neq_struct,equal_pos n m hn hm];rfl
/-- Some position lies there; which one. -/
def IsPos (w:World) (g:Nat):Prop:=∃ n,PosAt w g n
def posOf (w:World) (g:Nat):Nat→Int:=fun i=>if i<88 then (match w.cell? ⟨g,i,none⟩ with | some (.int _ x)=>x | _=>0) else 0
def cut (n:Nat→Int):Nat→Int:=fun i=>if i<88 then n i else 0
theorem posA_cut (n:Nat→Int):posA (cut n)=posA n:=by
 apply Array.ext_getElem?
 intro i
 by_cases hi:i<88
 · rw [posA_get _ i hi,posA_get _ i hi];unfold cellP cut;rw [if_pos hi]
 · rw [Array.getElem?_eq_none_iff.2 (by rw [posA_size];omega),Array.getElem?_eq_none_iff.2 (by rw [posA_size];omega)]
theorem posOf_at {w:World} {g:Nat} {n:Nat→Int} (h:PosAt w g n):posOf w g=cut n:=by
 funext i
 unfold posOf cut
 by_cases hi:i<88
 · rw [if_pos hi,if_pos hi,h.cell i hi]
 · rw [if_neg hi,if_neg hi]
theorem PosAt.is {w:World} {g:Nat} {n:Nat→Int} (h:PosAt w g n):IsPos w g:=⟨n,h⟩
/-- What the walk asks: the whole position that lies there. -/
def rowOf (w:World) (g:Nat):Array Value:=posA (posOf w g)
theorem PosAt.row {w:World} {g:Nat} {n:Nat→Int} (h:PosAt w g n):rowOf w g=posA n:=by unfold rowOf;rw [posOf_at h,posA_cut]
def posLoad (v:Value):Sem Value:=Instr.loadAt 31 v
def posStore (p v:Value):Sem Unit:=Instr.storeAt 31 p v
@[go_sem ↓] theorem loadAt_pos (v : Value) : Instr.loadAt 31 v = posLoad v := rfl
@[go_sem ↓] theorem storeAt_pos (p v : Value) : Instr.storeAt 31 p v = posStore p v := rfl
@[go_sem] theorem run_loadPos (w : World) (g : Nat) (h : IsPos w g) : (posLoad (.pointer (some ⟨g, 0, none⟩))).run Tryz.prog w = .ok (.agg (rowOf w g)) w := by
  obtain ⟨n,hn⟩:=h
  rw [hn.row]
  unfold posLoad
  simp only [Instr.loadAt,Instr.sureAddr,Sem.run_bind,Sem.run_pure,Result.andThen_ok]
  exact run_loadVar_row w g _ _ (posA n) _ _ hn Tryz.underlying31 rfl (by rw [posA_size];exact sizePos)
@[go_sem] theorem run_storePos (w : World) (g : Nat) (m : Nat → Int) (h : IsPos w g) : (posStore (.pointer (some ⟨g, 0, none⟩)) (.agg (posA m))).run Tryz.prog w = .ok () (w.setRow g (posA m)) := by
  obtain ⟨n,hn⟩:=h
  unfold posStore
  simp only [Instr.storeAt,Instr.sureAddr,Sem.run_bind,Sem.run_pure,Result.andThen_ok]
  exact run_storeVar_row w g _ _ (posA n) (posA m) hn (by rw [posA_size];exact sizePos) (by rw [posA_size,posA_size]) (oneP m)
@[go_sem] theorem isPos_new (w : World) (n : Nat → Int) : IsPos (w.alloc (.cells (posA n) 31)) w.heap.size := (PosAt.new w n).is
@[go_sem] theorem rowOf_new (w : World) (n : Nat → Int) : rowOf (w.alloc (.cells (posA n) 31)) w.heap.size = posA n := (PosAt.new w n).row
theorem PosAt.new1 (w:World) (o:Obj) (n:Nat→Int):PosAt ((w.alloc o).alloc (.cells (posA n) 31)) (w.heap.size+1) n:=heap_alloc2_new w o _
@[go_sem] theorem isPos_new1 (w : World) (o : Obj) (n : Nat → Int) : IsPos ((w.alloc o).alloc (.cells (posA n) 31)) (w.heap.size + 1) := (PosAt.new1 w o n).is
@[go_sem] theorem isPos_old1 (w : World) (o : Obj) (n : Nat → Int) : IsPos ((w.alloc (.cells (posA n) 31)).alloc o) w.heap.size := ((PosAt.new w n).alloc o).is
@[go_sem] theorem rowOf_old1 (w : World) (o : Obj) (n : Nat → Int) : rowOf ((w.alloc (.cells (posA n) 31)).alloc o) w.heap.size = posA n := ((PosAt.new w n).alloc o).row
theorem PosAt.rules {w:World} {g:Nat} {n:Nat→Int} (h:PosAt w g n):IsPos w g∧rowOf w g=posA n:=⟨h.is,h.row⟩
theorem wf_u8 {x:Int} (h:(Lit.int .u8 x).wf=true):0≤x∧x≤255:=by
 simp [Lit.wf] at h
 have e1:IntKind.u8.min=0:=by decide
 have e2:IntKind.u8.max=255:=by decide
 omega
theorem kind_board {i:Nat} (h:i≤64):kindAt i=.u8:=if_pos h
theorem kB {i:Nat} (h:i≤64):kindAt i=.u8:=if_pos h
theorem PosOk.u8 {n:Nat→Int} (h:PosOk n) (i:Nat) (hi:i<88) (hk:kindAt i=.u8):0≤n i∧n i≤255:=wf_u8 (by have:=h i hi;rw [hk] at this;exact this)
theorem PosAt.board {w:World} {g:Nat} {n:Nat→Int} (h:PosAt w g n) (i:Nat) (hi:i≤64):w.cell? ⟨g,i,none⟩=some (.int .u8 (n i)):=by
 rw [h.cell i (by omega),kB hi]
theorem PosAt.setB {w:World} {g:Nat} {n:Nat→Int} (h:PosAt w g n) (i:Nat) (hi:i≤64) (x:Int):PosAt (w.setCell ⟨g,i,none⟩ (.int .u8 x)) g (upd n i x):=by
 have:=h.set i x
 rw [kB hi] at this;exact this
theorem box2 (w:World) (n m:Nat→Int) (X:World) (h:(w.alloc (.cells (posA n) 31)).alloc (.cells (posA m) 31)=X) :
 PosAt X w.heap.size n∧PosAt X (w.heap.size+1) m∧Below w.heap.size w X:=by
 subst h
 exact ⟨(PosAt.new w n).alloc _,PosAt.new1 w _ m,((Below.refl _ _).alloc (Nat.le_refl _) _).alloc (by simp) _⟩
theorem box1 (w:World) (n:Nat→Int) (X:World) (h:w.alloc (.cells (posA n) 31)=X):PosAt X w.heap.size n∧Below w.heap.size w X:=by
 subst h
 exact ⟨PosAt.new w n,(Below.refl _ _).alloc (Nat.le_refl _) _⟩
end Go.Proofs.YteocjaihaegmoaaGreatDoor
