/- Parts of the proof: V. -/
import Derived.Test.YteocjaihaegmoaaGreatDoorWAB
import Derived.Test.YteocjaihaegmoaaGreatDoorRows
import Derived.Below
import Derived.Deep.WholeRow
import Derived.Laws.Tables
import Derived.OneCell
import Derived.WalkKit
set_option linter.unusedVariables false
set_option maxHeartbeats 4000000
set_option maxRecDepth 100000
namespace Go.Proofs.YteocjaihaegmoaaGreatDoor
open Go Go.RowKit
/-- The variants' names. -/
def nmB:Nat→ByteArray
 | 0=>⟨#[115,116,97,110,100,97,114,100]⟩
 | 1=>⟨#[99,104,101,115,115,57,54,48]⟩
 | 2=>⟨#[99,114,97,122,121,104,111,117,115,101]⟩
 | 3=>⟨#[97,116,111,109,105,99]⟩
 | 4=>⟨#[97,110,116,105,99,104,101,115,115]⟩
 | 5=>⟨#[116,104,114,101,101,99,104,101,99,107]⟩
 | 6=>⟨#[107,105,110,103,104,105,108,108]⟩
 | 7=>⟨#[104,111,114,100,101]⟩
 | 8=>⟨#[114,97,99,105,110,103]⟩
 | _=>⟨#[]⟩
def royW (v:Nat):Bool:=decide (v<9)&&!(v==4)&&!(v==7)
def royB (v:Nat):Bool:=decide (v<9)&&!(v==4)
def casB (v:Nat):Bool:=decide (v<9)&&!(v==4)&&!(v==8)
def pocB (v:Nat):Bool:=v==2
def pawB (v:Nat):Bool:=decide (v<8)
def lastI (v:Nat):Int:=if v=4 then 6 else if v<8 then 5 else 0
def varA (v:Nat):Array Value:=#[.string (nmB v),.bool (royW v),.bool (royB v),.bool (casB v),.bool (pocB v),.bool (pawB v),.int .u8 (lastI v)]
def varsA:Array Value:=((List.range 9).flatMap fun v=>(varA v).toList).toArray
def zeroVs:Array Value:=((List.range 9).flatMap fun _=>(varA 9).toList).toArray
theorem infoVs:(Tryz.prog.info? 186).map (fun i=>(i.zero,i.size))=some (some (.agg zeroVs),63):=by kernel_rfl
theorem zeroVsRun:∀ w,(zeroValue 186).run Tryz.prog w=.ok (.agg zeroVs) w:=(zero_of_info infoVs).1
theorem sizeVs:(Tryz.prog.info? 186).map (·.size)=some 63:=(zero_of_info infoVs).2
theorem oneVs:varsA.all (·.oneCell')=true:=by kernel_rfl
theorem variants_any (w:World):Calls Tryz.prog 183 #[] w fun e w' => e = .returned (.agg varsA)∧Below w.heap.size w w' := by
 have hz:=zeroVsRun
 go_enter Tryz.func183,Tryz.ntmps183
 go_wp2_with (first | (refine wpList_build rfl 186 _ rfl (by kernel_rfl) ?_;generalize hV:(Program.built Tryz.prog 186 _).getD #[]=V;obtain rfl:varsA=V:=Eq.trans (by kernel_rfl) hV;clear hV) | (refine wpList_store_row rfl 186 _ _ rfl w.heap.size varsA rfl rfl 186 zeroVs ((heap_alloc_old _ _ (by simp)).trans (heap_alloc_last _ _)) (by rw [show varsA.size=63 by kernel_rfl];exact sizeVs) (by kernel_rfl) oneVs ?_))
 refine bodyPost_ret (v:=.agg varsA) (results_cell_row Tryz.results183 _ _ w.heap.size 186 varsA (0,0) _ rfl ?_ Tryz.underlying186 rfl (by rw [show varsA.size=63 by kernel_rfl];exact sizeVs)) rfl ⟨rfl,?_⟩
 · exact setRow_heap _ _ zeroVs _ _ _ ((heap_alloc_old _ _ (by simp)).trans (heap_alloc_last _ _))
 · have hb := ((Below.refl w.heap.size w).alloc (Nat.le_refl _) (Obj.cells zeroVs 186)).alloc (by simp) (Obj.cells #[Value.bool true, Value.bool true] 148)
   exact hb.trans ⟨rfl,rfl,rfl,by simp [World.setRow],fun k hk=>by simp only [World.setRow];rw [Array.getElem?_modify,if_neg (by omega)]⟩
theorem sizeV:(Tryz.prog.info? 150).map (·.size)=some 7:=by kernel_rfl
theorem oneV (k:Nat):(varA k).all (·.oneCell')=true:=by
 unfold varA
 simp [Value.oneCell']
section
variable (k:Nat) (w:World)
@[go_sem] theorem fieldV0 : (Instr.field 150 (.agg (varA k)) 0).run Tryz.prog w = .ok (.string (nmB k)) w := by kernel_rfl
@[go_sem] theorem fieldV1 : (Instr.field 150 (.agg (varA k)) 1).run Tryz.prog w = .ok (.agg #[.bool (royW k), .bool (royB k)]) w := by kernel_rfl
@[go_sem] theorem fieldV2 : (Instr.field 150 (.agg (varA k)) 2).run Tryz.prog w = .ok (.bool (casB k)) w := by kernel_rfl
@[go_sem] theorem fieldV3 : (Instr.field 150 (.agg (varA k)) 3).run Tryz.prog w = .ok (.bool (pocB k)) w := by kernel_rfl
@[go_sem] theorem fieldV4 : (Instr.field 150 (.agg (varA k)) 4).run Tryz.prog w = .ok (.bool (pawB k)) w := by kernel_rfl
@[go_sem] theorem fieldV5 : (Instr.field 150 (.agg (varA k)) 5).run Tryz.prog w = .ok (.int .u8 (lastI k)) w := by kernel_rfl
end
theorem index_2b (a b:Bool):(∀ w,(Instr.index 148 (.agg #[.bool a,.bool b]) (.int .u8 0)).run Tryz.prog w=.ok (.bool a) w)∧(∀ w,(Instr.index 148 (.agg #[.bool a,.bool b]) (.int .u8 1)).run Tryz.prog w=.ok (.bool b) w):=⟨fun w=>by kernel_rfl,fun w=>by kernel_rfl⟩
theorem index_vars:∀ k:Nat,k<9→∀ w,(Instr.index 186 (.agg varsA) (.int .u8 (k:Int))).run Tryz.prog w=.ok (.agg (varA k)) w:=by
 intro k hk w
 have hc:k=0∨k=1∨k=2∨k=3∨k=4∨k=5∨k=6∨k=7∨k=8:=by omega
 have hx:∀ f g:World→Result Value,f=g→f w=g w:=fun f g h=>by rw [h]
 rcases hc with rfl | rfl | rfl | rfl | rfl | rfl | rfl | rfl | rfl <;> exact hx (fun w=>(Instr.index 186 (.agg varsA) (.int .u8 _)).run Tryz.prog w) (fun w=>.ok (.agg (varA _)) w) (by kernel_rfl)
theorem varA_none {k:Nat} (h:9≤k):varA k=#[.string ⟨#[]⟩,.bool false,.bool false,.bool false,.bool false,.bool false,.int .u8 0]:=by
 obtain ⟨j,rfl⟩:∃ j,k=j+9:=⟨k - 9,by omega⟩
 unfold varA royW royB casB pocB pawB lastI
 rw [decide_eq_false (show ¬ j+9<9 by omega),decide_eq_false (show ¬ j+9<8 by omega),if_neg (by omega),if_neg (by omega),show (j+9==2)=false from beq_eq_false_iff_ne.2 (by omega)]
 rfl
theorem vof_any (k:Nat) (hk:k≤255) (w:World):Calls Tryz.prog 139 #[.int .u8 (k:Int)] w fun e w' => e = .returned (.agg (varA k))∧Below w.heap.size w w' := by
 by_cases h:k<9
 · have hx := index_vars k h
   obtain ⟨X,hX⟩:∃ X,w.alloc (.cells #[.string ⟨#[]⟩,.bool false,.bool false,.bool false,.bool false,.bool false,.int .u8 0] 150)=X:=⟨_,rfl⟩
   have hg:X.heap[w.heap.size]?=some (.cells #[.string ⟨#[]⟩,.bool false,.bool false,.bool false,.bool false,.bool false,.int .u8 0] 150 (0,0)):=by rw [← hX];exact heap_alloc_last _ _
   have hb:Below w.heap.size w X:=by rw [← hX];exact (Below.refl _ _).alloc lR _
   have HX:=hI hX
   have HG:=hI hg
   clear hX hg
   go_enter Tryz.func139,Tryz.ntmps139
   go_wp2_with (first | rw [HX.out])
   refine (variants_any _).mono ?_
   rintro e Y ⟨rfl,h1⟩
   have hs:w.heap.size<X.heap.size:=by
    rcases Nat.lt_or_ge w.heap.size X.heap.size with h | h
    · exact h
    · have:=HG.out;rw [Array.getElem?_eq_none h] at this;cases this
   have hy:Y.heap[w.heap.size]?=_:=(h1.block w.heap.size hs).trans HG.out
   have hb:=hb.trans (h1.mono hb.size)
   have HY:=hI hy
   clear hy h1 HG
   go_wp2_with (first | (refine wpList_store_row rfl 150 _ _ rfl w.heap.size (varA k) rfl rfl 150 _ HY.out sizeV rfl (oneV k) ?_))
   refine bodyPost_ret (v:=.agg (varA k)) (results_cell_row Tryz.results139 _ _ w.heap.size 150 (varA k) (0,0) _ rfl ?_ Tryz.underlying150 rfl sizeV) rfl ⟨rfl,?_⟩
   · exact setRow_heap _ _ _ _ _ _ HY.out
   · exact hb.trans ⟨rfl,rfl,rfl,by simp [World.setRow],fun k hk=>by simp only [World.setRow];rw [Array.getElem?_modify,if_neg (by omega)]⟩
 · have E := hideIt (varA_none (k := k) (by omega))
   rw [E.out]
   go_enter Tryz.func139,Tryz.ntmps139
   go_wp2
   refine bodyPost_ret (v:=.agg #[.string ⟨#[]⟩,.bool false,.bool false,.bool false,.bool false,.bool false,.int .u8 0]) (by simp [results,Tryz.results139,go_sem]) rfl ⟨rfl,(Below.refl _ _).alloc lR _⟩
theorem vcastles_any (k:Nat) (hk:k≤255) (w:World):Calls Tryz.prog 121 #[.int .u8 (k:Int)] w fun e w' => e = .returned (.bool (casB k))∧Below w.heap.size w w' := by
 go_enter Tryz.func121,Tryz.ntmps121
 go_wp2_with fail
 refine (vof_any k hk _).mono ?_
 rintro e w1 ⟨rfl,h1⟩
 go_wp2
 go_ret
 exact ⟨rfl,h1⟩
theorem vpockets_any (k:Nat) (hk:k≤255) (w:World):Calls Tryz.prog 148 #[.int .u8 (k:Int)] w fun e w' => e = .returned (.bool (pocB k))∧Below w.heap.size w w' := by
 go_enter Tryz.func148,Tryz.ntmps148
 go_wp2_with fail
 refine (vof_any k hk _).mono ?_
 rintro e w1 ⟨rfl,h1⟩
 go_wp2
 go_ret
 exact ⟨rfl,h1⟩
theorem vpawns_any (k:Nat) (hk:k≤255) (w:World):Calls Tryz.prog 167 #[.int .u8 (k:Int)] w fun e w' => e = .returned (.bool (pawB k))∧Below w.heap.size w w' := by
 go_enter Tryz.func167,Tryz.ntmps167
 go_wp2_with fail
 refine (vof_any k hk _).mono ?_
 rintro e w1 ⟨rfl,h1⟩
 go_wp2
 go_ret
 exact ⟨rfl,h1⟩
def royI (k c:Nat):Bool:=decide (c≤1)&&(if c=0 then royW k else royB k)
theorem vroyal_any (k c:Nat) (hk:k≤255) (hc:c≤255) (w:World):Calls Tryz.prog 66 #[.int .u8 (k:Int),.int .u8 (c:Int)] w fun e w' => e = .returned (.bool (royI k c))∧Below w.heap.size w w' := by
 have h:c=0∨c=1∨2≤c:=by omega
 rcases h with rfl | rfl | h
 · obtain ⟨ix0, ix1⟩ := index_2b (royW k) (royB k)
   go_enter Tryz.func66,Tryz.ntmps66
   go_wp2_with fail
   refine (vof_any k hk _).mono ?_
   rintro e w1 ⟨rfl,h1⟩
   go_wp2
   go_ret
   exact ⟨rfl,h1⟩
 · obtain ⟨ix0, ix1⟩ := index_2b (royW k) (royB k)
   go_enter Tryz.func66,Tryz.ntmps66
   go_wp2_with fail
   refine (vof_any k hk _).mono ?_
   rintro e w1 ⟨rfl,h1⟩
   go_wp2
   go_ret
   exact ⟨rfl,h1⟩
 · have E := hideIt (show royI k c = false by unfold royI; rw [decide_eq_false (by omega)]; rfl)
   go_enter Tryz.func66,Tryz.ntmps66
   go_wp2
   go_ret
   exact ⟨rB E.out.symm,Below.refl _ _⟩
end Go.Proofs.YteocjaihaegmoaaGreatDoor
