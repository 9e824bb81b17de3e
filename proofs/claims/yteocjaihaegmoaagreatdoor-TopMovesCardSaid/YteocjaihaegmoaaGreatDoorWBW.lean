/- Parts of the proof: FS, Door. -/
import Derived.Test.YteocjaihaegmoaaGreatDoorWAB
import Derived.Test.YteocjaihaegmoaaGreatDoorWBU
import Derived.Test.YteocjaihaegmoaaGreatDoorCards
import Derived.Test.YteocjaihaegmoaaGreatDoorTie
import Derived.Below
import Derived.ChangeSlices
import Derived.Deep.DeepHandedRow
import Derived.Lib.LaidTab
import Derived.OpenShut
import Derived.ProofKit
import Derived.WideKeyArgs
set_option linter.unusedVariables false
set_option maxRecDepth 100000
namespace Go.Proofs.YteocjaihaegmoaaGreatDoor
open Go Go.ChangeShapes Go.WideShapes Go.ChangeAt Go.RowKit
theorem cellsU8:Tryz.prog.cellsOf 5=1:=by kernel_rfl
theorem open_way {H:Type} {enc:TypeId × Value→H} {W:World} {b0:Nat} {v:Value} {d:DataW H} {ps:List MemPlace} (hval:Value.okWide Tryz.prog W .any b0 32 v) (hd:DataW.Trod enc Tryz.prog W 0 (fun _=>true) true 32 v d ps) :
 ∃ wl:List Int,WayAt W v wl∧∀ i,0≤wl.getD i 0∧wl.getD i 0≤255:=by
 obtain ⟨a,len,cap,rfl⟩:=okWide_slice Tryz.underlying32 hval
 obtain ⟨f,hf⟩:=hd
 rcases open_ints Tryz.underlying32 Tryz.underlying5 cellsU8 hf with ⟨hcs,hx⟩ | ⟨a',len',cap',zs,hcs,_,hl,_,hz,hx,hcell,hwz⟩
 · simp [Value.cells] at hcs
   obtain ⟨rfl,rfl,rfl⟩:=hcs
   exact ⟨[],⟨none,0,rfl,fun i hi=>absurd hi (Nat.not_lt_zero _)⟩,fun i=>by simp⟩
 · simp [Value.cells] at hcs
   obtain ⟨rfl,rfl,rfl⟩:=hcs
   simp only [if_true] at hz
   have hln:(zs.take len).length=len:=by rw [List.length_take];omega
   refine ⟨zs.take len,⟨some a',cap,by rw [hln],fun i hi=>?_⟩,fun i=>?_⟩
   · rw [hln] at hi
     have h0:=hcell 0 (by omega)
     obtain ⟨g,o,spot⟩:=a'
     have hspot:spot=none:=by simpa [Addr.add] using World.cell?_spot h0
     subst hspot
     have hc:=hcell i (by omega)
     rw [add_plain] at hc
     exact ⟨g,o,rfl,World.block_lt_of_cell? _ _ hc,by rw [hc];simp [List.getD,hi]⟩
   · by_cases hi : i < (zs.take len).length
     · have hm := hwz _ (List.mem_of_mem_take (List.getElem_mem hi))
       have e:(zs.take len).getD i 0=(zs.take len)[i]:=by simp only [List.getD,List.getElem?_eq_getElem hi,Option.getD_some]
       rw [e]
       generalize (zs.take len)[i]=x at hm
       exact wf_u8 hm
     · have e : (zs.take len).getD i 0 = 0 := by simp only [List.getD, List.getElem?_eq_none (by omega : (zs.take len).length ≤ i), Option.getD_none]
       rw [e];decide
theorem stay_way {H:Type} {enc:TypeId × Value→H} {W W' : World} {v:Value} {d:DataW H} {ps:List MemPlace} (hlo:laidOutB Tryz.prog=true) (hd:DataW.Trod enc Tryz.prog W 0 (fun _=>true) true 32 v d ps) (hlt:∀ x∈ps,x.block<W.heap.size) (hb:Below W.heap.size W W') :
 DataW.Trod enc Tryz.prog W' 0 (fun x=>decide (x<W.heap.size)) true 32 v d ps :=
 WideElems.Trod_stays hlo (by kernel_rfl) (of_decide_eq_true (by kernel_rfl)) hd (fun x hx=>hb.same (hlt x hx)) (fun x hx=>by simpa using hlt x hx)
theorem gTab:Tryz.prog.globalNamed "math/bits.deBruijn64tab" = some 0:=by kernel_rfl
theorem gTabType:(Tryz.prog.globals[0]?).map (·.type)=some 22:=by kernel_rfl
theorem cellsTab:Tryz.prog.cellsOf 22=64:=by kernel_rfl
theorem cellsByte:Tryz.prog.cellsOf 5=1:=by kernel_rfl
theorem table {W:World} (h:laidMetH Tryz.prog [("math/bits.deBruijn64tab",Rows.laid_math_bits_deBruijn64tab)] W):Lib.TabIs Tryz.prog W "math/bits.deBruijn64tab" .u8 tabL :=
 Lib.tabIs_of_head (rest:=[]) gTab gTabType Tryz.underlying22 Tryz.underlying5 cellsByte cellsTab h
theorem tab_of_laid {W:World} (h:laidMetH Tryz.prog [("math/bits.deBruijn64tab",Rows.laid_math_bits_deBruijn64tab)] W):Tab W:=fun k hk =>
 (table h).cell gTab k hk
/-- A world for the witness: the settled one, the table holding what its initialiser lays. -/
noncomputable def laidWorld (os:Os):World :=
 { World.holding Tryz.prog os ⟨#[],#[],[]⟩ with heap:=(World.holding Tryz.prog os ⟨#[],#[],[]⟩).heap.modify 0 fun
  | .cells _ t frozen=>.cells #[.int .u8 0,.int .u8 1,.int .u8 56,.int .u8 2,.int .u8 57,.int .u8 49,.int .u8 28,.int .u8 3,.int .u8 61,.int .u8 58,.int .u8 42,.int .u8 50,.int .u8 38,.int .u8 29,.int .u8 17,.int .u8 4,.int .u8 62,.int .u8 47,.int .u8 59,.int .u8 36,.int .u8 45,.int .u8 43,.int .u8 51,.int .u8 22,.int .u8 53,.int .u8 39,.int .u8 33,.int .u8 30,.int .u8 24,.int .u8 18,.int .u8 12,.int .u8 5,.int .u8 63,.int .u8 55,.int .u8 48,.int .u8 27,.int .u8 60,.int .u8 41,.int .u8 37,.int .u8 16,.int .u8 46,.int .u8 35,.int .u8 44,.int .u8 21,.int .u8 52,.int .u8 32,.int .u8 23,.int .u8 11,.int .u8 54,.int .u8 26,.int .u8 40,.int .u8 15,.int .u8 34,.int .u8 20,.int .u8 31,.int .u8 10,.int .u8 25,.int .u8 14,.int .u8 19,.int .u8 9,.int .u8 13,.int .u8 8,.int .u8 7,.int .u8 6] t frozen
  | o=>o }
end Go.Proofs.YteocjaihaegmoaaGreatDoor
