/- Parts of the proof: VR. -/
import Derived.Test.YteocjaihaegmoaaGreatDoorWAB
import Derived.Test.YteocjaihaegmoaaGreatDoorWAE
import Derived.Great.Walk
set_option linter.unusedVariables false
set_option maxHeartbeats 1600000
set_option maxRecDepth 100000
namespace Go.Proofs.YteocjaihaegmoaaGreatDoor
open Go Go.RowKit
def promL (k:Nat):List Int:=if k=4 then [2,3,4,5,6] else if k<8 then [2,3,4,5] else []
def upL (j:Nat):List Int:=(List.range j).map (fun i=>((i+2:Nat):Int))
theorem upL_succ (j:Nat):upL (j+1)=upL j ++ [((j+2:Nat):Int)]:=by unfold upL;rw [List.range_succ,List.map_append];rfl
theorem upL_len (j:Nat):(upL j).length=j:=by unfold upL;rw [List.length_map,List.length_range]
theorem prom_up (k:Nat):upL ((lastI k).toNat - 1)=promL k:=by
 unfold lastI promL
 by_cases h4:k=4
 · rw [if_pos h4,if_pos h4];rfl
 · rw [if_neg h4, if_neg h4]
   by_cases h8:k<8
   · rw [if_pos h8,if_pos h8];rfl
   · rw [if_neg h8,if_neg h8];rfl
theorem last_cases (k:Nat):lastI k=6∨lastI k=5∨lastI k=0:=by
 unfold lastI
 split
 · exact .inl rfl
 · split
   · exact .inr (.inl rfl)
   · exact .inr (.inr rfl)
theorem vpromotes_any (k:Nat) (hk:k≤255) (w:World):Calls Tryz.prog 210 #[.int .u8 (k:Int)] w fun e w' => ∃ v,e=.returned v∧OwnsU w' w.heap.size v (promL k)∧Below w.heap.size w w' := by
 obtain ⟨i0,hi,hz0,hz1,hz2⟩:=info_parts Tryz.infoU
 have HP:=hI (prom_up k)
 obtain ⟨b,hb,hlast⟩:∃ b:Nat,b≤6∧lastI k=b:=by
  rcases last_cases k with h | h | h
  · exact ⟨6,by omega,h⟩
  · exact ⟨5,by omega,h⟩
  · exact ⟨0,by omega,h⟩
 rw [hlast] at HP
 have HL:=hI hlast
 clear hlast
 go_enter Tryz.func210,Tryz.ntmps210
 go_wp2
 go_loopw [3,4] (fun v i wr=>∃ j:Nat,j≤b - 1∧i=.int .u8 ((j+2:Nat):Int)∧OwnsU wr w.heap.size v (upL j)∧Below w.heap.size w wr) (fun _ i _=>8 - (intOf i).toNat)
 case atStart=>exact ⟨0,by omega,rfl,World.ownsRow_nil _ _ _ _,Below.refl _ _⟩
 case round =>
  obtain ⟨j,hj,rfl,hown,hbel⟩:=hrel
  have hsz:=hbel.size
  by_cases hlt:j<b - 1
  · have hll : (upL j).length ≤ 6 := by rw [upL_len]; omega
    go_wp2_with fail
    refine (vof_any k hk _).mono ?_
    rintro e w1 ⟨rfl,h1⟩
    have hown:=hown.kept h1 lR
    have hbel:=hbel.trans (h1.mono hbel.size)
    have hle:=hbel.size
    clear h1
    go_wp2_with (first | rw [HL.out] | (at_builtin;refine wpList_append_own _ rfl _ _ 32 rfl w.heap.size 5 i0 (.int .u8 0) 1 1 Tryz.underlying32 hi hz0 hz1 hz2 rfl (by decide) _ _ _ rfl (World.ownsRow.alloc hown _) ⟨w1.heap.size,0,none⟩ 1 1 [.int .u8 ((j+2:Nat):Int)] rfl rfl (cell_one_new _ _ _) (fun x hx=>by simp at hx;subst hx;rfl) (by unfold maxLen;omega) (by omega) (by simp;omega) ?_;intro v' w3 hown' hgrow3 _))
    go_roundw
    case rel=>exact ⟨j+1,by omega,by go_num,by rw [upL_succ];exact OwnsU.app hown',OwnsU.grown hown hbel hle _ hgrow3⟩
    case measure=>simp [intOf];omega
  · go_wp2_with fail
    refine (vof_any k hk _).mono ?_
    rintro e w1 ⟨rfl,h1⟩
    have hown:=hown.kept h1 lR
    have hbel:=hbel.trans (h1.mono hbel.size)
    clear h1
    obtain rfl:j=b - 1:=by omega
    rw [show ((b:Int)).toNat=b by omega] at HP
    go_wp2_with (first | rw [HL.out])
    go_ret
    exact ⟨_,rfl,by rw [← HP.out];exact hown,hbel⟩
theorem owns_lit (w:World) (l:List Int) (h:l.length≤100):OwnsU (w.alloc (.cells (l.map (Value.int .u8)).toArray 5)) w.heap.size (.slice (some ⟨w.heap.size,0,none⟩) l.length l.length) l:=by
 have:=World.ownsRow_lit (base:=w.heap.size) (e:=5) (size:=1) w (l.map (Value.int .u8)).toArray l.length lR (by unfold maxLen;omega) (by simp)
 unfold OwnsU
 simpa using this
theorem rpromotes_any (k:Nat) (hk:k≤255) (w:World):Calls Tryz.prog 162 #[.int .u8 (k:Int)] w fun e w' => ∃ v,e=.returned v∧OwnsU w' w.heap.size v (promL k)∧Below w.heap.size w w' := by
 have hc:k=4∨(k≠4∧k<8)∨8≤k:=by omega
 rcases hc with rfl | ⟨h4,h8⟩ | h8
 · go_enter Tryz.func162, Tryz.ntmps162
   go_wp2
   go_ret
   exact ⟨_,rfl,owns_lit w [2,3,4,5,6] (by decide),(Below.refl _ _).alloc lR _⟩
 · have e4 : ((k : Int) == 4) = false := beq_eq_false_iff_ne.2 (by omega)
   have HP:=hI (show promL k=[2,3,4,5] by unfold promL;rw [if_neg h4,if_pos h8])
   clear h4
   go_enter Tryz.func162,Tryz.ntmps162
   go_wp2
   go_ret
   exact ⟨_,rfl,by rw [HP.out];exact owns_lit w [2,3,4,5] (by decide),(Below.refl _ _).alloc lR _⟩
 · have e4 : ((k : Int) == 4) = false := beq_eq_false_iff_ne.2 (by omega)
   have HP:=hI (show promL k=[] by unfold promL;rw [if_neg (by omega),if_neg (by omega)])
   go_enter Tryz.func162,Tryz.ntmps162
   go_wp2
   go_ret
   exact ⟨_,rfl,by rw [HP.out];exact World.ownsRow_nil _ _ _ _,Below.refl _ _⟩
theorem rcastles_any (k:Nat) (hk:k≤255) (w:World):Calls Tryz.prog 198 #[.int .u8 (k:Int)] w fun e w' => e = .returned (.bool (casB k))∧w=w' := by
 go_enter Tryz.func198,Tryz.ntmps198
 go_wp2
 all_goals (go_ret;refine ⟨rB ?_,rfl⟩;unfold casB;rw [Bool.eq_iff_iff];simp;omega)
theorem rroyal_any (k c:Nat) (hk:k≤255) (hc:c≤255) (w:World):Calls Tryz.prog 78 #[.int .u8 (k:Int),.int .u8 (c:Int)] w fun e w' => e = .returned (.bool (royI k c))∧w=w' := by
 have h:c=0∨c=1∨2≤c:=by omega
 rcases h with rfl | rfl | h
 · go_enter Tryz.func78, Tryz.ntmps78
   go_wp2
   all_goals (go_ret;refine ⟨rB ?_,rfl⟩;unfold royI royW;rw [Bool.eq_iff_iff];simp;omega)
 · go_enter Tryz.func78, Tryz.ntmps78
   go_wp2
   all_goals (go_ret;refine ⟨rB ?_,rfl⟩;unfold royI royB;rw [Bool.eq_iff_iff];simp;omega)
 · go_enter Tryz.func78, Tryz.ntmps78
   go_wp2
   all_goals (go_ret;refine ⟨rB ?_,rfl⟩;unfold royI;rw [Bool.eq_iff_iff];simp;omega)
end Go.Proofs.YteocjaihaegmoaaGreatDoor
