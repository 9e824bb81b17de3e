/- Parts of the proof: T4, T5. -/
import Derived.Test.YteocjaihaegmoaaGreatDoorWAH
import Derived.Test.YteocjaihaegmoaaGreatDoorWAJ
import Derived.Test.YteocjaihaegmoaaGreatDoorWAK
import Derived.Test.YteocjaihaegmoaaGreatDoorWAM
import Derived.Laws.EntriesVeiled
set_option linter.unusedVariables false
set_option maxHeartbeats 8000000
set_option maxRecDepth 100000
namespace Go.Proofs.YteocjaihaegmoaaGreatDoor
open Go Go.RowKit
def fnV (f:Nat):Value:=.func (.func f) #[] #[]
def fnC (f g:Nat):Value:=.func (.func f) #[] #[.pointer (some ⟨g,0,none⟩)]
/-- A closure's captured function lies in a block of its own. -/
def Holds1 (W:World) (g:Nat) (t:TypeId) (v:Value):Prop:=W.heap[g]?=some (.cells #[v] t (0,0))
theorem Holds1.cell {W:World} {g:Nat} {t:TypeId} {v:Value} (h:Holds1 W g t v):W.cell? ⟨g,0,none⟩=some v:=by
 rw [cell_of_row W g 0 _ _ _ h];rfl
theorem Holds1.below {W W' : World} {g B:Nat} {t:TypeId} {v:Value} (h:Holds1 W g t v) (hb:Below B W W') (hg:g<B):Holds1 W' g t v:=(hb.block g hg).trans h
theorem Holds1.set {W:World} {g:Nat} {t:TypeId} {v:Value} (h:Holds1 W g t v) {b:Nat} (hb:g≠b) (i:Nat) (x:Value):Holds1 (W.setCell ⟨b,i,none⟩ x) g t v:=(Below.heap_setCell _ _ _ _ hb).trans h
theorem Holds1.lt {W:World} {g:Nat} {t:TypeId} {v:Value} (h:Holds1 W g t v):g<W.heap.size:=(Array.getElem?_eq_some_iff.1 h).1
theorem Holds1.kept {W W' : World} {g:Nat} {t:TypeId} {v:Value} {bad:List TypeId} (h:Holds1 W g t v) (hb:Holds bad W W') (ht:t ∉ bad):Holds1 W' g t v :=
 hb.same g _ h (fun cs t' m e=>by cases e;exact ht)
theorem step_any (f:Nat) (w:World):Calls Tryz.prog 215 #[fnV f] w fun e w' => ∃ g,e=.returned (.agg #[fnC 221 g])∧w.heap.size≤g∧Holds1 w' g 143 (fnV f)∧Below w.heap.size w w' := by
 have hmf:∀ (fn:Fn) (first cap:Array Value) (w:World),(Instr.makeFunc fn first cap).run Tryz.prog w=.ok (.func fn first cap) w:=fun _ _ _ _=>rfl
 unfold fnC fnV at *
 go_enter Tryz.func215,Tryz.ntmps215
 go_wp2
 refine bodyPost_ret (v:=.agg #[fnC 221 w.heap.size]) (by simp [results,Tryz.results215,go_sem];rfl) rfl ?_
 refine ⟨w.heap.size,rfl,Nat.le_refl _,?_,?_⟩
 · unfold Holds1
   first
    | (rw [Below.heap_setCell _ _ _ _ (by simp)];exact (Below.heap_alloc _ _ _ (by simp)).trans (World.alloc_heap_new w _))
    | exact (Below.heap_alloc _ _ _ (by simp)).trans (World.alloc_heap_new w _)
 · first
    | exact ((((Below.refl _ w).alloc lR _).alloc (by simp) _).setCell (by simp) _)
    | exact (((Below.refl _ w).alloc lR _).alloc (by simp) _)
theorem slide_any (f:Nat) (w:World):Calls Tryz.prog 216 #[fnV f] w fun e w' => ∃ g,e=.returned (.agg #[fnC 222 g])∧w.heap.size≤g∧Holds1 w' g 197 (fnV f)∧Below w.heap.size w w' := by
 have hmf:∀ (fn:Fn) (first cap:Array Value) (w:World),(Instr.makeFunc fn first cap).run Tryz.prog w=.ok (.func fn first cap) w:=fun _ _ _ _=>rfl
 unfold fnC fnV at *
 go_enter Tryz.func216,Tryz.ntmps216
 go_wp2
 refine bodyPost_ret (v:=.agg #[fnC 222 w.heap.size]) (by simp [results,Tryz.results216,go_sem];rfl) rfl ?_
 refine ⟨w.heap.size,rfl,Nat.le_refl _,?_,?_⟩
 · unfold Holds1
   first
    | (rw [Below.heap_setCell _ _ _ _ (by simp)];exact (Below.heap_alloc _ _ _ (by simp)).trans (World.alloc_heap_new w _))
    | exact (Below.heap_alloc _ _ _ (by simp)).trans (World.alloc_heap_new w _)
 · first
    | exact ((((Below.refl _ w).alloc lR _).alloc (by simp) _).setCell (by simp) _)
    | exact (((Below.refl _ w).alloc lR _).alloc (by simp) _)
theorem ways1_any (c s:Int) (c0:0≤c) (c1:c≤255) (occ:Int) (w:World):Calls Tryz.prog 214 #[.int .u8 c,.int .i64 s,.int .u64 occ] w fun e w' => e = .returned (.int .u64 (u (pawnB c s)))∧Below w.heap.size w w' := by
 go_enter Tryz.func214,Tryz.ntmps214
 go_wp2_with fail
 refine (pawn_any c s _).mono ?_
 rintro e w1 ⟨rfl,h1⟩
 go_wp2
 go_ret
 exact ⟨rfl,h1⟩
theorem from_knight (c s:Int) (occ:BitVec 64) (g:Nat) (w:World) (hT:Tab w) (h:Holds1 w g 143 (fnV 205)):Calls Tryz.prog 221 #[.int .u8 c,.int .i64 s,.int .u64 (u occ),.pointer (some ⟨g,0,none⟩)] w fun e w' => e = .returned (.int .u64 (u (knightB s)))∧Below w.heap.size w w' := by
 have hc:=h.cell
 clear h
 unfold fnV at hc
 go_enter Tryz.func221,Tryz.ntmps221
 go_wp2_with fail
 refine (knight_any s _).mono ?_
 rintro e w1 ⟨rfl,h1⟩
 go_wp2
 go_ret
 exact ⟨rfl,h1⟩
theorem from_king (c s:Int) (occ:BitVec 64) (g:Nat) (w:World) (hT:Tab w) (h:Holds1 w g 143 (fnV 124)):Calls Tryz.prog 221 #[.int .u8 c,.int .i64 s,.int .u64 (u occ),.pointer (some ⟨g,0,none⟩)] w fun e w' => e = .returned (.int .u64 (u (kingB s)))∧Below w.heap.size w w' := by
 have hc:=h.cell
 clear h
 unfold fnV at hc
 go_enter Tryz.func221,Tryz.ntmps221
 go_wp2_with fail
 refine (king_any s _).mono ?_
 rintro e w1 ⟨rfl,h1⟩
 go_wp2
 go_ret
 exact ⟨rfl,h1⟩
theorem from_sbish (c s:Int) (occ:BitVec 64) (g:Nat) (w:World) (hT:Tab w) (h:Holds1 w g 197 (fnV 206)):Calls Tryz.prog 222 #[.int .u8 c,.int .i64 s,.int .u64 (u occ),.pointer (some ⟨g,0,none⟩)] w fun e w' => e = .returned (.int .u64 (u (bishB s occ)))∧Below w.heap.size w w' := by
 have hc:=h.cell
 clear h
 unfold fnV at hc
 go_enter Tryz.func222,Tryz.ntmps222
 go_wp2_with fail
 refine (sbish_any s occ rfl _ hT).mono ?_
 rintro e w1 ⟨rfl,h1⟩
 go_wp2
 go_ret
 exact ⟨rfl,h1⟩
theorem from_srook (c s:Int) (occ:BitVec 64) (g:Nat) (w:World) (hT:Tab w) (h:Holds1 w g 197 (fnV 207)):Calls Tryz.prog 222 #[.int .u8 c,.int .i64 s,.int .u64 (u occ),.pointer (some ⟨g,0,none⟩)] w fun e w' => e = .returned (.int .u64 (u (rookB s occ)))∧Below w.heap.size w w' := by
 have hc:=h.cell
 clear h
 unfold fnV at hc
 go_enter Tryz.func222,Tryz.ntmps222
 go_wp2_with fail
 refine (srook_any s occ rfl _ hT).mono ?_
 rintro e w1 ⟨rfl,h1⟩
 go_wp2
 go_ret
 exact ⟨rfl,h1⟩
theorem from_squeen (c s:Int) (occ:BitVec 64) (g:Nat) (w:World) (hT:Tab w) (h:Holds1 w g 197 (fnV 208)):Calls Tryz.prog 222 #[.int .u8 c,.int .i64 s,.int .u64 (u occ),.pointer (some ⟨g,0,none⟩)] w fun e w' => e = .returned (.int .u64 (u (queenB s occ)))∧Below w.heap.size w w' := by
 have hc:=h.cell
 clear h
 unfold fnV at hc
 go_enter Tryz.func222,Tryz.ntmps222
 go_wp2_with fail
 refine (squeen_any s occ rfl _ hT).mono ?_
 rintro e w1 ⟨rfl,h1⟩
 go_wp2
 go_ret
 exact ⟨rfl,h1⟩
/-- The function value of a kind's way. -/
def FromIs (k:Nat) (f:Value) (W:World):Prop :=
 (k=1∧f=fnV 214)∨(k=2∧∃ g,f=fnC 221 g∧Holds1 W g 143 (fnV 205))∨(k=3∧∃ g,f=fnC 222 g∧Holds1 W g 197 (fnV 206)) ∨
 (k=4∧∃ g,f=fnC 222 g∧Holds1 W g 197 (fnV 207))∨(k=5∧∃ g,f=fnC 222 g∧Holds1 W g 197 (fnV 208)) ∨
 (k=6∧∃ g,f=fnC 221 g∧Holds1 W g 143 (fnV 124))
theorem FromIs.imp {k:Nat} {f:Value} {W W' : World} (h:FromIs k f W) (hk:∀ g t v,t=143∨t=197→Holds1 W g t v→Holds1 W' g t v):FromIs k f W' := by
 rcases h with h | ⟨e,g,h1,h2⟩ | ⟨e,g,h1,h2⟩ | ⟨e,g,h1,h2⟩ | ⟨e,g,h1,h2⟩ | ⟨e,g,h1,h2⟩
 · exact .inl h
 · exact .inr (.inl ⟨e,g,h1,hk _ _ _ (.inl rfl) h2⟩)
 · exact .inr (.inr (.inl ⟨e,g,h1,hk _ _ _ (.inr rfl) h2⟩))
 · exact .inr (.inr (.inr (.inl ⟨e,g,h1,hk _ _ _ (.inr rfl) h2⟩)))
 · exact .inr (.inr (.inr (.inr (.inl ⟨e,g,h1,hk _ _ _ (.inr rfl) h2⟩))))
 · exact .inr (.inr (.inr (.inr (.inr ⟨e,g,h1,hk _ _ _ (.inl rfl) h2⟩))))
theorem FromIs.below {k:Nat} {f:Value} {W W' : World} (h:FromIs k f W) (hb:Below W.heap.size W W'):FromIs k f W' := h.imp fun g t v _ hh=>hh.below hb hh.lt
theorem FromIs.kept {k:Nat} {f:Value} {W W' : World} {bad:List TypeId} (h:FromIs k f W) (hb:Holds bad W W') (h1:143 ∉ bad) (h2:197 ∉ bad):FromIs k f W' :=
 h.imp fun g t v ht hh=>hh.kept hb (by rcases ht with rfl | rfl <;> assumption)
theorem ways_any (w:World):Calls Tryz.prog 202 #[] w fun e w' => ∃ f1 f2 f3 f4 f5 f6,e=.returned (.agg #[.nilFunc,f1,f2,f3,f4,f5,f6])∧(FromIs 1 f1 w' ∧ FromIs 2 f2 w' ∧ FromIs 3 f3 w' ∧ FromIs 4 f4 w' ∧ FromIs 5 f5 w' ∧ FromIs 6 f6 w')∧Below w.heap.size w w' := by
 have b1:∀ w,(Instr.build 183 #[(0,.func (.func 214) #[] #[])]).run Tryz.prog w=.ok (.agg #[.func (.func 214) #[] #[]]) w:=fun _=>by kernel_rfl
 go_enter Tryz.func202,Tryz.ntmps202
 go_wp2_with fail
 refine (step_any 205 _).mono ?_
 rintro e w1 ⟨g2,rfl,s1,H2,q1⟩
 go_wp2_with fail
 refine (step_any 124 _).mono ?_
 rintro e w2 ⟨g6,rfl,s2,H6,q2⟩
 go_wp2_with fail
 refine (slide_any 207 _).mono ?_
 rintro e w3 ⟨g4,rfl,s3,H4,q3⟩
 go_wp2_with fail
 refine (slide_any 206 _).mono ?_
 rintro e w4 ⟨g3,rfl,s4,H3,q4⟩
 go_wp2_with fail
 refine (slide_any 208 _).mono ?_
 rintro e w5 ⟨g5,rfl,s5,H5,q5⟩
 obtain ⟨X,hX⟩:∃ X,w.alloc (.cells #[.nilFunc,.nilFunc,.nilFunc,.nilFunc,.nilFunc,.nilFunc,.nilFunc] 195)=X:=⟨_,rfl⟩
 have hz:X.heap.size=w.heap.size+1:=by rw [← hX];simp
 have hB:Below w.heap.size w X:=by rw [← hX];exact (Below.refl _ w).alloc lR _
 have hA:X.heap[w.heap.size]?=some (.cells #[.nilFunc,.nilFunc,.nilFunc,.nilFunc,.nilFunc,.nilFunc,.nilFunc] 195 (0,0)):=by rw [← hX];exact World.alloc_heap_new w _
 rw [hX] at q1 s1
 have K2:=(((H2.below q2 H2.lt).below q3 (Nat.lt_of_lt_of_le H2.lt q2.size)).below q4 (Nat.lt_of_lt_of_le H2.lt (Nat.le_trans q2.size q3.size))).below q5 (Nat.lt_of_lt_of_le H2.lt (Nat.le_trans q2.size (Nat.le_trans q3.size q4.size)))
 have K6:=((H6.below q3 H6.lt).below q4 (Nat.lt_of_lt_of_le H6.lt q3.size)).below q5 (Nat.lt_of_lt_of_le H6.lt (Nat.le_trans q3.size q4.size))
 have K4:=(H4.below q4 H4.lt).below q5 (Nat.lt_of_lt_of_le H4.lt q4.size)
 have K3:=H3.below q5 H3.lt
 have Q:Below X.heap.size X w5:=(((q1.trans (q2.mono q1.size)).trans (q3.mono (Nat.le_trans q1.size q2.size))).trans (q4.mono (Nat.le_trans q1.size (Nat.le_trans q2.size q3.size)))).trans (q5.mono (Nat.le_trans q1.size (Nat.le_trans q2.size (Nat.le_trans q3.size q4.size))))
 have hA5:=(Q.block w.heap.size (by omega)).trans hA
 have g2n:w.heap.size≠g2:=by omega
 have g6n:w.heap.size≠g6:=by have:=q1.size;omega
 have g4n:w.heap.size≠g4:=by have:=q1.size;have:=q2.size;omega
 have g3n:w.heap.size≠g3:=by have:=q1.size;have:=q2.size;have:=q3.size;omega
 have g5n:w.heap.size≠g5:=by have:=q1.size;have:=q2.size;have:=q3.size;have:=q4.size;omega
 clear q1 q2 q3 q4 q5 s1 s2 s3 s4 s5 H2 H6 H4 H3 hX hA
 have HQ:=hI (hB.trans (Q.mono (by omega)))
 have P2:=hI K2
 have P3:=hI K3
 have P4:=hI K4
 have P5:=hI H5
 have P6:=hI K6
 have HA:=hI hA5
 clear K2 K3 K4 H5 K6 hz hB Q hA5
 unfold fnC
 have bw:∀ w,(Instr.build 195 #[(1,.agg #[.func (.func 214) #[] #[]]),(2,.agg #[.func (.func 221) #[] #[.pointer (some ⟨g2,0,none⟩)]]),(6,.agg #[.func (.func 221) #[] #[.pointer (some ⟨g6,0,none⟩)]]),(4,.agg #[.func (.func 222) #[] #[.pointer (some ⟨g4,0,none⟩)]]),(3,.agg #[.func (.func 222) #[] #[.pointer (some ⟨g3,0,none⟩)]]),(5,.agg #[.func (.func 222) #[] #[.pointer (some ⟨g5,0,none⟩)]])]).run Tryz.prog w=.ok (.agg #[.nilFunc,.func (.func 214) #[] #[],.func (.func 221) #[] #[.pointer (some ⟨g2,0,none⟩)],.func (.func 222) #[] #[.pointer (some ⟨g3,0,none⟩)],.func (.func 222) #[] #[.pointer (some ⟨g4,0,none⟩)],.func (.func 222) #[] #[.pointer (some ⟨g5,0,none⟩)],.func (.func 221) #[] #[.pointer (some ⟨g6,0,none⟩)]]) w:=fun _=>by kernel_rfl
 have c0:w5.cell? ⟨w.heap.size,0,none⟩=some .nilFunc:=by rw [cell_of_row w5 _ 0 _ _ _ HA.out];rfl
 have c1:w5.cell? ⟨w.heap.size,1,none⟩=some .nilFunc:=by rw [cell_of_row w5 _ 1 _ _ _ HA.out];rfl
 have c2:w5.cell? ⟨w.heap.size,2,none⟩=some .nilFunc:=by rw [cell_of_row w5 _ 2 _ _ _ HA.out];rfl
 have c3:w5.cell? ⟨w.heap.size,3,none⟩=some .nilFunc:=by rw [cell_of_row w5 _ 3 _ _ _ HA.out];rfl
 have c4:w5.cell? ⟨w.heap.size,4,none⟩=some .nilFunc:=by rw [cell_of_row w5 _ 4 _ _ _ HA.out];rfl
 have c5:w5.cell? ⟨w.heap.size,5,none⟩=some .nilFunc:=by rw [cell_of_row w5 _ 5 _ _ _ HA.out];rfl
 have c6:w5.cell? ⟨w.heap.size,6,none⟩=some .nilFunc:=by rw [cell_of_row w5 _ 6 _ _ _ HA.out];rfl
 have hf:∀ i,w5.frozen? ⟨w.heap.size,i,none⟩=false:=fun i=>by simp [World.frozen?,HA.out]
 go_wp2
 refine bodyPost_ret (v:=.agg #[.nilFunc,.func (.func 214) #[] #[],.func (.func 221) #[] #[.pointer (some ⟨g2,0,none⟩)],.func (.func 222) #[] #[.pointer (some ⟨g3,0,none⟩)],.func (.func 222) #[] #[.pointer (some ⟨g4,0,none⟩)],.func (.func 222) #[] #[.pointer (some ⟨g5,0,none⟩)],.func (.func 221) #[] #[.pointer (some ⟨g6,0,none⟩)]]) (by simp [results,Tryz.results202,go_sem,c0,c1,c2,c3,c4,c5,c6]) rfl ?_
 refine ⟨_,_,_,_,_,_,rfl,⟨.inl ⟨rfl,rfl⟩,.inr (.inl ⟨rfl,g2,rfl,(Holds1.set (Holds1.set (Holds1.set (Holds1.set (Holds1.set (Holds1.set (Holds1.set P2.out (Ne.symm g2n) _ _) (Ne.symm g2n) _ _) (Ne.symm g2n) _ _) (Ne.symm g2n) _ _) (Ne.symm g2n) _ _) (Ne.symm g2n) _ _) (Ne.symm g2n) _ _)⟩),.inr (.inr (.inl ⟨rfl,g3,rfl,(Holds1.set (Holds1.set (Holds1.set (Holds1.set (Holds1.set (Holds1.set (Holds1.set P3.out (Ne.symm g3n) _ _) (Ne.symm g3n) _ _) (Ne.symm g3n) _ _) (Ne.symm g3n) _ _) (Ne.symm g3n) _ _) (Ne.symm g3n) _ _) (Ne.symm g3n) _ _)⟩)),.inr (.inr (.inr (.inl ⟨rfl,g4,rfl,(Holds1.set (Holds1.set (Holds1.set (Holds1.set (Holds1.set (Holds1.set (Holds1.set P4.out (Ne.symm g4n) _ _) (Ne.symm g4n) _ _) (Ne.symm g4n) _ _) (Ne.symm g4n) _ _) (Ne.symm g4n) _ _) (Ne.symm g4n) _ _) (Ne.symm g4n) _ _)⟩))),.inr (.inr (.inr (.inr (.inl ⟨rfl,g5,rfl,(Holds1.set (Holds1.set (Holds1.set (Holds1.set (Holds1.set (Holds1.set (Holds1.set P5.out (Ne.symm g5n) _ _) (Ne.symm g5n) _ _) (Ne.symm g5n) _ _) (Ne.symm g5n) _ _) (Ne.symm g5n) _ _) (Ne.symm g5n) _ _) (Ne.symm g5n) _ _)⟩)))),.inr (.inr (.inr (.inr (.inr ⟨rfl,g6,rfl,(Holds1.set (Holds1.set (Holds1.set (Holds1.set (Holds1.set (Holds1.set (Holds1.set P6.out (Ne.symm g6n) _ _) (Ne.symm g6n) _ _) (Ne.symm g6n) _ _) (Ne.symm g6n) _ _) (Ne.symm g6n) _ _) (Ne.symm g6n) _ _) (Ne.symm g6n) _ _)⟩))))⟩,?_⟩
 exact ((((((HQ.out.setCell (p:=⟨w.heap.size,0,none⟩) lR _).setCell (p:=⟨w.heap.size,1,none⟩) lR _).setCell (p:=⟨w.heap.size,2,none⟩) lR _).setCell (p:=⟨w.heap.size,3,none⟩) lR _).setCell (p:=⟨w.heap.size,4,none⟩) lR _).setCell (p:=⟨w.heap.size,5,none⟩) lR _).setCell (p:=⟨w.heap.size,6,none⟩) lR _
end Go.Proofs.YteocjaihaegmoaaGreatDoor
namespace Go.Proofs.YteocjaihaegmoaaGreatDoor
open Go Go.RowKit Go.Shelf
attribute [local go_sem] Oper.semAt_some
def EncK (x:Nat × Array Value) (W:World):Prop:=∃ f,x.2=#[.int .u8 (x.1:Int),.agg #[f]]∧FromIs x.1 f W
theorem FromIs.isFunc {k:Nat} {f:Value} {W:World} (h:FromIs k f W):∃ a b c,f=.func a b c:=by
 rcases h with ⟨_,h⟩ | ⟨_,_,h,_⟩ | ⟨_,_,h,_⟩ | ⟨_,_,h,_⟩ | ⟨_,_,h,_⟩ | ⟨_,_,h,_⟩ <;> exact ⟨_,_,_,h⟩
def kindsL:List Nat:=[1,2,3,4,5,6]
theorem kinds_any (w:World):Calls Tryz.prog 172 #[] w fun e w' => e = .returned (.func (.func 201) #[] #[])∧w=w' := by
 go_enter Tryz.func172,Tryz.ntmps172
 go_wp2
 go_ret
 exact ⟨rfl,rfl⟩
theorem there_any (s:Int) (s0:0≤s) (s1:s<64) (w:World):Calls Tryz.prog 171 #[.int .i64 s] w fun e w' => e = .returned (.bool true)∧w=w' := by
 have d1:decide (0≤s)=true:=decide_eq_true s0
 have d2:decide (s<64)=true:=decide_eq_true s1
 go_enter Tryz.func171,Tryz.ntmps171
 go_wp2
 go_ret
 exact ⟨rfl,rfl⟩
def waysCells (fs:Nat→Value):Array Value:=#[.nilFunc,fs 1,fs 2,fs 3,fs 4,fs 5,fs 6]
theorem ways_cell {W:World} {B:Nat} {fs:Nat→Value} (h:W.heap[B]?=some (.cells (waysCells fs) 195 (0,0))) (k:Nat) (hk:k<6):W.cell? ⟨B,k+1,none⟩=some (fs (k+1)):=by
 rw [cell_of_row W B _ _ _ _ h]
 have:k=0∨k=1∨k=2∨k=3∨k=4∨k=5:=by omega
 rcases this with rfl | rfl | rfl | rfl | rfl | rfl <;> rfl
theorem kinds1_in (w:World):Iterates Tryz.prog 201 #[] [23] kindsL EncK w:=by
 intro l J W hW hJb hY h0 n
 refine callsIn_of_wp Tryz.func201 rfl trivial ?_ rfl
 simp only [Tryz.ntmps201,List.size_toArray,List.length_cons,List.length_nil,Nat.reduceAdd,Nat.reduceSub,Array.replicate_succ,Array.replicate_zero,List.push_toArray,List.append_toArray,List.nil_append,List.cons_append]
 have hd:Fence.wide.depth.isSome=false:=rfl
 have hfn:∀ k,Fence.wide.fn k=True:=fun _=>rfl
 gi_wp2_with fail
 refine (callsIn_wide.2 (ways_any _)).mono ?_
 rintro e w1 ⟨f1,f2,f3,f4,f5,f6,rfl,⟨F1,F2,F3,F4,F5,F6⟩,hb1⟩
 obtain ⟨a1,c1,e1,rfl⟩:=F1.isFunc
 obtain ⟨a2,c2,e2,rfl⟩:=F2.isFunc
 obtain ⟨a3,c3,e3,rfl⟩:=F3.isFunc
 obtain ⟨a4,c4,e4,rfl⟩:=F4.isFunc
 obtain ⟨a5,c5,e5,rfl⟩:=F5.isFunc
 obtain ⟨a6,c6,e6,rfl⟩:=F6.isFunc
 obtain ⟨fa,rfl,rfl,rfl,rfl,rfl,rfl⟩:∃ fs:Nat→_,a1=fs 1∧a2=fs 2∧a3=fs 3∧a4=fs 4∧a5=fs 5∧a6=fs 6:=⟨fun k=>if k=1 then a1 else if k=2 then a2 else if k=3 then a3 else if k=4 then a4 else if k=5 then a5 else a6,rfl,rfl,rfl,rfl,rfl,rfl⟩
 obtain ⟨fc,rfl,rfl,rfl,rfl,rfl,rfl⟩:∃ fs:Nat→_,c1=fs 1∧c2=fs 2∧c3=fs 3∧c4=fs 4∧c5=fs 5∧c6=fs 6:=⟨fun k=>if k=1 then c1 else if k=2 then c2 else if k=3 then c3 else if k=4 then c4 else if k=5 then c5 else c6,rfl,rfl,rfl,rfl,rfl,rfl⟩
 obtain ⟨fe,rfl,rfl,rfl,rfl,rfl,rfl⟩:∃ fs:Nat→_,e1=fs 1∧e2=fs 2∧e3=fs 3∧e4=fs 4∧e5=fs 5∧e6=fs 6:=⟨fun k=>if k=1 then e1 else if k=2 then e2 else if k=3 then e3 else if k=4 then e4 else if k=5 then e5 else e6,rfl,rfl,rfl,rfl,rfl,rfl⟩
 have HF:Hid (∀ k,k<6→FromIs (k+1) (.func (fa (k+1)) (fc (k+1)) (fe (k+1))) w1):=fun k hk=>by
  have:k=0∨k=1∨k=2∨k=3∨k=4∨k=5:=by omega
  rcases this with rfl | rfl | rfl | rfl | rfl | rfl <;> assumption
 have HJ:=hI (hJb _ _ _ h0 hb1)
 clear F1 F2 F3 F4 F5 F6 hb1 h0
 gi_wp2
 obtain ⟨X,hX⟩:∃ X,w1.alloc (.cells #[.nilFunc,.func (fa 1) (fc 1) (fe 1),.func (fa 2) (fc 2) (fe 2),.func (fa 3) (fc 3) (fe 3),.func (fa 4) (fc 4) (fe 4),.func (fa 5) (fc 5) (fe 5),.func (fa 6) (fc 6) (fe 6)] 195)=X:=⟨_,rfl⟩
 have hbX:Below w1.heap.size w1 X:=by rw [← hX];exact (Below.refl _ _).alloc lR _
 have hXB:X.heap[w1.heap.size]?=some (.cells (waysCells fun k=>.func (fa k) (fc k) (fe k)) 195 (0,0)):=by rw [← hX];exact World.alloc_heap_new w1 _
 rw [hX]
 have HJX:=hI (hJb _ _ _ HJ.out hbX)
 have HFX:Hid (∀ k,k<6→FromIs (k+1) (.func (fa (k+1)) (fc (k+1)) (fe (k+1))) X):=fun k hk=>(HF.out k hk).below hbX
 clear hX HJ HF hbX
 gi_loopw [3] (fun i wr=>∃ k:Nat,k≤6∧i=.int .u8 ((k+1:Nat):Int)∧J (kindsL.take k) wr∧wr.heap[w1.heap.size]?=some (.cells (waysCells fun k=>.func (fa k) (fc k) (fe k)) 195 (0,0))∧Hid (∀ k,k<6→FromIs (k+1) (.func (fa (k+1)) (fc (k+1)) (fe (k+1))) wr)) (fun i _=>8 - (intOf i).toNat)
 case atStart=>exact ⟨0,by omega,rfl,HJX.out,hXB,HFX⟩
 case round =>
  clear HJX HFX hXB
  obtain ⟨k,hk,rfl,hj,hB,hF⟩:=hrel
  by_cases hlt:k<6
  · have hcell := ways_cell hB k hlt
    have hpre:kindsL.take k ++ [k+1]=kindsL.take (k+1):=by
     have:k=0∨k=1∨k=2∨k=3∨k=4∨k=5:=by omega
     rcases this with rfl | rfl | rfl | rfl | rfl | rfl <;> rfl
    obtain ⟨fn,tmps,assign,body,hy,hR⟩:=hY (kindsL.take k) (k+1) #[.int .u8 ((k:Int)+1),.agg #[.func (fa (k+1)) (fc (k+1)) (fe (k+1))]] wr hj (by rw [hpre];exact List.take_prefix _ _) ⟨_,rfl,hF.out k hlt⟩ (n - 1)
    have HP:=hI hpre
    have HB:=hI hB
    clear hpre hj hB
    gi_wp2
    refine hR.mono ?_
    rintro e W3 ⟨rfl,hJ3,hk3⟩
    have hB3:=hk3.same _ _ HB.out (fun cs t m e=>by cases e;decide)
    have hF3:Hid (∀ k,k<6→FromIs (k+1) (.func (fa (k+1)) (fc (k+1)) (fe (k+1))) W3):=fun k hk=>(hF.out k hk).kept hk3 (by decide) (by decide)
    rw [HP.out] at hJ3
    have HJ3:=hI hJ3
    have HB3:=hI hB3
    clear hk3 hR hy hF hJ3 hB3
    gi_wp2
    go_roundw
    case rel=>exact ⟨k+1,by omega,by go_num,HJ3.out,HB3.out,hF3⟩
    case measure=>simp [intOf];omega
  · obtain rfl : k = 6 := by omega
    gi_wp2
    go_end0
    exact ⟨⟨_,rfl⟩,hj⟩
/-- What the body of By wants of a world. -/
structure ByS (n:Nat→Int) (s c:Int) (B g8:Nat) (W:World):Prop where
 pos:PosAt W B n
 cs:W.heap[B+1]?=some (.cells #[.int .i64 s] 3 (0,0))
 cc:W.heap[B+2]?=some (.cells #[.int .u8 c] 5 (0,0))
 ca:W.heap[g8]?=some (.cells #[.int .u64 (u (allN n))] 23 (0,0))
theorem ByS.same {n:Nat→Int} {s c:Int} {B g8:Nat} {W W' : World} (h:ByS n s c B g8 W) (hs:∀ g cs t m,W.heap[g]?=some (.cells cs t m)→g≠B+3→W'.heap[g]?=W.heap[g]?) (h3:g8≠B+3):ByS n s c B g8 W' :=
 ⟨(hs _ _ _ _ h.pos (by omega)).trans h.pos,(hs _ _ _ _ h.cs (by omega)).trans h.cs,(hs _ _ _ _ h.cc (by omega)).trans h.cc,(hs _ _ _ _ h.ca h3).trans h.ca⟩
theorem ByS.grow {n:Nat→Int} {s c:Int} {B g8:Nat} {W W' : World} (h:ByS n s c B g8 W) (h3:g8≠B+3) (hb:Below W.heap.size W W'):ByS n s c B g8 W' :=
 h.same (fun g _ _ _ hg _=>hb.block g (Array.getElem?_eq_some_iff.1 hg).1) h3
theorem put_same {W:World} {l:Nat} {o o' : Obj} (hl:W.heap[l]?=some o) (ho:o.isCells=false) (g:Nat) (cs:Array Value) (t:TypeId) (m:Nat × Nat) (hg:W.heap[g]?=some (.cells cs t m)):(W.putObj l o').heap[g]?=W.heap[g]?:=by
 refine World.putObj_heap_other ?_
 intro e
 subst e
 rw [hg] at hl
 cases hl
 cases ho
theorem below_put (W:World) (l:Nat) (o' : Obj):Below l W (W.putObj l o'):=⟨rfl,rfl,rfl,by simp,fun k hk=>World.putObj_heap_other (by omega)⟩
theorem FromIs.put {k:Nat} {f:Value} {W:World} {l:Nat} {o o' : Obj} (h:FromIs k f W) (hl:W.heap[l]?=some o) (ho:o.isCells=false):FromIs k f (W.putObj l o') :=
 h.imp fun g t v _ hh=>(put_same hl ho g _ _ _ hh).trans hh
/-- What the body of By wants of a world, and of the loop's own variable. -/
structure BodyS (n:Nat→Int) (s c:Int) (B g8 x Bx:Nat) (f:Value) (W:World):Prop where
 base:ByS n s c B g8 W
 way:W.heap[Bx]?=some (.cells #[f] 183 (0,0))
 frm:FromIs x f W
 tab:Tab W
theorem BodyS.grow {n:Nat→Int} {s c:Int} {B g8 x Bx:Nat} {f:Value} {W W' : World} (h:BodyS n s c B g8 x Bx f W) (h3:g8≠B+3) (hb:Below W.heap.size W W'):BodyS n s c B g8 x Bx f W' :=
 ⟨h.base.grow h3 hb,(hb.block _ (Array.getElem?_eq_some_iff.1 h.way).1).trans h.way,h.frm.below hb,h.tab.below hb lR⟩
theorem BodyS.set {n:Nat→Int} {s c:Int} {B g8 x Bx:Nat} {f:Value} {W:World} (h:BodyS n s c B g8 x Bx f W) (h3:g8≠B+3) {y:Value} (ho:W.heap[B+3]?=some (.cells #[y] 23 (0,0))) (hx:Bx≠B+3) (hg:B+3≠0) (v:Value):BodyS n s c B g8 x Bx f (W.setCell ⟨B+3,0,none⟩ v):=by
 refine ⟨h.base.same (fun g cs t m _ hg=>Below.heap_setCell _ _ _ _ hg) h3,(Below.heap_setCell _ _ _ _ hx).trans h.way,h.frm.imp fun g t v ht hh=>hh.set (fun e=>?_) _ _,fun k hk=>?_⟩
 · subst e
   rw [show W.heap[B+3]?=_ from hh] at ho
   cases ho
   rcases ht with e | e <;> exact absurd e (by decide)
 · rw [World.cell?_setCell_far _ _ _ _ hg]
   exact h.tab k hk
theorem BodyS.k1 {n:Nat→Int} {s c:Int} {B g8 x Bx:Nat} {f:Value} {W:World} (h:BodyS n s c B g8 x Bx f W):W.cell? ⟨B+1,0,none⟩=some (.int .i64 s):=by rw [cell_of_row W _ 0 _ _ _ h.base.cs];rfl
theorem BodyS.k2 {n:Nat→Int} {s c:Int} {B g8 x Bx:Nat} {f:Value} {W:World} (h:BodyS n s c B g8 x Bx f W):W.cell? ⟨B+1+1,0,none⟩=some (.int .u8 c):=by rw [show B+1+1=B+2 from rfl,cell_of_row W _ 0 _ _ _ h.base.cc];rfl
theorem BodyS.k8 {n:Nat→Int} {s c:Int} {B g8 x Bx:Nat} {f:Value} {W:World} (h:BodyS n s c B g8 x Bx f W):W.cell? ⟨g8,0,none⟩=some (.int .u64 (u (allN n))):=by rw [cell_of_row W _ 0 _ _ _ h.base.ca];rfl
theorem BodyS.kx {n:Nat→Int} {s c:Int} {B g8 x Bx:Nat} {f:Value} {W:World} (h:BodyS n s c B g8 x Bx f W):W.cell? ⟨Bx,0,none⟩=some f:=by rw [cell_of_row W _ 0 _ _ _ h.way];rfl
def outAt (W:World) (g:Nat) (b:BitVec 64):Prop:=W.heap[g]?=some (.cells #[.int .u64 (u b)] 23 (0,0))
theorem outAt.cell {W:World} {g:Nat} {b:BitVec 64} (h:outAt W g b):W.cell? ⟨g,0,none⟩=some (.int .u64 (u b)):=by rw [cell_of_row W _ 0 _ _ _ h];rfl
theorem outAt.free {W:World} {g:Nat} {b:BitVec 64} (h:outAt W g b):W.frozen? ⟨g,0,none⟩=false:=by simp [World.frozen?,show W.heap[g]?=_ from h]
theorem outAt.grow {W W' : World} {g:Nat} {b:BitVec 64} (h:outAt W g b) (hb:Below W.heap.size W W'):outAt W' g b:=(hb.block _ (Array.getElem?_eq_some_iff.1 h).1).trans h
abbrev oBy0:Oper:={ dst:=some 23,op:=Op.load 23 (Operand.tmp 7),type:=23,pos := "attack.go:63",after:=#[],guard:=none }
abbrev oBy1:Oper:={ dst:=some 24,op:=Op.fieldAddr 183 (Operand.tmp 10) 0,type:=0,pos := "attack.go:63",after:=#[],guard:=none }
abbrev oBy2:Oper:={ dst:=some 25,op:=Op.load 181 (Operand.tmp 24),type:=181,pos := "attack.go:63",after:=#[{ on:=1,ground:=Ground.data }],guard:=none }
abbrev oBy3:Oper:={ dst:=some 26,op:=Op.load 5 (Operand.tmp 5),type:=5,pos := "attack.go:63",after:=#[],guard:=none }
abbrev oBy4:Oper:={ dst:=some 27,op:=Op.binOp BinOp.sub 5 (Operand.const (Value.int IntKind.u8 1)) (Operand.tmp 26) 5,type:=5,pos := "attack.go:63",after:=#[{ on:=3,ground:=Ground.data }],guard:=none }
abbrev oBy5:Oper:={ dst:=some 28,op:=Op.load 3 (Operand.tmp 4),type:=3,pos := "attack.go:63",after:=#[],guard:=none }
abbrev oBy6:Oper:={ dst:=some 29,op:=Op.load 23 (Operand.tmp 8),type:=23,pos := "attack.go:63",after:=#[],guard:=none }
abbrev oBy7:Oper:={ dst:=some 30,op:=Op.call { callee:=Callee.value (Operand.tmp 25),args:=#[Operand.tmp 27,Operand.tmp 28,Operand.tmp 29],argTypes:=#[5,3,23] },type:=23,pos := "attack.go:63",after:=#[{ on:=2,ground:=Ground.data },{ on:=4,ground:=Ground.data },{ on:=5,ground:=Ground.data },{ on:=6,ground:=Ground.data }],guard:=none }
abbrev oBy8:Oper:={ dst:=some 31,op:=Op.load 31 (Operand.tmp 3),type:=31,pos := "attack.go:63",after:=#[],guard:=none }
abbrev oBy9:Oper:={ dst:=some 32,op:=Op.load 5 (Operand.tmp 5),type:=5,pos := "attack.go:63",after:=#[],guard:=none }
abbrev oBy10:Oper:={ dst:=some 33,op:=Op.move (Operand.tmp 9),type:=5,pos := "attack.go:63",after:=#[],guard:=none }
abbrev oBy11:Oper:={ dst:=some 34,op:=Op.call { callee:=Callee.value (Operand.func 99),args:=#[Operand.tmp 31,Operand.tmp 32,Operand.tmp 33],argTypes:=#[31,5,5] },type:=23,pos := "attack.go:63",after:=#[{ on:=8,ground:=Ground.data },{ on:=9,ground:=Ground.data },{ on:=10,ground:=Ground.data },{ on:=7,ground:=Ground.chain }],guard:=none }
abbrev oBy12:Oper:={ dst:=some 35,op:=Op.binOp BinOp.and 23 (Operand.tmp 30) (Operand.tmp 34) 23,type:=23,pos := "attack.go:63",after:=#[{ on:=7,ground:=Ground.data },{ on:=11,ground:=Ground.data }],guard:=none }
abbrev oBy13:Oper:={ dst:=some 36,op:=Op.binOp BinOp.or 23 (Operand.tmp 23) (Operand.tmp 35) 23,type:=23,pos := "attack.go:63",after:=#[{ on:=0,ground:=Ground.data },{ on:=12,ground:=Ground.data }],guard:=none }
abbrev oBy14:Oper:={ dst:=none,op:=Op.store 23 (Operand.tmp 7) (Operand.tmp 36),type:=0,pos := "attack.go:63",after:=#[{ on:=13,ground:=Ground.data },{ on:=11,ground:=Ground.chain },{ on:=0,ground:=Ground.phase },{ on:=1,ground:=Ground.phase },{ on:=2,ground:=Ground.phase },{ on:=3,ground:=Ground.phase },{ on:=4,ground:=Ground.phase },{ on:=5,ground:=Ground.phase },{ on:=6,ground:=Ground.phase },{ on:=7,ground:=Ground.phase },{ on:=8,ground:=Ground.phase },{ on:=9,ground:=Ground.phase },{ on:=10,ground:=Ground.phase },{ on:=11,ground:=Ground.phase },{ on:=12,ground:=Ground.phase },{ on:=13,ground:=Ground.phase }],guard:=none }
theorem by_body (n:Nat→Int) (hn:PosOk n) (s c:Int) (c0:0≤c) (c1:c≤1) (B g8 x Bx fc:Nat) (cap:Array Value) (hcap:cap=#[]∨∃ gc,cap=#[.pointer (some ⟨gc,0,none⟩)]) (acc:BitVec 64) (h3:g8≠B+3) (hBx:Bx≠B+3) (hg:B+3≠0) (W:World)
 (eg:∀ args w,(callFunc fc args).run Tryz.prog w=.ok (.enter fc args) w)
 (hS:BodyS n s c B g8 x Bx (.func (.func fc) #[] cap) W) (hO:outAt W (B+3) acc)
 (hcall:∀ w,BodyS n s c B g8 x Bx (.func (.func fc) #[] cap) w→∀ ars,ars=#[.int .u8 (1 - c),.int .i64 s,.int .u64 (u (allN n))] ++ cap→Calls Tryz.prog fc ars w fun e w' => e = .returned (.int .u64 (u (atkB x (1 - c) s (allN n))))∧Below w.heap.size w w')
 (l m:Nat) (Q:Exit→Act→World→Prop) (hQ:¬ LetsOut Q) (hP:∀ ch a w,Q (.panic ch) a w→False) (tm:Array Value) (htm:tm=#[.agg (posA n),.int .i64 s,.int .u8 c,.pointer (some ⟨B,0,none⟩),.pointer (some ⟨B+1,0,none⟩),.pointer (some ⟨B+1+1,0,none⟩),.int .u64 0,.pointer (some ⟨B+3,0,none⟩),.pointer (some ⟨g8,0,none⟩),.int .u8 (x:Int),.pointer (some ⟨Bx,0,none⟩),.int .i64 s,.bool true,.bool false,.bool false,.int .u8 c,.bool false,.bool false,.agg (posA n),.int .u64 (u (allN n)),.func (.func 201) #[] #[],.int .u8 (x:Int),.agg #[.func (.func fc) #[] cap],undef,undef,undef,undef,undef,undef,undef,undef,undef,undef,undef,undef,undef,undef,undef])
 (fin:∀ a w2,Below W.heap.size W w2→outAt w2 (B+3) acc→a=a→Q .normal a (w2.setCell ⟨B+3,0,none⟩ (.int .u64 (u (acc ||| (atkB x (1 - c) s (allN n)&&&ofN n c x)))))) :
 (Code.region 8 #[{ dst:=some 23,op:=Op.load 23 (Operand.tmp 7),type:=23,pos := "attack.go:63",after:=#[],guard:=none },{ dst:=some 24,op:=Op.fieldAddr 183 (Operand.tmp 10) 0,type:=0,pos := "attack.go:63",after:=#[],guard:=none },{ dst:=some 25,op:=Op.load 181 (Operand.tmp 24),type:=181,pos := "attack.go:63",after:=#[{ on:=1,ground:=Ground.data }],guard:=none },{ dst:=some 26,op:=Op.load 5 (Operand.tmp 5),type:=5,pos := "attack.go:63",after:=#[],guard:=none },{ dst:=some 27,op:=Op.binOp BinOp.sub 5 (Operand.const (Value.int IntKind.u8 1)) (Operand.tmp 26) 5,type:=5,pos := "attack.go:63",after:=#[{ on:=3,ground:=Ground.data }],guard:=none },{ dst:=some 28,op:=Op.load 3 (Operand.tmp 4),type:=3,pos := "attack.go:63",after:=#[],guard:=none },{ dst:=some 29,op:=Op.load 23 (Operand.tmp 8),type:=23,pos := "attack.go:63",after:=#[],guard:=none },{ dst:=some 30,op:=Op.call { callee:=Callee.value (Operand.tmp 25),args:=#[Operand.tmp 27,Operand.tmp 28,Operand.tmp 29],argTypes:=#[5,3,23] },type:=23,pos := "attack.go:63",after:=#[{ on:=2,ground:=Ground.data },{ on:=4,ground:=Ground.data },{ on:=5,ground:=Ground.data },{ on:=6,ground:=Ground.data }],guard:=none },{ dst:=some 31,op:=Op.load 31 (Operand.tmp 3),type:=31,pos := "attack.go:63",after:=#[],guard:=none },{ dst:=some 32,op:=Op.load 5 (Operand.tmp 5),type:=5,pos := "attack.go:63",after:=#[],guard:=none },{ dst:=some 33,op:=Op.move (Operand.tmp 9),type:=5,pos := "attack.go:63",after:=#[],guard:=none },{ dst:=some 34,op:=Op.call { callee:=Callee.value (Operand.func 99),args:=#[Operand.tmp 31,Operand.tmp 32,Operand.tmp 33],argTypes:=#[31,5,5] },type:=23,pos := "attack.go:63",after:=#[{ on:=8,ground:=Ground.data },{ on:=9,ground:=Ground.data },{ on:=10,ground:=Ground.data },{ on:=7,ground:=Ground.chain }],guard:=none },{ dst:=some 35,op:=Op.binOp BinOp.and 23 (Operand.tmp 30) (Operand.tmp 34) 23,type:=23,pos := "attack.go:63",after:=#[{ on:=7,ground:=Ground.data },{ on:=11,ground:=Ground.data }],guard:=none },{ dst:=some 36,op:=Op.binOp BinOp.or 23 (Operand.tmp 23) (Operand.tmp 35) 23,type:=23,pos := "attack.go:63",after:=#[{ on:=0,ground:=Ground.data },{ on:=12,ground:=Ground.data }],guard:=none },{ dst:=none,op:=Op.store 23 (Operand.tmp 7) (Operand.tmp 36),type:=0,pos := "attack.go:63",after:=#[{ on:=13,ground:=Ground.data },{ on:=11,ground:=Ground.chain },{ on:=0,ground:=Ground.phase },{ on:=1,ground:=Ground.phase },{ on:=2,ground:=Ground.phase },{ on:=3,ground:=Ground.phase },{ on:=4,ground:=Ground.phase },{ on:=5,ground:=Ground.phase },{ on:=6,ground:=Ground.phase },{ on:=7,ground:=Ground.phase },{ on:=8,ground:=Ground.phase },{ on:=9,ground:=Ground.phase },{ on:=10,ground:=Ground.phase },{ on:=11,ground:=Ground.phase },{ on:=12,ground:=Ground.phase },{ on:=13,ground:=Ground.phase }],guard:=none }] true).wpIn (Fence.wide.inRound l) m Tryz.prog Q { tmps:=tm,defers:=[] } W:=by
 subst htm
 have hW:IntKind.u8.wrap (1 - c)=1 - c:=IntWalk.u8_in _ (by omega)
 have h01:0≤1 - c:=by omega
 have hR:Below W.heap.size W W.drew:=blN W 1
 have hHeld:BodyS n s c B g8 x Bx (.func (.func fc) #[] cap) W.drew:=hS.grow h3 hR
 have hOd:outAt W.drew (B+3) acc:=hO
 refine region_round (S:=BodyS n s c B g8 x Bx (.func (.func fc) #[] cap)) l m (by kernel_rfl) (by kernel_rfl) hQ ?_
 rcases hcap with rfl | ⟨gc,rfl⟩
 all_goals
  refine tk 1 (oi:=oBy1) (v:=?_) rfl (fun _ _ _ h=>(hP _ _ _ h).elim) (.inl ⟨by rfl,?_⟩) (by assumption) ?_
  rotate_left
  · (intro w hSw;have k1:=hSw.k1;have k2:=hSw.k2;have k8:=hSw.k8;have kx:=hSw.kx;obtain ⟨i0,r0⟩:=hSw.base.pos.rules;go_simp;try (with_reducible rfl))
  try simp only [Act.put,lA,lB,lC]
  refine tk 2 (oi:=oBy2) (v:=?_) rfl (fun _ _ _ h=>(hP _ _ _ h).elim) (.inl ⟨by rfl,?_⟩) (by assumption) ?_
  rotate_left
  · (intro w hSw;have k1:=hSw.k1;have k2:=hSw.k2;have k8:=hSw.k8;have kx:=hSw.kx;obtain ⟨i0,r0⟩:=hSw.base.pos.rules;go_simp;try (with_reducible rfl))
  try simp only [Act.put,lA,lB,lC]
  refine tk 3 (oi:=oBy3) (v:=?_) rfl (fun _ _ _ h=>(hP _ _ _ h).elim) (.inl ⟨by rfl,?_⟩) (by assumption) ?_
  rotate_left
  · (intro w hSw;have k1:=hSw.k1;have k2:=hSw.k2;have k8:=hSw.k8;have kx:=hSw.kx;obtain ⟨i0,r0⟩:=hSw.base.pos.rules;go_simp;try (with_reducible rfl))
  try simp only [Act.put,lA,lB,lC]
  refine tk 4 (oi:=oBy4) (v:=?_) rfl (fun _ _ _ h=>(hP _ _ _ h).elim) (.inl ⟨by rfl,?_⟩) (by assumption) ?_
  rotate_left
  · (intro w hSw;have k1:=hSw.k1;have k2:=hSw.k2;have k8:=hSw.k8;have kx:=hSw.kx;obtain ⟨i0,r0⟩:=hSw.base.pos.rules;go_simp;try (with_reducible rfl))
  try simp only [Act.put,lA,lB,lC]
  refine tk 5 (oi:=oBy5) (v:=?_) rfl (fun _ _ _ h=>(hP _ _ _ h).elim) (.inl ⟨by rfl,?_⟩) (by assumption) ?_
  rotate_left
  · (intro w hSw;have k1:=hSw.k1;have k2:=hSw.k2;have k8:=hSw.k8;have kx:=hSw.kx;obtain ⟨i0,r0⟩:=hSw.base.pos.rules;go_simp;try (with_reducible rfl))
  try simp only [Act.put,lA,lB,lC]
  refine tk 6 (oi:=oBy6) (v:=?_) rfl (fun _ _ _ h=>(hP _ _ _ h).elim) (.inl ⟨by rfl,?_⟩) (by assumption) ?_
  rotate_left
  · (intro w hSw;have k1:=hSw.k1;have k2:=hSw.k2;have k8:=hSw.k8;have kx:=hSw.kx;obtain ⟨i0,r0⟩:=hSw.base.pos.rules;go_simp;try (with_reducible rfl))
  try simp only [Act.put,lA,lB,lC]
  refine tk 8 (oi:=oBy8) (v:=?_) rfl (fun _ _ _ h=>(hP _ _ _ h).elim) (.inl ⟨by rfl,?_⟩) (by assumption) ?_
  rotate_left
  · (intro w hSw;have k1:=hSw.k1;have k2:=hSw.k2;have k8:=hSw.k8;have kx:=hSw.kx;obtain ⟨i0,r0⟩:=hSw.base.pos.rules;go_simp;try (with_reducible rfl))
  try simp only [Act.put,lA,lB,lC]
  refine tk 9 (oi:=oBy9) (v:=?_) rfl (fun _ _ _ h=>(hP _ _ _ h).elim) (.inl ⟨by rfl,?_⟩) (by assumption) ?_
  rotate_left
  · (intro w hSw;have k1:=hSw.k1;have k2:=hSw.k2;have k8:=hSw.k8;have kx:=hSw.kx;obtain ⟨i0,r0⟩:=hSw.base.pos.rules;go_simp;try (with_reducible rfl))
  try simp only [Act.put,lA,lB,lC]
  refine tk 10 (oi:=oBy10) (v:=?_) rfl (fun _ _ _ h=>(hP _ _ _ h).elim) (.inl ⟨by rfl,?_⟩) (by assumption) ?_
  rotate_left
  · (intro w hSw;have k1:=hSw.k1;have k2:=hSw.k2;have k8:=hSw.k8;have kx:=hSw.kx;obtain ⟨i0,r0⟩:=hSw.base.pos.rules;go_simp;try (with_reducible rfl))
  try simp only [Act.put,lA,lB,lC]
  refine wpAnyH_ready (rs:=[0,7]) (by kernel_rfl) (by simp) ?_
  refine AllReadyH.cons (o:=oBy0) rfl (fun K hK=>?_) ?_
  ·
   have k3:=hOd.cell
   go_simp
   clear k3
   refine hK.out _ _ hHeld (fun hHeld=>?_)
   clear hK K
   try simp only [Act.put,lA,lB,lC]
   refine wpAnyH_ready (rs:=[7]) (by kernel_rfl) (by simp) ?_
   refine AllReadyH.cons (o:=oBy7) rfl (fun K hK=>?_) AllReadyH.nil
   go_simp
   refine (hcall _ hHeld _ rfl).mono ?_
   rintro e wa ⟨rfl,hba⟩
   have hoa:=hOd.grow hba
   have hsa:=hHeld.grow h3 hba
   have hra:=hR.trans (hba.mono hR.size)
   refine hK.out _ _ hsa (fun hHeld=>?_)
   clear hK K
   try simp only [Act.put,lA,lB,lC]
   refine wpAnyH_ready (rs:=[11]) (by kernel_rfl) (by simp) ?_
   refine AllReadyH.cons (o:=oBy11) rfl (fun K hK=>?_) AllReadyH.nil
   go_simp
   refine (of_any n hn c (x:Int) _).mono ?_
   rintro e wb ⟨rfl,hbb⟩
   have hob:=hoa.grow hbb
   have hsb:=hsa.grow h3 hbb
   have hrb:=hra.trans (hbb.mono hra.size)
   refine hK.out _ _ hsb (fun hHeld=>?_)
   clear hK K
   try simp only [Act.put,lA,lB,lC]
   refine tk 12 (oi:=oBy12) (v:=?_) rfl (fun _ _ _ h=>(hP _ _ _ h).elim) (.inl ⟨by rfl,?_⟩) (by assumption) ?_
   rotate_left
   · (intro w hSw;have k1:=hSw.k1;have k2:=hSw.k2;have k8:=hSw.k8;have kx:=hSw.kx;obtain ⟨i0,r0⟩:=hSw.base.pos.rules;go_simp;try (with_reducible rfl))
   try simp only [Act.put,lA,lB,lC]
   refine tk 13 (oi:=oBy13) (v:=?_) rfl (fun _ _ _ h=>(hP _ _ _ h).elim) (.inl ⟨by rfl,?_⟩) (by assumption) ?_
   rotate_left
   · (intro w hSw;have k1:=hSw.k1;have k2:=hSw.k2;have k8:=hSw.k8;have kx:=hSw.kx;obtain ⟨i0,r0⟩:=hSw.base.pos.rules;go_simp;try (with_reducible rfl))
   try simp only [Act.put,lA,lB,lC]
   refine wpAnyH_ready (rs:=[14]) (by kernel_rfl) (by simp) ?_
   refine AllReadyH.cons (o:=oBy14) rfl (fun K hK=>?_) AllReadyH.nil
   have k3:=hob.cell
   have f3:=hob.free
   go_simp
   refine hK.out _ _ (hsb.set h3 hob hBx hg _) (fun hHeld=>?_)
   clear hK K
   try simp only [Act.put,lA,lB,lC]
   refine wpAnyH_done (by kernel_rfl) ?_ _
   exact fin _ _ hrb hob rfl
  refine AllReadyH.cons (o:=oBy7) rfl (fun K hK=>?_) AllReadyH.nil
  go_simp
  refine (hcall _ hHeld _ rfl).mono ?_
  rintro e wa ⟨rfl,hba⟩
  have hoa:=hOd.grow hba
  have hsa:=hHeld.grow h3 hba
  have hra:=hR.trans (hba.mono hR.size)
  refine hK.out _ _ hsa (fun hHeld=>?_)
  clear hK K
  try simp only [Act.put,lA,lB,lC]
  refine wpAnyH_ready (rs:=[0,11]) (by kernel_rfl) (by simp) ?_
  refine AllReadyH.cons (o:=oBy0) rfl (fun K hK=>?_) ?_
  ·
   have k3:=hoa.cell
   go_simp
   clear k3
   refine hK.out _ _ hsa (fun hHeld=>?_)
   clear hK K
   try simp only [Act.put,lA,lB,lC]
   refine wpAnyH_ready (rs:=[11]) (by kernel_rfl) (by simp) ?_
   refine AllReadyH.cons (o:=oBy11) rfl (fun K hK=>?_) AllReadyH.nil
   go_simp
   refine (of_any n hn c (x:Int) _).mono ?_
   rintro e wb ⟨rfl,hbb⟩
   have hob:=hoa.grow hbb
   have hsb:=hsa.grow h3 hbb
   have hrb:=hra.trans (hbb.mono hra.size)
   refine hK.out _ _ hsb (fun hHeld=>?_)
   clear hK K
   try simp only [Act.put,lA,lB,lC]
   refine tk 12 (oi:=oBy12) (v:=?_) rfl (fun _ _ _ h=>(hP _ _ _ h).elim) (.inl ⟨by rfl,?_⟩) (by assumption) ?_
   rotate_left
   · (intro w hSw;have k1:=hSw.k1;have k2:=hSw.k2;have k8:=hSw.k8;have kx:=hSw.kx;obtain ⟨i0,r0⟩:=hSw.base.pos.rules;go_simp;try (with_reducible rfl))
   try simp only [Act.put,lA,lB,lC]
   refine tk 13 (oi:=oBy13) (v:=?_) rfl (fun _ _ _ h=>(hP _ _ _ h).elim) (.inl ⟨by rfl,?_⟩) (by assumption) ?_
   rotate_left
   · (intro w hSw;have k1:=hSw.k1;have k2:=hSw.k2;have k8:=hSw.k8;have kx:=hSw.kx;obtain ⟨i0,r0⟩:=hSw.base.pos.rules;go_simp;try (with_reducible rfl))
   try simp only [Act.put,lA,lB,lC]
   refine wpAnyH_ready (rs:=[14]) (by kernel_rfl) (by simp) ?_
   refine AllReadyH.cons (o:=oBy14) rfl (fun K hK=>?_) AllReadyH.nil
   have k3:=hob.cell
   have f3:=hob.free
   go_simp
   refine hK.out _ _ (hsb.set h3 hob hBx hg _) (fun hHeld=>?_)
   clear hK K
   try simp only [Act.put,lA,lB,lC]
   refine wpAnyH_done (by kernel_rfl) ?_ _
   exact fin _ _ hrb hob rfl
  refine AllReadyH.cons (o:=oBy11) rfl (fun K hK=>?_) AllReadyH.nil
  go_simp
  refine (of_any n hn c (x:Int) _).mono ?_
  rintro e wb ⟨rfl,hbb⟩
  have hob:=hoa.grow hbb
  have hsb:=hsa.grow h3 hbb
  have hrb:=hra.trans (hbb.mono hra.size)
  refine hK.out _ _ hsb (fun hHeld=>?_)
  clear hK K
  try simp only [Act.put,lA,lB,lC]
  refine tk 12 (oi:=oBy12) (v:=?_) rfl (fun _ _ _ h=>(hP _ _ _ h).elim) (.inl ⟨by rfl,?_⟩) (by assumption) ?_
  rotate_left
  · (intro w hSw;have k1:=hSw.k1;have k2:=hSw.k2;have k8:=hSw.k8;have kx:=hSw.kx;obtain ⟨i0,r0⟩:=hSw.base.pos.rules;go_simp;try (with_reducible rfl))
  try simp only [Act.put,lA,lB,lC]
  refine wpAnyH_ready (rs:=[0]) (by kernel_rfl) (by simp) ?_
  refine AllReadyH.cons (o:=oBy0) rfl (fun K hK=>?_) AllReadyH.nil
  have k3:=hob.cell
  go_simp
  clear k3
  refine hK.out _ _ hsb (fun hHeld=>?_)
  clear hK K
  try simp only [Act.put,lA,lB,lC]
  refine tk 13 (oi:=oBy13) (v:=?_) rfl (fun _ _ _ h=>(hP _ _ _ h).elim) (.inl ⟨by rfl,?_⟩) (by assumption) ?_
  rotate_left
  · (intro w hSw;have k1:=hSw.k1;have k2:=hSw.k2;have k8:=hSw.k8;have kx:=hSw.kx;obtain ⟨i0,r0⟩:=hSw.base.pos.rules;go_simp;try (with_reducible rfl))
  try simp only [Act.put,lA,lB,lC]
  refine wpAnyH_ready (rs:=[14]) (by kernel_rfl) (by simp) ?_
  refine AllReadyH.cons (o:=oBy14) rfl (fun K hK=>?_) AllReadyH.nil
  have k3:=hob.cell
  have f3:=hob.free
  go_simp
  refine hK.out _ _ (hsb.set h3 hob hBx hg _) (fun hHeld=>?_)
  clear hK K
  try simp only [Act.put,lA,lB,lC]
  refine wpAnyH_done (by kernel_rfl) ?_ _
  exact fin _ _ hrb hob rfl
theorem from_inv2 {g:Nat} {W:World} (h:FromIs 2 (.func (.func 221) #[] #[.pointer (some ⟨g,0,none⟩)]) W):Holds1 W g 143 (fnV 205):=by
 rcases h with ⟨e,_⟩ | ⟨e,g',h1,h2⟩ | ⟨e,g',h1,h2⟩ | ⟨e,g',h1,h2⟩ | ⟨e,g',h1,h2⟩ | ⟨e,g',h1,h2⟩ <;> first | (exfalso;omega) | (unfold fnC at h1;simp at h1;subst h1;exact h2)
theorem from_inv3 {g:Nat} {W:World} (h:FromIs 3 (.func (.func 222) #[] #[.pointer (some ⟨g,0,none⟩)]) W):Holds1 W g 197 (fnV 206):=by
 rcases h with ⟨e,_⟩ | ⟨e,g',h1,h2⟩ | ⟨e,g',h1,h2⟩ | ⟨e,g',h1,h2⟩ | ⟨e,g',h1,h2⟩ | ⟨e,g',h1,h2⟩ <;> first | (exfalso;omega) | (unfold fnC at h1;simp at h1;subst h1;exact h2)
theorem from_inv4 {g:Nat} {W:World} (h:FromIs 4 (.func (.func 222) #[] #[.pointer (some ⟨g,0,none⟩)]) W):Holds1 W g 197 (fnV 207):=by
 rcases h with ⟨e,_⟩ | ⟨e,g',h1,h2⟩ | ⟨e,g',h1,h2⟩ | ⟨e,g',h1,h2⟩ | ⟨e,g',h1,h2⟩ | ⟨e,g',h1,h2⟩ <;> first | (exfalso;omega) | (unfold fnC at h1;simp at h1;subst h1;exact h2)
theorem from_inv5 {g:Nat} {W:World} (h:FromIs 5 (.func (.func 222) #[] #[.pointer (some ⟨g,0,none⟩)]) W):Holds1 W g 197 (fnV 208):=by
 rcases h with ⟨e,_⟩ | ⟨e,g',h1,h2⟩ | ⟨e,g',h1,h2⟩ | ⟨e,g',h1,h2⟩ | ⟨e,g',h1,h2⟩ | ⟨e,g',h1,h2⟩ <;> first | (exfalso;omega) | (unfold fnC at h1;simp at h1;subst h1;exact h2)
theorem from_inv6 {g:Nat} {W:World} (h:FromIs 6 (.func (.func 221) #[] #[.pointer (some ⟨g,0,none⟩)]) W):Holds1 W g 143 (fnV 124):=by
 rcases h with ⟨e,_⟩ | ⟨e,g',h1,h2⟩ | ⟨e,g',h1,h2⟩ | ⟨e,g',h1,h2⟩ | ⟨e,g',h1,h2⟩ | ⟨e,g',h1,h2⟩ <;> first | (exfalso;omega) | (unfold fnC at h1;simp at h1;subst h1;exact h2)
theorem kinds_pre {pre:List Nat} {x:Nat} (h:(pre ++ [x]) <+: kindsL):x=pre.length+1∧x≤6:=by
 obtain ⟨r,hr⟩:=h
 unfold kindsL at hr
 have hl:(pre ++ [x] ++ r).length=6:=by rw [hr];rfl
 have hx:(pre ++ [x] ++ r)[pre.length]?=some x:=by simp
 rw [hr] at hx
 simp at hl
 have:pre.length=0∨pre.length=1∨pre.length=2∨pre.length=3∨pre.length=4∨pre.length=5:=by omega
 rcases this with e | e | e | e | e | e <;> rw [e] at hx <;> simp at hx <;> omega
theorem by_any (n:Nat→Int) (hn:PosOk n) (s c:Int) (s0:0≤s) (s1:s<64) (c0:0≤c) (c1:c≤1) (w:World) (hT:Tab w) :
 Calls Tryz.prog 125 #[.agg (posA n),.int .i64 s,.int .u8 c] w fun e w' => e = .returned (.int .u64 (u (byN n s c)))∧Below w.heap.size w w' := by
 refine (callsIn_wide (n:=3)).1 ?_
 refine callsIn_of_wp_marks Tryz.func125 rfl trivial ?_ rfl
 simp only [Tryz.ntmps125,List.size_toArray,List.length_cons,List.length_nil,Nat.reduceAdd,Nat.reduceSub,Array.replicate_succ,Array.replicate_zero,List.push_toArray,List.append_toArray,List.nil_append,List.cons_append]
 have hd:Fence.wide.depth.isSome=false:=rfl
 have hfn:∀ k,Fence.wide.fn k=True:=fun _=>rfl
 obtain ⟨X,hX⟩:∃ X,((w.alloc (.cells (posA n) 31)).alloc (.cells #[.int .i64 s] 3)).alloc (.cells #[.int .u8 c] 5)=X:=⟨_,rfl⟩
 have hXs:X.heap.size=w.heap.size+3:=by rw [← hX];simp
 have p0:PosAt X w.heap.size n:=by rw [← hX];exact ((PosAt.new w n).alloc _).alloc _
 have q1:X.heap[w.heap.size+1]?=some (.cells #[.int .i64 s] 3 (0,0)):=by
  rw [← hX]
  have:=World.alloc_heap_new (w.alloc (.cells (posA n) 31)) (.cells #[.int .i64 s] 3)
  rw [World.size_alloc] at this
  exact (Below.heap_alloc _ _ _ (by simp)).trans this
 have q2:X.heap[w.heap.size+2]?=some (.cells #[.int .u8 c] 5 (0,0)):=by
  rw [← hX]
  have:=World.alloc_heap_new ((w.alloc (.cells (posA n) 31)).alloc (.cells #[.int .i64 s] 3)) (.cells #[.int .u8 c] 5)
  rw [World.size_alloc,World.size_alloc] at this
  exact this
 have hb:Below w.heap.size w X:=by rw [← hX];exact (((Below.refl _ _).alloc lR _).alloc (by simp) _).alloc (by simp;omega) _
 obtain ⟨Y,hY⟩:∃ Y,X.alloc (.cells #[.int .u64 0] 23)=Y:=⟨_,rfl⟩
 have hYs:Y.heap.size=w.heap.size+4:=by rw [← hY];simp [hXs]
 have hbY:Below X.heap.size X Y:=by rw [← hY];exact (Below.refl _ _).alloc lR _
 have q3:Y.heap[w.heap.size+3]?=some (.cells #[.int .u64 0] 23 (0,0)):=by
  rw [← hY]
  have:=World.alloc_heap_new X (.cells #[.int .u64 0] 23)
  rw [hXs] at this
  exact this
 obtain ⟨i0,r0⟩:=(p0.below hbY p0.lt).rules
 have k4:X.cell? ⟨w.heap.size+1,0,none⟩=some (.int .i64 s):=by rw [cell_of_row X _ 0 _ _ _ q1];rfl
 have k5:X.cell? ⟨w.heap.size+2,0,none⟩=some (.int .u8 c):=by rw [cell_of_row X _ 0 _ _ _ q2];rfl
 have HX:=hI hX
 have HY:=hI hY
 have HXS:=hI hXs
 have HYS:=hI hYs
 have dc:decide ((1:Int)<c)=false:=decide_eq_false (by omega)
 clear hX hY hXs hYs
 gi_wp2_with (first | rw [HX.out] | rw [HY.out] | (gi_at_call 171;refine (callsIn_wide.2 (there_any s s0 s1 _)).mono ?_;rintro e w2 ⟨rfl,rfl⟩))
 try rw [HXS.out]
 refine (callsIn_wide.2 (ball_any n hn _)).mono ?_
 rintro e w4 ⟨rfl,hb4⟩
 have hbX4:Below X.heap.size X w4:=hbY.trans (hb4.mono hbY.size)
 have hz4:=hb4.size
 have q0' : PosAt w4 w.heap.size n:=p0.below hbX4 p0.lt
 have q1' := (hbX4.block _ (Array.getElem?_eq_some_iff.1 q1).1).trans q1
 have q2' := (hbX4.block _ (Array.getElem?_eq_some_iff.1 q2).1).trans q2
 have q3' := (hb4.block _ (Array.getElem?_eq_some_iff.1 q3).1).trans q3
 have hbw4:=hb.trans (hbX4.mono hb.size)
 clear hb4 hbX4 q1 q2 q3 p0 i0 r0 k4 k5 hb hbY
 obtain ⟨Z,hZ⟩:∃ Z,w4.alloc (.cells #[.int .u64 (u (allN n))] 23)=Z:=⟨_,rfl⟩
 have hbZ:Below w4.heap.size w4 Z:=by rw [← hZ];exact (Below.refl _ _).alloc lR _
 have hZs:Z.heap.size=w4.heap.size+1:=by rw [← hZ];simp
 have q4:Z.heap[w4.heap.size]?=some (.cells #[.int .u64 (u (allN n))] 23 (0,0)):=by rw [← hZ];exact World.alloc_heap_new w4 _
 have SZ:ByS n s c w.heap.size w4.heap.size Z:=⟨q0'.below hbZ q0'.lt,(hbZ.block _ (Array.getElem?_eq_some_iff.1 q1').1).trans q1',(hbZ.block _ (Array.getElem?_eq_some_iff.1 q2').1).trans q2',q4⟩
 have q3z:=(hbZ.block _ (Array.getElem?_eq_some_iff.1 q3').1).trans q3'
 have hbwZ:=hbw4.trans (hbZ.mono hbw4.size)
 have HZ:=hI hZ
 have h4:w.heap.size+4≤w4.heap.size:=by rw [← HYS.out];exact hz4
 have HSZ:=hI SZ
 have HQ3:=hI q3z
 have HBZ:=hI hbwZ
 have HZS:=hI hZs
 clear q0' q1' q2' q3' hbw4 hbZ q4 hZ SZ q3z hbwZ hZs hz4
 gi_wp2_with (first | rw [HZ.out] | (gi_at_call 172;refine (callsIn_wide.2 (kinds_any _)).mono ?_;rintro e w2 ⟨rfl,rfl⟩))
 have hgl:w.heap.size+3≠0:=by
  have:=World.block_lt_of_cell? _ _ (hT 0 (by decide))
  simp at this;omega
 have HT:=hI hT
 refine range_typed (n:=3) [23] rfl (enters_of Tryz.func201 (by kernel_rfl) rfl)
  (fun pre W=>outAt W (w.heap.size+3) (byK n s c pre.length)∧ByS n s c w.heap.size w4.heap.size W∧Below w.heap.size w W) kindsL EncK
  (fun p W=>∃ Bx f,p.2={ tmps:=#[.agg (posA n),.int .i64 s,.int .u8 c,.pointer (some ⟨w.heap.size,0,none⟩),.pointer (some ⟨w.heap.size+1,0,none⟩),.pointer (some ⟨w.heap.size+1+1,0,none⟩),.int .u64 0,.pointer (some ⟨w.heap.size+3,0,none⟩),.pointer (some ⟨w4.heap.size,0,none⟩),.int .u8 (p.1:Int),.pointer (some ⟨Bx,0,none⟩),.int .i64 s,.bool true,.bool false,.bool false,.int .u8 c,.bool false,.bool false,.agg (posA n),.int .u64 (u (allN n)),.func (.func 201) #[] #[],.int .u8 (p.1:Int),.agg #[f],undef,undef,undef,undef,undef,undef,undef,undef,undef,undef,undef,undef,undef,undef,undef],defers:=[] }∧W.heap[Bx]?=some (.cells #[f] 183 (0,0))∧FromIs p.1 f W∧Z.heap.size≤Bx)
  ?hsz ?hIb ?hIp ?hAp (kinds1_in _) ?h0 ?hassign ?hbody ?hdone
 case hsz =>
  rintro x args W ⟨f,h,_⟩
  rw [show args=_ from h];rfl
 case hIb =>
  rintro pre W W' ⟨h1,h2,h3⟩ hb
  exact ⟨h1.grow hb,h2.grow (by omega) hb,h3.trans (hb.mono h3.size)⟩
 case hIp =>
  rintro pre W l o o' ⟨h1,h2,h3⟩ hl ho hoc
  rw [HZS.out] at hl
  exact ⟨(put_same ho hoc _ _ _ _ h1).trans h1,h2.same (fun g cs t m hg _=>put_same ho hoc g cs t m hg) (by omega),h3.trans ((below_put W l o').mono (by omega))⟩
 case hAp =>
  rintro ⟨x,a⟩ W l o o' ⟨Bx,f,ha,hw,hf,hz⟩ hl ho hoc
  exact ⟨Bx,f,ha,(put_same ho hoc _ _ _ _ hw).trans hw,hf.put ho hoc,hz⟩
 case h0=>exact ⟨HQ3.out,HSZ.out,HBZ.out⟩
 case hassign =>
  rintro l m pre x args W K ⟨h1,h2,h3⟩ _ hz ⟨f,hargs,hf⟩ hK
  rw [show args=_ from hargs]
  obtain ⟨fa,fb,fc,rfl⟩:=hf.isFunc
  have hbn:Below W.heap.size W (W.alloc (.cells #[.func fa fb fc] 183)):=(Below.refl _ _).alloc lR _
  have HK:=hI (hK { tmps:=#[.agg (posA n),.int .i64 s,.int .u8 c,.pointer (some ⟨w.heap.size,0,none⟩),.pointer (some ⟨w.heap.size+1,0,none⟩),.pointer (some ⟨w.heap.size+1+1,0,none⟩),.int .u64 0,.pointer (some ⟨w.heap.size+3,0,none⟩),.pointer (some ⟨w4.heap.size,0,none⟩),.int .u8 (x:Int),.pointer (some ⟨W.heap.size,0,none⟩),.int .i64 s,.bool true,.bool false,.bool false,.int .u8 c,.bool false,.bool false,.agg (posA n),.int .u64 (u (allN n)),.func (.func 201) #[] #[],.int .u8 (x:Int),.agg #[.func fa fb fc],undef,undef,undef,undef,undef,undef,undef,undef,undef,undef,undef,undef,undef,undef,undef],defers:=[] } _ hbn ⟨h1.grow hbn,h2.grow (by omega) hbn,h3.trans (hbn.mono h3.size)⟩ ⟨W.heap.size,_,rfl,World.alloc_heap_new W _,hf.below hbn,hz⟩)
  clear hK hargs hf hbn h1 h2 h3
  gi_wp2
  exact HK.out
 case hbody =>
  rintro l m pre x a W ⟨h1,h2,h3⟩ hz hpre ⟨Bx,f,ha,hw,hf,hzb⟩
  rw [show a=_ from ha]
  obtain ⟨hx,hx6⟩:=kinds_pre hpre
  have fin:∀ w2,Below W.heap.size W w2→outAt w2 (w.heap.size+3) (byK n s c pre.length)→roundHolds (fun (pre:List Nat) W=>outAt W (w.heap.size+3) (byK n s c pre.length)∧ByS n s c w.heap.size w4.heap.size W∧Below w.heap.size w W) [23] (pre ++ [x]) W .normal a (w2.setCell ⟨w.heap.size+3,0,none⟩ (.int .u64 (u (byK n s c pre.length ||| (atkB x (1 - c) s (allN n)&&&ofN n c x))))):=by
   intro w2 hb2 ho2
   refine ⟨(Holds.of_below hb2).setCell ho2 (by simp) _ _,?_,(h2.grow (by omega) hb2).same (fun g cs t m _ hg=>Below.heap_setCell _ _ _ _ hg) (by omega),(h3.trans (hb2.mono h3.size)).setCell (p:=⟨w.heap.size+3,0,none⟩) (by show w.heap.size≤w.heap.size+3;omega) _⟩
   have he:byK n s c (pre ++ [x]).length=byK n s c pre.length ||| (atkB x (1 - c) s (allN n)&&&ofN n c x):=by
    rw [List.length_append,hx];rfl
   rw [he]
   unfold outAt at ho2 ⊢
   simp only [World.setCell]
   rw [Array.getElem?_modify,if_pos rfl,ho2]
   rfl
  clear ha
  have hf0:=hf
  have hT:=HT.out
  rw [HZS.out] at hzb
  refine wpIn_block ?_
  rcases hf with ⟨hx1,rfl⟩ | ⟨hx1,gc,rfl,_⟩ | ⟨hx1,gc,rfl,_⟩ | ⟨hx1,gc,rfl,_⟩ | ⟨hx1,gc,rfl,_⟩ | ⟨hx1,gc,rfl,_⟩
  · subst hx1
    refine by_body n hn s c c0 c1 w.heap.size w4.heap.size 1 Bx 214 #[] (.inl rfl) (byK n s c pre.length) (by omega) (by omega) hgl W (enters_of Tryz.func214 (by kernel_rfl) rfl) ⟨h2,hw,hf0,hT.below h3 lR⟩ h1 (fun w2 hw2 _ e=>e ▸ (ways1_any (1 - c) s (by omega) (by omega) (u (allN n)) w2).mono (fun e w' he=>⟨he.1,he.2⟩)) l m _ (fun ⟨_,_,hq⟩=>hq) (fun _ _ _ hq=>hq) _ rfl ?_
    intro a w2 hb2 ho2 _
    exact fin w2 hb2 ho2
  · subst hx1
    refine by_body n hn s c c0 c1 w.heap.size w4.heap.size 2 Bx 221 #[.pointer (some ⟨gc,0,none⟩)] (.inr ⟨gc,rfl⟩) (byK n s c pre.length) (by omega) (by omega) hgl W (enters_of Tryz.func221 (by kernel_rfl) rfl) ⟨h2,hw,hf0,hT.below h3 lR⟩ h1 (fun w2 hw2 _ e=>e ▸ (from_knight (1 - c) s (allN n) gc w2 hw2.tab (from_inv2 hw2.frm)).mono (fun e w' he=>⟨he.1,he.2⟩)) l m _ (fun ⟨_,_,hq⟩=>hq) (fun _ _ _ hq=>hq) _ rfl ?_
    intro a w2 hb2 ho2 _
    exact fin w2 hb2 ho2
  · subst hx1
    refine by_body n hn s c c0 c1 w.heap.size w4.heap.size 3 Bx 222 #[.pointer (some ⟨gc,0,none⟩)] (.inr ⟨gc,rfl⟩) (byK n s c pre.length) (by omega) (by omega) hgl W (enters_of Tryz.func222 (by kernel_rfl) rfl) ⟨h2,hw,hf0,hT.below h3 lR⟩ h1 (fun w2 hw2 _ e=>e ▸ (from_sbish (1 - c) s (allN n) gc w2 hw2.tab (from_inv3 hw2.frm)).mono (fun e w' he=>⟨he.1,he.2⟩)) l m _ (fun ⟨_,_,hq⟩=>hq) (fun _ _ _ hq=>hq) _ rfl ?_
    intro a w2 hb2 ho2 _
    exact fin w2 hb2 ho2
  · subst hx1
    refine by_body n hn s c c0 c1 w.heap.size w4.heap.size 4 Bx 222 #[.pointer (some ⟨gc,0,none⟩)] (.inr ⟨gc,rfl⟩) (byK n s c pre.length) (by omega) (by omega) hgl W (enters_of Tryz.func222 (by kernel_rfl) rfl) ⟨h2,hw,hf0,hT.below h3 lR⟩ h1 (fun w2 hw2 _ e=>e ▸ (from_srook (1 - c) s (allN n) gc w2 hw2.tab (from_inv4 hw2.frm)).mono (fun e w' he=>⟨he.1,he.2⟩)) l m _ (fun ⟨_,_,hq⟩=>hq) (fun _ _ _ hq=>hq) _ rfl ?_
    intro a w2 hb2 ho2 _
    exact fin w2 hb2 ho2
  · subst hx1
    refine by_body n hn s c c0 c1 w.heap.size w4.heap.size 5 Bx 222 #[.pointer (some ⟨gc,0,none⟩)] (.inr ⟨gc,rfl⟩) (byK n s c pre.length) (by omega) (by omega) hgl W (enters_of Tryz.func222 (by kernel_rfl) rfl) ⟨h2,hw,hf0,hT.below h3 lR⟩ h1 (fun w2 hw2 _ e=>e ▸ (from_squeen (1 - c) s (allN n) gc w2 hw2.tab (from_inv5 hw2.frm)).mono (fun e w' he=>⟨he.1,he.2⟩)) l m _ (fun ⟨_,_,hq⟩=>hq) (fun _ _ _ hq=>hq) _ rfl ?_
    intro a w2 hb2 ho2 _
    exact fin w2 hb2 ho2
  · subst hx1
    refine by_body n hn s c c0 c1 w.heap.size w4.heap.size 6 Bx 221 #[.pointer (some ⟨gc,0,none⟩)] (.inr ⟨gc,rfl⟩) (byK n s c pre.length) (by omega) (by omega) hgl W (enters_of Tryz.func221 (by kernel_rfl) rfl) ⟨h2,hw,hf0,hT.below h3 lR⟩ h1 (fun w2 hw2 _ e=>e ▸ (from_king (1 - c) s (allN n) gc w2 hw2.tab (from_inv6 hw2.frm)).mono (fun e w' he=>⟨he.1,he.2⟩)) l m _ (fun ⟨_,_,hq⟩=>hq) (fun _ _ _ hq=>hq) _ rfl ?_
    intro a w2 hb2 ho2 _
    exact fin w2 hb2 ho2
 case hdone =>
  rintro D W hD ⟨h1,h2,h3⟩ hK
  have hc:=h1.cell
  gi_wp2
  refine ⟨by simp,.inl ⟨_,_,rfl,run_takeDeferred hK,?_⟩⟩
  exact ⟨_,results_tmp rfl _ _ _,rfl,h3.trans (belowK_b (w:=w) lR W D _ _ (by rw [HZS.out] at hD;omega) hK rfl rfl)⟩
end Go.Proofs.YteocjaihaegmoaaGreatDoor
