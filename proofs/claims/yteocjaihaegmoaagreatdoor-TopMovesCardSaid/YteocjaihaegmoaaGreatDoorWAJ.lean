/- Parts of the proof: ZP. -/
import Derived.Test.YteocjaihaegmoaaGreatDoorWAB
import Derived.Test.YteocjaihaegmoaaGreatDoorWAG
import Derived.Test.YteocjaihaegmoaaGreatDoorWAI
import Derived.Laws.EntriesVeiled
set_option maxHeartbeats 800000
namespace Go.Proofs.YteocjaihaegmoaaGreatDoor
open Go Go.RowKit
theorem last_any (b:BitVec 64) (h:¬ (b=0#64)) (w:World) :
 Calls Tryz.prog 226 #[.int .u64 (u b)] w fun e w' => e = .returned (.int .i64 (lastB b))∧w=w' := by
 obtain ⟨h1,h2,h3⟩:=len_last b h
 have HN:Hid ((Lib.bitLen b.toNat:Int)=lastB b+1):=by show _=_;omega
 clear h h1
 go_enter Tryz.func226,Tryz.ntmps226
 go_wp2_with fail
 refine (lz_any b _).mono ?_
 rintro e w' ⟨rfl,rfl⟩
 rw [HN.out]
 go_wp2
 go_ret
 exact ⟨ret_int (by omega),rfl⟩
theorem way_any (d:Int) (w:World) :
 Calls Tryz.prog 225 #[.int .i64 d] w fun e w' => e = .returned (.agg #[.func (.func (if 3≤d∧d≤6 then 226 else 155)) #[] #[]])∧Below w.heap.size w w' := by
 have b1:∀ w,(Instr.build 210 #[(0,.func (.func 226) #[] #[])]).run Tryz.prog w=.ok (.agg #[.func (.func 226) #[] #[]]) w:=fun _=>by kernel_rfl
 have b2:∀ w,(Instr.build 210 #[(0,.func (.func 155) #[] #[])]).run Tryz.prog w=.ok (.agg #[.func (.func 155) #[] #[]]) w:=fun _=>by kernel_rfl
 have hc:(3≤d∧d≤6)∨d<3∨(3≤d∧6<d):=by omega
 rcases hc with ⟨h1,h2⟩ | h1 | ⟨h1,h2⟩
 · rw [if_pos ⟨h1, h2⟩]
   go_enter Tryz.func225,Tryz.ntmps225
   go_wp2
   exact bodyPost_ret (v:=.agg #[.func (.func 226) #[] #[]]) (by simp [results,Tryz.results225,go_sem]) rfl ⟨rfl,(Below.refl _ _).alloc lR _⟩
 · rw [if_neg (by omega)]
   go_enter Tryz.func225,Tryz.ntmps225
   go_wp2
   exact bodyPost_ret (v:=.agg #[.func (.func 155) #[] #[]]) (by simp [results,Tryz.results225,go_sem]) rfl ⟨rfl,(Below.refl _ _).alloc lR _⟩
 · rw [if_neg (by omega)]
   go_enter Tryz.func225,Tryz.ntmps225
   go_wp2
   exact bodyPost_ret (v:=.agg #[.func (.func 155) #[] #[]]) (by simp [results,Tryz.results225,go_sem]) rfl ⟨rfl,(Below.refl _ _).alloc lR _⟩
theorem way_field (f:Nat) (w:World):(Instr.field 210 (.agg #[.func (.func f) #[] #[]]) 0).run Tryz.prog w=.ok (.func (.func f) #[] #[]) w:=by kernel_rfl
theorem dir_any (s d:Int) (occ:BitVec 64) {a:Int} (ha:a=u occ) (w:World) (hT:Tab w) :
 Calls Tryz.prog 223 #[.int .i64 s,.int .i64 d,.int .u64 a] w fun e w' => e = .returned (.int .u64 (u (dirB s d occ)))∧Below w.heap.size w w' := by
 subst ha
 by_cases hm:rayB s d&&&occ=0#64
 · have z : (u (rayB s d &&& occ) == 0) = true := by rw [hm]; rfl
   have R:=hI (prog_free hm)
   clear hm
   go_enter Tryz.func223,Tryz.ntmps223
   go_wp2_with fail
   refine (ray_any s d _).mono ?_
   rintro e w1 ⟨rfl,hb⟩
   go_wp2
   go_ret
   exact ⟨ret_u R.out.symm,hb⟩
 · have z : (u (rayB s d &&& occ) == 0) = false := by rw [u_eq_zero, beq_eq_false_iff_ne]; exact hm
   have R:=hI (prog_met hm)
   have M:=hI hm
   clear hm
   by_cases hd:3≤d∧d≤6
   · have N := hideIt (show nearI d (rayB s d &&& occ) = lastB (rayB s d &&& occ) from if_pos hd)
     have D:=hI hd
     clear hd
     go_enter Tryz.func223,Tryz.ntmps223
     go_wp2_with fail
     refine (ray_any s d _).mono ?_
     rintro e w1 ⟨rfl,hb⟩
     go_wp2_with fail
     refine (way_any d _).mono ?_
     rw [if_pos D.out]
     rintro e w2 ⟨rfl,h1⟩
     have hb:=hb.trans (h1.mono hb.size)
     clear h1
     have wf:=way_field 226
     go_wp2_with fail
     refine (last_any _ M.out _).mono ?_
     rintro e w3 ⟨rfl,rfl⟩
     rw [← N.out]
     go_wp2_with fail
     refine (ray_any _ d _).mono ?_
     rintro e w4 ⟨rfl,h1⟩
     have hb:=hb.trans (h1.mono hb.size)
     clear h1
     go_wp2
     go_ret
     exact ⟨ret_u R.out,hb⟩
   · have N := hideIt (show nearI d (rayB s d &&& occ) = firstB (rayB s d &&& occ) from if_neg hd)
     have D:=hI hd
     clear hd
     go_enter Tryz.func223,Tryz.ntmps223
     go_wp2_with fail
     refine (ray_any s d _).mono ?_
     rintro e w1 ⟨rfl,hb⟩
     go_wp2_with fail
     refine (way_any d _).mono ?_
     rw [if_neg D.out]
     rintro e w2 ⟨rfl,h1⟩
     have hb:=hb.trans (h1.mono hb.size)
     clear h1
     have wf:=way_field 155
     go_wp2_with fail
     refine (first_any (rayB s d&&&occ) rfl _ (hT.below hb lR)).mono ?_
     rintro e w3 ⟨rfl,rfl⟩
     rw [← N.out]
     go_wp2_with fail
     refine (ray_any _ d _).mono ?_
     rintro e w4 ⟨rfl,h1⟩
     have hb:=hb.trans (h1.mono hb.size)
     clear h1
     go_wp2
     go_ret
     exact ⟨ret_u R.out,hb⟩
theorem new_cell4 (w:World) (a b c d:Value) (t:TypeId):(w.alloc (.cells #[a,b,c,d] t)).cell? ⟨w.heap.size,0,none⟩=some a∧(w.alloc (.cells #[a,b,c,d] t)).cell? ⟨w.heap.size,1,none⟩=some b∧(w.alloc (.cells #[a,b,c,d] t)).cell? ⟨w.heap.size,2,none⟩=some c∧(w.alloc (.cells #[a,b,c,d] t)).cell? ⟨w.heap.size,3,none⟩=some d:=by
 refine ⟨?_,?_,?_,?_⟩ <;> (rw [World.cell?_alloc_at _ _ _ _ rfl];rfl)
theorem seen_4 (s:Int) (occ:BitVec 64) {a:Int} (ha:a=u occ) (d0 d1 d2 d3:Int) (g c:Nat) (w:World) (hT:Tab w) (hs:g<w.heap.size)
 (h0:w.cell? ⟨g,0,none⟩=some (.int .i64 d0)) (h1:w.cell? ⟨g,1,none⟩=some (.int .i64 d1)) (h2:w.cell? ⟨g,2,none⟩=some (.int .i64 d2)) (h3:w.cell? ⟨g,3,none⟩=some (.int .i64 d3)) :
 Calls Tryz.prog 219 #[.int .i64 s,.int .u64 a,.slice (some ⟨g,0,none⟩) 4 c] w fun e w' => e = .returned (.int .u64 (u (dirB s d0 occ ||| dirB s d1 occ ||| dirB s d2 occ ||| dirB s d3 occ)))∧Below w.heap.size w w' := by
 subst ha
 have e0:bits .or .u64 0 (u (dirB s d0 occ))=u (dirB s d0 occ):=by rw [show (0:Int)=u 0#64 from rfl,bits_or_u,BitVec.zero_or]
 go_enter Tryz.func219,Tryz.ntmps219
 go_wp2
 refine wp_loop_rounds 5 ?_
 rw [rounds_succ]
 go_wp2_with fail
 refine (dir_any s d0 occ rfl _ hT).mono ?_
 rintro e w1 ⟨rfl,hb⟩
 have h1:=(hb.cell (p:=⟨g,1,none⟩) hs).trans h1
 have h2:=(hb.cell (p:=⟨g,2,none⟩) hs).trans h2
 have h3:=(hb.cell (p:=⟨g,3,none⟩) hs).trans h3
 have hT:=hT.below hb lR
 have hs:=Nat.lt_of_lt_of_le hs hb.size
 go_wp2
 clear e0
 rw [rounds_succ]
 go_wp2_with fail
 refine (dir_any s d1 occ rfl _ hT).mono ?_
 rintro e w2 ⟨rfl,hc⟩
 have h2:=(hc.cell (p:=⟨g,2,none⟩) hs).trans h2
 have h3:=(hc.cell (p:=⟨g,3,none⟩) hs).trans h3
 have hT:=hT.below hc lR
 have hs:=Nat.lt_of_lt_of_le hs hc.size
 have hb:=hb.trans (hc.mono hb.size)
 clear hc
 go_wp2
 rw [rounds_succ]
 go_wp2_with fail
 refine (dir_any s d2 occ rfl _ hT).mono ?_
 rintro e w3 ⟨rfl,hc⟩
 have h3:=(hc.cell (p:=⟨g,3,none⟩) hs).trans h3
 have hT:=hT.below hc lR
 have hs:=Nat.lt_of_lt_of_le hs hc.size
 have hb:=hb.trans (hc.mono hb.size)
 clear hc
 go_wp2
 rw [rounds_succ]
 go_wp2_with fail
 refine (dir_any s d3 occ rfl _ hT).mono ?_
 rintro e w4 ⟨rfl,hc⟩
 have hb:=hb.trans (hc.mono hb.size)
 clear hc
 go_wp2
 rw [rounds_succ]
 go_wp2
 go_ret
 exact ⟨rfl,hb⟩
theorem srook_any (s:Int) (occ:BitVec 64) {a:Int} (ha:a=u occ) (w:World) (hT:Tab w) :
 Calls Tryz.prog 207 #[.int .i64 s,.int .u64 a] w fun e w' => e = .returned (.int .u64 (u (rookB s occ)))∧Below w.heap.size w w' := by
 subst ha
 have hb0:=(Below.refl w.heap.size w).alloc lR (.cells #[.int .i64 0,.int .i64 2,.int .i64 4,.int .i64 6] 3)
 have C:=hI (new_cell4 w (.int .i64 0) (.int .i64 2) (.int .i64 4) (.int .i64 6) 3)
 have hT1:=hT.below hb0 lR
 go_enter Tryz.func207,Tryz.ntmps207
 go_wp2_with fail
 refine (seen_4 s occ rfl _ _ _ _ _ _ _ hT1 (by simp) C.out.1 C.out.2.1 C.out.2.2.1 C.out.2.2.2).mono ?_
 rintro e w1 ⟨rfl,h1⟩
 have hb:=hb0.trans (h1.mono hb0.size)
 clear h1 hb0
 go_wp2
 go_ret
 exact ⟨rfl,hb⟩
theorem sbish_any (s:Int) (occ:BitVec 64) {a:Int} (ha:a=u occ) (w:World) (hT:Tab w) :
 Calls Tryz.prog 206 #[.int .i64 s,.int .u64 a] w fun e w' => e = .returned (.int .u64 (u (bishB s occ)))∧Below w.heap.size w w' := by
 subst ha
 have hb0:=(Below.refl w.heap.size w).alloc lR (.cells #[.int .i64 1,.int .i64 3,.int .i64 5,.int .i64 7] 3)
 have C:=hI (new_cell4 w (.int .i64 1) (.int .i64 3) (.int .i64 5) (.int .i64 7) 3)
 have hT1:=hT.below hb0 lR
 go_enter Tryz.func206,Tryz.ntmps206
 go_wp2_with fail
 refine (seen_4 s occ rfl _ _ _ _ _ _ _ hT1 (by simp) C.out.1 C.out.2.1 C.out.2.2.1 C.out.2.2.2).mono ?_
 rintro e w1 ⟨rfl,h1⟩
 have hb:=hb0.trans (h1.mono hb0.size)
 clear h1 hb0
 go_wp2
 go_ret
 exact ⟨rfl,hb⟩
theorem squeen_any (s:Int) (occ:BitVec 64) {a:Int} (ha:a=u occ) (w:World) (hT:Tab w) :
 Calls Tryz.prog 208 #[.int .i64 s,.int .u64 a] w fun e w' => e = .returned (.int .u64 (u (queenB s occ)))∧Below w.heap.size w w' := by
 subst ha
 go_enter Tryz.func208,Tryz.ntmps208
 go_wp2_with fail
 refine (srook_any s occ rfl _ hT).mono ?_
 rintro e w1 ⟨rfl,hb⟩
 go_wp2_with fail
 refine (sbish_any s occ rfl _ (hT.below hb lR)).mono ?_
 rintro e w2 ⟨rfl,h1⟩
 have hb:=hb.trans (h1.mono hb.size)
 clear h1
 go_wp2
 go_ret
 exact ⟨rfl,hb⟩
end Go.Proofs.YteocjaihaegmoaaGreatDoor
