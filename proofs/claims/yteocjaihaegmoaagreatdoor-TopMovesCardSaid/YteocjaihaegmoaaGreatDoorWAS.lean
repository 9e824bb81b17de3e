/- Parts of the proof: T7. -/
import Derived.Test.YteocjaihaegmoaaGreatDoorWAN
import Derived.Test.YteocjaihaegmoaaGreatDoorWAR
set_option linter.unusedVariables false
set_option maxHeartbeats 4000000
set_option maxRecDepth 100000
namespace Go.Proofs.YteocjaihaegmoaaGreatDoor
open Go Go.RowKit
theorem bl_drew7 {B:Nat} {w w' : World} (h:Below B w w'):Below B w w'.drew:=below_drew h
theorem bD {B:Nat} {w w' : World} (h:Below B w w'):Below B w w'.drew:=below_drew h
theorem bR {B:Nat} {w:World}:Below B w w:=Below.refl _ _
theorem bl_then7 {w w' w2:World} (h:Below w.heap.size w w') (h2:Below w'.heap.size w' w2):Below w.heap.size w w2:=h.trans (h2.mono h.size)
theorem bT {w w' w2:World} (h:Below w.heap.size w w') (h2:Below w'.heap.size w' w2):Below w.heap.size w w2:=h.trans (h2.mono h.size)
theorem keepK {X W:World} {g:Nat} {n:Nat→Int} (h:PosAt X g n) (hb:Below X.heap.size X W):(IsPos W g∧rowOf W g=posA n∧W.cell? ⟨g,0,none⟩=some (.int .u8 (n 0)))∧Below X.heap.size X W :=
 have p:=h.below hb h.lt
 ⟨⟨p.is,p.row,p.board 0 (by decide)⟩,hb⟩
theorem vroyalI_any (v c:Int) (v0:0≤v) (v1:v≤255) (c0:0≤c) (c1:c≤255) (w:World):Calls Tryz.prog 66 #[.int .u8 v,.int .u8 c] w fun e w' => e = .returned (.bool (royI v.toNat c.toNat))∧Below w.heap.size w w' := by
 obtain ⟨k,rfl⟩:=Int.eq_ofNat_of_zero_le v0
 obtain ⟨j,rfl⟩:=Int.eq_ofNat_of_zero_le c0
 exact vroyal_any k j (by omega) (by omega) w
theorem on_any (n:Nat→Int) (hn:PosOk n) (s c:Int) (s0:0≤s) (s1:s<64) (c0:0≤c) (c1:c≤1) (w:World) (hT:Tab w):Calls Tryz.prog 52 #[.agg (posA n),.int .i64 s,.int .u8 c] w fun e w' => e = .returned (.bool (!(byN n s c==0#64)))∧Below w.heap.size w w' := by
 obtain ⟨X,hX⟩:∃ X,w.alloc (.cells (posA n) 31)=X:=⟨_,rfl⟩
 obtain ⟨p0,hb⟩:=box1 w n X hX
 obtain ⟨i0,r0⟩:=p0.rules
 have HX:=hI hX
 have HT:=hI (hT.below hb lR)
 clear hX hT p0
 go_enter Tryz.func52,Tryz.ntmps52
 go_wp2_with (first | rw [HX.out])
 refine (by_any n hn s c s0 s1 c0 c1 _ HT.out).mono ?_
 rintro e Y ⟨rfl,h1⟩
 have hb:=hb.trans (h1.mono hb.size)
 clear h1 i0 r0
 go_wp2
 go_ret
 exact ⟨rB (by rw [← nz_u]),hb⟩
def kingV (n:Nat→Int) (c:Int):Value:=.tuple #[.int .i64 (if 0≤kingI n c then kingI n c else 0),.bool (decide (0≤kingI n c))]
theorem kingV_no {n:Nat→Int} {c:Int} (h:kingI n c=-1):kingV n c=.tuple #[.int .i64 0,.bool false]:=by unfold kingV;rw [h];rfl
theorem kingV_yes {n:Nat→Int} {c s:Int} (h:kingI n c=s) (h0:0≤s):kingV n c=.tuple #[.int .i64 s,.bool true]:=by unfold kingV;rw [h,if_pos h0,decide_eq_true h0]
theorem kng_any (n:Nat→Int) (hn:PosOk n) (c:Int) (c0:0≤c) (c1:c≤1) (w:World) (hT:Tab w):Calls Tryz.prog 51 #[.agg (posA n),.int .u8 c] w fun e w' => e = .returned (kingV n c)∧Below w.heap.size w w' := by
 obtain ⟨X,hX⟩:∃ X,w.alloc (.cells (posA n) 31)=X:=⟨_,rfl⟩
 obtain ⟨p0,hb⟩:=box1 w n X hX
 obtain ⟨v0,v1⟩:=hn.u8 0 (by decide) rfl
 have cv:X.cell? ⟨w.heap.size,0,none⟩=some (.int .u8 (n 0)):=p0.board 0 (by decide)
 have HX:=hI hX
 have HP:=hI p0
 have HT:=hI (hT.below hb lR)
 have hks:=king_sq n c
 have HW:=wrapC c0 c1
 have h01:0≤1 - c:=by omega
 have HRR:=hI (vroyalI_any (n 0) c v0 v1 c0 (by omega))
 clear hX p0 hT
 cases hroy:royI (n 0).toNat c.toNat with
 | false =>
   have HK:=hI (kingV_no (kingI_no (n:=n) (c:=c) hroy))
   have HRO:=hI hroy
   clear hroy hks
   go_enter Tryz.func51,Tryz.ntmps51
   go_wp2_with (first | rw [HX.out] | (go_at_call 66;refine (HRR.out _).mono ?_;rintro e w2 ⟨rfl,h1⟩;rw [HRO.out]))
   have hb:=hb.trans (h1.mono hb.size)
   clear h1
   go_ret2
   exact ⟨ret_val HK.out.symm,hb⟩
 | true =>
   have HRO:=hI hroy
   have HF:=hI (fun w hT=>bfind_any n hn c 6 w hT)
   rcases hks with hk | ⟨hk0,hk1⟩
   · have HK := hideIt (kingV_no (kingI_none (n := n) (c := c) hk))
     clear hroy
     generalize firstB (ofN n c 6)=s at *
     go_enter Tryz.func51,Tryz.ntmps51
     go_wp2_with (first | rw [HX.out] | (go_at_call 66;refine (HRR.out _).mono ?_;rintro e w2 ⟨rfl,h1⟩;rw [HRO.out];have p2:=HP.out.below h1 HP.out.lt;obtain ⟨i0,r0⟩:=p2.rules))
     refine (HF.out _ (HT.out.below h1 lR)).mono ?_
     rintro e Y ⟨rfl,h2⟩
     have hb:=(hb.trans (h1.mono hb.size)).trans (h2.mono (Nat.le_trans hb.size h1.size))
     clear h1 h2 i0 r0 p2
     have ds:decide (s<0)=true:=decide_eq_true hk
     go_wp2
     go_quiet (fail)
     go_wp2
     go_ret2
     exact ⟨ret_val HK.out.symm,hb.trans ((blN _ _).mono hb.size)⟩
   · have HY := hideIt (fun h => kingI_yes (n := n) (c := c) hroy hk0 h)
     have HN:=hI (kingI_near (n:=n) (c:=c))
     have HNK:=hI (show ∀ s,nearK n s c=((n 0==3)&&!(kingB s&&&ofN n (1 - c) 6==0#64)) from fun s=>rfl)
     clear hroy
     generalize firstB (ofN n c 6)=s at *
     have ds:decide (s<0)=false:=decide_eq_false (by omega)
     by_cases hv:n 0=3
     · have e3 : (n 0 == 3) = true := beq_iff_eq.2 hv
       have HNK:=hI (show nearK n s c=!(kingB s&&&ofN n (1 - c) 6==0#64) by rw [HNK.out,e3];rfl)
       clear hv
       go_enter Tryz.func51,Tryz.ntmps51
       go_wp2_with (first | rw [HX.out] | (go_at_call 66;refine (HRR.out _).mono ?_;rintro e w2 ⟨rfl,h1⟩;rw [HRO.out];have p2:=HP.out.below h1 HP.out.lt;obtain ⟨i0,r0⟩:=p2.rules))
       refine (HF.out _ (HT.out.below h1 lR)).mono ?_
       rintro e Y ⟨rfl,h2⟩
       have pY:=p2.below h2 p2.lt
       have HPY:=hI pY
       have hb:=(hb.trans (h1.mono hb.size)).trans (h2.mono (Nat.le_trans hb.size h1.size))
       clear h1 h2 i0 r0 p2 pY cv
       go_wp2
       refine wp_region_held_drew (S:=(fun W=>(IsPos W w.heap.size∧rowOf W w.heap.size=posA n∧W.cell? ⟨w.heap.size,0,none⟩=some (.int .u8 (n 0)))∧Below Y.heap.size Y W)) (by kernel_rfl) ?_ (fun hHeld=>?_)
       · (try dsimp only);(refine keepK HPY.out ?_;repeat (first | exact Below.refl _ _ | assumption | refine bD ?_ | refine bT ?_ (by assumption)))
       refine wpAnyH_take (i:=0) (oi:={ dst:=some 15,op:=Op.move (Operand.tmp 6),type:=3,pos := "attack.go:90",after:=#[],guard:=none }) (v:=?_) rfl (by kernel_rfl) (by kernel_rfl) (by kernel_rfl) (fun _ _ _ h=>h) (Or.inl ⟨by rfl,?_⟩) (by assumption) ?_
       rotate_left
       · (intro w hSw;(try dsimp only at hSw);go_simp;try (with_reducible rfl))
       try simp only [Act.put,lA,lB,lC]
       refine wpAnyH_take (i:=1) (oi:={ dst:=some 16,op:=Op.binOp BinOp.lss 3 (Operand.tmp 15) (Operand.const (Value.int IntKind.i64 0)) 3,type:=4,pos := "attack.go:90",after:=#[{ on:=0,ground:=Ground.data }],guard:=none }) (v:=?_) rfl (by kernel_rfl) (by kernel_rfl) (by kernel_rfl) (fun _ _ _ h=>h) (Or.inl ⟨by rfl,?_⟩) (by assumption) ?_
       rotate_left
       · (intro w hSw;(try dsimp only at hSw);go_simp;try (with_reducible rfl))
       try simp only [Act.put,lA,lB,lC]
       refine wpAnyH_take (i:=2) (oi:={ dst:=some 17,op:=Op.move (Operand.tmp 16),type:=4,pos := "attack.go:90",after:=#[{ on:=1,ground:=Ground.data }],guard:=none }) (v:=?_) rfl (by kernel_rfl) (by kernel_rfl) (by kernel_rfl) (fun _ _ _ h=>h) (Or.inl ⟨by rfl,?_⟩) (by assumption) ?_
       rotate_left
       · (intro w hSw;(try dsimp only at hSw);go_simp;try (with_reducible rfl))
       try simp only [Act.put,lA,lB,lC]
       refine wpAnyH_take (i:=3) (oi:={ dst:=some 18,op:=Op.fieldAddr 31 (Operand.tmp 2) 0,type:=0,pos := "attack.go:90",after:=#[{ on:=2,ground:=Ground.guard }],guard:=some (2,false) }) (v:=?_) rfl (by kernel_rfl) (by kernel_rfl) (by kernel_rfl) (fun _ _ _ h=>h) (Or.inl ⟨by rfl,?_⟩) (by assumption) ?_
       rotate_left
       · (intro w hSw;(try dsimp only at hSw);go_simp;try (with_reducible rfl))
       try simp only [Act.put,lA,lB,lC]
       refine wpAnyH_take (i:=4) (oi:={ dst:=some 19,op:=Op.load 5 (Operand.tmp 18),type:=5,pos := "attack.go:90",after:=#[{ on:=3,ground:=Ground.data },{ on:=2,ground:=Ground.guard }],guard:=some (2,false) }) (v:=?_) rfl (by kernel_rfl) (by kernel_rfl) (by kernel_rfl) (fun _ _ _ h=>h) (Or.inl ⟨by rfl,?_⟩) (by assumption) ?_
       rotate_left
       · (intro w hSw;(try dsimp only at hSw);go_simp;try (with_reducible rfl))
       try simp only [Act.put,lA,lB,lC]
       refine wpAnyH_take (i:=5) (oi:={ dst:=some 20,op:=Op.binOp BinOp.eql 5 (Operand.tmp 19) (Operand.const (Value.int IntKind.u8 3)) 5,type:=4,pos := "attack.go:90",after:=#[{ on:=4,ground:=Ground.data },{ on:=2,ground:=Ground.guard }],guard:=some (2,false) }) (v:=?_) rfl (by kernel_rfl) (by kernel_rfl) (by kernel_rfl) (fun _ _ _ h=>h) (Or.inl ⟨by rfl,?_⟩) (by assumption) ?_
       rotate_left
       · (intro w hSw;(try dsimp only at hSw);go_simp;try (with_reducible rfl))
       try simp only [Act.put,lA,lB,lC]
       refine wpAnyH_take (i:=6) (oi:={ dst:=some 21,op:=Op.move (Operand.tmp 20),type:=4,pos := "attack.go:90",after:=#[{ on:=5,ground:=Ground.data },{ on:=2,ground:=Ground.chain },{ on:=2,ground:=Ground.guard }],guard:=some (2,false) }) (v:=?_) rfl (by kernel_rfl) (by kernel_rfl) (by kernel_rfl) (fun _ _ _ h=>h) (Or.inl ⟨by rfl,?_⟩) (by assumption) ?_
       rotate_left
       · (intro w hSw;(try dsimp only at hSw);go_simp;try (with_reducible rfl))
       try simp only [Act.put,lA,lB,lC]
       refine wpAnyH_take (i:=7) (oi:={ dst:=some 22,op:=Op.move (Operand.tmp 6),type:=3,pos := "attack.go:90",after:=#[{ on:=6,ground:=Ground.guard }],guard:=some (6,true) }) (v:=?_) rfl (by kernel_rfl) (by kernel_rfl) (by kernel_rfl) (fun _ _ _ h=>h) (Or.inl ⟨by rfl,?_⟩) (by assumption) ?_
       rotate_left
       · (intro w hSw;(try dsimp only at hSw);go_simp;try (with_reducible rfl))
       try simp only [Act.put,lA,lB,lC]
       refine wpAnyH_take (i:=9) (oi:={ dst:=some 24,op:=Op.load 31 (Operand.tmp 2),type:=31,pos := "attack.go:90",after:=#[{ on:=6,ground:=Ground.guard }],guard:=some (6,true) }) (v:=?_) rfl (by kernel_rfl) (by kernel_rfl) (by kernel_rfl) (fun _ _ _ h=>h) (Or.inl ⟨by rfl,?_⟩) (by assumption) ?_
       rotate_left
       · (intro w hSw;(try dsimp only at hSw);go_simp;try (with_reducible rfl))
       try simp only [Act.put,lA,lB,lC]
       refine wpAnyH_take (i:=10) (oi:={ dst:=some 25,op:=Op.move (Operand.tmp 1),type:=5,pos := "attack.go:90",after:=#[{ on:=6,ground:=Ground.guard }],guard:=some (6,true) }) (v:=?_) rfl (by kernel_rfl) (by kernel_rfl) (by kernel_rfl) (fun _ _ _ h=>h) (Or.inl ⟨by rfl,?_⟩) (by assumption) ?_
       rotate_left
       · (intro w hSw;(try dsimp only at hSw);go_simp;try (with_reducible rfl))
       try simp only [Act.put,lA,lB,lC]
       refine wpAnyH_take (i:=11) (oi:={ dst:=some 26,op:=Op.binOp BinOp.sub 5 (Operand.const (Value.int IntKind.u8 1)) (Operand.tmp 25) 5,type:=5,pos := "attack.go:90",after:=#[{ on:=10,ground:=Ground.data },{ on:=6,ground:=Ground.guard }],guard:=some (6,true) }) (v:=?_) rfl (by kernel_rfl) (by kernel_rfl) (by kernel_rfl) (fun _ _ _ h=>h) (Or.inl ⟨by rfl,?_⟩) (by assumption) ?_
       rotate_left
       · (intro w hSw;(try dsimp only at hSw);go_simp;try (with_reducible rfl))
       try simp only [Act.put,lA,lB,lC]
       refine wpAnyH_ready (rs:=[8]) (by kernel_rfl) (by simp) ?_
       refine AllReadyH.cons (o:={ dst:=some 23,op:=Op.call { callee:=Callee.value (Operand.func 124),args:=#[Operand.tmp 22],argTypes:=#[3] },type:=23,pos := "attack.go:90",after:=#[{ on:=7,ground:=Ground.data },{ on:=6,ground:=Ground.chain },{ on:=6,ground:=Ground.guard }],guard:=some (6,true) }) rfl (fun K hK=>?_) AllReadyH.nil
       go_simp
       refine (king_any s _).mono ?_
       rintro e wa ⟨rfl,hba⟩
       refine hK.out _ _ ?_ (fun hHeld=>?_)
       · (try dsimp only);(refine keepK HPY.out ?_;repeat (first | exact Below.refl _ _ | assumption | refine bD ?_ | refine bT ?_ (by assumption)))
       clear hK K
       try simp only [Act.put,lA,lB,lC]
       refine wpAnyH_ready (rs:=[12]) (by kernel_rfl) (by simp) ?_
       refine AllReadyH.cons (o:={ dst:=some 27,op:=Op.call { callee:=Callee.value (Operand.func 99),args:=#[Operand.tmp 24,Operand.tmp 26,Operand.const (Value.int IntKind.u8 6)],argTypes:=#[31,5,5] },type:=23,pos := "attack.go:90",after:=#[{ on:=9,ground:=Ground.data },{ on:=11,ground:=Ground.data },{ on:=8,ground:=Ground.chain },{ on:=6,ground:=Ground.guard }],guard:=some (6,true) }) rfl (fun K hK=>?_) AllReadyH.nil
       go_simp
       refine (of_any n hn (1 - c) 6 _).mono ?_
       rintro e wb ⟨rfl,hbb⟩
       refine hK.out _ _ ?_ (fun hHeld=>?_)
       · (try dsimp only);(refine keepK HPY.out ?_;repeat (first | exact Below.refl _ _ | assumption | refine bD ?_ | refine bT ?_ (by assumption)))
       clear hK K
       try simp only [Act.put,lA,lB,lC]
       refine wpAnyH_take (i:=13) (oi:={ dst:=some 28,op:=Op.binOp BinOp.and 23 (Operand.tmp 23) (Operand.tmp 27) 23,type:=23,pos := "attack.go:90",after:=#[{ on:=8,ground:=Ground.data },{ on:=12,ground:=Ground.data },{ on:=6,ground:=Ground.guard }],guard:=some (6,true) }) (v:=?_) rfl (by kernel_rfl) (by kernel_rfl) (by kernel_rfl) (fun _ _ _ h=>h) (Or.inl ⟨by rfl,?_⟩) (by assumption) ?_
       rotate_left
       · (intro w hSw;(try dsimp only at hSw);go_simp;try (with_reducible rfl))
       try simp only [Act.put,lA,lB,lC]
       refine wpAnyH_take (i:=14) (oi:={ dst:=some 29,op:=Op.binOp BinOp.neq 23 (Operand.tmp 28) (Operand.const (Value.int IntKind.u64 0)) 23,type:=4,pos := "attack.go:90",after:=#[{ on:=13,ground:=Ground.data },{ on:=6,ground:=Ground.guard }],guard:=some (6,true) }) (v:=?_) rfl (by kernel_rfl) (by kernel_rfl) (by kernel_rfl) (fun _ _ _ h=>h) (Or.inl ⟨by rfl,?_⟩) (by assumption) ?_
       rotate_left
       · (intro w hSw;(try dsimp only at hSw);go_simp;try (with_reducible rfl))
       try simp only [Act.put,lA,lB,lC]
       refine wpAnyH_take (i:=15) (oi:={ dst:=some 30,op:=Op.pick (Operand.tmp 21) (Operand.tmp 29) (Operand.const (Value.bool false)),type:=4,pos := "attack.go:90",after:=#[{ on:=6,ground:=Ground.data },{ on:=14,ground:=Ground.data },{ on:=2,ground:=Ground.guard }],guard:=some (2,false) }) (v:=?_) rfl (by kernel_rfl) (by kernel_rfl) (by kernel_rfl) (fun _ _ _ h=>h) (Or.inl ⟨by rfl,?_⟩) (by assumption) ?_
       rotate_left
       · (intro w hSw;(try dsimp only at hSw);go_simp;try (with_reducible rfl))
       try simp only [Act.put,lA,lB,lC]
       refine wpAnyH_take (i:=16) (oi:={ dst:=some 31,op:=Op.pick (Operand.tmp 17) (Operand.const (Value.bool true)) (Operand.tmp 30),type:=4,pos := "attack.go:90",after:=#[{ on:=2,ground:=Ground.data },{ on:=15,ground:=Ground.data }],guard:=none }) (v:=?_) rfl (by kernel_rfl) (by kernel_rfl) (by kernel_rfl) (fun _ _ _ h=>h) (Or.inl ⟨by rfl,?_⟩) (by assumption) ?_
       rotate_left
       · (intro w hSw;(try dsimp only at hSw);go_simp;try (with_reducible rfl))
       try simp only [Act.put,lA,lB,lC]
       refine wpAnyH_done (by kernel_rfl) ?_ _
       have hbE:=hb.trans ((bT (bT (bD (Below.refl _ _)) hba) hbb).mono hb.size)
       cases hz:(kingB s&&&ofN n (1 - c) 6==0#64) with
       | true =>
         have hz2:(u (kingB s&&&ofN n (1 - c) 6) != 0)=false:=by rw [nz_u,hz];rfl
         have HK:=hI (kingV_yes (HY.out (by rw [HNK.out,hz];rfl)) hk0)
         clear hz
         go_wp2
         go_ret2
         exact ⟨ret_val HK.out.symm,hbE⟩
       | false =>
         have hz2:(u (kingB s&&&ofN n (1 - c) 6) != 0)=true:=by rw [nz_u,hz];rfl
         have HK:=hI (kingV_no (HN.out (by rw [HNK.out,hz];rfl)))
         clear hz
         go_wp2
         go_ret2
         exact ⟨ret_val HK.out.symm,hbE⟩
     · have e3 : (n 0 == 3) = false := beq_eq_false_iff_ne.2 hv
       have HK:=hI (kingV_yes (HY.out (by rw [HNK.out,e3];rfl)) hk0)
       clear hv
       go_enter Tryz.func51,Tryz.ntmps51
       go_wp2_with (first | rw [HX.out] | (go_at_call 66;refine (HRR.out _).mono ?_;rintro e w2 ⟨rfl,h1⟩;rw [HRO.out];have p2:=HP.out.below h1 HP.out.lt;obtain ⟨i0,r0⟩:=p2.rules))
       refine (HF.out _ (HT.out.below h1 lR)).mono ?_
       rintro e Y ⟨rfl,h2⟩
       have cy:Y.cell? ⟨w.heap.size,0,none⟩=some (.int .u8 (n 0)):=(p2.below h2 p2.lt).board 0 (by decide)
       have hb:=(hb.trans (h1.mono hb.size)).trans (h2.mono (Nat.le_trans hb.size h1.size))
       clear h1 h2 i0 r0 p2
       go_wp2
       go_quiet (fail)
       go_wp2
       go_ret2
       exact ⟨ret_val HK.out.symm,hb.trans ((blN _ _).mono hb.size)⟩
theorem check_any (n:Nat→Int) (hn:PosOk n) (c:Int) (c0:0≤c) (c1:c≤1) (w:World) (hT:Tab w):Calls Tryz.prog 20 #[.agg (posA n),.int .u8 c] w fun e w' => e = .returned (.bool (checkN n c))∧Below w.heap.size w w' := by
 obtain ⟨X,hX⟩:∃ X,w.alloc (.cells (posA n) 31)=X:=⟨_,rfl⟩
 obtain ⟨p0,hb⟩:=box1 w n X hX
 obtain ⟨i0,r0⟩:=p0.rules
 have HX:=hI hX
 have HP:=hI p0
 have HT:=hI (hT.below hb lR)
 have HW:=wrapC c0 c1
 have h01:0≤1 - c:=by omega
 clear hX p0 hT
 rcases kingI_bd n c with h | ⟨h0,h1⟩
 · have HR := hideIt (check_no h)
   have HKI:=hI (kingV_no h)
   clear h
   go_enter Tryz.func20,Tryz.ntmps20
   go_wp2_with (first | rw [HX.out])
   refine (kng_any n hn c c0 c1 _ HT.out).mono ?_
   rintro e Y ⟨rfl,h1⟩
   have hb:=hb.trans (h1.mono hb.size)
   rw [HKI.out]
   clear h1 i0 r0
   go_wp2
   go_ret
   exact ⟨rB HR.out.symm,hb⟩
 · have HR := hideIt (check_yes h0)
   have HKI:=hI (kingV_yes rfl h0)
   have HB:=hI (fun w hT=>on_any n hn (kingI n c) (1 - c) h0 h1 (by omega) (by omega) w hT)
   generalize kingI n c=s at *
   go_enter Tryz.func20,Tryz.ntmps20
   go_wp2_with (first | rw [HX.out])
   refine (kng_any n hn c c0 c1 _ HT.out).mono ?_
   rintro e Y ⟨rfl,h2⟩
   have hb:=hb.trans (h2.mono hb.size)
   have pY:=HP.out.below h2 HP.out.lt
   have hTY:=HT.out.below h2 lR
   obtain ⟨i0',r0'⟩:=pY.rules
   rw [HKI.out]
   clear h2 i0 r0 pY
   have HTY:=hI hTY
   clear hTY
   go_wp2_with fail
   refine (HB.out _ HTY.out).mono ?_
   rintro e Z ⟨rfl,h3⟩
   have hb:=hb.trans (h3.mono hb.size)
   clear h3
   go_wp2
   go_ret
   exact ⟨rB HR.out.symm,hb⟩
end Go.Proofs.YteocjaihaegmoaaGreatDoor
