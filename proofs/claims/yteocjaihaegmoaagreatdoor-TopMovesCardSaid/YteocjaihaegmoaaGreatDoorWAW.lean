/- Parts of the proof: T9, TA. -/
import Derived.Test.YteocjaihaegmoaaGreatDoorWAM
import Derived.Test.YteocjaihaegmoaaGreatDoorWAS
import Derived.Test.YteocjaihaegmoaaGreatDoorWAU
import Derived.Test.YteocjaihaegmoaaGreatDoorWAV
set_option linter.unusedVariables false
set_option maxHeartbeats 16000000
set_option maxRecDepth 100000
namespace Go.Proofs.YteocjaihaegmoaaGreatDoor
open Go Go.RowKit
theorem xr56:∀ s:Fin 64,bits .xor .i64 (s.val:Int) 56=8*(7 - (s.val:Int) / 8)+(s.val:Int) % 8:=by decide +kernel
theorem xr56I {s:Int} (s0:0≤s) (s1:s<64):bits .xor .i64 s 56=8*(7 - s / 8)+s % 8:=by
 obtain ⟨x,rfl⟩:=sq1 s0 s1;exact xr56 x
theorem rank_any (c s:Int) (hc:c=0∨c=1) (s0:0≤s) (s1:s<64) (w:World):Calls Tryz.prog 209 #[.int .u8 c,.int .i64 s] w fun e w' => e = .returned (.int .i64 (rankC c s))∧w=w' := by
 rcases hc with rfl | rfl
 · go_enter Tryz.func209, Tryz.ntmps209
   go_wp2
   go_ret
   exact ⟨rfl,rfl⟩
 · have hx := xr56I s0 s1
   have HR:=hI (show (8*(7 - s / 8)+s % 8) / 8=rankC 1 s by unfold rankC;rw [if_pos rfl];omega)
   have b0:0≤8*(7 - s / 8)+s % 8:=by omega
   have b1:8*(7 - s / 8)+s % 8<64:=by omega
   go_enter Tryz.func209,Tryz.ntmps209
   go_wp2
   go_ret
   exact ⟨ret_int HR.out,rfl⟩
theorem ahead_any (c s:Int) (hc:c=0∨c=1) (s0:0≤s) (s1:s<64) (w:World):Calls Tryz.prog 88 #[.int .u8 c,.int .i64 s] w fun e w' => e = .returned (.int .i64 (aheadC c s))∧w=w' := by
 rcases hc with rfl | rfl
 · go_enter Tryz.func88, Tryz.ntmps88
   go_wp2
   go_ret
   exact ⟨rfl,rfl⟩
 · go_enter Tryz.func88, Tryz.ntmps88
   go_wp2
   go_ret
   exact ⟨rfl,rfl⟩
theorem PosOk.i8 {n:Nat→Int} (h:PosOk n) (i:Nat) (hi:i<88) (hk:kindAt i=.i8):-128≤n i∧n i≤127:=by
 have:=h i hi
 rw [hk] at this
 simp [Lit.wf] at this
 have e1:IntKind.i8.min=-128:=by decide
 have e2:IntKind.i8.max=127:=by decide
 omega
theorem passing_any (n:Nat→Int) (hn:PosOk n) (a b:BitVec 64) (w:World):Calls Tryz.prog 217 #[.agg (sideA n a b)] w fun e w' => e = .returned (.int .u64 (u (oneB (n 83))))∧Below w.heap.size w w' := by
 obtain ⟨X,hX⟩:∃ X,w.alloc (.cells (sideA n a b) 111)=X:=⟨_,rfl⟩
 have p0:SideAt X w.heap.size n a b:=by rw [← hX];exact SideAt.new w n a b
 have hb:Below w.heap.size w X:=by rw [← hX];exact bR.alloc lR _
 have c83:X.cell? ⟨w.heap.size,83,none⟩=some (.int .i8 (n 83)):=p0.pos 83 (by decide)
 obtain ⟨v0,v1⟩:=hn.i8 83 (by decide) rfl
 have HX:=hI hX
 clear hX p0
 generalize n 83=s at *
 have hc:s<0∨(0≤s∧64≤s)∨(0≤s∧s<64):=by omega
 rcases hc with h | ⟨h,h2⟩ | ⟨h,h2⟩
 · have HR := hideIt (oneB_out (s := s) (by omega))
   go_enter Tryz.func217,Tryz.ntmps217
   go_wp2_with (first | rw [HX.out])
   go_ret
   exact ⟨ret_u HR.out.symm,hb⟩
 · have HR := hideIt (oneB_out (s := s) (by omega))
   go_enter Tryz.func217,Tryz.ntmps217
   go_wp2_with (first | rw [HX.out])
   go_ret
   exact ⟨ret_u HR.out.symm,hb⟩
 · have HW := hideIt (pow_oneB s h h2)
   go_enter Tryz.func217,Tryz.ntmps217
   go_wp2_with (first | rw [HX.out])
   have hw:=HW.out
   go_ret
   exact ⟨ret_int HW.out,hb⟩
theorem keepSide {X W:World} {g:Nat} {n:Nat→Int} {a b:BitVec 64} (h:SideAt X g n a b) (hb:Below X.heap.size X W):SideAt W g n a b∧Below X.heap.size X W:=⟨h.below hb h.lt,hb⟩
theorem bit_test (b:BitVec 64) {s:Int} (s0:0≤s) (s1:s<64):(bits .and .u64 (u b / 2 ^ s.toNat) 1==1)=hasB b s:=by
 obtain ⟨k,rfl⟩:=Int.eq_ofNat_of_zero_le s0
 have hk:k<64:=by omega
 rw [show ((k:Nat):Int).toNat=k from rfl,shr_u,show (1:Int)=u 1#64 from rfl,bits_and_u,u_beq,hasB_nat b k hk]
 rw [Bool.eq_iff_iff,beq_iff_eq]
 constructor
 · intro h
   have:=congrArg (fun x=>x.getLsbD 0) h
   simpa using this
 · intro h
   apply BitVec.eq_of_getLsbD_eq
   intro i hi
   rw [BitVec.getLsbD_and,BitVec.getLsbD_ushiftRight]
   by_cases e:i=0
   · subst e;simp [h]
   · have : (1#64).getLsbD i = false := by
      have:=bit_one 0 i (by decide)
      rw [show (1#64 <<< 0)=1#64 from rfl] at this
      rw [this,decide_eq_false e]
     rw [this,Bool.and_false]
theorem ahead_two {t s one:Int} (h01:t=0∨t=1) (s0:0≤s) (s1:s<64) (h1:aheadC t s=one) (h:rankC t s=1∨rankC t s=0):0≤aheadC t one∧aheadC t one<64:=by
 rcases ahead_cases t s with ⟨_,e⟩ | ⟨_,e⟩ <;> rcases ahead_cases t one with ⟨_,e2⟩ | ⟨_,e2⟩ <;> rcases rank_cases t s with ⟨_,e3⟩ | ⟨_,e3⟩ <;> omega
theorem sideBox (w:World) (n:Nat→Int) (a b:BitVec 64) (X:World) (h:w.alloc (.cells (sideA n a b) 111)=X):SideAt X w.heap.size n a b∧Below w.heap.size w X:=by
 rw [← h];exact ⟨SideAt.new w n a b,bR.alloc lR _⟩
abbrev oTa0:Oper:={ dst:=some 13,op:=Op.move (Operand.tmp 5),type:=5,pos := "pseudo.go:50",after:=#[],guard:=none }
abbrev oTa1:Oper:={ dst:=some 14,op:=Op.move (Operand.tmp 1),type:=3,pos := "pseudo.go:50",after:=#[],guard:=none }
abbrev oTa2:Oper:={ dst:=some 15,op:=Op.call { callee:=Callee.value (Operand.func 98),args:=#[Operand.tmp 13,Operand.tmp 14],argTypes:=#[5,3] },type:=23,pos := "pseudo.go:50",after:=#[{ on:=0,ground:=Ground.data },{ on:=1,ground:=Ground.data }],guard:=none }
abbrev oTa3:Oper:={ dst:=some 16,op:=Op.fieldAddr 111 (Operand.tmp 2) 2,type:=0,pos := "pseudo.go:50",after:=#[],guard:=none }
abbrev oTa4:Oper:={ dst:=some 17,op:=Op.load 23 (Operand.tmp 16),type:=23,pos := "pseudo.go:50",after:=#[{ on:=3,ground:=Ground.data }],guard:=none }
abbrev oTa5:Oper:={ dst:=some 18,op:=Op.load 111 (Operand.tmp 2),type:=111,pos := "pseudo.go:50",after:=#[],guard:=none }
abbrev oTa6:Oper:={ dst:=some 19,op:=Op.call { callee:=Callee.value (Operand.func 217),args:=#[Operand.tmp 18],argTypes:=#[111] },type:=23,pos := "pseudo.go:50",after:=#[{ on:=5,ground:=Ground.data },{ on:=2,ground:=Ground.chain }],guard:=none }
abbrev oTa7:Oper:={ dst:=some 20,op:=Op.binOp BinOp.or 23 (Operand.tmp 17) (Operand.tmp 19) 23,type:=23,pos := "pseudo.go:50",after:=#[{ on:=4,ground:=Ground.data },{ on:=6,ground:=Ground.data }],guard:=none }
abbrev oTa8:Oper:={ dst:=some 21,op:=Op.binOp BinOp.and 23 (Operand.tmp 15) (Operand.tmp 20) 23,type:=23,pos := "pseudo.go:50",after:=#[{ on:=2,ground:=Ground.data },{ on:=7,ground:=Ground.data }],guard:=none }
abbrev oTa9:Oper:={ dst:=some 6,op:=Op.assign (Operand.tmp 21),type:=23,pos := "pseudo.go:50",after:=#[{ on:=8,ground:=Ground.data },{ on:=6,ground:=Ground.chain },{ on:=0,ground:=Ground.phase },{ on:=1,ground:=Ground.phase },{ on:=2,ground:=Ground.phase },{ on:=3,ground:=Ground.phase },{ on:=4,ground:=Ground.phase },{ on:=5,ground:=Ground.phase },{ on:=6,ground:=Ground.phase },{ on:=7,ground:=Ground.phase },{ on:=8,ground:=Ground.phase }],guard:=none }
theorem pawnG_any (n:Nat→Int) (hn:PosOk n) (t:Int) (ht:n 78=t) (h01:t=0∨t=1) (s:Int) (s0:0≤s) (s1:s<64) (w:World):Calls Tryz.prog 204 #[.agg (sideA n (ownB n) (othB n)),.int .i64 s] w fun e w' => e = .returned (.int .u64 (u (pawnG n s)))∧Below w.heap.size w w' := by
 obtain ⟨X,hX⟩:∃ X,w.alloc (.cells (sideA n (ownB n) (othB n)) 111)=X:=⟨_,rfl⟩
 obtain ⟨p0,hb⟩:=sideBox w n _ _ X hX
 have c78:X.cell? ⟨w.heap.size,78,none⟩=some (.int .u8 t):=by rw [← ht];exact p0.pos 78 (by decide)
 have HX:=hI hX
 have HP:=hI p0
 have HRK:=hI (rank_any t s h01 s0 s1)
 have HAH:=hI (ahead_any t s h01 s0 s1)
 have HD:=hI (show pawnG n s=if rankC t s=7 then pawnB t s&&&(othB n ||| oneB (n 83)) else if hasB (ownB n ||| othB n) (aheadC t s)=true then pawnB t s&&&(othB n ||| oneB (n 83)) else if fromC n s=true then (pawnB t s&&&(othB n ||| oneB (n 83))) ||| oneB (aheadC t s) ||| (oneB (aheadC t (aheadC t s))&&&~~~(ownB n ||| othB n)) else (pawnB t s&&&(othB n ||| oneB (n 83))) ||| oneB (aheadC t s) by unfold pawnG;rw [ht])
 clear hX p0
 go_enter Tryz.func204,Tryz.ntmps204
 go_wp2_with (first | rw [HX.out])
 refine wp_region_held_drew (S:=(fun W=>SideAt W w.heap.size n (ownB n) (othB n)∧Below X.heap.size X W)) (by kernel_rfl) ?_ (fun hHeld=>?_)
 · (try dsimp only);(refine keepSide HP.out ?_;repeat (first | exact bR | assumption | refine bD ?_ | refine bT ?_ (by assumption)))
 (refine tl 0 (oi:=oTa0) (v:=?_) ?_ ?_;rotate_left;(focus (intro w hSw;have k89:=hSw.1.oth;have lsd:=run_loadSide hSw.1;go_simp;try (with_reducible rfl)));try simp only [Act.put,lA,lB,lC])
 (refine tl 1 (oi:=oTa1) (v:=?_) ?_ ?_;rotate_left;(focus (intro w hSw;have k89:=hSw.1.oth;have lsd:=run_loadSide hSw.1;go_simp;try (with_reducible rfl)));try simp only [Act.put,lA,lB,lC])
 (refine tl 3 (oi:=oTa3) (v:=?_) ?_ ?_;rotate_left;(focus (intro w hSw;have k89:=hSw.1.oth;have lsd:=run_loadSide hSw.1;go_simp;try (with_reducible rfl)));try simp only [Act.put,lA,lB,lC])
 (refine tl 4 (oi:=oTa4) (v:=?_) ?_ ?_;rotate_left;(focus (intro w hSw;have k89:=hSw.1.oth;have lsd:=run_loadSide hSw.1;go_simp;try (with_reducible rfl)));try simp only [Act.put,lA,lB,lC])
 (refine tl 5 (oi:=oTa5) (v:=?_) ?_ ?_;rotate_left;(focus (intro w hSw;have k89:=hSw.1.oth;have lsd:=run_loadSide hSw.1;go_simp;try (with_reducible rfl)));try simp only [Act.put,lA,lB,lC])
 refine wpAnyH_ready (rs:=[2]) (by kernel_rfl) (by simp) ?_
 refine AllReadyH.cons (o:=oTa2) rfl (fun K hK=>?_) AllReadyH.nil
 go_simp
 refine (pawn_any t s _).mono ?_
 rintro e wa ⟨rfl,hba⟩
 refine hK.out _ _ ?_ (fun hHeld=>?_)
 · (try dsimp only);(refine keepSide HP.out ?_;repeat (first | exact bR | assumption | refine bD ?_ | refine bT ?_ (by assumption)))
 clear hK K
 try simp only [Act.put,lA,lB,lC]
 refine wpAnyH_ready (rs:=[6]) (by kernel_rfl) (by simp) ?_
 refine AllReadyH.cons (o:=oTa6) rfl (fun K hK=>?_) AllReadyH.nil
 go_simp
 refine (passing_any n hn (ownB n) (othB n) _).mono ?_
 rintro e wb ⟨rfl,hbb⟩
 refine hK.out _ _ ?_ (fun hHeld=>?_)
 · (try dsimp only);(refine keepSide HP.out ?_;repeat (first | exact bR | assumption | refine bD ?_ | refine bT ?_ (by assumption)))
 clear hK K
 try simp only [Act.put,lA,lB,lC]
 (refine tl 7 (oi:=oTa7) (v:=?_) ?_ ?_;rotate_left;(focus (intro w hSw;have k89:=hSw.1.oth;have lsd:=run_loadSide hSw.1;go_simp;try (with_reducible rfl)));try simp only [Act.put,lA,lB,lC])
 (refine tl 8 (oi:=oTa8) (v:=?_) ?_ ?_;rotate_left;(focus (intro w hSw;have k89:=hSw.1.oth;have lsd:=run_loadSide hSw.1;go_simp;try (with_reducible rfl)));try simp only [Act.put,lA,lB,lC])
 (refine tl 9 (oi:=oTa9) (v:=?_) ?_ ?_;rotate_left;(focus (intro w hSw;have k89:=hSw.1.oth;have lsd:=run_loadSide hSw.1;go_simp;try (with_reducible rfl)));try simp only [Act.put,lA,lB,lC])
 refine wpAnyH_done (by kernel_rfl) ?_ _
 have hbE:=hb.trans ((bT (bT (bD bR) hba) hbb).mono hb.size)
 by_cases h7:rankC t s=7
 · have HR := hideIt (HD.out.trans (if_pos h7))
   have e7:(rankC t s==7)=true:=beq_iff_eq.2 h7
   clear HD h7 ht
   go_wp2_with (go_at_call 209;refine (HRK.out _).mono ?_;rintro e w2 ⟨rfl,rfl⟩)
   go_ret
   exact ⟨ret_u HR.out.symm,hbE⟩
 · obtain ⟨o0, o1⟩ := ahead_in s0 s1 h7
   have e7:(rankC t s==7)=false:=beq_eq_false_iff_ne.2 h7
   have HRI:=hI (show 0≤rankC t s∧rankC t s≤7 by rcases rank_cases t s with ⟨_,e⟩ | ⟨_,e⟩ <;> omega)
   have HPW:=hI (pow_oneB _ o0 o1)
   have HA2:=hI (ahead_any t (aheadC t s) h01 o0 o1)
   obtain ⟨one,hone⟩:∃ one,aheadC t s=one:=⟨_,rfl⟩
   rw [hone] at HPW HA2 HAH HD o0 o1
   have HONE:=hI hone
   clear hone
   have pE:=HP.out.below (bT (bT (bD bR) hba) hbb) HP.out.lt
   have k88:=pE.own
   have k89:=pE.oth
   have HN7:=hI h7
   have HBTE:=hI (bit_test (ownB n ||| othB n) o0 o1)
   have hw1:=HPW.out
   have c0:wb.cell? ⟨w.heap.size,0,none⟩=some (.int .u8 (n 0)):=pE.pos 0 (by decide)
   have HF:=hI (show fromC n s=((rankC t s==1) || ((rankC t s==0)&&(n 0==7)&&(t==0))) by unfold fromC;rw [ht])
   have HTWO:=hI (fun h=>ahead_two (s:=s) h01 s0 s1 HONE.out (show rankC t s=1∨rankC t s=0 from h))
   clear h7 ht pE
   cases hb1:hasB (ownB n ||| othB n) one with
   | true =>
     have HR:=hI (show pawnG n s=pawnB t s&&&(othB n ||| oneB (n 83)) by rw [HD.out,if_neg HN7.out,if_pos hb1])
     have hbt:=HBTE.out.trans hb1
     clear HD hb1
     go_wp2_with (first | (go_at_call 209;refine (HRK.out _).mono ?_;rintro e w2 ⟨rfl,rfl⟩) | (go_at_call 88;refine (HAH.out _).mono ?_;rintro e w2 ⟨rfl,rfl⟩))
     go_ret
     exact ⟨ret_u HR.out.symm,hbE⟩
   | false =>
     have hbt:=HBTE.out.trans hb1
     rcases (show (fromC n s=true∧((rankC t s==1)=true∨(rankC t s==1)=false∧(rankC t s==0)=true∧(n 0==7)=true∧(t==0)=true))∨(fromC n s=false∧(rankC t s==1)=false∧((rankC t s==0)=false∨(rankC t s==0)=true∧(n 0==7)=false∨(rankC t s==0)=true∧(n 0==7)=true∧(t==0)=false)) by
      rw [HF.out]
      cases (rankC t s==1) <;> cases (rankC t s==0) <;> cases (n 0==7) <;> cases (t==0) <;> simp) with ⟨hf,e1 | ⟨e1,e0,ev,et⟩⟩ | ⟨hf,e1,e0 | ⟨e0,ev⟩ | ⟨e0,ev,et⟩⟩
     all_goals
      have HR:=hI (HD.out.trans (by rw [if_neg HN7.out,if_neg (by rw [hb1];decide)]))
      rw [hf] at HR
      clear HD hb1 hf
      first
      | (obtain ⟨t0, t1⟩ := HTWO.out (by first | exact .inl (beq_iff_eq.1 e1) | exact .inr (beq_iff_eq.1 e0))
         have HR:=hI (HR.out.trans (if_pos rfl))
         have hw2:=pow_oneB _ t0 t1
         go_wp2_with (go_at_call 209;refine (HRK.out _).mono ?_;rintro e w2 ⟨rfl,rfl⟩)
         refine (HAH.out _).mono ?_
         rintro e w2 ⟨rfl,rfl⟩
         go_wp2_with (go_at_call 209;refine (HRK.out _).mono ?_;rintro e w2 ⟨rfl,rfl⟩)
         refine (HA2.out _).mono ?_
         rintro e w2 ⟨rfl,rfl⟩
         go_wp2
         go_ret
         exact ⟨ret_u HR.out.symm,hbE⟩)
      | (have HR := hideIt (HR.out.trans (if_neg (by decide)))
         go_wp2_with (first | (go_at_call 209;refine (HRK.out _).mono ?_;rintro e w2 ⟨rfl,rfl⟩) | (go_at_call 88;refine (HAH.out _).mono ?_;rintro e w2 ⟨rfl,rfl⟩))
         go_ret
         exact ⟨ret_u HR.out.symm,hbE⟩)
theorem to_any (n:Nat→Int) (hn:PosOk n) (t:Int) (ht:n 78=t) (h01:t=0∨t=1) (s:Int) (s0:0≤s) (s1:s<64) (w:World) (hT:Tab w):Calls Tryz.prog 186 #[.agg (sideA n (ownB n) (othB n)),.int .i64 s] w fun e w' => e = .returned (.int .u64 (u (toB n s)))∧Below w.heap.size w w' := by
 obtain ⟨X,hX⟩:∃ X,w.alloc (.cells (sideA n (ownB n) (othB n)) 111)=X:=⟨_,rfl⟩
 obtain ⟨p0,hb⟩:=sideBox w n _ _ X hX
 have HX:=hI hX
 have HP:=hI p0
 have HT:=hI (hT.below hb lR)
 have k88:=p0.own
 have k89:=p0.oth
 have lsd:=run_loadSide p0
 have c0:X.cell? ⟨w.heap.size,0,none⟩=some (.int .u8 (n 0)):=p0.pos 0 (by decide)
 have cs:X.cell? ⟨w.heap.size,1+s.toNat,none⟩=some (.int .u8 (n (1+s.toNat))):=by rw [p0.pos (1+s.toNat) (by omega),kB (by omega)]
 obtain ⟨v0,v1⟩:=hn.u8 (1+s.toNat) (by omega) (kB (by omega))
 have HR:=hI (show toB n s=toG n (kndI (n (1+s.toNat))) s&&&~~~ownB n from rfl)
 have hk:=knd_bd (n (1+s.toNat))
 clear hX hT p0
 generalize n (1+s.toNat)=x at *
 rcases (show kndI x=0∨kndI x=1∨kndI x=2∨kndI x=3∨kndI x=4∨kndI x=5∨(kndI x=6∧(n 0==3)=true)∨(kndI x=6∧(n 0==3)=false) by
  cases (n 0==3) <;> simp <;> omega) with h | h | h | h | h | h | ⟨h,hv⟩ | ⟨h,hv⟩
 all_goals
  have HK:=hI h
  rw [h] at HR
  first | have HW:=hI (if_pos (α:=BitVec 64) (beq_iff_eq.1 hv):(if n 0=3 then kingB s&&&~~~othB n else kingB s)=_) | have HW:=hI (if_neg (α:=BitVec 64) (beq_eq_false_iff_ne.1 hv):(if n 0=3 then kingB s&&&~~~othB n else kingB s)=_) | skip
  clear hk h
  go_enter Tryz.func186,Tryz.ntmps186
  go_wp2_with (first | rw [HX.out] | (go_at_call 87;refine (kind_any x v0 v1 _).mono ?_;rintro e w2 ⟨rfl,rfl⟩;rw [HK.out]) | ((first | (go_at_call 204;refine (pawnG_any n hn t ht h01 s s0 s1 _).mono ?_) | (go_at_call 205;refine (knight_any s _).mono ?_) | (go_at_call 206;refine (sbish_any s (ownB n ||| othB n) rfl _ HT.out).mono ?_) | (go_at_call 207;refine (srook_any s (ownB n ||| othB n) rfl _ HT.out).mono ?_) | (go_at_call 208;refine (squeen_any s (ownB n ||| othB n) rfl _ HT.out).mono ?_) | (go_at_call 124;refine (king_any s _).mono ?_));rintro e Y ⟨rfl,h1⟩;have pY:=HP.out.below h1 HP.out.lt;have hb:=hb.trans (h1.mono hb.size);clear k88 k89 lsd c0 cs h1;have k88:=pY.own;have k89:=pY.oth;have c0:Y.cell? ⟨w.heap.size,0,none⟩=some (.int .u8 (n 0)):=pY.pos 0 (by decide);clear pY))
  go_ret
  first
  | exact ⟨ret_u (show toB n s=_ from HR.out.trans (congrArg (fun z=>z&&&~~~ownB n) HW.out)).symm,hb⟩
  | exact ⟨ret_u (show toB n s=_ from HR.out.trans rfl).symm,hb⟩
  | exact ⟨ret_int (show _=u (toB n s) by rw [HR.out,show toG n 0 s=0#64 from rfl,BitVec.zero_and];first | rfl | (rw [show (0:Int)=u 0#64 from rfl,bits_andNot_u,BitVec.zero_and])),hb⟩
end Go.Proofs.YteocjaihaegmoaaGreatDoor
