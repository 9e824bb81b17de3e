/- Parts of the proof: AU, AV, AX, AY, AW, AZ, BA, B6. -/
import Derived.Test.YteocjaihaegmoaaGreatDoorWBJ
import Derived.Test.YteocjaihaegmoaaGreatDoorWBM
set_option linter.unusedVariables false
set_option maxHeartbeats 16000000
set_option maxRecDepth 100000
namespace Go.Proofs.YteocjaihaegmoaaGreatDoor
open Go Go.RowKit
theorem sizeRes:(Tryz.prog.info? 39).map (·.size)=some 2:=by kernel_rfl
theorem res_result {fn:Func} {p:Tmp} (h:fn.results=#[.cell p 39]) (tmps:Array Value) (w:World) (g:Nat) (a b:Int)
 (hp:tmps.getD p undef=.pointer (some ⟨g,0,none⟩)) (hg:w.heap[g]?=some (.cells #[.int .u8 a,.int .u8 b] 39 (0,0))):(results fn tmps).run Tryz.prog w=.ok (.agg #[.int .u8 a,.int .u8 b]) w :=
 results_cell_row h tmps w g _ #[.int .u8 a,.int .u8 b] _ _ hp hg Tryz.underlying39 rfl sizeRes
def IsRes (w:World) (g:Nat):Prop:=∃ a b,w.heap[g]?=some (.cells #[.int .u8 a,.int .u8 b] 39 (0,0))
def resStore (p v:Value):Sem Unit:=Instr.storeAt 39 p v
@[go_sem ↓] theorem storeAt_res (p v : Value) : Instr.storeAt 39 p v = resStore p v := rfl
@[go_sem] theorem run_resStore (w : World) (g : Nat) (a b : Int) (h : IsRes w g) : (resStore (.pointer (some ⟨g, 0, none⟩)) (.agg #[.int .u8 a, .int .u8 b])).run Tryz.prog w = .ok () (w.setRow g #[.int .u8 a, .int .u8 b]) := by
  obtain ⟨x,y,hn⟩:=h
  unfold resStore
  simp only [Instr.storeAt,Instr.sureAddr,Sem.run_bind,Sem.run_pure,Result.andThen_ok]
  exact run_storeVar_row w g _ _ #[.int .u8 x,.int .u8 y] #[.int .u8 a,.int .u8 b] hn sizeRes rfl (by simp [Value.oneCell'])
@[go_sem] theorem isRes_new (w : World) (a b : Int) : IsRes (w.alloc (.cells #[.int .u8 a, .int .u8 b] 39)) w.heap.size := ⟨a, b, World.alloc_heap_new w _⟩
theorem res_set {w:World} {g:Nat} (h:IsRes w g) (a b:Int):(w.setRow g #[.int .u8 a,.int .u8 b]).heap[g]?=some (.cells #[.int .u8 a,.int .u8 b] 39 (0,0)):=by
 obtain ⟨x,y,h⟩:=h
 simp only [World.setRow]
 rw [Array.getElem?_modify,if_pos rfl,h]
 rfl
theorem IsRes.below {w w' : World} {g B:Nat} (h:IsRes w g) (hb:Below B w w') (hg:g<B):IsRes w' g:=by
 obtain ⟨x,y,h⟩:=h
 exact ⟨x,y,(hb.block g hg).trans h⟩
/-- The heads of the functions that tell a result of a position. -/
def resX (n:Nat→Int) (w:World):World:=(w.alloc (.cells (posA n) 31)).alloc (.cells #[.int .u8 0,.int .u8 0] 39)
theorem resX_at (n:Nat→Int) (w X:World) (h:resX n w=X):PosAt X w.heap.size n∧IsRes X (w.heap.size+1)∧Below w.heap.size w X∧X.heap.size=w.heap.size+2:=by
 obtain ⟨X0,hX0⟩:∃ X0,w.alloc (.cells (posA n) 31)=X0:=⟨_,rfl⟩
 obtain ⟨p0,hb⟩:=box1 w n X0 hX0
 have hs:X0.heap.size=w.heap.size+1:=by rw [← hX0];simp
 unfold resX at h
 rw [hX0] at h
 have hb1:Below X0.heap.size X0 X:=by rw [← h];exact bR.alloc lR _
 refine ⟨p0.below hb1 p0.lt,⟨0,0,by rw [← h,← hs];exact World.alloc_heap_new X0 _⟩,hb.trans (hb1.mono hb.size),by rw [← h];simp [hs]⟩
theorem wins_any (c y:Int) (c0:0≤c) (c1:c≤1) (w:World):Calls Tryz.prog 177 #[.int .u8 c,.int .u8 y] w fun e w' => e = .returned (resV (1+c,y))∧Below w.heap.size w w' := by
 have w1:IntKind.u8.wrap (1+c)=1+c:=IntWalk.u8_in _ (by omega)
 obtain ⟨X,hX⟩:∃ X,w.alloc (.cells #[.int .u8 0,.int .u8 0] 39)=X:=⟨_,rfl⟩
 have hr:IsRes X w.heap.size:=by rw [← hX];exact isRes_new w 0 0
 have hb:Below w.heap.size w X:=by rw [← hX];exact bR.alloc lR _
 have HX:=hI hX
 clear hX
 go_enter Tryz.func177,Tryz.ntmps177
 go_wp2_with (rw [HX.out])
 refine bodyPost_ret (v:=resV (1+c,y)) (res_result Tryz.results177 _ _ _ _ _ rfl (res_set hr _ _)) rfl ⟨rfl,below_setRow hb lR _⟩
theorem winsO_any (t:Nat) (ht1:t≤1) (y:Int) (w:World):Calls Tryz.prog 177 #[.int .u8 (1 - (t:Int)),.int .u8 y] w fun e w' => e = .returned (.agg #[.int .u8 (2 - (t:Int)),.int .u8 y])∧Below w.heap.size w w' := by
 have:=wins_any (1 - (t:Int)) y (by omega) (by omega) w
 unfold resV at this
 rwa [show 1+(1 - (t:Int))=2 - t by omega] at this
theorem winsM_any (t:Nat) (ht1:t≤1) (y:Int) (w:World):Calls Tryz.prog 177 #[.int .u8 (t:Int),.int .u8 y] w fun e w' => e = .returned (.agg #[.int .u8 (1+(t:Int)),.int .u8 y])∧Below w.heap.size w w' := wins_any (t:Int) y (by omega) (by omega) w
theorem blown_won (n:Nat→Int) (hn:PosOk n) (t:Nat) (ht1:t≤1) (ht:n 78=t) (w:World) (hT:Tab w):Calls Tryz.prog 133 #[.agg (posA n)] w fun e w' => e = .returned (resV (if hasK n t=true then (0,0) else (2 - (t:Int),6)))∧Below w.heap.size w w' := by
 obtain ⟨X,hX⟩:∃ X,resX n w=X:=⟨_,rfl⟩
 obtain ⟨xp,xr,xb,xs⟩:=resX_at n w X hX
 have HX:=hI (show (w.alloc (.cells (posA n) 31)).alloc (.cells #[.int .u8 0,.int .u8 0] 39)=X from hX)
 obtain ⟨i0,r0⟩:=xp.rules
 have c78:X.cell? ⟨w.heap.size,78,none⟩=some (.int .u8 (t:Int)):=by rw [← ht];exact xp.cell 78 (by decide)
 have HH:=hI (has_any n hn (t:Int) X (hT.below xb lR))
 have HWI:=hI (winsO_any t ht1 6)
 have w13:IntKind.u8.wrap (1 - (t:Int))=1 - t:=IntWalk.u8_in _ (by omega)
 have HF:=hI (fun V (hb:Below X.heap.size X V)=>(show V.cell? ⟨w.heap.size,78,none⟩=some (.int .u8 (t:Int))∧IsRes V (w.heap.size+1)∧Below w.heap.size w V from ⟨by rw [← ht];exact (xp.below hb xp.lt).cell 78 (by decide),xr.below hb (by omega),xb.trans (hb.mono xb.size)⟩))
 clear hX xp xr xb xs hT ht
 go_enter Tryz.func133,Tryz.ntmps133
 go_wp2_with (rw [HX.out])
 refine HH.out.mono ?_
 rintro e V ⟨rfl,hb⟩
 obtain ⟨d78,dr,db⟩:=HF.out V hb
 cases hh:hasK n t
 · go_wp2_with fail
   refine (HWI.out _).mono ?_
   rintro e V2 ⟨rfl,hb2⟩
   obtain ⟨_,er,eb⟩:=HF.out V2 (bT hb hb2)
   go_wp2
   all_goals refine bodyPost_ret (v:=.agg #[.int .u8 (2 - (t:Int)),.int .u8 6]) (res_result Tryz.results133 _ _ _ _ _ rfl (res_set er _ _)) rfl ⟨rfl,below_setRow eb (by omega) _⟩
 · go_wp2
   refine bodyPost_ret (v:=.agg #[.int .u8 0,.int .u8 0]) (res_result Tryz.results133 _ _ _ _ _ rfl (res_set dr _ _)) rfl ⟨rfl,below_setRow db (by omega) _⟩
theorem wfirst_any (n:Nat→Int) (t:Nat) (ht1:t≤1) (ht:n 78=t) (y:Int) (f:Nat) (lb:Array Value) (p:Int→Bool) (eg:∀ args w,(callFunc f args).run Tryz.prog w=.ok (.enter f args) w) (w:World)
 (hp:∀ c,c=0∨c=1→∀ W,Below w.heap.size w W→Calls Tryz.prog f (#[.int .u8 c] ++ lb) W fun e W' => e = .returned (.bool (p c))∧Below W.heap.size W W') :
 Calls Tryz.prog 178 #[.agg (posA n),.int .u8 y,.func (.func f) #[] lb] w fun e w' => e = .returned (resV (if p (1 - (t:Int))=true then (2 - (t:Int),y) else if p t=true then (1+(t:Int),y) else (0,0)))∧Below w.heap.size w w' := by
 obtain ⟨X,hX⟩:∃ X,resX n w=X:=⟨_,rfl⟩
 obtain ⟨xp,xr,xb,xs⟩:=resX_at n w X hX
 have HX:=hI (show (w.alloc (.cells (posA n) 31)).alloc (.cells #[.int .u8 0,.int .u8 0] 39)=X from hX)
 have c78:X.cell? ⟨w.heap.size,78,none⟩=some (.int .u8 (t:Int)):=by rw [← ht];exact xp.cell 78 (by decide)
 obtain ⟨Y,hY⟩:∃ Y,X.alloc (.cells #[.int .u8 (1 - (t:Int)),.int .u8 (t:Int)] 5)=Y:=⟨_,rfl⟩
 have hbY:Below X.heap.size X Y:=by rw [← hY];exact bR.alloc lR _
 have yb:Y.heap[w.heap.size+2]?=some (.cells #[.int .u8 (1 - (t:Int)),.int .u8 (t:Int)] 5 (0,0)):=by rw [← hY,← xs];exact World.alloc_heap_new X _
 have HY:=hI hY
 have w13:IntKind.u8.wrap (1 - (t:Int))=1 - t:=IntWalk.u8_in _ (by omega)
 have HF:=hI (fun V (hb:Below Y.heap.size Y V)=>(show (V.cell? ⟨w.heap.size+2,0,none⟩=some (.int .u8 (1 - (t:Int)))∧V.cell? ⟨w.heap.size+2,1,none⟩=some (.int .u8 (t:Int)))∧IsRes V (w.heap.size+1)∧Below w.heap.size w V from
  (fun hh=>⟨⟨by rw [cell_of_row V _ 0 _ _ _ hh];rfl,by rw [cell_of_row V _ 1 _ _ _ hh];rfl⟩,xr.below (hbY.trans (hb.mono hbY.size)) (by omega),xb.trans ((hbY.trans (hb.mono hbY.size)).mono xb.size)⟩) ((hb.block _ (Array.getElem?_eq_some_iff.1 yb).1).trans yb)))
 have HO:=hI (winsO_any t ht1 y)
 have HM:=hI (winsM_any t ht1 y)
 have HP1:=hI (fun V hb=>hp (1 - (t:Int)) (by omega) V hb)
 have HP2:=hI (fun V hb=>hp (t:Int) (by omega) V hb)
 have hR:=Below.refl Y.heap.size Y
 obtain ⟨⟨c0,c1⟩,c2,c3⟩:=HF.out Y hR
 have hsz:X.heap.size=w.heap.size+2:=xs
 have HSZ:=hI hsz
 clear hX xp xr xb xs hY hbY yb hp ht hsz
 go_enter Tryz.func178,Tryz.ntmps178
 go_wp2_with (first | rw [HX.out] | rw [HY.out])
 rw [HSZ.out]
 refine wp_loop_rounds 3 ?_
 rw [rounds_succ]
 go_wp2_with fail
 refine (HP1.out _ c3).mono ?_
 rintro e V ⟨rfl,h1⟩
 have hR:=bT hR h1
 obtain ⟨⟨c0,c1⟩,c2,c3⟩:=HF.out V hR
 cases e1:p (1 - (t:Int))
 case true =>
  go_wp2_with fail
  refine (HO.out _).mono ?_
  rintro e V2 ⟨rfl,h2⟩
  obtain ⟨_,d2,d3⟩:=HF.out V2 (bT hR h2)
  go_wp2
  all_goals refine bodyPost_ret (v:=.agg #[.int .u8 (2 - (t:Int)),.int .u8 y]) (res_result Tryz.results178 _ _ _ _ _ rfl (res_set d2 _ _)) rfl ⟨rfl,below_setRow d3 (by omega) _⟩
 case false =>
  go_wp2_with fail
  rw [rounds_succ]
  go_wp2_with fail
  refine (HP2.out _ c3).mono ?_
  rintro e V1 ⟨rfl,h1⟩
  have hR:=bT hR h1
  obtain ⟨⟨c0,c1⟩,c2,c3⟩:=HF.out V1 hR
  cases e2:p (t:Int)
  case true =>
   go_wp2_with fail
   refine (HM.out _).mono ?_
   rintro e V2 ⟨rfl,h2⟩
   obtain ⟨_,d2,d3⟩:=HF.out V2 (bT hR h2)
   go_wp2
   all_goals refine bodyPost_ret (v:=.agg #[.int .u8 (1+(t:Int)),.int .u8 y]) (res_result Tryz.results178 _ _ _ _ _ rfl (res_set d2 _ _)) rfl ⟨rfl,below_setRow d3 (by omega) _⟩
  case false =>
   go_wp2_with fail
   rw [rounds_succ]
   go_wp2
   all_goals refine bodyPost_ret (v:=.agg #[.int .u8 0,.int .u8 0]) (res_result Tryz.results178 _ _ _ _ _ rfl (res_set c2 _ _)) rfl ⟨rfl,below_setRow c3 (by omega) _⟩
theorem hill_in:∀ k:Fin 64,(bits BinOp.and IntKind.i64 (103481868288 / 2 ^ k.val) 1==1)=hillI (k.val:Int):=by decide +kernel
theorem hill_is {s:Int} (h0:0≤s) (h1:s<64):(bits BinOp.and IntKind.i64 (103481868288 / 2 ^ s.toNat) 1==1)=hillI s:=by
 have:=hill_in ⟨s.toNat,by omega⟩
 dsimp only at this
 rwa [show ((s.toNat:Nat):Int)=s by omega] at this
theorem hill1_any (n:Nat→Int) (hn:PosOk n) (c:Int) (b:Nat) (w:World) (hb:PosAt w b n) (hT:Tab w):Calls Tryz.prog 180 #[.int .u8 c,.pointer (some ⟨b,0,none⟩)] w fun e w' => e = .returned (.bool (hillI (kSqC n c)))∧Below w.heap.size w w' := by
 obtain ⟨i0,r0⟩:=hb.rules
 have HF:=hI (bfind_any n hn c 6 w hT)
 have hk:-1≤firstB (ofN n c 6)∧firstB (ofN n c 6)<64:=by
  rcases first_cases (ofN n c 6) with ⟨_,h⟩ | ⟨i,hi,_,_,h⟩ <;> rw [h] <;> omega
 have HK:=hI (show kSqC n c=firstB (ofN n c 6) from rfl)
 generalize firstB (ofN n c 6)=s at *
 obtain ⟨k0,k1⟩:=hk
 clear hb hT
 by_cases hs:s<0
 · obtain rfl : s = -1 := by omega
   go_enter Tryz.func180,Tryz.ntmps180
   go_wp2_with fail
   refine HF.out.mono ?_
   rintro e V ⟨rfl,h1⟩
   go_wp2
   go_ret
   exact ⟨rB (by rw [HK.out];rfl),h1⟩
 · have s0 : 0 ≤ s := by omega
   go_enter Tryz.func180,Tryz.ntmps180
   go_wp2_with fail
   refine HF.out.mono ?_
   rintro e V ⟨rfl,h1⟩
   go_wp2
   go_ret
   exact ⟨rB (by rw [HK.out];exact hill_is s0 k1),h1⟩
theorem hill_won (n:Nat→Int) (hn:PosOk n) (t:Nat) (ht1:t≤1) (ht:n 78=t) (w:World) (hT:Tab w):Calls Tryz.prog 135 #[.agg (posA n)] w fun e w' => e = .returned (resV (if hillI (kSqC n (1 - (t:Int)))=true then (2 - (t:Int),6) else if hillI (kSqC n t)=true then (1+(t:Int),6) else (0,0)))∧Below w.heap.size w w' := by
 obtain ⟨X,hX⟩:∃ X,resX n w=X:=⟨_,rfl⟩
 obtain ⟨xp,xr,xb,xs⟩:=resX_at n w X hX
 have HX:=hI (show (w.alloc (.cells (posA n) 31)).alloc (.cells #[.int .u8 0,.int .u8 0] 39)=X from hX)
 obtain ⟨i0,r0⟩:=xp.rules
 have HF:=hI (fun V (hb:Below X.heap.size X V)=>(show IsRes V (w.heap.size+1)∧Below w.heap.size w V from ⟨xr.below hb (by omega),xb.trans (hb.mono xb.size)⟩))
 have HFI:=hI (wfirst_any n t ht1 ht 6 180 #[.pointer (some ⟨w.heap.size,0,none⟩)] (fun c=>hillI (kSqC n c)) (enters_of Tryz.func180 (by kernel_rfl) rfl) X (fun c hc W hW=>by
  exact hill1_any n hn c w.heap.size W (xp.below hW xp.lt) ((hT.below xb lR).below hW lR)))
 have hmf:∀ (fn:Fn) (first cap:Array Value) (w:World),(Instr.makeFunc fn first cap).run Tryz.prog w=.ok (.func fn first cap) w:=fun _ _ _ _=>rfl
 obtain ⟨r,hr⟩:∃ r,(if hillI (kSqC n (1 - (t:Int)))=true then (2 - (t:Int),(6:Int)) else if hillI (kSqC n t)=true then (1+(t:Int),6) else (0,0))=r:=⟨_,rfl⟩
 rw [hr] at HFI
 rw [hr]
 obtain ⟨ra,rb⟩:=r
 unfold resV at HFI
 clear hX xp xr xb xs hr hT
 go_enter Tryz.func135,Tryz.ntmps135
 go_wp2_with (rw [HX.out])
 refine HFI.out.mono ?_
 rintro e V ⟨rfl,hb⟩
 obtain ⟨d2,d3⟩:=HF.out V hb
 go_wp2
 refine bodyPost_ret (v:=.agg #[.int .u8 ra,.int .u8 rb]) (res_result Tryz.results135 _ _ _ _ _ rfl (res_set d2 _ _)) rfl ⟨rfl,below_setRow d3 (by omega) _⟩
theorem bare_won (n:Nat→Int) (hn:PosOk n) (t:Nat) (ht1:t≤1) (ht:n 78=t) (w:World) :
 Calls Tryz.prog 137 #[.agg (posA n)] w fun e w' => e = .returned (resV (if menB0 n t=false then (1+(t:Int),8) else if menB0 n (1 - (t:Int))=false then (2 - (t:Int),8) else (0,0)))∧Below w.heap.size w w' := by
 obtain ⟨X,hX⟩:∃ X,resX n w=X:=⟨_,rfl⟩
 obtain ⟨xp,xr,xb,xs⟩:=resX_at n w X hX
 have HX:=hI (show (w.alloc (.cells (posA n) 31)).alloc (.cells #[.int .u8 0,.int .u8 0] 39)=X from hX)
 have c78:X.cell? ⟨w.heap.size,78,none⟩=some (.int .u8 (t:Int)):=by rw [← ht];exact xp.cell 78 (by decide)
 obtain ⟨Y,hY⟩:∃ Y,X.alloc (.cells #[.int .u8 (t:Int),.int .u8 (1 - (t:Int))] 5)=Y:=⟨_,rfl⟩
 have hbY:Below X.heap.size X Y:=by rw [← hY];exact bR.alloc lR _
 have yb:Y.heap[w.heap.size+2]?=some (.cells #[.int .u8 (t:Int),.int .u8 (1 - (t:Int))] 5 (0,0)):=by rw [← hY,← xs];exact World.alloc_heap_new X _
 have HY:=hI hY
 have w13:IntKind.u8.wrap (1 - (t:Int))=1 - t:=IntWalk.u8_in _ (by omega)
 have HF:=hI (fun V (hb:Below Y.heap.size Y V)=>(show (V.cell? ⟨w.heap.size+2,0,none⟩=some (.int .u8 (t:Int))∧V.cell? ⟨w.heap.size+2,1,none⟩=some (.int .u8 (1 - (t:Int)))∧(IsPos V w.heap.size∧rowOf V w.heap.size=posA n))∧IsRes V (w.heap.size+1)∧Below w.heap.size w V from
  (fun hh=>⟨⟨by rw [cell_of_row V _ 0 _ _ _ hh];rfl,by rw [cell_of_row V _ 1 _ _ _ hh];rfl,(xp.below (hbY.trans (hb.mono hbY.size)) xp.lt).rules⟩,xr.below (hbY.trans (hb.mono hbY.size)) (by omega),xb.trans ((hbY.trans (hb.mono hbY.size)).mono xb.size)⟩) ((hb.block _ (Array.getElem?_eq_some_iff.1 yb).1).trans yb)))
 have HO:=hI (winsO_any t ht1 8)
 have HM:=hI (winsM_any t ht1 8)
 have HP1:=hI (of_any n hn (t:Int) 0)
 have HP2:=hI (of_any n hn (1 - (t:Int)) 0)
 have m1:menB0 n (t:Int)=!(ofN n (t:Int) 0==0#64):=rfl
 have m2:menB0 n (1 - (t:Int))=!(ofN n (1 - (t:Int)) 0==0#64):=rfl
 rw [m1,m2]
 generalize ofN n (t:Int) 0=A1 at *
 generalize ofN n (1 - (t:Int)) 0=A2 at *
 have z1:(u A1==0)=(A1==0#64):=u_eq_zero A1
 have z2:(u A2==0)=(A2==0#64):=u_eq_zero A2
 obtain ⟨ra,hra⟩:∃ r,(if (!(A1==0#64))=false then (1+(t:Int),(8:Int)) else if (!(A2==0#64))=false then (2 - (t:Int),8) else (0,0))=r:=⟨_,rfl⟩
 rw [hra]
 have HRA:=hI hra
 have hR:=Below.refl Y.heap.size Y
 obtain ⟨⟨c0,c1,i0,r0⟩,c2,c3⟩:=HF.out Y hR
 have hsz:X.heap.size=w.heap.size+2:=xs
 have HSZ:=hI hsz
 clear hX xp xr xb xs hY hbY yb ht hsz hra m1 m2
 go_enter Tryz.func137,Tryz.ntmps137
 go_wp2_with (first | rw [HX.out] | rw [HY.out])
 rw [HSZ.out]
 refine wp_loop_rounds 3 ?_
 rw [rounds_succ]
 go_wp2_with fail
 refine (HP1.out _).mono ?_
 rintro e V ⟨rfl,h1⟩
 have hR:=bT hR h1
 obtain ⟨⟨c0,c1,i0,r0⟩,c2,c3⟩:=HF.out V hR
 cases e1:(A1==0#64) <;> rw [e1] at z1
 case true =>
  go_wp2_with fail
  refine (HM.out _).mono ?_
  rintro e V2 ⟨rfl,h2⟩
  obtain ⟨_,d2,d3⟩:=HF.out V2 (bT hR h2)
  go_wp2
  all_goals refine bodyPost_ret (v:=.agg #[.int .u8 (1+(t:Int)),.int .u8 8]) (res_result Tryz.results137 _ _ _ _ _ rfl (res_set d2 _ _)) rfl ⟨ret_val (by rw [← HRA.out];simp only [e1];rfl),below_setRow d3 (by omega) _⟩
 case false =>
  go_wp2_with fail
  rw [rounds_succ]
  go_wp2_with fail
  refine (HP2.out _).mono ?_
  rintro e V1 ⟨rfl,h1⟩
  have hR:=bT hR h1
  obtain ⟨⟨c0,c1,i0,r0⟩,c2,c3⟩:=HF.out V1 hR
  cases e2:(A2==0#64) <;> rw [e2] at z2
  case true =>
   go_wp2_with fail
   refine (HO.out _).mono ?_
   rintro e V2 ⟨rfl,h2⟩
   obtain ⟨_,d2,d3⟩:=HF.out V2 (bT hR h2)
   go_wp2
   all_goals refine bodyPost_ret (v:=.agg #[.int .u8 (2 - (t:Int)),.int .u8 8]) (res_result Tryz.results137 _ _ _ _ _ rfl (res_set d2 _ _)) rfl ⟨ret_val (by rw [← HRA.out];simp only [e1,e2];rfl),below_setRow d3 (by omega) _⟩
  case false =>
   go_wp2_with fail
   rw [rounds_succ]
   go_wp2
   all_goals refine bodyPost_ret (v:=.agg #[.int .u8 0,.int .u8 0]) (res_result Tryz.results137 _ _ _ _ _ rfl (res_set c2 _ _)) rfl ⟨ret_val (by rw [← HRA.out];simp only [e1,e2];rfl),below_setRow c3 (by omega) _⟩
theorem wouldL_sub {n:Nat→Int}:∀ m∈wouldL n,m∈allL n:=by
 intro m hm
 unfold wouldL at hm
 split at hm
 · cases hm
 · split at hm
   · exact (List.mem_filter.1 (List.mem_filter.1 hm).1).1
   · exact (List.mem_filter.1 hm).1
theorem wouldL_len {n:Nat→Int}:(wouldL n).length≤50000:=by
 have h:=allL_len5 (n:=n)
 have h1:(would0 n).length≤(allL n).length:=List.length_filter_le _ _
 unfold wouldL
 split
 · exact Nat.zero_le _
 · split
   · exact Nat.le_trans (List.length_filter_le _ _) (by omega)
   · omega
theorem goal1_any (n:Nat→Int) (hn:PosOk n) (c:Int) (b:Nat) (w:World) (hb:PosAt w b n) (hT:Tab w):Calls Tryz.prog 181 #[.int .u8 c,.pointer (some ⟨b,0,none⟩)] w fun e w' => e = .returned (.bool (decide (56≤kSqC n c)))∧Below w.heap.size w w' := by
 obtain ⟨i0,r0⟩:=hb.rules
 have HF:=hI (bfind_any n hn c 6 w hT)
 have HK:=hI (show kSqC n c=firstB (ofN n c 6) from rfl)
 rw [HK.out]
 generalize firstB (ofN n c 6)=s at *
 clear hb hT
 go_enter Tryz.func181,Tryz.ntmps181
 go_wp2_with fail
 refine HF.out.mono ?_
 rintro e V ⟨rfl,h1⟩
 go_wp2
 go_ret
 exact ⟨rfl,h1⟩
theorem goal2_any (m:Mv) (hm:m.Ok) (k:Int) (b:Nat) (w:World) (hb:w.cell? ⟨b,0,none⟩=some (.int .i64 k)):Calls Tryz.prog 182 #[mvV m,.pointer (some ⟨b,0,none⟩)] w fun e w' => e = .returned (.bool ((m.f==k)&&decide (56≤m.t)))∧Below w.heap.size w w' := by
 obtain ⟨X,hX⟩:∃ X,w.alloc (.cells #[.int .i8 m.f,.int .i8 m.t,.int .u8 m.p,.int .u8 m.d,.bool m.c] 49)=X:=⟨_,rfl⟩
 obtain ⟨q0,hbX⟩:=mvBox_at hX
 obtain ⟨m0,m1,m2,m3,m4⟩:=mv_cell q0
 have cb:=(hbX.cell (p:=⟨b,0,none⟩) (World.block_lt_of_cell? _ _ hb)).trans hb
 have wf:IntKind.i64.wrap m.f=m.f:=i64_small (by have:=hm.1;omega) (by have:=hm.1;omega)
 have HX:=hI hX
 clear hX q0 hb hm
 cases e1:(m.f==k)
 · go_enter Tryz.func182, Tryz.ntmps182
   go_wp2_with (rw [HX.out])
   go_ret
   exact ⟨rfl,hbX⟩
 · go_enter Tryz.func182, Tryz.ntmps182
   go_wp2_with (rw [HX.out])
   go_ret
   exact ⟨rB (by simp),hbX⟩
theorem goal_won (n:Nat→Int) (hn:PosOk n) (t:Nat) (ht1:t≤1) (ht:n 78=t) (hv:n 0<9) (w:World) (hT:Tab w):Calls Tryz.prog 138 #[.agg (posA n)] w fun e w' => e = .returned (resV (goalP n))∧Below w.heap.size w w' := by
 have h78:n 78=0∨n 78=1:=by omega
 obtain ⟨X,hX⟩:∃ X,resX n w=X:=⟨_,rfl⟩
 obtain ⟨xp,xr,xb,xs⟩:=resX_at n w X hX
 have HX:=hI (show (w.alloc (.cells (posA n) 31)).alloc (.cells #[.int .u8 0,.int .u8 0] 39)=X from hX)
 have HF:=hI (fun V (hb:Below X.heap.size X V)=>(show (V.cell? ⟨w.heap.size,78,none⟩=some (.int .u8 (t:Int))∧IsPos V w.heap.size∧rowOf V w.heap.size=posA n)∧IsRes V (w.heap.size+1)∧Below w.heap.size w V∧PosAt V w.heap.size n from ⟨⟨by rw [← ht];exact (xp.below hb xp.lt).cell 78 (by decide),(xp.below hb xp.lt).rules⟩,xr.below hb (by omega),xb.trans (hb.mono xb.size),xp.below hb xp.lt⟩))
 have HTX:=hI (fun V (h:Below X.heap.size X V)=>(hT.below xb lR).below h lR)
 have HA1:=hI (fun c V (h:Below X.heap.size X V)=>goal1_any n hn c w.heap.size V (HF.out V h).2.2.2 (HTX.out V h))
 have HFI:=hI (fun V (h:Below X.heap.size X V)=>bfind_any n hn 1 6 V (HTX.out V h))
 have HWO:=hI (fun V (h:Below X.heap.size X V)=>would_any n hn t ht1 ht hv V (HTX.out V h))
 have HCF:=hI (fun (U:World) (B:Nat) (v:Value) (ho:OwnsM U B v (wouldL n)) (b:Nat) (hbc:U.cell? ⟨b,0,none⟩=some (.int .i64 (kSqC n 1))) =>
  contf_any (wouldL n) (Nat.le_trans wouldL_len (by decide)) 182 #[.pointer (some ⟨b,0,none⟩)] (fun m=>(m.f==kSqC n 1)&&decide (56≤m.t)) (enters_of Tryz.func182 (by kernel_rfl) rfl) U B v ho
   (fun m hm W hW=>goal2_any m (all_ok h78 hv m (wouldL_sub m hm)) (kSqC n 1) b W ((hW.cell (p:=⟨b,0,none⟩) (World.block_lt_of_cell? _ _ hbc)).trans hbc)))
 have HW0:=hI (winsM_any 0 (by decide) 6)
 have HW1:=hI (winsM_any 1 (by decide) 6)
 have hmf:∀ (fn:Fn) (first cap:Array Value) (w:World),(Instr.makeFunc fn first cap).run Tryz.prog w=.ok (.func fn first cap) w:=fun _ _ _ _=>rfl
 have HG:=hI (show goalP n=if 56≤kSqC n 0∧56≤kSqC n 1 then (3,6) else if 56≤kSqC n 1 then (2,6) else if kSqC n 0<56 then (0,0) else if (t:Int)=0 then (1,6) else if comesB n=true then (0,0) else (1,6) by unfold goalP;rw [ht])
 have HK1:=hI (show firstB (ofN n 1 6)=kSqC n 1 from rfl)
 have HCM:=hI (show (wouldL n).any (fun m=>(m.f==kSqC n 1)&&decide (56≤m.t))=comesB n from rfl)
 have hR:=Below.refl X.heap.size X
 obtain ⟨⟨c0,i0,r0⟩,d2,d3,_⟩:=HF.out X hR
 obtain ⟨r,hr⟩:∃ r,goalP n=r:=⟨_,rfl⟩
 rw [hr]
 rw [hr] at HG
 clear hX xp xr xb xs hT hr ht hv h78
 go_enter Tryz.func138,Tryz.ntmps138
 go_wp2_with (rw [HX.out])
 refine (HA1.out 0 _ hR).mono ?_
 rintro e V1 ⟨rfl,h1⟩
 have hR:=bT hR h1
 clear h1
 go_wp2_with fail
 refine (HA1.out 1 _ hR).mono ?_
 rintro e V2 ⟨rfl,h1⟩
 have hR:=bT hR h1
 obtain ⟨⟨c0,i0,r0⟩,d2,d3,_⟩:=HF.out _ hR
 clear h1
 by_cases hw:56≤kSqC n 0
 case pos =>
  have ew:decide (56≤kSqC n 0)=true:=decide_eq_true hw
  by_cases hb:56≤kSqC n 1
  case pos =>
   have eb:decide (56≤kSqC n 1)=true:=decide_eq_true hb
   have HE:=hI (HG.out.trans (if_pos ⟨hw,hb⟩))
   rw [ew,eb]
   go_wp2
   refine bodyPost_ret (v:=.agg #[.int .u8 3,.int .u8 6]) (res_result Tryz.results138 _ _ _ _ _ rfl (res_set d2 _ _)) rfl ⟨ret_val (by rw [HE.out];rfl),below_setRow d3 (by omega) _⟩
  case neg =>
   have eb:decide (56≤kSqC n 1)=false:=decide_eq_false hb
   have HG:=hI (HG.out.trans ((if_neg (fun h=>hb h.2)).trans ((if_neg hb).trans (if_neg (by omega)))))
   rw [ew,eb]
   clear ew eb hw hb
   rcases (show t=0∨t=1 by omega) with rfl | rfl
   · have HE := hideIt (HG.out.trans (if_pos (by rfl)))
     go_wp2_with fail
     refine (HW0.out _).mono ?_
     rintro e V3 ⟨rfl,h1⟩
     obtain ⟨_,e2,e3,_⟩:=HF.out _ (bT hR h1)
     go_wp2
     all_goals refine bodyPost_ret (v:=.agg #[.int .u8 1,.int .u8 6]) (res_result Tryz.results138 _ _ _ _ _ rfl (res_set e2 _ _)) rfl ⟨ret_val (by rw [HE.out];rfl),below_setRow e3 (by omega) _⟩
   · have HG := hideIt (HG.out.trans (if_neg (by decide)))
     go_wp2_with fail
     refine (HFI.out _ hR).mono ?_
     rintro e V3 ⟨rfl,h1⟩
     have hR:=bT hR h1
     clear h1
     rw [HK1.out]
     obtain ⟨Y,hY⟩:∃ Y,V3.alloc (.cells #[.int .i64 (kSqC n 1)] 3)=Y:=⟨_,rfl⟩
     have hRY:Below X.heap.size X Y:=by rw [← hY];exact hR.alloc hR.size _
     have hcY:Y.cell? ⟨V3.heap.size,0,none⟩=some (.int .i64 (kSqC n 1)):=by rw [← hY];exact World.cell?_alloc_new ..
     have hsY:V3.heap.size<Y.heap.size:=by rw [← hY];simp
     obtain ⟨⟨c0,i0,r0⟩,d2,d3,_⟩:=HF.out _ hRY
     have HY:=hI hY
     clear hY
     go_wp2_with (rw [HY.out])
     refine (HWO.out _ hRY).mono ?_
     rintro e V4 ⟨vl,rfl,ho,h2⟩
     have hc4:=(h2.cell (p:=⟨V3.heap.size,0,none⟩) hsY).trans hcY
     have HC:=hI (HCF.out V4 _ _ ho V3.heap.size hc4)
     rw [HCM.out] at HC
     obtain ⟨a4,k4,rfl⟩:=ho.len
     have hR4:=bT hRY h2
     clear h2 ho hc4 hcY
     go_wp2_with fail
     refine HC.out.mono ?_
     rintro e V5 ⟨rfl,h3⟩
     have hR5:=bT hR4 h3
     obtain ⟨_,e2,e3,_⟩:=HF.out _ hR5
     cases hcm:comesB n
     · have HE := hideIt (HG.out.trans (if_neg (by rw [hcm]; decide)))
       go_wp2_with fail
       refine (HW0.out _).mono ?_
       rintro e V6 ⟨rfl,h4⟩
       obtain ⟨_,e2,e3,_⟩:=HF.out _ (bT hR5 h4)
       go_wp2
       all_goals refine bodyPost_ret (v:=.agg #[.int .u8 1,.int .u8 6]) (res_result Tryz.results138 _ _ _ _ _ rfl (res_set e2 _ _)) rfl ⟨ret_val (by rw [HE.out];rfl),below_setRow e3 (by omega) _⟩
     · have HE := hideIt (HG.out.trans (if_pos hcm))
       go_wp2
       refine bodyPost_ret (v:=.agg #[.int .u8 0,.int .u8 0]) (res_result Tryz.results138 _ _ _ _ _ rfl (res_set e2 _ _)) rfl ⟨ret_val (by rw [HE.out];rfl),below_setRow e3 (by omega) _⟩
 case neg =>
  have ew:decide (56≤kSqC n 0)=false:=decide_eq_false hw
  by_cases hb:56≤kSqC n 1
  case pos =>
   have eb:decide (56≤kSqC n 1)=true:=decide_eq_true hb
   have HE:=hI (HG.out.trans ((if_neg (fun h=>hw h.1)).trans (if_pos hb)))
   rw [ew,eb]
   clear ew eb hw hb
   go_wp2_with fail
   refine (HW1.out _).mono ?_
   rintro e V3 ⟨rfl,h1⟩
   obtain ⟨_,e2,e3,_⟩:=HF.out _ (bT hR h1)
   go_wp2
   all_goals refine bodyPost_ret (v:=.agg #[.int .u8 2,.int .u8 6]) (res_result Tryz.results138 _ _ _ _ _ rfl (res_set e2 _ _)) rfl ⟨ret_val (by rw [HE.out];rfl),below_setRow e3 (by omega) _⟩
  case neg =>
   have eb:decide (56≤kSqC n 1)=false:=decide_eq_false hb
   have HE:=hI (HG.out.trans ((if_neg (fun h=>hb h.2)).trans ((if_neg hb).trans (if_pos (by omega)))))
   rw [ew,eb]
   go_wp2
   refine bodyPost_ret (v:=.agg #[.int .u8 0,.int .u8 0]) (res_result Tryz.results138 _ _ _ _ _ rfl (res_set d2 _ _)) rfl ⟨ret_val (by rw [HE.out];rfl),below_setRow d3 (by omega) _⟩
theorem checks1_any (n:Nat→Int) (c:Nat) (hc:c≤1) (b:Nat) (w:World) (hb:PosAt w b n):Calls Tryz.prog 179 #[.int .u8 (c:Int),.pointer (some ⟨b,0,none⟩)] w fun e w' => e = .returned (.bool (decide (3≤n (84+c))))∧w=w' := by
 have hk:kindAt (84+c)=.u8:=by rcases (show c=0∨c=1 by omega) with rfl | rfl <;> rfl
 have c84:w.cell? ⟨b,84+c,none⟩=some (.int .u8 (n (84+c))):=by rw [← hk];exact hb.cell (84+c) (by omega)
 have c0:(0:Int)≤c:=by omega
 have c1:(c:Int)<2:=by omega
 generalize n (84+c)=x at *
 clear hb
 go_enter Tryz.func179,Tryz.ntmps179
 go_wp2
 go_ret
 exact ⟨rfl,rfl⟩
theorem hb_two (c:Int) (h:c=0∨c=1):∃ k:Nat,c=k∧k≤1:=⟨c.toNat,by omega,by omega⟩
theorem checks_won (n:Nat→Int) (hn:PosOk n) (t:Nat) (ht1:t≤1) (ht:n 78=t) (w:World):Calls Tryz.prog 134 #[.agg (posA n)] w fun e w' => e = .returned (resV (if 3≤n (84+(1 - (t:Int)).toNat) then (2 - (t:Int),7) else if 3≤n (84+t) then (1+(t:Int),7) else (0,0)))∧Below w.heap.size w w' := by
 obtain ⟨X,hX⟩:∃ X,resX n w=X:=⟨_,rfl⟩
 obtain ⟨xp,xr,xb,xs⟩:=resX_at n w X hX
 have HX:=hI (show (w.alloc (.cells (posA n) 31)).alloc (.cells #[.int .u8 0,.int .u8 0] 39)=X from hX)
 obtain ⟨i0,r0⟩:=xp.rules
 have HF:=hI (fun V (hb:Below X.heap.size X V)=>(show IsRes V (w.heap.size+1)∧Below w.heap.size w V from ⟨xr.below hb (by omega),xb.trans (hb.mono xb.size)⟩))
 have HFI:=hI (wfirst_any n t ht1 ht 7 179 #[.pointer (some ⟨w.heap.size,0,none⟩)] (fun c=>decide (3≤n (84+c.toNat))) (enters_of Tryz.func179 (by kernel_rfl) rfl) X (fun c hc W hW=>by
  obtain ⟨k,rfl,hk⟩:=hb_two c hc
  exact (checks1_any n k hk w.heap.size W (xp.below hW xp.lt)).mono (fun e w' h=>⟨h.1,by rw [← h.2];exact bR⟩)))
 have hmf:∀ (fn:Fn) (first cap:Array Value) (w:World),(Instr.makeFunc fn first cap).run Tryz.prog w=.ok (.func fn first cap) w:=fun _ _ _ _=>rfl
 obtain ⟨r,hr⟩:∃ r,(if decide (3≤n (84+(1 - (t:Int)).toNat))=true then (2 - (t:Int),(7:Int)) else if decide (3≤n (84+(t:Int).toNat))=true then (1+(t:Int),7) else (0,0))=r:=⟨_,rfl⟩
 rw [hr] at HFI
 simp only [decide_eq_true_iff,Int.toNat_natCast] at hr
 rw [hr]
 obtain ⟨ra,rb⟩:=r
 unfold resV at HFI
 clear hX xp xr xb xs hr
 go_enter Tryz.func134,Tryz.ntmps134
 go_wp2_with (rw [HX.out])
 refine HFI.out.mono ?_
 rintro e V ⟨rfl,hb⟩
 obtain ⟨d2,d3⟩:=HF.out V hb
 go_wp2
 refine bodyPost_ret (v:=.agg #[.int .u8 ra,.int .u8 rb]) (res_result Tryz.results134 _ _ _ _ _ rfl (res_set d2 _ _)) rfl ⟨rfl,below_setRow d3 (by omega) _⟩
theorem horde_won (n:Nat→Int) (hn:PosOk n) (w:World):Calls Tryz.prog 136 #[.agg (posA n)] w fun e w' => e = .returned (resV (if menB0 n 0=true then (0,0) else (2,8)))∧Below w.heap.size w w' := by
 obtain ⟨X,hX⟩:∃ X,resX n w=X:=⟨_,rfl⟩
 obtain ⟨xp,xr,xb,xs⟩:=resX_at n w X hX
 have HX:=hI (show (w.alloc (.cells (posA n) 31)).alloc (.cells #[.int .u8 0,.int .u8 0] 39)=X from hX)
 obtain ⟨i0,r0⟩:=xp.rules
 have HF:=hI (fun V (hb:Below X.heap.size X V)=>(show IsRes V (w.heap.size+1)∧Below w.heap.size w V from ⟨xr.below hb (by omega),xb.trans (hb.mono xb.size)⟩))
 have HOF:=hI (of_any n hn 0 0 X)
 have HWI:=hI (winsM_any 1 (by decide) 8)
 have hm:menB0 n 0=!(ofN n 0 0==0#64):=rfl
 generalize ofN n 0 0=A at *
 rw [hm]
 have hz:=nz_u A
 have hz2:(u A==0)=(A==0#64):=u_eq_zero A
 clear hX xp xr xb xs hm
 cases e1:(A==0#64)
 · rw [e1] at hz2
   rw [if_pos (by rfl)]
   go_enter Tryz.func136,Tryz.ntmps136
   go_wp2_with (rw [HX.out])
   refine HOF.out.mono ?_
   rintro e V ⟨rfl,hb⟩
   obtain ⟨d2,d3⟩:=HF.out V hb
   go_wp2
   refine bodyPost_ret (v:=.agg #[.int .u8 0,.int .u8 0]) (res_result Tryz.results136 _ _ _ _ _ rfl (res_set d2 _ _)) rfl ⟨rfl,below_setRow d3 (by omega) _⟩
 · rw [e1] at hz2
   rw [if_neg (by decide)]
   go_enter Tryz.func136,Tryz.ntmps136
   go_wp2_with (rw [HX.out])
   refine HOF.out.mono ?_
   rintro e V ⟨rfl,hb⟩
   go_wp2_with fail
   refine (HWI.out _).mono ?_
   rintro e V2 ⟨rfl,hb2⟩
   obtain ⟨d2,d3⟩:=HF.out V2 (bT hb hb2)
   go_wp2
   refine bodyPost_ret (v:=.agg #[.int .u8 2,.int .u8 8]) (res_result Tryz.results136 _ _ _ _ _ rfl (res_set d2 _ _)) rfl ⟨rfl,below_setRow d3 (by omega) _⟩
@[reducible] def fv (f : Nat) : Value := .func (.func f) #[] #[]
def winA:Array Value:=#[.nilFunc,.nilFunc,.nilFunc,fv 133,fv 137,fv 134,fv 135,fv 136,fv 138]
theorem winners_any (w:World):Calls Tryz.prog 65 #[] w fun e w' => e = .returned (.agg winA)∧Below w.heap.size w w' := by
 go_enter Tryz.func65,Tryz.ntmps65
 go_wp2
 refine bodyPost_ret (v:=.agg winA) (results_cell_row Tryz.results65 _ _ w.heap.size _ winA _ _ rfl (World.alloc_heap_new w _) Tryz.underlying97 rfl (by kernel_rfl)) rfl ⟨rfl,bR.alloc lR _⟩
theorem won_f (n:Nat→Int) (hn:PosOk n) (t:Nat) (ht1:t≤1) (ht:n 78=t) (v:Nat) (hv9:v<9) (hv:n 0=v) (f:Nat) (ix:∀ w,(Instr.index 97 (.agg winA) (.int .u8 (v:Int))).run Tryz.prog w=.ok (.agg #[fv f]) w) (hcf:∀ w,(callFunc f #[.agg (posA n)]).run Tryz.prog w=.ok (.enter f #[.agg (posA n)]) w) (ra rb:Int) (w:World)
 (HB:∀ V,Below w.heap.size w V→Calls Tryz.prog f #[.agg (posA n)] V fun e w' => e = .returned (.agg #[.int .u8 ra,.int .u8 rb])∧Below V.heap.size V w'):Calls Tryz.prog 27 #[.agg (posA n)] w fun e w' => e = .returned (.agg #[.int .u8 ra,.int .u8 rb])∧Below w.heap.size w w' := by
 obtain ⟨X,hX⟩:∃ X,resX n w=X:=⟨_,rfl⟩
 obtain ⟨xp,xr,xb,xs⟩:=resX_at n w X hX
 have HX:=hI (show (w.alloc (.cells (posA n) 31)).alloc (.cells #[.int .u8 0,.int .u8 0] 39)=X from hX)
 have HF:=hI (fun V (hb:Below X.heap.size X V)=>(show (V.cell? ⟨w.heap.size,0,none⟩=some (.int .u8 (v:Int))∧V.cell? ⟨w.heap.size,78,none⟩=some (.int .u8 (t:Int))∧IsPos V w.heap.size∧rowOf V w.heap.size=posA n)∧IsRes V (w.heap.size+1)∧Below w.heap.size w V∧PosAt V w.heap.size n from ⟨⟨by rw [← hv];exact (xp.below hb xp.lt).cell 0 (by decide),by rw [← ht];exact (xp.below hb xp.lt).cell 78 (by decide),(xp.below hb xp.lt).rules⟩,xr.below hb (by omega),xb.trans (hb.mono xb.size),xp.below hb xp.lt⟩))
 have hR:=Below.refl X.heap.size X
 obtain ⟨⟨c0,c1,i0,r0⟩,d2,d3,_⟩:=HF.out X hR
 have dt:decide (1<(t:Int))=false:=decide_eq_false (by omega)
 have dv:decide (9≤(v:Int))=false:=decide_eq_false (by omega)
 have HBW:=hI (fun V (h:Below X.heap.size X V)=>HB V (xb.trans (h.mono xb.size)))
 have hne:∀ w,(binOp .neq 40 (.func (.func f) #[] #[]) .nilFunc).run Tryz.prog w=.ok (.bool true) w:=fun _=>rfl
 clear hX xp xr xb xs ht hv HB
 have HS:=hI (fun V (hb:Below X.heap.size X V)=>(show (V.cell? ⟨w.heap.size,0,none⟩=some (.int .u8 (v:Int)))∧Below X.heap.size X V from ⟨(HF.out V hb).1.1,hb⟩))
 go_enter Tryz.func27,Tryz.ntmps27
 go_upto_region 3 with (rw [HX.out])
 go_cut [3] (fun s3 wx=>∃ b:Nat,s3=.pointer (some ⟨b,0,none⟩)∧wx.cell? ⟨b,0,none⟩=some (fv f)∧Below X.heap.size X wx)
 case first =>
  refine wp_region_held_drew (S:=(fun V=>(V.cell? ⟨w.heap.size,0,none⟩=some (.int .u8 (v:Int)))∧Below X.heap.size X V)) (by kernel_rfl) ?_ (fun hHeld=>?_)
  · (try dsimp only);(refine HS.out _ ?_;repeat (first | exact bR | assumption | refine bD ?_))
  refine wpAnyH_take (i:=1) (oi:={ dst:=some 14,op:=Op.fieldAddr 31 (Operand.tmp 1) 0,type:=0,pos := "legal.go:105",after:=#[],guard:=none }) (v:=?_) rfl (by kernel_rfl) (by kernel_rfl) (by kernel_rfl) (fun _ _ _ h=>h) (Or.inl ⟨by rfl,?_⟩) (by assumption) ?_
  rotate_left
  · (intro w hSw;(try dsimp only at hSw);go_simp;try (with_reducible rfl))
  try simp only [Act.put,lA,lB,lC]
  refine wpAnyH_take (i:=2) (oi:={ dst:=some 15,op:=Op.load 5 (Operand.tmp 14),type:=5,pos := "legal.go:105",after:=#[{ on:=1,ground:=Ground.data }],guard:=none }) (v:=?_) rfl (by kernel_rfl) (by kernel_rfl) (by kernel_rfl) (fun _ _ _ h=>h) (Or.inl ⟨by rfl,?_⟩) (by assumption) ?_
  rotate_left
  · (intro w hSw;(try dsimp only at hSw);go_simp;try (with_reducible rfl))
  try simp only [Act.put,lA,lB,lC]
  refine wpAnyH_ready (rs:=[0,4]) (by kernel_rfl) (by simp) ?_
  refine AllReadyH.cons (o:={ dst:=some 13,op:=Op.call { callee:=Callee.value (Operand.func 65),args:=#[],argTypes:=#[] },type:=97,pos := "legal.go:105",after:=#[],guard:=none }) rfl (fun K hK=>?_) (AllReadyH.cons (o:={ dst:=some 3,op:=Op.alloc 96,type:=0,pos := "legal.go:105",after:=#[],guard:=none }) rfl (fun K hK=>?_) AllReadyH.nil)
  · skip
    go_simp
    refine (winners_any _).mono ?_
    rintro e w31 ⟨rfl,h1⟩
    refine hK.out _ _ ?_ (fun hHeld=>?_)
    · (try dsimp only);(refine HS.out _ ?_;repeat (first | exact bR | assumption | refine bD ?_ | refine bT ?_ (by assumption) | refine bl_new7 ?_))
    clear hK K
    try simp only [Act.put,lA,lB,lC]
    refine wpAnyH_take (i:=3) (oi:={ dst:=some 16,op:=Op.index 97 (Operand.tmp 13) (Operand.tmp 15),type:=96,pos := "legal.go:105",after:=#[{ on:=0,ground:=Ground.data },{ on:=2,ground:=Ground.data }],guard:=none }) (v:=?_) rfl (by kernel_rfl) (by kernel_rfl) (by kernel_rfl) (fun _ _ _ h=>h) (Or.inl ⟨by rfl,?_⟩) (by assumption) ?_
    rotate_left
    · (intro w hSw;(try dsimp only at hSw);go_simp;try (with_reducible rfl))
    try simp only [Act.put,lA,lB,lC]
    refine wpAnyH_ready (rs:=[4]) (by kernel_rfl) (by simp) ?_
    refine AllReadyH.cons (o:={ dst:=some 3,op:=Op.alloc 96,type:=0,pos := "legal.go:105",after:=#[],guard:=none }) rfl (fun K hK=>?_) AllReadyH.nil
    go_simp
    refine hK.out _ _ ?_ (fun hHeld=>?_)
    · (try dsimp only);(refine HS.out _ ?_;repeat (first | exact bR | assumption | refine bD ?_ | refine bT ?_ (by assumption) | refine bl_new7 ?_))
    clear hK K
    try simp only [Act.put,lA,lB,lC]
    refine wpAnyH_ready (rs:=[5]) (by kernel_rfl) (by simp) ?_
    refine AllReadyH.cons (o:={ dst:=none,op:=Op.store 96 (Operand.tmp 3) (Operand.tmp 16),type:=0,pos := "legal.go:105",after:=#[{ on:=4,ground:=Ground.data },{ on:=3,ground:=Ground.data },{ on:=0,ground:=Ground.chain },{ on:=0,ground:=Ground.phase },{ on:=1,ground:=Ground.phase },{ on:=2,ground:=Ground.phase },{ on:=3,ground:=Ground.phase },{ on:=4,ground:=Ground.phase }],guard:=none }) rfl (fun K hK=>?_) AllReadyH.nil
    go_simp
    have hbA:Below X.heap.size X (w31.alloc (.cells #[fv f] 96)):=bl_new7 (bT (bD bR) h1)
    refine hK.out _ _ (HS.out _ hbA) (fun hHeld=>?_)
    clear hK K
    try simp only [Act.put,lA,lB,lC]
    refine wpAnyH_done (by kernel_rfl) ?_ _
    go_wp2_with fail
    go_meet
    exact ⟨w31.heap.size,rfl,World.cell?_alloc_new ..,hbA⟩
  · skip
    go_simp
    refine hK.out _ _ ?_ (fun hHeld=>?_)
    · (try dsimp only);(refine HS.out _ ?_;repeat (first | exact bR | assumption | refine bD ?_ | refine bT ?_ (by assumption) | refine bl_new7 ?_))
    clear hK K
    try simp only [Act.put,lA,lB,lC]
    refine wpAnyH_ready (rs:=[0]) (by kernel_rfl) (by simp) ?_
    refine AllReadyH.cons (o:={ dst:=some 13,op:=Op.call { callee:=Callee.value (Operand.func 65),args:=#[],argTypes:=#[] },type:=97,pos := "legal.go:105",after:=#[],guard:=none }) rfl (fun K hK=>?_) AllReadyH.nil
    go_simp
    refine (winners_any _).mono ?_
    rintro e w31 ⟨rfl,h1⟩
    have hblk:w31.heap[X.heap.size]?=some (.cells #[.nilFunc] 96 (0,0)):=(h1.block _ (by simp)).trans (World.alloc_heap_new _ _)
    have hcell:w31.cell? ⟨X.heap.size,0,none⟩=some .nilFunc:=by rw [cell_of_row w31 _ 0 _ _ _ hblk];rfl
    have hfree:w31.frozen? ⟨X.heap.size,0,none⟩=false:=by simp [World.frozen?,hblk]
    refine hK.out _ _ ?_ (fun hHeld=>?_)
    · (try dsimp only);(refine HS.out _ ?_;repeat (first | exact bR | assumption | refine bD ?_ | refine bT ?_ (by assumption) | refine bl_new7 ?_))
    clear hK K
    try simp only [Act.put,lA,lB,lC]
    refine wpAnyH_take (i:=3) (oi:={ dst:=some 16,op:=Op.index 97 (Operand.tmp 13) (Operand.tmp 15),type:=96,pos := "legal.go:105",after:=#[{ on:=0,ground:=Ground.data },{ on:=2,ground:=Ground.data }],guard:=none }) (v:=?_) rfl (by kernel_rfl) (by kernel_rfl) (by kernel_rfl) (fun _ _ _ h=>h) (Or.inl ⟨by rfl,?_⟩) (by assumption) ?_
    rotate_left
    · (intro w hSw;(try dsimp only at hSw);go_simp;try (with_reducible rfl))
    try simp only [Act.put,lA,lB,lC]
    refine wpAnyH_ready (rs:=[5]) (by kernel_rfl) (by simp) ?_
    refine AllReadyH.cons (o:={ dst:=none,op:=Op.store 96 (Operand.tmp 3) (Operand.tmp 16),type:=0,pos := "legal.go:105",after:=#[{ on:=4,ground:=Ground.data },{ on:=3,ground:=Ground.data },{ on:=0,ground:=Ground.chain },{ on:=0,ground:=Ground.phase },{ on:=1,ground:=Ground.phase },{ on:=2,ground:=Ground.phase },{ on:=3,ground:=Ground.phase },{ on:=4,ground:=Ground.phase }],guard:=none }) rfl (fun K hK=>?_) AllReadyH.nil
    go_simp
    have hbB:Below X.heap.size X (w31.setCell ⟨X.heap.size,0,none⟩ (fv f)):=(bT (bl_new7 (bD bR)) h1).setCell (p:=⟨X.heap.size,0,none⟩) lR _
    refine hK.out _ _ (HS.out _ hbB) (fun hHeld=>?_)
    clear hK K
    try simp only [Act.put,lA,lB,lC]
    refine wpAnyH_done (by kernel_rfl) ?_ _
    go_wp2_with fail
    go_meet
    exact ⟨X.heap.size,rfl,by simp [World.cell?,World.setCell,Array.getElem?_modify,hblk],hbB⟩
 case rest =>
  obtain ⟨b,rfl,hcb,hb⟩:=hcut
  obtain ⟨⟨c0,c1,i0,r0⟩,d2,d3,_⟩:=HF.out wc hb
  go_wp2_with fail
  refine (HBW.out _ hb).mono ?_
  rintro e V ⟨rfl,h1⟩
  obtain ⟨_,e2,e3,_⟩:=HF.out V (bT hb h1)
  go_wp2
  refine bodyPost_ret (v:=.agg #[.int .u8 ra,.int .u8 rb]) (res_result Tryz.results27 _ _ _ _ _ rfl (res_set e2 _ _)) rfl ⟨rfl,below_setRow e3 (by omega) _⟩
theorem won_nil (n:Nat→Int) (hn:PosOk n) (t:Nat) (ht1:t≤1) (ht:n 78=t) (v:Nat) (hv9:v<9) (hv:n 0=v) (ix:∀ w,(Instr.index 97 (.agg winA) (.int .u8 (v:Int))).run Tryz.prog w=.ok (.agg #[.nilFunc]) w) (w:World):Calls Tryz.prog 27 #[.agg (posA n)] w fun e w' => e = .returned (.agg #[.int .u8 0,.int .u8 0])∧Below w.heap.size w w' := by
 obtain ⟨X,hX⟩:∃ X,resX n w=X:=⟨_,rfl⟩
 obtain ⟨xp,xr,xb,xs⟩:=resX_at n w X hX
 have HX:=hI (show (w.alloc (.cells (posA n) 31)).alloc (.cells #[.int .u8 0,.int .u8 0] 39)=X from hX)
 have HF:=hI (fun V (hb:Below X.heap.size X V)=>(show (V.cell? ⟨w.heap.size,0,none⟩=some (.int .u8 (v:Int))∧V.cell? ⟨w.heap.size,78,none⟩=some (.int .u8 (t:Int))∧IsPos V w.heap.size∧rowOf V w.heap.size=posA n)∧IsRes V (w.heap.size+1)∧Below w.heap.size w V∧PosAt V w.heap.size n from ⟨⟨by rw [← hv];exact (xp.below hb xp.lt).cell 0 (by decide),by rw [← ht];exact (xp.below hb xp.lt).cell 78 (by decide),(xp.below hb xp.lt).rules⟩,xr.below hb (by omega),xb.trans (hb.mono xb.size),xp.below hb xp.lt⟩))
 have hR:=Below.refl X.heap.size X
 obtain ⟨⟨c0,c1,i0,r0⟩,d2,d3,_⟩:=HF.out X hR
 have dt:decide (1<(t:Int))=false:=decide_eq_false (by omega)
 have dv:decide (9≤(v:Int))=false:=decide_eq_false (by omega)
 have hne:∀ w,(binOp .neq 40 (.nilFunc) .nilFunc).run Tryz.prog w=.ok (.bool false) w:=fun _=>rfl
 clear hX xp xr xb xs ht hv
 have HS:=hI (fun V (hb:Below X.heap.size X V)=>(show (V.cell? ⟨w.heap.size,0,none⟩=some (.int .u8 (v:Int)))∧Below X.heap.size X V from ⟨(HF.out V hb).1.1,hb⟩))
 go_enter Tryz.func27,Tryz.ntmps27
 go_upto_region 3 with (rw [HX.out])
 go_cut [3] (fun s3 wx=>∃ b:Nat,s3=.pointer (some ⟨b,0,none⟩)∧wx.cell? ⟨b,0,none⟩=some ((.nilFunc))∧Below X.heap.size X wx)
 case first =>
  refine wp_region_held_drew (S:=(fun V=>(V.cell? ⟨w.heap.size,0,none⟩=some (.int .u8 (v:Int)))∧Below X.heap.size X V)) (by kernel_rfl) ?_ (fun hHeld=>?_)
  · (try dsimp only);(refine HS.out _ ?_;repeat (first | exact bR | assumption | refine bD ?_))
  refine wpAnyH_take (i:=1) (oi:={ dst:=some 14,op:=Op.fieldAddr 31 (Operand.tmp 1) 0,type:=0,pos := "legal.go:105",after:=#[],guard:=none }) (v:=?_) rfl (by kernel_rfl) (by kernel_rfl) (by kernel_rfl) (fun _ _ _ h=>h) (Or.inl ⟨by rfl,?_⟩) (by assumption) ?_
  rotate_left
  · (intro w hSw;(try dsimp only at hSw);go_simp;try (with_reducible rfl))
  try simp only [Act.put,lA,lB,lC]
  refine wpAnyH_take (i:=2) (oi:={ dst:=some 15,op:=Op.load 5 (Operand.tmp 14),type:=5,pos := "legal.go:105",after:=#[{ on:=1,ground:=Ground.data }],guard:=none }) (v:=?_) rfl (by kernel_rfl) (by kernel_rfl) (by kernel_rfl) (fun _ _ _ h=>h) (Or.inl ⟨by rfl,?_⟩) (by assumption) ?_
  rotate_left
  · (intro w hSw;(try dsimp only at hSw);go_simp;try (with_reducible rfl))
  try simp only [Act.put,lA,lB,lC]
  refine wpAnyH_ready (rs:=[0,4]) (by kernel_rfl) (by simp) ?_
  refine AllReadyH.cons (o:={ dst:=some 13,op:=Op.call { callee:=Callee.value (Operand.func 65),args:=#[],argTypes:=#[] },type:=97,pos := "legal.go:105",after:=#[],guard:=none }) rfl (fun K hK=>?_) (AllReadyH.cons (o:={ dst:=some 3,op:=Op.alloc 96,type:=0,pos := "legal.go:105",after:=#[],guard:=none }) rfl (fun K hK=>?_) AllReadyH.nil)
  · skip
    go_simp
    refine (winners_any _).mono ?_
    rintro e w31 ⟨rfl,h1⟩
    refine hK.out _ _ ?_ (fun hHeld=>?_)
    · (try dsimp only);(refine HS.out _ ?_;repeat (first | exact bR | assumption | refine bD ?_ | refine bT ?_ (by assumption) | refine bl_new7 ?_))
    clear hK K
    try simp only [Act.put,lA,lB,lC]
    refine wpAnyH_take (i:=3) (oi:={ dst:=some 16,op:=Op.index 97 (Operand.tmp 13) (Operand.tmp 15),type:=96,pos := "legal.go:105",after:=#[{ on:=0,ground:=Ground.data },{ on:=2,ground:=Ground.data }],guard:=none }) (v:=?_) rfl (by kernel_rfl) (by kernel_rfl) (by kernel_rfl) (fun _ _ _ h=>h) (Or.inl ⟨by rfl,?_⟩) (by assumption) ?_
    rotate_left
    · (intro w hSw;(try dsimp only at hSw);go_simp;try (with_reducible rfl))
    try simp only [Act.put,lA,lB,lC]
    refine wpAnyH_ready (rs:=[4]) (by kernel_rfl) (by simp) ?_
    refine AllReadyH.cons (o:={ dst:=some 3,op:=Op.alloc 96,type:=0,pos := "legal.go:105",after:=#[],guard:=none }) rfl (fun K hK=>?_) AllReadyH.nil
    go_simp
    refine hK.out _ _ ?_ (fun hHeld=>?_)
    · (try dsimp only);(refine HS.out _ ?_;repeat (first | exact bR | assumption | refine bD ?_ | refine bT ?_ (by assumption) | refine bl_new7 ?_))
    clear hK K
    try simp only [Act.put,lA,lB,lC]
    refine wpAnyH_ready (rs:=[5]) (by kernel_rfl) (by simp) ?_
    refine AllReadyH.cons (o:={ dst:=none,op:=Op.store 96 (Operand.tmp 3) (Operand.tmp 16),type:=0,pos := "legal.go:105",after:=#[{ on:=4,ground:=Ground.data },{ on:=3,ground:=Ground.data },{ on:=0,ground:=Ground.chain },{ on:=0,ground:=Ground.phase },{ on:=1,ground:=Ground.phase },{ on:=2,ground:=Ground.phase },{ on:=3,ground:=Ground.phase },{ on:=4,ground:=Ground.phase }],guard:=none }) rfl (fun K hK=>?_) AllReadyH.nil
    go_simp
    have hbA:Below X.heap.size X (w31.alloc (.cells #[(.nilFunc)] 96)):=bl_new7 (bT (bD bR) h1)
    refine hK.out _ _ (HS.out _ hbA) (fun hHeld=>?_)
    clear hK K
    try simp only [Act.put,lA,lB,lC]
    refine wpAnyH_done (by kernel_rfl) ?_ _
    go_wp2_with fail
    go_meet
    exact ⟨w31.heap.size,rfl,World.cell?_alloc_new ..,hbA⟩
  · skip
    go_simp
    refine hK.out _ _ ?_ (fun hHeld=>?_)
    · (try dsimp only);(refine HS.out _ ?_;repeat (first | exact bR | assumption | refine bD ?_ | refine bT ?_ (by assumption) | refine bl_new7 ?_))
    clear hK K
    try simp only [Act.put,lA,lB,lC]
    refine wpAnyH_ready (rs:=[0]) (by kernel_rfl) (by simp) ?_
    refine AllReadyH.cons (o:={ dst:=some 13,op:=Op.call { callee:=Callee.value (Operand.func 65),args:=#[],argTypes:=#[] },type:=97,pos := "legal.go:105",after:=#[],guard:=none }) rfl (fun K hK=>?_) AllReadyH.nil
    go_simp
    refine (winners_any _).mono ?_
    rintro e w31 ⟨rfl,h1⟩
    have hblk:w31.heap[X.heap.size]?=some (.cells #[.nilFunc] 96 (0,0)):=(h1.block _ (by simp)).trans (World.alloc_heap_new _ _)
    have hcell:w31.cell? ⟨X.heap.size,0,none⟩=some .nilFunc:=by rw [cell_of_row w31 _ 0 _ _ _ hblk];rfl
    have hfree:w31.frozen? ⟨X.heap.size,0,none⟩=false:=by simp [World.frozen?,hblk]
    refine hK.out _ _ ?_ (fun hHeld=>?_)
    · (try dsimp only);(refine HS.out _ ?_;repeat (first | exact bR | assumption | refine bD ?_ | refine bT ?_ (by assumption) | refine bl_new7 ?_))
    clear hK K
    try simp only [Act.put,lA,lB,lC]
    refine wpAnyH_take (i:=3) (oi:={ dst:=some 16,op:=Op.index 97 (Operand.tmp 13) (Operand.tmp 15),type:=96,pos := "legal.go:105",after:=#[{ on:=0,ground:=Ground.data },{ on:=2,ground:=Ground.data }],guard:=none }) (v:=?_) rfl (by kernel_rfl) (by kernel_rfl) (by kernel_rfl) (fun _ _ _ h=>h) (Or.inl ⟨by rfl,?_⟩) (by assumption) ?_
    rotate_left
    · (intro w hSw;(try dsimp only at hSw);go_simp;try (with_reducible rfl))
    try simp only [Act.put,lA,lB,lC]
    refine wpAnyH_ready (rs:=[5]) (by kernel_rfl) (by simp) ?_
    refine AllReadyH.cons (o:={ dst:=none,op:=Op.store 96 (Operand.tmp 3) (Operand.tmp 16),type:=0,pos := "legal.go:105",after:=#[{ on:=4,ground:=Ground.data },{ on:=3,ground:=Ground.data },{ on:=0,ground:=Ground.chain },{ on:=0,ground:=Ground.phase },{ on:=1,ground:=Ground.phase },{ on:=2,ground:=Ground.phase },{ on:=3,ground:=Ground.phase },{ on:=4,ground:=Ground.phase }],guard:=none }) rfl (fun K hK=>?_) AllReadyH.nil
    go_simp
    have hbB:Below X.heap.size X (w31.setCell ⟨X.heap.size,0,none⟩ ((.nilFunc))):=(bT (bl_new7 (bD bR)) h1).setCell (p:=⟨X.heap.size,0,none⟩) lR _
    refine hK.out _ _ (HS.out _ hbB) (fun hHeld=>?_)
    clear hK K
    try simp only [Act.put,lA,lB,lC]
    refine wpAnyH_done (by kernel_rfl) ?_ _
    go_wp2_with fail
    go_meet
    exact ⟨X.heap.size,rfl,by simp [World.cell?,World.setCell,Array.getElem?_modify,hblk],hbB⟩
 case rest =>
  obtain ⟨b,rfl,hcb,hb⟩:=hcut
  obtain ⟨⟨c0,c1,i0,r0⟩,d2,d3,_⟩:=HF.out wc hb
  go_wp2
  refine bodyPost_ret (v:=.agg #[.int .u8 0,.int .u8 0]) (res_result Tryz.results27 _ _ _ _ _ rfl (res_set d2 _ _)) rfl ⟨rfl,below_setRow d3 (by omega) _⟩
theorem calls_of {f:Nat} {args:Array Value} {w:World} {r r' : Value} (h:r=r') (H:Calls Tryz.prog f args w fun e w' => e = .returned r∧Below w.heap.size w w'):Calls Tryz.prog f args w fun e w' => e = .returned r' ∧ Below w.heap.size w w' := h ▸ H
theorem won_any (n:Nat→Int) (hn:PosOk n) (t:Nat) (ht1:t≤1) (ht:n 78=t) (v:Nat) (hv9:v<9) (hv:n 0=v) (w:World) (hT:Tab w):Calls Tryz.prog 27 #[.agg (posA n)] w fun e w' => e = .returned (resV (wonP n))∧Below w.heap.size w w' := by
 have hTb:∀ {V},Below w.heap.size w V→Tab V:=fun h=>hT.below h lR
 match v,hv9 with
 | 0,_=>exact calls_of (by unfold wonP;simp [hv];rfl) (won_nil n hn t ht1 ht 0 (by omega) hv (fun _=>by kernel_rfl) w)
 | 1,_=>exact calls_of (by unfold wonP;simp [hv];rfl) (won_nil n hn t ht1 ht 1 (by omega) hv (fun _=>by kernel_rfl) w)
 | 2,_=>exact calls_of (by unfold wonP;simp [hv];rfl) (won_nil n hn t ht1 ht 2 (by omega) hv (fun _=>by kernel_rfl) w)
 | 3,_=>exact calls_of (by unfold wonP;simp [hv,ht];rfl) (won_f n hn t ht1 ht 3 (by omega) hv 133 (fun _=>by kernel_rfl) (fun _=>by kernel_rfl) _ _ w (fun V h=>blown_won n hn t ht1 ht V (hTb h)))
 | 4,_=>exact calls_of (by unfold wonP;simp [hv,ht];rfl) (won_f n hn t ht1 ht 4 (by omega) hv 137 (fun _=>by kernel_rfl) (fun _=>by kernel_rfl) _ _ w (fun V h=>bare_won n hn t ht1 ht V))
 | 5,_=>exact calls_of (by unfold wonP;simp [hv,ht];rfl) (won_f n hn t ht1 ht 5 (by omega) hv 134 (fun _=>by kernel_rfl) (fun _=>by kernel_rfl) _ _ w (fun V h=>checks_won n hn t ht1 ht V))
 | 6,_=>exact calls_of (by unfold wonP;simp [hv,ht];rfl) (won_f n hn t ht1 ht 6 (by omega) hv 135 (fun _=>by kernel_rfl) (fun _=>by kernel_rfl) _ _ w (fun V h=>hill_won n hn t ht1 ht V (hTb h)))
 | 7,_=>exact calls_of (by unfold wonP;simp [hv];rfl) (won_f n hn t ht1 ht 7 (by omega) hv 136 (fun _=>by kernel_rfl) (fun _=>by kernel_rfl) _ _ w (fun V h=>horde_won n hn V))
 | 8,_=>exact calls_of (by unfold wonP;simp [hv];rfl) (won_f n hn t ht1 ht 8 (by omega) hv 138 (fun _=>by kernel_rfl) (fun _=>by kernel_rfl) _ _ w (fun V h=>goal_won n hn t ht1 ht (by omega) V (hTb h)))
theorem win17_any (c y:Int) (hc:c=0∨c=1) (w:World):Calls Tryz.prog 57 #[.int .u8 c,.int .u8 y] w fun e w' => e = .returned (.agg #[.int .u8 (1+c),.int .u8 y])∧Below w.heap.size w w' := by
 obtain ⟨X,hX⟩:∃ X,w.alloc (.cells #[.int .u8 0,.int .u8 0] 39)=X:=⟨_,rfl⟩
 have hr:IsRes X w.heap.size:=by rw [← hX];exact isRes_new w 0 0
 have hb:Below w.heap.size w X:=by rw [← hX];exact bR.alloc lR _
 have HX:=hI hX
 clear hX
 rcases hc with rfl | rfl
 all_goals
  go_enter Tryz.func57,Tryz.ntmps57
  go_wp2_with (rw [HX.out])
  refine bodyPost_ret (results_cell_row Tryz.results57 _ _ w.heap.size _ _ _ _ rfl (res_set hr _ _) Tryz.underlying39 rfl sizeRes) rfl ⟨rfl,below_setRow hb lR _⟩
theorem hill17_any (s:Int) (w:World):Calls Tryz.prog 58 #[.int .i64 s] w fun e w' => e = .returned (.bool (hillI s))∧w=w' := by
 have HH:=hI (show hillI s=((s==27) || (s==28) || (s==35) || (s==36)) from rfl)
 cases e1:(s==27) <;> cases e2:(s==28) <;> cases e3:(s==35)
 all_goals
  go_enter Tryz.func58,Tryz.ntmps58
  go_wp2
  go_ret
  exact ⟨rB (by rw [HH.out,e1,e2,e3];simp),rfl⟩
theorem men_yes {n:Nat→Int} {c:Int} {j:Nat} (hj:j<64) (h:ownP n j c=true):menB0 n c=true:=by
 unfold menB0
 rw [Bool.not_eq_true',beq_eq_false_iff_ne]
 intro e
 rw [own_is n j c (by omega) (by omega),e,has_zero] at h
 cases h
theorem men_no {n:Nat→Int} {c:Int} (h:∀ j:Nat,j<64→ownP n j c=false):menB0 n c=false:=by
 unfold menB0
 rw [Bool.not_eq_false',beq_iff_eq]
 apply ext_has
 intro k hk
 rw [← own_is n k c (by omega) (by omega),h k hk,has_zero]
theorem men17_any (n:Nat→Int) (hn:PosOk n) (c:Int) (w:World):Calls Tryz.prog 59 #[.agg (posA n),.int .u8 c] w fun e w' => e = .returned (.bool (menB0 n c))∧Below w.heap.size w w' := by
 obtain ⟨X,hX⟩:∃ X,w.alloc (.cells (posA n) 31)=X:=⟨_,rfl⟩
 obtain ⟨p0,hb⟩:=box1 w n X hX
 have HX:=hI hX
 have HP:=hI p0
 have HB:=hI hb
 clear hX p0 hb
 go_enter Tryz.func59,Tryz.ntmps59
 go_wp2_with (rw [HX.out])
 go_loopw [5] (fun i wr=>∃ j:Nat,j≤64∧i=.int .i64 j∧(∀ k:Nat,k<j→ownP n k c=false)∧Below X.heap.size X wr) (fun i _=>64 - (intOf i).toNat)
 case atStart=>exact ⟨0,by omega,rfl,fun k hk=>absurd hk (Nat.not_lt_zero k),bR⟩
 case round =>
  obtain ⟨j,hj,rfl,hno,hr⟩:=hrel
  by_cases hlt:j<64
  · obtain ⟨i0, r0⟩ := (HP.out.below hr HP.out.lt).rules
    have HO:=hI (own13_any n hn (j:Int) c (by omega) (by omega) wr)
    have HR:=hI hr
    have HNO:=hI hno
    clear hr hno
    have hj64:(j:Int)<64:=by omega
    cases e1:ownP n (j:Int) c <;> rw [e1] at HO
    · have HN2 := hideIt (show ∀ k : Nat, k < j + 1 → ownP n k c = false from fun k hk => by
       by_cases e:k=j
       · subst e;exact e1
       · exact HNO.out k (by omega))
      go_wp2_with fail
      refine HO.out.mono ?_
      rintro e V ⟨rfl,h1⟩
      have hV:=bT HR.out h1
      clear h1
      go_wp2
      go_roundw
      case rel=>exact ⟨j+1,by omega,by go_num,HN2.out,hV⟩
      case measure=>simp [intOf];omega
    · have HY := hideIt (men_yes hlt e1)
      go_wp2_with fail
      refine HO.out.mono ?_
      rintro e V ⟨rfl,h1⟩
      have hV:=bT HR.out h1
      clear h1
      go_wp2
      go_ret
      exact ⟨rB HY.out.symm,HB.out.trans (hV.mono HB.out.size)⟩
  · obtain rfl : j = 64 := by omega
    have HY:=hI (men_no hno)
    clear hno
    go_wp2
    go_ret
    exact ⟨rB HY.out.symm,HB.out.trans (hr.mono HB.out.size)⟩
end Go.Proofs.YteocjaihaegmoaaGreatDoor
