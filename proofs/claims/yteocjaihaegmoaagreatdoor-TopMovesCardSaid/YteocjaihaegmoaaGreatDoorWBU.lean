/- Parts of the proof: BT, IF. -/
import Derived.Test.YteocjaihaegmoaaGreatDoorWAM
import Derived.Test.YteocjaihaegmoaaGreatDoorWBQ
import Derived.Test.YteocjaihaegmoaaGreatDoorWBT
set_option linter.unusedVariables false
set_option maxHeartbeats 16000000
set_option maxRecDepth 100000
namespace Go.Proofs.YteocjaihaegmoaaGreatDoor
open Go Go.RowKit
abbrev qw0:Oper:={ dst:=some 26,op:=Op.load 31 (Operand.tmp 2),type:=31,pos := "top22.go:47",after:=#[],guard:=none }
abbrev qw1:Oper:={ dst:=some 27,op:=Op.move (Operand.tmp 7),type:=41,pos := "top22.go:47",after:=#[],guard:=none }
abbrev qw2:Oper:={ dst:=some 28,op:=Op.move (Operand.tmp 1),type:=32,pos := "top22.go:47",after:=#[],guard:=none }
abbrev qw3:Oper:={ dst:=some 29,op:=Op.move (Operand.tmp 6),type:=3,pos := "top22.go:47",after:=#[],guard:=none }
abbrev qw4:Oper:={ dst:=some 30,op:=Op.indexAddr 32 (Operand.tmp 28) (Operand.tmp 29),type:=0,pos := "top22.go:47",after:=#[{ on:=2,ground:=Ground.data },{ on:=3,ground:=Ground.data }],guard:=none }
abbrev qw5:Oper:={ dst:=some 31,op:=Op.load 5 (Operand.tmp 30),type:=5,pos := "top22.go:47",after:=#[{ on:=4,ground:=Ground.data }],guard:=none }
abbrev qw6:Oper:={ dst:=some 32,op:=Op.convert 5 3 (Operand.tmp 31),type:=3,pos := "top22.go:47",after:=#[{ on:=5,ground:=Ground.data }],guard:=none }
abbrev qw7:Oper:={ dst:=some 33,op:=Op.move (Operand.tmp 7),type:=41,pos := "top22.go:47",after:=#[],guard:=none }
abbrev qw8:Oper:={ dst:=some 34,op:=Op.call { callee:=Callee.builtin Builtin.len,args:=#[Operand.tmp 33],argTypes:=#[41] },type:=3,pos := "top22.go:47",after:=#[{ on:=7,ground:=Ground.data }],guard:=none }
abbrev qw9:Oper:={ dst:=some 35,op:=Op.binOp BinOp.rem 3 (Operand.tmp 32) (Operand.tmp 34) 3,type:=3,pos := "top22.go:47",after:=#[{ on:=6,ground:=Ground.data },{ on:=8,ground:=Ground.data }],guard:=none }
abbrev qw10:Oper:={ dst:=some 36,op:=Op.indexAddr 41 (Operand.tmp 27) (Operand.tmp 35),type:=0,pos := "top22.go:47",after:=#[{ on:=1,ground:=Ground.data },{ on:=9,ground:=Ground.data }],guard:=none }
abbrev qw11:Oper:={ dst:=some 37,op:=Op.load 49 (Operand.tmp 36),type:=49,pos := "top22.go:47",after:=#[{ on:=10,ground:=Ground.data }],guard:=none }
abbrev qw12:Oper:={ dst:=some 38,op:=Op.call { callee:=Callee.value (Operand.func 14),args:=#[Operand.tmp 26,Operand.tmp 37],argTypes:=#[31,49] },type:=44,pos := "top22.go:47",after:=#[{ on:=0,ground:=Ground.data },{ on:=11,ground:=Ground.data }],guard:=none }
abbrev qw13:Oper:={ dst:=some 25,op:=Op.move (Operand.tmp 38),type:=44,pos := "top22.go:47",after:=#[{ on:=12,ground:=Ground.data }],guard:=none }
abbrev qw14:Oper:={ dst:=some 39,op:=Op.extract (Operand.tmp 25) 0,type:=31,pos := "top22.go:47",after:=#[{ on:=13,ground:=Ground.data }],guard:=none }
abbrev qw15:Oper:={ dst:=some 40,op:=Op.extract (Operand.tmp 25) 1,type:=4,pos := "top22.go:47",after:=#[{ on:=13,ground:=Ground.data },{ on:=16,ground:=Ground.gcOnly Departure.lateStores }],guard:=none }
abbrev qw16:Oper:={ dst:=none,op:=Op.store 31 (Operand.tmp 2) (Operand.tmp 39),type:=0,pos := "top22.go:47",after:=#[{ on:=14,ground:=Ground.data },{ on:=12,ground:=Ground.chain },{ on:=0,ground:=Ground.phase },{ on:=1,ground:=Ground.phase },{ on:=2,ground:=Ground.phase },{ on:=3,ground:=Ground.phase },{ on:=4,ground:=Ground.phase },{ on:=5,ground:=Ground.phase },{ on:=6,ground:=Ground.phase },{ on:=7,ground:=Ground.phase },{ on:=8,ground:=Ground.phase },{ on:=9,ground:=Ground.phase },{ on:=10,ground:=Ground.phase },{ on:=11,ground:=Ground.phase },{ on:=12,ground:=Ground.phase },{ on:=13,ground:=Ground.phase },{ on:=14,ground:=Ground.phase },{ on:=15,ground:=Ground.textOnly Departure.lateStores }],guard:=none }
/-- A slice of bytes that came in. -/
def WayAt (W:World) (v:Value) (l:List Int):Prop:=∃ a c,v=.slice a l.length c∧∀ i,i<l.length→∃ g o,a=some ⟨g,o,none⟩∧g<W.heap.size∧W.cell? ⟨g,o+i,none⟩=some (.int .u8 (l.getD i 0))
theorem OwnsP.put {w:World} {B g:Nat} {v:Value} {l:List (Nat→Int)} (h:OwnsP w B v l) (hg:g<B) (cs:Array Value):OwnsP (w.setRow g cs) B v l:=by
 obtain ⟨h1,h2⟩:=h
 refine ⟨h1,?_⟩
 rcases h2 with h2 | ⟨b,cap,cur,hv,hb,hgb,rest⟩
 · exact .inl h2
 · refine .inr ⟨b, cap, cur, hv, hb, ?_, rest⟩
   simp only [World.setRow]
   rw [Array.getElem?_modify,if_neg (by omega)]
   exact hgb
theorem cells_posnew (Z:World) (r:Nat→Int):∀ j u,(posA r).toList[j]?=some u→(Z.alloc (.cells (posA r) 31)).cell? ((⟨Z.heap.size,0,none⟩:Addr).add j)=some u:=fun j u h=>by
 have hj:j<88:=by
  have:=(List.getElem?_eq_some_iff.1 h).1
  rwa [posL_len] at this
 have:=(PosAt.new Z r).cell j hj
 rw [posL_get r j hj] at h
 cases h
 have e:(⟨Z.heap.size,0,none⟩:Addr).add j=⟨Z.heap.size,j,none⟩:=by simp [Addr.add];exact fun h=>h.symm
 rw [e]
 exact this
theorem pos_ones (r:Nat→Int):∀ u∈(posA r).toList,u.oneCell' = true:=fun u hu=>by
 obtain ⟨i,hi,rfl⟩:=List.getElem_of_mem hu
 have h:=posL_get r i (by rwa [posL_len] at hi)
 rw [List.getElem?_eq_getElem hi] at h
 injection h with h
 rw [h];rfl
/-- What a walk's list is like. -/
def WalkL (l:List (Nat→Int)) (q:Nat→Int):Prop:=∃ l0,l=l0 ++ [q]∧(∀ x∈l0,Good x∧(endV x).1=0)∧Good q
theorem WalkL.snoc {l:List (Nat→Int)} {q r:Nat→Int} (h:WalkL l q) (he:(endV q).1=0) (hr:Good r):WalkL (l ++ [r]) r:=by
 obtain ⟨l0,rfl,h1,h2⟩:=h
 refine ⟨l0 ++ [q],rfl,fun x hx=>?_,hr⟩
 rcases List.mem_append.1 hx with hx | hx
 · exact h1 x hx
 · rw [List.mem_singleton] at hx;subst hx;exact ⟨h2,he⟩
/-- What a walk's list is like; P holds of each. -/
def WalkP (P:(Nat→Int)→Prop) (l:List (Nat→Int)) (q:Nat→Int):Prop:=∃ l0,l=l0 ++ [q]∧(∀ x∈l0,Good x∧(endV x).1=0∧P x)∧Good q∧P q
theorem WalkP.snoc {P:(Nat→Int)→Prop} {l:List (Nat→Int)} {q r:Nat→Int} (h:WalkP P l q) (he:(endV q).1=0) (hr:Good r) (hp:P r):WalkP P (l ++ [r]) r:=by
 obtain ⟨l0,rfl,h1,h2,h3⟩:=h
 refine ⟨l0 ++ [q],rfl,fun x hx=>?_,hr,hp⟩
 rcases List.mem_append.1 hx with hx | hx
 · exact h1 x hx
 · rw [List.mem_singleton] at hx;subst hx;exact ⟨h2,he,h3⟩
theorem WalkP.all {P:(Nat→Int)→Prop} {l:List (Nat→Int)} {q:Nat→Int} (h:WalkP P l q) (j:Nat) (hj:j<l.length):Good l[j]∧P l[j]:=by
 obtain ⟨l0,rfl,h1,h2,h3⟩:=h
 rcases List.mem_append.1 (List.getElem_mem hj) with hx | hx
 · exact ⟨(h1 _ hx).1,(h1 _ hx).2.2⟩
 · rw [List.mem_singleton] at hx;rw [hx];exact ⟨h2,h3⟩
theorem walkP_any (P:(Nat→Int)→Prop) (hPs:∀ q m,P q→m∈listL q→P (madeN q m)) (n:Nat→Int) (hG:Good n) (hPn:P n) (wl:List Int) (hwl:wl.length≤1000) (hw0:∀ i,0≤wl.getD i 0∧wl.getD i 0≤255) (v:Value) (w:World) (hT:Tab w) (hv:WayAt w v wl):Calls Tryz.prog 7 #[.agg (posA n),v] w fun e w' => (∃ u l q,e=.returned u∧OwnsP w' w.heap.size u l∧WalkP P l q∧l.length≤wl.length+1)∧Below w.heap.size w w' := by
 have HPS:=hI hPs
 have HPN:=hI hPn
 clear hPs hPn
 obtain ⟨wa,wc,rfl,hwa⟩:=hv
 obtain ⟨i0,hi,hz0,hz1,hz2⟩:=info_parts infoP
 have HI:=hI hi
 clear hi
 obtain ⟨X,hX⟩:∃ X,w.alloc (.cells (posA n) 31)=X:=⟨_,rfl⟩
 obtain ⟨p0,hb⟩:=box1 w n X hX
 obtain ⟨i1,r1⟩:=p0.rules
 have hXs:X.heap.size=w.heap.size+1:=by rw [← hX];simp
 have HXS:=hI hXs
 have HX:=hI hX
 have HB:=hI hb
 have HT:=hI (fun V (h:Below w.heap.size w V)=>hT.below h lR)
 have HWA:=hI hwa
 have HWB:=hI hw0
 have hps:∀ m,(posA m).size=88:=posA_size
 have hYb:Below w.heap.size w (X.alloc (.cells (posA n) 31)):=hb.alloc hb.size _
 have HYO:=hI (show OwnsP (X.alloc (.cells (posA n) 31)) X.heap.size (.slice (some ⟨X.heap.size,0,none⟩) 1 1) [n] by
  have:=World.ownsRow_lit (base:=X.heap.size) (e:=31) (size:=88) X (posA n) 1 lR (by decide) (posA_size n)
  unfold OwnsP
  rw [show cellsP [n]=(posA n).toList from List.append_nil _]
  exact this)
 have HYP:=hI (p0.alloc (.cells (posA n) 31))
 have HYB:=hI hYb
 have hXw:w.heap.size<X.heap.size:=p0.lt
 clear hX p0 hb hT hXs hwa hw0 hYb
 go_enter Tryz.func7,Tryz.ntmps7
 go_wp2_with (rw [HX.out])
 go_loopg [5,6] wl.length (fun g ul i wr=>∃ (j:Nat) (l:List (Nat→Int)) (q:Nat→Int),j+g=wl.length∧i=.int .i64 j∧OwnsP wr X.heap.size ul l∧WalkP P l q∧l.length=j+1∧PosAt wr w.heap.size q∧Below w.heap.size w wr∧X.heap.size≤wr.heap.size)
 case atStart=>exact ⟨0,[n],n,by omega,rfl,HYO.out,⟨[],rfl,fun x hx=>(by cases hx),hG,HPN.out⟩,rfl,HYP.out,HYB.out,by simp⟩
 case round =>
  obtain ⟨j,l,q,hj,rfl,hown,hwk,hll,hpq,hbw,hXr⟩:=hrel
  have HO:=hI hown
  have HWK:=hI hwk
  have HPQ:=hI hpq
  have HBW:=hI hbw
  have HLL:=hI hll
  clear hown hwk hpq hbw hll
  by_cases hlt:j<wl.length
  · have hGq : Good q := by obtain ⟨l0, _, _, h, _⟩ := HWK.out; exact h
    have HPQ2:=hI (show P q from by obtain ⟨l0,_,_,_,h⟩:=HWK.out;exact h)
    obtain ⟨t,v,ht1,ht,hv9,hv⟩:=hGq.nat
    have HLI:=hI (legal_list q hGq.ok t ht1 ht v hv9 hv wr (HT.out wr HBW.out))
    have HEN:=hI (fun V hT=>ended_any q hGq.ok t ht1 ht v hv9 hv V hT)
    have HAM:=hI (fun m (hm:m∈listL q) V hT=>amove_any q hGq.ok t ht1 ht (by omega) m (listL_sub m hm) V hT)
    have HGM:=hI (fun m (hm:m∈listL q)=>(show Good (madeN q m)∧P (madeN q m) from ⟨hGq.made (listL_sub m hm),HPS.out q m HPQ2.out hm⟩))
    obtain ⟨i1,r1⟩:=HPQ.out.rules
    have ec:decide ((j:Int)<wl.length)=true:=decide_eq_true (by omega)
    clear ht hv hGq
    go_wp2_with fail
    refine HLI.out.mono ?_
    rintro e M ⟨vl,rfl,ho,h1⟩
    obtain ⟨va,vc,rfl,hall⟩:=moves_slice ho
    have HALL:=hI hall
    have HBM:=hI (HBW.out.trans (h1.mono HBW.out.size))
    have HPM:=hI (HPQ.out.below h1 HPQ.out.lt)
    have HOM:=hI (HO.out.kept h1 lR)
    have hMr:=h1.size
    clear i1 r1 h1 ho hall
    obtain ⟨i1,r1⟩:=HPM.out.rules
    by_cases hl0:(listL q).length=0
    · rw [hl0]
      clear hl0
      go_wp2
      go_ret
      exact ⟨⟨_,l,q,rfl,HOM.out.less (by omega),HWK.out,by have:=HLL.out;omega⟩,HBM.out⟩
    · have hL0 : 0 < (listL q).length := by omega
      have HLN:=hI (rfl:(listL q).length=(listL q).length)
      obtain ⟨L,hLq⟩:∃ L,(listL q).length=L:=⟨_,rfl⟩
      have HLQ:=hI hLq
      rw [hLq] at hL0 hl0 ⊢
      have k1:decide (L=0)=false:=decide_eq_false hl0
      have k2:((L:Int)==0)=false:=beq_eq_false_iff_ne.2 (by omega)
      clear hLq HLN
      have HE:=hI (HEN.out M (HT.out M HBM.out))
      cases he:((endV q).1 != 0)
      · rw [he] at HE
        have HEZ:=hI (show (endV q).1=0 by rw [bne_eq_false_iff_eq] at he;exact he)
        clear hl0 he
        go_wp2_with (refine HE.out.mono ?_;rintro e U ⟨rfl,h1⟩;have HU:=hI h1;clear i1 r1 h1)
        obtain ⟨gw,ow,rfl,hgw,hcw⟩:=HWA.out j hlt
        obtain ⟨b0,b1⟩:=HWB.out j
        generalize wl.getD j 0=b at *
        obtain ⟨ix,hix⟩:∃ ix,b.toNat % L=ix:=⟨_,rfl⟩
        have hixL:ix<L:=by rw [← hix];exact Nat.mod_lt _ hL0
        have hixq:ix<(listL q).length:=by rw [HLQ.out];exact hixL
        obtain ⟨g,rfl,hgB,hgl,q0,q1,q2,q3,q4⟩:=HALL.out ix hixq
        have hml:=List.getElem_mem hixq
        have HAMJ:=hI (HAM.out _ hml)
        have HGJ:=hI (HGM.out _ hml)
        generalize (listL q)[ix]=m at *
        obtain ⟨r,hr⟩:∃ r,madeN q m=r:=⟨_,rfl⟩
        rw [hr] at HAMJ HGJ
        have hUw:Below w.heap.size w U:=HBM.out.trans (HU.out.mono HBM.out.size)
        have hpU:PosAt U w.heap.size q:=HPM.out.below HU.out HPM.out.lt
        have HS:=hI (fun V2 (hb:Below U.heap.size U V2)=>(show (IsPos V2 w.heap.size∧V2.cell? ⟨gw,ow+j,none⟩=some (.int .u8 b)∧(V2.cell? ⟨g,ix*5,none⟩=some (.int .i8 m.f)∧V2.cell? ⟨g,ix*5+1,none⟩=some (.int .i8 m.t)∧V2.cell? ⟨g,ix*5+2,none⟩=some (.int .u8 m.p)∧V2.cell? ⟨g,ix*5+3,none⟩=some (.int .u8 m.d)∧V2.cell? ⟨g,ix*5+4,none⟩=some (.bool m.c)))∧Below w.heap.size w V2 from
         (fun hMV:Below M.heap.size M V2=>⟨⟨(hpU.below hb hpU.lt).is,((hUw.trans (hb.mono hUw.size)).cell (p:=⟨gw,ow+j,none⟩) hgw).trans hcw,(hMV.cell (p:=⟨g,ix*5,none⟩) hgl).trans q0,(hMV.cell (p:=⟨g,ix*5+1,none⟩) hgl).trans q1,(hMV.cell (p:=⟨g,ix*5+2,none⟩) hgl).trans q2,(hMV.cell (p:=⟨g,ix*5+3,none⟩) hgl).trans q3,(hMV.cell (p:=⟨g,ix*5+4,none⟩) hgl).trans q4⟩,hUw.trans (hb.mono hUw.size)⟩) (bT HU.out hb)))
        have HSP:=hI (fun V2 (hb:Below U.heap.size U V2)=>(show (IsPos (V2.setRow w.heap.size (posA r)) w.heap.size∧(V2.setRow w.heap.size (posA r)).cell? ⟨gw,ow+j,none⟩=some (.int .u8 b)∧((V2.setRow w.heap.size (posA r)).cell? ⟨g,ix*5,none⟩=some (.int .i8 m.f)∧(V2.setRow w.heap.size (posA r)).cell? ⟨g,ix*5+1,none⟩=some (.int .i8 m.t)∧(V2.setRow w.heap.size (posA r)).cell? ⟨g,ix*5+2,none⟩=some (.int .u8 m.p)∧(V2.setRow w.heap.size (posA r)).cell? ⟨g,ix*5+3,none⟩=some (.int .u8 m.d)∧(V2.setRow w.heap.size (posA r)).cell? ⟨g,ix*5+4,none⟩=some (.bool m.c)))∧Below w.heap.size w (V2.setRow w.heap.size (posA r)) from by
         have hs:=HS.out V2 hb
         have e:∀ g2 o,g2≠w.heap.size→(V2.setRow w.heap.size (posA r)).cell? ⟨g2,o,none⟩=V2.cell? ⟨g2,o,none⟩:=fun g2 o hne=>World.cell?_of_block (w:=V2) (a:=⟨g2,o,none⟩) (by simp only [World.setRow];rw [Array.getElem?_modify,if_neg (fun h=>hne h.symm)])
         have hg2:g≠w.heap.size:=by omega
         refine ⟨⟨((hpU.below hb hpU.lt).setRow r).is,?_,?_⟩,below_setRow hs.2 lR _⟩
         · rw [e _ _ (by omega)];exact hs.1.2.1
         · rw [e _ _ hg2,e _ _ hg2,e _ _ hg2,e _ _ hg2,e _ _ hg2];exact hs.1.2.2))
        have wb:IntKind.i64.wrap b=b:=IntWalk.i64_in _ (by omega)
        have tb:b.tmod (L:Int)=(ix:Int):=by rw [Int.tmod_eq_emod_of_nonneg b0,← hix,Int.natCast_emod];congr 1;omega
        have hixb:ix≤b.toNat:=by rw [← hix];exact Nat.mod_le _ _
        have wt:IntKind.i64.wrap (ix:Int)=ix:=IntWalk.i64_in _ (by omega)
        obtain ⟨i2,r2⟩:=(hpU.drew).rules
        have HRP:=hI hpU
        have HUW:=hI hUw
        have k3:¬L=0:=by omega
        have x0:(0:Int)≤ix:=by omega
        have x1:(ix:Int)<L:=by omega
        clear hr hUw hpU q0 q1 q2 q3 q4 hix hcw
        refine wp_region_held_drew (S:=(fun V2=>(IsPos V2 w.heap.size∧V2.cell? ⟨gw,ow+j,none⟩=some (.int .u8 b)∧(V2.cell? ⟨g,ix*5,none⟩=some (.int .i8 m.f)∧V2.cell? ⟨g,ix*5+1,none⟩=some (.int .i8 m.t)∧V2.cell? ⟨g,ix*5+2,none⟩=some (.int .u8 m.p)∧V2.cell? ⟨g,ix*5+3,none⟩=some (.int .u8 m.d)∧V2.cell? ⟨g,ix*5+4,none⟩=some (.bool m.c)))∧Below w.heap.size w V2)) (by kernel_rfl) ?_ (fun hHeld=>?_)
        · (try dsimp only);(first | (refine HS.out _ ?_;(repeat (first | exact bR | assumption | refine bD ?_ | refine bT ?_ (by assumption)));done) | (refine HSP.out _ ?_;(repeat (first | exact bR | assumption | refine bD ?_ | refine bT ?_ (by assumption)));done))
        (refine tl 1 (oi:=qw1) (v:=?_) ?_ ?_;rotate_left;(focus (intro w hSw;(try dsimp only at hSw);go_simp;try (with_reducible rfl)));try simp only [Act.put,lA,lB,lC])
        (refine tl 2 (oi:=qw2) (v:=?_) ?_ ?_;rotate_left;(focus (intro w hSw;(try dsimp only at hSw);go_simp;try (with_reducible rfl)));try simp only [Act.put,lA,lB,lC])
        (refine tl 3 (oi:=qw3) (v:=?_) ?_ ?_;rotate_left;(focus (intro w hSw;(try dsimp only at hSw);go_simp;try (with_reducible rfl)));try simp only [Act.put,lA,lB,lC])
        (refine tl 4 (oi:=qw4) (v:=?_) ?_ ?_;rotate_left;(focus (intro w hSw;(try dsimp only at hSw);go_simp;try (with_reducible rfl)));try simp only [Act.put,lA,lB,lC])
        (refine tl 5 (oi:=qw5) (v:=?_) ?_ ?_;rotate_left;(focus (intro w hSw;(try dsimp only at hSw);go_simp;try (with_reducible rfl)));try simp only [Act.put,lA,lB,lC])
        (refine tl 6 (oi:=qw6) (v:=?_) ?_ ?_;rotate_left;(focus (intro w hSw;(try dsimp only at hSw);go_simp;try (with_reducible rfl)));try simp only [Act.put,lA,lB,lC])
        (refine tl 7 (oi:=qw7) (v:=?_) ?_ ?_;rotate_left;(focus (intro w hSw;(try dsimp only at hSw);go_simp;try (with_reducible rfl)));try simp only [Act.put,lA,lB,lC])
        (refine tl 8 (oi:=qw8) (v:=?_) ?_ ?_;rotate_left;(focus (intro w hSw;(try dsimp only at hSw);go_simp;try (with_reducible rfl)));try simp only [Act.put,lA,lB,lC])
        (refine tl 9 (oi:=qw9) (v:=?_) ?_ ?_;rotate_left;(focus (intro w hSw;(try dsimp only at hSw);go_simp;try (with_reducible rfl)));try simp only [Act.put,lA,lB,lC])
        (refine tl 10 (oi:=qw10) (v:=?_) ?_ ?_;rotate_left;(focus (intro w hSw;(try dsimp only at hSw);go_simp;try (with_reducible rfl)));try simp only [Act.put,lA,lB,lC])
        (refine tl 11 (oi:=qw11) (v:=?_) ?_ ?_;rotate_left;(focus (intro w hSw;(try dsimp only at hSw);go_simp;try (with_reducible rfl)));try simp only [Act.put,lA,lB,lC])
        refine wpAnyH_ready (rs:=[0]) (by kernel_rfl) (by simp) ?_
        refine AllReadyH.cons (o:=qw0) rfl (fun K hK=>?_) AllReadyH.nil
        go_simp
        refine hK.out _ _ ?_ (fun hHeld=>?_)
        · (try dsimp only);(first | (refine HS.out _ ?_;(repeat (first | exact bR | assumption | refine bD ?_ | refine bT ?_ (by assumption)));done) | (refine HSP.out _ ?_;(repeat (first | exact bR | assumption | refine bD ?_ | refine bT ?_ (by assumption)));done))
        clear hK K
        try simp only [Act.put,lA,lB,lC]
        refine wpAnyH_ready (rs:=[12]) (by kernel_rfl) (by simp) ?_
        refine AllReadyH.cons (o:=qw12) rfl (fun K hK=>?_) AllReadyH.nil
        go_simp
        refine (HAMJ.out _ (HT.out _ (And.right ‹_∧Below w.heap.size w _›))).mono ?_
        rintro e wk ⟨rfl,hbk⟩
        refine hK.out _ _ ?_ (fun hHeld=>?_)
        · (try dsimp only);(first | (refine HS.out _ ?_;(repeat (first | exact bR | assumption | refine bD ?_ | refine bT ?_ (by assumption)));done) | (refine HSP.out _ ?_;(repeat (first | exact bR | assumption | refine bD ?_ | refine bT ?_ (by assumption)));done))
        clear hK K
        try simp only [Act.put,lA,lB,lC]
        (refine tl 13 (oi:=qw13) (v:=?_) ?_ ?_;rotate_left;(focus (intro w hSw;(try dsimp only at hSw);go_simp;try (with_reducible rfl)));try simp only [Act.put,lA,lB,lC])
        (refine tl 14 (oi:=qw14) (v:=?_) ?_ ?_;rotate_left;(focus (intro w hSw;(try dsimp only at hSw);go_simp;try (with_reducible rfl)));try simp only [Act.put,lA,lB,lC])
        (refine tl 15 (oi:=qw15) (v:=?_) ?_ ?_;rotate_left;(focus (intro w hSw;(try dsimp only at hSw);go_simp;try (with_reducible rfl)));try simp only [Act.put,lA,lB,lC])
        refine wpAnyH_ready (rs:=[16]) (by kernel_rfl) (by simp) ?_
        refine AllReadyH.cons (o:=qw16) rfl (fun K hK=>?_) AllReadyH.nil
        go_simp
        refine hK.out _ _ ?_ (fun hHeld=>?_)
        · (try dsimp only);(first | (refine HS.out _ ?_;(repeat (first | exact bR | assumption | refine bD ?_ | refine bT ?_ (by assumption)));done) | (refine HSP.out _ ?_;(repeat (first | exact bR | assumption | refine bD ?_ | refine bT ?_ (by assumption)));done))
        clear hK K
        try simp only [Act.put,lA,lB,lC]
        refine wpAnyH_done (by kernel_rfl) ?_ _
        have hUk:Below U.heap.size U wk:=bT (bD bR) hbk
        obtain ⟨Z,hZ⟩:∃ Z,wk.setRow w.heap.size (posA r)=Z:=⟨_,rfl⟩
        have pZ:PosAt Z w.heap.size r:=by rw [← hZ];exact (HRP.out.below hUk HRP.out.lt).setRow r
        have HOZ:=hI (show OwnsP Z X.heap.size u5 l by rw [← hZ];exact ((HOM.out.kept HU.out lR).kept hUk lR).put hXw _)
        have hZw:Below w.heap.size w Z:=by rw [← hZ];exact below_setRow (HUW.out.trans (hUk.mono HUW.out.size)) lR _
        have hZs:wr.heap.size≤Z.heap.size:=by
         have e:Z.heap.size=wk.heap.size:=by rw [← hZ];simp [World.setRow]
         have:=hUk.size
         have:=HU.out.size
         omega
        have HPZ:=hI pZ
        have HZW:=hI hZw
        have HWZ:=hI (HWK.out.snoc HEZ.out HGJ.out.1 HGJ.out.2)
        have HLZ:=hI (show (l ++ [r]).length=(j+1)+1 by rw [List.length_append,HLL.out];rfl)
        have hll:l.length≤1001:=by have:=HLL.out;omega
        rw [hZ]
        clear hHeld hZ pZ hZw hUk hbk i2 r2
        obtain ⟨i2,r2⟩:=HPZ.out.rules
        go_wp2_with (at_builtin;go_loud (refine wpList_append_own _ rfl _ _ 36 rfl X.heap.size 31 i0 (.agg (posA zeroN)) 88 120 Tryz.underlying36 HI.out hz0 hz1 hz2 (posA_size zeroN) (by decide) u5 _ _ rfl (World.ownsRow.alloc HOZ.out _) ⟨Z.heap.size,0,none⟩ 1 1 (posA r).toList rfl (posL_len r) (cells_posnew Z r) (pos_ones r) (by unfold maxLen;omega) (by omega) (by simp;omega) ?_);intro v' w5 hown' hgrow3 _)
        have h5:=hI (OwnsP.grown HOZ.out bR (by omega) _ hgrow3)
        have h5s:=h5.out.size
        have hp5:=hI (HPZ.out.below h5.out hXw)
        have hb5:=hI (HZW.out.trans (h5.out.mono (Nat.le_of_lt hXw)))
        have ho5:=hI (OwnsP.app hown')
        clear hown' hgrow3
        go_roundg (wl.length - (j+1))
        case measure=>omega
        case rel=>exact ⟨j+1,l ++ [r],r,by omega,by go_num,ho5.out,HWZ.out,HLZ.out,hp5.out,hb5.out,by omega⟩
      · rw [he] at HE
        clear hl0 he
        go_wp2_with (refine HE.out.mono ?_;rintro e U ⟨rfl,h1⟩;have HU:=hI h1;clear i1 r1 h1)
        go_ret
        exact ⟨⟨_,l,q,rfl,(HOM.out.kept HU.out lR).less (by omega),HWK.out,by have:=HLL.out;omega⟩,HBM.out.trans (HU.out.mono HBM.out.size)⟩
  · obtain rfl : j = wl.length := by omega
    go_wp2
    go_ret
    exact ⟨⟨_,l,q,rfl,HO.out.less (by omega),HWK.out,by have:=HLL.out;omega⟩,HBW.out⟩
end Go.Proofs.YteocjaihaegmoaaGreatDoor
