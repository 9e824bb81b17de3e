/- Parts of the proof: AP, AQ. -/
import Derived.Test.YteocjaihaegmoaaGreatDoorWBD
import Derived.Test.YteocjaihaegmoaaGreatDoorWBH
import Derived.Lib.SliceRun
set_option linter.unusedVariables false
set_option maxHeartbeats 8000000
set_option maxRecDepth 100000
namespace Go.Proofs.YteocjaihaegmoaaGreatDoor
open Go Go.RowKit
theorem clone_any (l:List Mv) (hlen:l.length≤50000) (w:World) (B:Nat) (v:Value) (h:OwnsM w B v l) :
 Calls Tryz.prog 70 #[v] w fun e w' => ∃ v',e=.returned v' ∧ OwnsM w' w.heap.size v' l∧Below w.heap.size w w' := by
 have hc:(v=.slice none 0 0∧l=[])∨∃ g cap,v=.slice (some ⟨g,0,none⟩) l.length cap:=by
  rcases h.2 with ⟨rfl,h0⟩ | ⟨g,cap,cur,rfl,_⟩
  · exact .inl ⟨rfl,List.eq_nil_of_length_eq_zero h0⟩
  · exact .inr ⟨g,cap,rfl⟩
 have hnil:=Go.Lib.run_eql_slice_nil (P:=Tryz.prog)
 rcases hc with ⟨rfl,rfl⟩ | ⟨g,cap,rfl⟩
 · have e0 := fun w => hnil w 41 _ none 0 0 0 0 Tryz.underlying41
   clear hnil
   go_enter Tryz.func70,Tryz.ntmps70
   go_wp2
   go_ret
   exact ⟨_,rfl,World.ownsRow_nil _ _ _ _,bR⟩
 · have e0 := fun w => hnil w 41 _ (some ⟨g, 0, none⟩) l.length cap 0 0 Tryz.underlying41
   clear hnil
   obtain ⟨Y,hY⟩:∃ Y,w.alloc (.cells #[] 49)=Y:=⟨_,rfl⟩
   have hbY:Below w.heap.size w Y:=by rw [← hY];exact bR.alloc lR _
   have hoY:OwnsM Y B (.slice (some ⟨g,0,none⟩) l.length cap) l:=h.kept hbY lR
   have hnY:OwnsM Y w.heap.size (.slice (some ⟨w.heap.size,0,none⟩) 0 0) []:=⟨rfl,.inr ⟨w.heap.size,0,#[],rfl,Nat.le_refl _,by rw [← hY];exact World.alloc_heap_new w _,Nat.le_refl _,by decide,rfl,rfl⟩⟩
   have HY:=hI hY
   clear hY h
   go_enter Tryz.func70,Tryz.ntmps70
   go_wp2_with (first | rw [HY.out] | (at_builtin;refine wpList_append_mvs rfl _ _ rfl w.heap.size B (.slice (some ⟨w.heap.size,0,none⟩) 0 0) (.slice (some ⟨g,0,none⟩) l.length cap) [] l rfl hnY rfl hoY (by simp;omega) hbY.size ?_;intro v4 w4 ho4 hg4))
   have hR:=hbY.grown hg4 hbY.size (fun k e=>(hnY.row e).1)
   clear hnY hoY hg4
   go_wp2
   go_ret
   exact ⟨_,rfl,ho4,hR⟩
/-- clear at moves. -/
theorem run_clear_mvs (w:World) (g o n:Nat) (hn:0<n) (hc:∀ j,j<n*5→(w.cell? ⟨g,o+j,none⟩).isSome=true) (hf:∀ j,j<n*5→w.frozen? ⟨g,o+j,none⟩=false) :
 ∃ zs:List Value,zs.length=n*5∧∀ (ty:TypeId) (c:Nat),(Builtin.clear_ #[41] ty #[.slice (some ⟨g,o,none⟩) n c]).run Tryz.prog w=.ok (.tuple #[]) (w.setCells g o zs):=by
 have hzv:∀ w,(zeroValue 49).run Tryz.prog w=.ok (.agg #[.int .i8 0,.int .i8 0,.int .u8 0,.int .u8 0,.bool false]) w:=fun _=>by kernel_rfl
 obtain ⟨zs,hzs⟩:∃ zs,(Builtin.zeroCells #[Value.int .i8 0,.int .i8 0,.int .u8 0,.int .u8 0,.bool false] n).toList=zs:=⟨_,rfl⟩
 have hl:zs.length=n*5:=by rw [← hzs];simp [Builtin.zeroCells]
 have h1:∀ v∈zs,v.oneCell' = true:=by
  intro v hv
  rw [← hzs] at hv
  simp [Builtin.zeroCells] at hv
  obtain ⟨i,hi,rfl⟩:=hv
  have:i % 5=0∨i % 5=1∨i % 5=2∨i % 5=3∨i % 5=4:=by omega
  rcases this with h | h | h | h | h <;> simp [h] <;> rfl
 have hst:=run_storeCells_cells (P:=Tryz.prog) g o zs 0 w (by rw [hl];exact hc) (by rw [hl];exact hf) h1
 simp only [Nat.add_zero] at hst
 refine ⟨zs,hl,fun ty c=>?_⟩
 obtain ⟨m,rfl⟩:∃ m,n=m+1:=⟨n - 1,by omega⟩
 simp [Builtin.clear_,run_underlying Tryz.underlying41,hzv,Value.cells,hzs,hst]
end Go.Proofs.YteocjaihaegmoaaGreatDoor
namespace Go.Proofs.YteocjaihaegmoaaGreatDoor
open Go Go.RowKit
theorem cellsL_set (r:List Mv) (i:Nat) (m:Mv) (hi:i<r.length):r.set i m=r.take i ++ m :: r.drop (i+1):=List.set_eq_take_append_cons_drop .. |>.trans (if_pos hi)
theorem split_at (r:List Mv) (i:Nat) (hi:i<r.length):r=r.take i ++ r[i] :: r.drop (i+1):=by rw [List.getElem_cons_drop,List.take_append_drop]
/-- The row with one move written. -/
theorem row_put {w:World} {g:Nat} {r:List Mv} {tail:List Value} (h:w.heap[g]?=some (.cells (cellsL r ++ tail).toArray 49 (0,0))) (i:Nat) (hi:i<r.length) (m:Mv) :
 (w.setCells g (i*5) m.cells).heap[g]?=some (.cells (cellsL (r.set i m) ++ tail).toArray 49 (0,0)):=by
 have e1:cellsL r ++ tail=cellsL (r.take i) ++ ((r[i]).cells ++ (cellsL (r.drop (i+1)) ++ tail)):=by
  conv=>lhs;rw [split_at r i hi]
  rw [cellsL_app]
  show (cellsL (r.take i) ++ ((r[i]).cells ++ cellsL (r.drop (i+1)))) ++ tail=_
  simp [List.append_assoc]
 have e2:cellsL (r.set i m) ++ tail=cellsL (r.take i) ++ (m.cells ++ (cellsL (r.drop (i+1)) ++ tail)):=by
  rw [cellsL_set r i m hi,cellsL_app]
  show (cellsL (r.take i) ++ (m.cells ++ cellsL (r.drop (i+1)))) ++ tail=_
  simp [List.append_assoc]
 rw [e1] at h
 have:=setCells_heap g 49 (0,0) (cellsL (r.drop (i+1)) ++ tail) m.cells (r[i]).cells (cellsL (r.take i)) w rfl h
 rw [e2]
 have hl:(cellsL (r.take i)).length=i*5:=by rw [cellsL_len,List.length_take,Nat.min_eq_left (Nat.le_of_lt hi)]
 rw [hl] at this
 exact this
theorem row_cell {w:World} {g:Nat} {r:List Mv} {tail:List Value} (h:w.heap[g]?=some (.cells (cellsL r ++ tail).toArray 49 (0,0))) (k:Nat) (hk:k<r.length) (j:Nat) (hj:j<5) :
 w.cell? ⟨g,k*5+j,none⟩=(r[k]).cells[j]?∧w.frozen? ⟨g,k*5+j,none⟩=false:=by
 refine ⟨?_,by simp [World.frozen?,h]⟩
 rw [cell_of_row w g (k*5+j) _ _ _ h,List.getElem?_toArray,List.getElem?_append_left (by rw [cellsL_len];omega),cellsL_get r k j hk hj]
theorem row_cells {w:World} {g:Nat} {r:List Mv} {tail:List Value} (h:w.heap[g]?=some (.cells (cellsL r ++ tail).toArray 49 (0,0))) (k:Nat) (hk:k<r.length) (m:Mv) (hm:r[k]=m) :
 w.cell? ⟨g,k*5,none⟩=some (.int .i8 m.f)∧w.cell? ⟨g,k*5+1,none⟩=some (.int .i8 m.t)∧w.cell? ⟨g,k*5+2,none⟩=some (.int .u8 m.p)∧w.cell? ⟨g,k*5+3,none⟩=some (.int .u8 m.d)∧w.cell? ⟨g,k*5+4,none⟩=some (.bool m.c):=by
 subst hm
 exact ⟨(row_cell h k hk 0 (by decide)).1,(row_cell h k hk 1 (by decide)).1,(row_cell h k hk 2 (by decide)).1,(row_cell h k hk 3 (by decide)).1,(row_cell h k hk 4 (by decide)).1⟩
theorem run_storeMvAt {w:World} {g:Nat} {r:List Mv} {tail:List Value} (h:w.heap[g]?=some (.cells (cellsL r ++ tail).toArray 49 (0,0))) (i:Nat) (hi:i<r.length) (m:Mv) :
 (mvStore (.pointer (some ⟨g,i*5,none⟩)) (.agg #[.int .i8 m.f,.int .i8 m.t,.int .u8 m.p,.int .u8 m.d,.bool m.c])).run Tryz.prog w=.ok () (w.setCells g (i*5) m.cells):=by
 unfold mvStore
 refine run_storeAt_mid w g (i*5) 49 m.cells.toArray ?_ sizeMv (by simp [Mv.cells,Value.oneCell'])
 intro j hj
 have hj:j<5:=hj
 have:=row_cell h i hi j hj
 refine ⟨?_,this.2⟩
 rw [this.1]
 rcases (show j=0∨j=1∨j=2∨j=3∨j=4 by omega) with rfl | rfl | rfl | rfl | rfl <;> rfl
attribute [local go_sem ↓] storeAt_mv
/-- The state of the row: the first i are what stays of the first j. -/
structure DelR (p:Mv→Bool) (l:List Mv) (i j:Nat) (r:List Mv):Prop where
 len:r.length=l.length
 ij:i<j
 jn:j≤l.length
 left:r.take i=(l.take j).filter (fun m=>!p m)
 right:r.drop j=l.drop j
theorem DelR.at_ {p:Mv→Bool} {l:List Mv} {i j:Nat} {r:List Mv} (h:DelR p l i j r) (hj:j<l.length):r[j]'(by rw [h.len];exact hj)=l[j]:=by
 have:=congrArg (fun x=>x[0]?) h.right
 simp only [List.getElem?_drop,Nat.add_zero] at this
 rw [List.getElem?_eq_getElem (by rw [h.len];exact hj),List.getElem?_eq_getElem hj] at this
 exact Option.some.inj this
theorem DelR.skip {p:Mv→Bool} {l:List Mv} {i j:Nat} {r:List Mv} (h:DelR p l i j r) (hj:j<l.length) (hp:p l[j]=true):DelR p l i (j+1) r:=by
 refine ⟨h.len,by have:=h.ij;omega,hj,?_,?_⟩
 · rw [List.take_succ_eq_append_getElem hj,List.filter_append,List.filter_cons_of_neg (by rw [hp];decide),List.filter_nil,List.append_nil,h.left]
 · have := congrArg (List.drop 1) h.right
   rwa [List.drop_drop,List.drop_drop] at this
theorem DelR.keep {p:Mv→Bool} {l:List Mv} {i j:Nat} {r:List Mv} (h:DelR p l i j r) (hj:j<l.length) (hp:p l[j]=false):DelR p l (i+1) (j+1) (r.set i l[j]):=by
 have hir:i<r.length:=by rw [h.len];have:=h.ij;omega
 refine ⟨by rw [List.length_set,h.len],by have:=h.ij;omega,hj,?_,?_⟩
 · rw [List.take_succ_eq_append_getElem hj, List.filter_append, List.filter_cons_of_pos (by rw [hp]; rfl), List.filter_nil, ← h.left]
   rw [List.take_succ_eq_append_getElem (by rw [List.length_set];exact hir),List.getElem_set_self,List.take_set_of_le lR]
 · rw [List.drop_set_of_lt (by have := h.ij; omega)]
   have:=congrArg (List.drop 1) h.right
   rwa [List.drop_drop,List.drop_drop] at this
theorem delf_any (l:List Mv) (hlen:l.length≤1000000) (f:Nat) (lb:Array Value) (p:Mv→Bool) (eg:∀ args w,(callFunc f args).run Tryz.prog w=.ok (.enter f args) w) (w:World) (B:Nat) (v:Value) (h:OwnsM w B v l) (hB:B≤w.heap.size) (hp:AsksM B w f lb p l) :
 Calls Tryz.prog 69 #[v,.func (.func f) #[] lb] w fun e w' => ∃ v',e=.returned v' ∧ OwnsM w' B v' (l.filter (fun m=>!p m))∧Below B w w' := by
 have HI:=hI (idxf_any l hlen f lb p eg w B v h (fun m hm W hW=>hp m hm W (hW.mono hB)))
 have HH:=hI h
 have HP:=hI hp
 obtain ⟨a,c,rfl,_⟩:=moves_slice h
 clear h hp
 go_enter Tryz.func69,Tryz.ntmps69
 go_wp2_with fail
 refine HI.out.mono ?_
 rintro e V ⟨i,rfl,hi,hb⟩
 have HO:=hI (HH.out.kept hb lR)
 have HBV:=hI (hb.mono hB)
 clear hb
 rcases hi with ⟨rfl,hi⟩ | ⟨k,hk,rfl,hi,hall⟩
 · have HE := hideIt (show l.filter (fun m => !p m) = l from List.filter_eq_self.2 (fun m hm => by rw [hi m hm]; rfl))
   clear hi
   go_wp2
   go_ret
   exact ⟨_,rfl,by rw [HE.out];exact HO.out,HBV.out⟩
 · obtain ⟨hxl, h2⟩ := HO.out
   rcases h2 with ⟨hn,h0⟩ | ⟨g,cap,cur,hv,hg,hgb,hcn,hcm,hcs,htk⟩
   · omega
   · injection hv with e1 e2 e3
     subst e1 e3
     obtain ⟨tail,htl⟩:∃ tail,cur.toList.drop (l.length*5)=tail:=⟨_,rfl⟩
     have hrow:V.heap[g]?=some (.cells (cellsL l ++ tail).toArray 49 (0,0)):=by
      rw [← htl,← htk,List.take_append_drop];exact hgb
     have hst:DelR p l k (k+1) l:=⟨rfl,by omega,hk,by rw [List.take_succ_eq_append_getElem hk,List.filter_append,List.filter_cons_of_neg (by rw [hi];decide),List.filter_nil,List.append_nil];exact (List.filter_eq_self.2 (fun m hm=>by rw [hall m hm];rfl)).symm,rfl⟩
     have hts:tail.length+l.length*5=c*5:=by rw [← htl,List.length_drop,Array.length_toList,hcs];have:=Nat.mul_le_mul_right 5 hcn;omega
     have HROW:=hI hrow
     have HST:=hI hst
     clear hxl hgb hcs htk htl hi hall hrow hst
     have k0:(k:Int)≠-1:=by omega
     have ek:((k:Int)==-1)=false:=beq_eq_false_iff_ne.2 k0
     obtain ⟨n,hn⟩:∃ n,l.length=n:=⟨_,rfl⟩
     have HN:=hI hn
     rw [hn] at hlen hk hcn hts ⊢
     clear hn k0
     go_wp2
     go_loopw [5,6] (fun iv jv wr=>∃ (i j:Nat) (r:List Mv),iv=.int .i64 i∧jv=.int .i64 j∧DelR p l i j r∧wr.heap[g]?=some (.cells (cellsL r ++ tail).toArray 49 (0,0))∧Below B w wr) (fun _ jv _=>n - (intOf jv).toNat)
     case atStart=>exact ⟨k,k+1,l,rfl,by go_num,HST.out,HROW.out,HBV.out⟩
     case round =>
      obtain ⟨i,j,r,rfl,rfl,hd,hrow,hbr⟩:=hrel
      by_cases hlt:j<n
      · have hjl : j < l.length := by rw [HN.out]; exact hlt
        have hrl:r.length=n:=by rw [hd.len];exact HN.out
        have hin:i<n:=by have:=hd.ij;omega
        obtain ⟨c0,c1,c2,c3,c4⟩:=row_cells hrow j (by rw [hd.len];exact hjl) l[j] (hd.at_ hjl)
        have HSK:=hI (hd.skip hjl)
        have HKP:=hI (hd.keep hjl)
        have HA:=hI (HP.out l[j] (List.getElem_mem hjl))
        generalize l[j]=z at c0 c1 c2 c3 c4 HSK HKP HA
        have st1:=run_storeMv (w:=wr.alloc (.cells #[.int .i8 0,.int .i8 0,.int .u8 0,.int .u8 0,.bool false] 49)) z (World.alloc_heap_new wr _) rfl
        rw [World.setRow_alloc_new] at st1
        obtain ⟨X,hX⟩:∃ X,wr.alloc (.cells z.cells.toArray 49)=X:=⟨_,rfl⟩
        rw [hX] at st1
        have hxm:X.heap[wr.heap.size]?=some (.cells z.cells.toArray 49 (0,0)):=by rw [← hX];exact World.alloc_heap_new wr _
        obtain ⟨x0,x1,x2,x3,x4⟩:=mv_cell hxm
        have hwX:Below wr.heap.size wr X:=by rw [← hX];exact bR.alloc lR _
        have hgl:g<wr.heap.size:=(Array.getElem?_eq_some_iff.1 hrow).1
        have hbX:Below B w X:=hbr.trans (hwX.mono (Nat.le_trans hg (Nat.le_of_lt hgl)))
        have HA:=hI (HA.out X hbX)
        have HRX:=hI ((hwX.block g hgl).trans hrow)
        have HXM:=hI hxm
        have HBX:=hI hbX
        have HGX:=hI (show g<X.heap.size from Nat.lt_of_lt_of_le hgl hwX.size)
        have HRL:=hI hrl
        have i0:(0:Int)≤(i:Int):=by omega
        have i1:(i:Int)<(n:Int):=by omega
        have j0:(0:Int)≤(j:Int):=by omega
        have j1:(j:Int)<(n:Int):=by omega
        clear hX hxm hwX hgl hbX hrow hbr hjl hd hrl
        go_wp2_with fail
        refine HA.out.mono ?_
        rintro e V2 ⟨rfl,hb⟩
        have hrV:=(hb.block g HGX.out).trans HRX.out
        have hbV:=HBX.out.trans (hb.mono (Nat.le_trans hg (Nat.le_of_lt HGX.out)))
        obtain ⟨y0,y1,y2,y3,y4⟩:=mv_cell ((hb.block _ (Array.getElem?_eq_some_iff.1 HXM.out).1).trans HXM.out)
        have st2:=run_storeMvAt hrV i (by rw [HRL.out];exact hin) z
        have HE:=hI (row_put hrV i (by rw [HRL.out];exact hin) z)
        have HEB:=hI (setCells_below g B hg z.cells (i*5) _ _ hbV)
        have HRV:=hI hrV
        have HBV2:=hI hbV
        clear hb hrV hbV c0 c1 c2 c3 c4 x0 x1 x2 x3 x4 st1
        cases hz:p z
        · have HS := hideIt (HKP.out hz)
          go_wp2
          go_roundw
          case rel=>exact ⟨i+1,j+1,_,by go_num,by go_num,HS.out,HE.out,HEB.out⟩
          case measure=>simp [intOf];omega
        · have HS := hideIt (HSK.out hz)
          go_wp2
          go_roundw
          case rel=>exact ⟨i,j+1,r,rfl,by go_num,HS.out,HRV.out,HBV2.out⟩
          case measure=>simp [intOf];omega
      · have hjn : j = n := by have := hd.jn; rw [HN.out] at this; omega
        subst hjn
        have HF:=hI (show r.take i=l.filter (fun m=>!p m) by rw [hd.left,← HN.out,List.take_length])
        have hin:i<j:=hd.ij
        have hrl:r.length=j:=by rw [hd.len];exact HN.out
        have hfz:∀ x,wr.frozen? ⟨g,x,none⟩=false:=fun x=>by simp [World.frozen?,hrow]
        obtain ⟨zs,hzl,clr⟩:=run_clear_mvs wr g (i*5) (j - i) (by omega) (fun x hx=>by
         rw [cell_of_row wr g (i*5+x) _ _ _ hrow,List.getElem?_toArray,List.getElem?_append_left (by rw [cellsL_len,hrl];omega)]
         rw [List.getElem?_eq_getElem (by rw [cellsL_len,hrl];omega)];rfl) (fun x _=>hfz _)
        have i0:(0:Int)≤(i:Int):=by omega
        have i1:(i:Int)≤(j:Int):=by omega
        have i2:(j:Int)≤(c:Int):=by omega
        have i3:(i:Int)≤(c:Int):=by omega
        have HE:=hI (show OwnsM (wr.setCells g (i*5) zs) B (.slice (some ⟨g,0,none⟩) i c) (r.take i) by
         have hlt5:(cellsL (r.take i)).length=i*5:=by rw [cellsL_len,List.length_take,Nat.min_eq_left (by omega)]
         have e1:cellsL r ++ tail=cellsL (r.take i) ++ (cellsL (r.drop i) ++ tail):=by rw [← List.append_assoc,← cellsL_app,List.take_append_drop]
         rw [e1] at hrow
         have:=setCells_heap g 49 (0,0) tail zs (cellsL (r.drop i)) (cellsL (r.take i)) wr (by rw [cellsL_len,List.length_drop,hrl,hzl]) hrow
         rw [hlt5] at this
         have hti:(r.take i).length=i:=by rw [List.length_take,Nat.min_eq_left (by omega)]
         unfold OwnsM
         rw [hti]
         refine ⟨hlt5,.inr ⟨g,c,_,rfl,hg,this,by omega,hcm,?_,?_⟩⟩
         · rw [List.size_toArray, List.length_append, List.length_append, hlt5, hzl, Nat.sub_mul]
           have:i*5≤j*5:=Nat.mul_le_mul_right 5 (by omega)
           omega
         · rw [← hlt5];exact List.take_left' rfl)
        have HEB:=hI (setCells_below g B hg zs (i*5) _ _ hbr)
        clear hrow hbr hfz hd
        go_wp2
        go_ret
        exact ⟨_,rfl,by rw [← HF.out];exact HE.out,HEB.out⟩
end Go.Proofs.YteocjaihaegmoaaGreatDoor
