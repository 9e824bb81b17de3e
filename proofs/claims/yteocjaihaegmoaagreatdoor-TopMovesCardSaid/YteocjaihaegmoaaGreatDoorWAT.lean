/- Parts of the proof: M, D7. -/
import Derived.Test.YteocjaihaegmoaaGreatDoorWAB
import Derived.BigQuiet
import Derived.Deep.QuietTactic
import Derived.DeepKeys
import Derived.Laws.StructEq
import Derived.WalkKit
set_option linter.unusedVariables false
set_option maxHeartbeats 1600000
namespace Go.Proofs.YteocjaihaegmoaaGreatDoor
open Go Go.RowKit
structure Mv where
 f:Int
 t:Int
 p:Int
 d:Int
 c:Bool
 deriving DecidableEq
def Mv.cells (m:Mv):List Value:=[.int .i8 m.f,.int .i8 m.t,.int .u8 m.p,.int .u8 m.d,.bool m.c]
def Mv.lits (m:Mv):List Lit:=[.int .i8 m.f,.int .i8 m.t,.int .u8 m.p,.int .u8 m.d,.bool m.c]
def Mv.Ok (m:Mv):Prop:=(-128≤m.f∧m.f≤127)∧(-128≤m.t∧m.t≤127)∧(0≤m.p∧m.p≤255)∧(0≤m.d∧m.d≤255)
theorem Mv.lits_inj {a b:Mv}:a.lits=b.lits↔a=b:=by
 constructor
 · intro h
   unfold Mv.lits at h
   cases a;cases b
   simp at h
   simp [h]
 · intro h;rw [h]
theorem infoM:(Tryz.prog.info? 49).map (fun i=>(i.zero,i.size,i.bytes))=some (some (.agg #[.int .i8 0,.int .i8 0,.int .u8 0,.int .u8 0,.bool false]),5,5):=by kernel_rfl
theorem cellsM:Tryz.prog.cellsOf 49=5:=by kernel_rfl
theorem keys_mv (m:Mv) (h:m.Ok) (d:Nat):Tryz.prog.keyLits (d+2) 49 m.cells=some m.lits:=by
 have c8:Tryz.prog.cellsOf 5=1:=by kernel_rfl
 have ci8:Tryz.prog.cellsOf 26=1:=by kernel_rfl
 have cb:Tryz.prog.cellsOf 4=1:=by kernel_rfl
 obtain ⟨h1,h2,h3,h4⟩:=h
 have w1:(Lit.int .i8 m.f).wf=true:=by
  simp [Lit.wf]
  have e1:IntKind.i8.min=-128:=by decide
  have e2:IntKind.i8.max=127:=by decide
  omega
 have w2:(Lit.int .i8 m.t).wf=true:=by
  simp [Lit.wf]
  have e1:IntKind.i8.min=-128:=by decide
  have e2:IntKind.i8.max=127:=by decide
  omega
 have w3:(Lit.int .u8 m.p).wf=true:=by
  simp [Lit.wf]
  have e1:IntKind.u8.min=0:=by decide
  have e2:IntKind.u8.max=255:=by decide
  omega
 have w4:(Lit.int .u8 m.d).wf=true:=by
  simp [Lit.wf]
  have e1:IntKind.u8.min=0:=by decide
  have e2:IntKind.u8.max=255:=by decide
  omega
 show Tryz.prog.keyLits ((d+1)+1) 49 _=_
 unfold Program.keyLits
 simp only [Tryz.underlying49]
 rw [if_pos ⟨by rw [cellsM];rfl,by decide +kernel⟩]
 simp only [List.mapM_cons,List.mapM_nil]
 rw [c8,ci8,cb]
 simp [Program.keyLits,Mv.cells,Mv.lits,Tryz.underlying26,Tryz.underlying5,Tryz.underlying4,w1,w2,w3,w4]
theorem equal_mv (a b:Mv) (ha:a.Ok) (hb:b.Ok) (w:World):(Op.equalIn 10000 49 (.agg a.cells.toArray) (.agg b.cells.toArray)).run Tryz.prog w=.ok (decide (a=b)) w:=by
 have E:EqAt Tryz.prog (9998+2) 49:=run_equalIn_deep 9998 2 49 (by kernel_rfl)
 have f:∀ m:Mv,(Value.agg m.cells.toArray).formed Tryz.prog 49=true:=by
  intro m
  simp only [Value.formed,Tryz.underlying49,cellsM];rfl
 obtain ⟨r,h1,h2⟩:=E w (0+2) (0+2) (.agg a.cells.toArray) (.agg b.cells.toArray) _ _ (f a) (f b) (keys_mv a ha 0) (keys_mv b hb 0)
 rw [Mv.lits_inj] at h2
 have:r=decide (a=b):=by rw [Bool.eq_iff_iff,h2,decide_eq_true_iff]
 rw [← this];exact h1
theorem eql_mv (a b:Mv) (ha:a.Ok) (hb:b.Ok) (w:World):(binOp .eql 49 (.agg a.cells.toArray) (.agg b.cells.toArray)).run Tryz.prog w=.ok (.bool (decide (a=b))) w:=by
 rw [run_eql_struct,equal_mv a b ha hb];rfl
theorem neq_mv (a b:Mv) (ha:a.Ok) (hb:b.Ok) (w:World):(binOp .neq 49 (.agg a.cells.toArray) (.agg b.cells.toArray)).run Tryz.prog w=.ok (.bool (!decide (a=b))) w:=by
 rw [run_neq_struct,equal_mv a b ha hb];rfl
def cellsL (l:List Mv):List Value:=l.flatMap Mv.cells
theorem cellsL_app (l k:List Mv):cellsL (l ++ k)=cellsL l ++ cellsL k:=List.flatMap_append
theorem cellsL_len (l:List Mv):(cellsL l).length=l.length*5:=by
 induction l with
 | nil=>rfl
 | cons m l ih =>
   show (m.cells ++ cellsL l).length=_
   rw [List.length_append,ih,List.length_cons]
   show 5+_=_
   omega
theorem cellsL_get (l:List Mv) (k j:Nat) (hk:k<l.length) (hj:j<5):(cellsL l)[k*5+j]?=(l[k]).cells[j]?:=by
 induction l generalizing k with
 | nil=>exact absurd hk (Nat.not_lt_zero _)
 | cons m l ih =>
   show (m.cells ++ cellsL l)[k*5+j]?=_
   cases k with
   | zero=>rw [List.getElem?_append_left (by show _<5;omega),Nat.zero_mul,Nat.zero_add];rfl
   | succ k =>
     rw [List.getElem?_append_right (by show 5≤_;omega)]
     have:(k+1)*5+j - m.cells.length=k*5+j:=by show _ - 5=_;omega
     rw [this,ih k (by simpa using hk)];rfl
/-- A slice of moves that the call owns from a base on. -/
def OwnsM (w:World) (base:Nat) (v:Value) (l:List Mv):Prop:=w.ownsRow base 49 5 v l.length (cellsL l)
theorem OwnsM.app {w:World} {base:Nat} {v:Value} {l:List Mv} {m:Mv} (h:w.ownsRow base 49 5 v (l.length+1) (cellsL l ++ m.cells)):OwnsM w base v (l ++ [m]):=by
 unfold OwnsM
 rw [cellsL_app,List.length_append]
 exact h
theorem OwnsM.grown {w w1 w2:World} {B:Nat} {v:Value} {l:List Mv} (hown:OwnsM w1 B v l) (hbel:Below B w w1) (hB:B≤w1.heap.size) (o:Obj) (hg:(w1.alloc o).grownBy w2 v.ownBlock):Below B w w2 :=
 (hbel.alloc hB o).grown hg (by simp;omega) (fun j hj=>(World.ownsRow.lt hown j hj).1)
/-- What one may do with such a slice. -/
theorem OwnsM.form {w:World} {base:Nat} {v:Value} {l:List Mv} (h:OwnsM w base v l) :
 (l=[]∧∃ a c,v=.slice a 0 c)∨(∃ g c,v=.slice (some ⟨g,0,none⟩) l.length c∧base≤g∧g<w.heap.size∧l≠[]∧∀ k (hk:k<l.length),w.cell? ⟨g,k*5,none⟩=some (.int .i8 (l[k]).f)∧w.cell? ⟨g,k*5+1,none⟩=some (.int .i8 (l[k]).t)∧w.cell? ⟨g,k*5+2,none⟩=some (.int .u8 (l[k]).p)∧w.cell? ⟨g,k*5+3,none⟩=some (.int .u8 (l[k]).d)∧w.cell? ⟨g,k*5+4,none⟩=some (.bool (l[k]).c)):=by
 have hlt:=World.ownsRow.lt h
 obtain ⟨h1,h2⟩:=id h
 rcases h2 with ⟨hv,hx⟩ | ⟨g,cap,cur,hv,rest⟩
 · left
   exact ⟨List.eq_nil_of_length_eq_zero hx,none,0,hv⟩
 · subst hv
   by_cases hl:l=[]
   · left;subst hl;exact ⟨rfl,_,_,rfl⟩
   · right
     have hlt:=hlt g rfl
     refine ⟨g,cap,rfl,hlt.1,hlt.2,hl,?_⟩
     intro k hk
     have key:∀ j v,j<5→(l[k]).cells[j]?=some v→w.cell? ⟨g,k*5+j,none⟩=some v:=by
      intro j v hj hv
      have e:=World.ownsRow.cellAt h (k*5+j) (by omega)
      rw [e]
      have:=cellsL_get l k j hk hj
      rw [hv] at this
      exact this
     exact ⟨key 0 _ (by decide) rfl,key 1 _ (by decide) rfl,key 2 _ (by decide) rfl,key 3 _ (by decide) rfl,key 4 _ (by decide) rfl⟩
theorem OwnsM.less {w:World} {B B' : Nat} {v:Value} {l:List Mv} (h:OwnsM w B v l) (hb:B' ≤ B):OwnsM w B' v l:=ownsRow_less h hb
theorem OwnsM.kept {w w' : World} {B C:Nat} {v:Value} {l:List Mv} (h:OwnsM w B v l) (hb:Below C w w') (hC:w.heap.size≤C):OwnsM w' B v l:=by
 have hlt:=World.ownsRow.lt h
 obtain ⟨h1,h2⟩:=h
 refine ⟨h1,?_⟩
 rcases h2 with h2 | ⟨g,cap,cur,hv,hg,hgb,rest⟩
 · exact .inl h2
 · have := (hlt g (by rw [hv]; rfl)).2
   exact .inr ⟨g,cap,cur,hv,hg,(hb.block g (by omega)).trans hgb,rest⟩
theorem blN15 (w:World) (k:Nat):Below w.heap.size w (w.drewN k):=(Below.refl _ _).trans ⟨rfl,rfl,rfl,Nat.le_refl _,fun _ _=>rfl⟩
theorem neq_same (m:Mv) (h:m.Ok) (w:World):(binOp .neq 49 (.agg #[.int .i8 m.f,.int .i8 m.t,.int .u8 m.p,.int .u8 m.d,.bool m.c]) (.agg #[.int .i8 m.f,.int .i8 m.t,.int .u8 m.p,.int .u8 m.d,.bool m.c])).run Tryz.prog w=.ok (.bool false) w:=by
 have:=neq_mv m m h h w
 rw [decide_eq_true rfl] at this
 exact this
theorem same_yes (l:List Mv) (hok:∀ m∈l,m.Ok) (hlen:l.length≤1000000) (w:World) (B1 B2:Nat) (v1 v2:Value) (h1:OwnsM w B1 v1 l) (h2:OwnsM w B2 v2 l) :
 Calls Tryz.prog 12 #[v1,v2] w fun e w' => e = .returned (.bool true)∧Below w.heap.size w w' := by
 have HO:=hI hok
 clear hok
 rcases h1.form with ⟨hl,a1,c1,rfl⟩ | ⟨g1,c1,rfl,_,hs1,hne,hc1⟩
 · rcases h2.form with ⟨_, a2, c2, rfl⟩ | ⟨_, _, _, _, _, hne, _⟩
   · clear h1 h2 HO hl hlen
     go_enter Tryz.func12,Tryz.ntmps12
     go_wp2
     refine wp_loop_rounds 1 ?_
     rw [rounds_succ]
     go_wp2
     go_ret
     exact ⟨rfl,Below.refl _ _⟩
   · exact absurd hl hne
 · rcases h2.form with ⟨hl, _⟩ | ⟨g2, c2, rfl, _, hs2, _, hc2⟩
   · exact absurd hl hne
   · have HC1 := hideIt hc1
     have HC2:=hI hc2
     clear hc1 hc2 h1 h2 hne
     obtain ⟨n,hn⟩:∃ n,l.length=n:=⟨_,rfl⟩
     have HN:=hI hn
     rw [hn] at hlen ⊢
     clear hn
     go_enter Tryz.func12,Tryz.ntmps12
     go_wp2
     go_loopw [5] (fun i wr=>∃ k:Nat,k≤n∧i=.int .i64 k∧Below w.heap.size w wr) (fun i _=>n - (intOf i).toNat)
     case atStart=>exact ⟨0,by omega,rfl,Below.refl _ _⟩
     case round =>
      obtain ⟨k,hk,rfl,hr⟩:=hrel
      by_cases hlt:k<n
      · have hkl : k < l.length := by rw [HN.out]; exact hlt
        obtain ⟨p0,p1,p2,p3,p4⟩:=HC1.out k hkl
        obtain ⟨q0,q1,q2,q3,q4⟩:=HC2.out k hkl
        have hm:=HO.out l[k] (List.getElem_mem hkl)
        generalize l[k]=m at p0 p1 p2 p3 p4 q0 q1 q2 q3 q4 hm
        have p0:=(hr.cell (p:=⟨g1,k*5,none⟩) hs1).trans p0
        have p1:=(hr.cell (p:=⟨g1,k*5+1,none⟩) hs1).trans p1
        have p2:=(hr.cell (p:=⟨g1,k*5+2,none⟩) hs1).trans p2
        have p3:=(hr.cell (p:=⟨g1,k*5+3,none⟩) hs1).trans p3
        have p4:=(hr.cell (p:=⟨g1,k*5+4,none⟩) hs1).trans p4
        have q0:=(hr.cell (p:=⟨g2,k*5,none⟩) hs2).trans q0
        have q1:=(hr.cell (p:=⟨g2,k*5+1,none⟩) hs2).trans q1
        have q2:=(hr.cell (p:=⟨g2,k*5+2,none⟩) hs2).trans q2
        have q3:=(hr.cell (p:=⟨g2,k*5+3,none⟩) hs2).trans q3
        have q4:=(hr.cell (p:=⟨g2,k*5+4,none⟩) hs2).trans q4
        have ne:=neq_same m hm
        have i0:(0:Int)≤(k:Int):=by omega
        have i1:(k:Int)<(n:Int):=by omega
        have hkn:=hlt
        clear hm hkl
        go_wp2
        go_quiet (fail)
        go_wp2
        go_roundw
        case rel=>exact ⟨k+1,by omega,by go_num,hr.trans ((blN15 _ _).mono hr.size)⟩
        case measure=>simp [intOf];omega
      · obtain rfl : k = n := by omega
        go_wp2
        go_ret
        exact ⟨rfl,hr⟩
end Go.Proofs.YteocjaihaegmoaaGreatDoor
