/- Parts of the proof: Rg, Rh, Rk, Ri. -/
import Derived.Test.YteocjaihaegmoaaGreatDoorWAL
import Derived.Deep.RegionHeld3
import Derived.Maps.AppendAt
import Derived.OrdersHeld
set_option linter.unusedVariables false
namespace Go.Proofs.YteocjaihaegmoaaGreatDoor
open Go Go.RowKit Go.Shelf
/-- Whatever lay in W lies so in W', but for cells of the types named. -/
structure Holds (bad:List TypeId) (W W' : World):Prop where
 size:W.heap.size≤W'.heap.size
 same:∀ (g:Nat) (o:Obj),W.heap[g]?=some o→(∀ (cs:Array Value) (t:TypeId) (m:Nat × Nat),o=Obj.cells cs t m→t ∉ bad)→W'.heap[g]?=some o
theorem Holds.refl (bad:List TypeId) (W:World):Holds bad W W:=⟨Nat.le_refl _,fun _ _ h _=>h⟩
theorem Holds.trans {bad:List TypeId} {A B C:World} (h:Holds bad A B) (k:Holds bad B C):Holds bad A C :=
 ⟨Nat.le_trans h.size k.size,fun g o hg ho=>k.same g o (h.same g o hg ho) ho⟩
theorem Holds.of_below {bad:List TypeId} {W W' : World} (h:Below W.heap.size W W'):Holds bad W W' :=
 ⟨h.size,fun g o hg _=>(h.block g (Array.getElem?_eq_some_iff.1 hg).1).trans hg⟩
theorem Holds.drew {bad:List TypeId} {W W' : World} (h:Holds bad W W'):Holds bad W W'.drew:=⟨h.size,h.same⟩
theorem Holds.others {bad:List TypeId} {W W' : World} (h:Holds bad W W'):KeepsOthers W W' :=
 ⟨h.size,fun g o hg ho=>h.same g o hg (fun cs t m e=>by subst e;cases ho)⟩
theorem Holds.setCell {bad:List TypeId} {W W' : World} (h:Holds bad W W') {g:Nat} {cs:Array Value} {t:TypeId} {m:Nat × Nat} (hg:W'.heap[g]?=some (.cells cs t m)) (ht:t∈bad) (i:Nat) (v:Value) :
 Holds bad W (W'.setCell ⟨g,i,none⟩ v):=by
 refine ⟨by simpa [World.setCell] using h.size,fun k o hk ho=>?_⟩
 by_cases e:k=g
 · subst e
   have:=h.same _ _ hk ho
   rw [hg] at this
   cases this
   exact absurd ht (ho cs t m rfl)
 · rw [Below.heap_setCell _ _ _ _ (by show k ≠ g; exact e)]
   exact h.same k o hk ho
theorem Holds.grown {bad:List TypeId} {W W' W2:World} (h:Holds bad W W') {row:Option Nat} (hg:W'.grownBy W2 row) (hr:∀ g,row=some g→∃ cs t m,W'.heap[g]?=some (.cells cs t m)∧t∈bad):Holds bad W W2:=by
 refine ⟨Nat.le_trans h.size hg.size,fun k o hk ho=>?_⟩
 have h1:=h.same k o hk ho
 have hlt:=(Array.getElem?_eq_some_iff.1 h1).1
 by_cases e:row=some k
 · obtain ⟨cs, t, m, h2, h3⟩ := hr k e
   rw [h1] at h2
   cases h2
   exact absurd h3 (ho cs t m rfl)
 · rw [hg.block k hlt (fun h=>e h.symm)];exact h1
/-- A region that draws its order, walked as anywhere, within a round. -/
theorem rowsIn_of (l n:Nat) {P:Program} {row:String} {args:Array Value} {w:World} {R:Value→World→Prop} (h:Rows P row args w R):RowsIn (Fence.wide.inRound l) n P row args w R :=
 fun c cs _=>let ⟨v,w',r,s⟩:=h c cs;⟨v,w',r,stepsIn_wide.2 s⟩
theorem operIn_of {P:Program} {o:Oper} {a:Act} {w:World} {K:Act→World→Prop} {Q:Exit→Act→World→Prop} (l n:Nat) (hnd:∀ c,o.op≠.defer c) (hQ:¬ LetsOut Q) (h:o.wp P a w K Q):o.wpIn (Fence.wide.inRound l) n P a w K Q:=by
 refine ⟨fun _ _=>trivial,?_⟩
 rw [Oper.semAt_eq _ _ _ hnd]
 unfold Oper.wp at h
 generalize (execOp a.eval o).run P w=r at *
 cases r with
 | ok x w' =>
   cases x <;> simp only [Oper.upon,Oper.uponIn] at h ⊢
   case value=>exact h
   case skip=>exact h
   case defer=>exact h
   case enter f args =>
    refine ⟨fun h=>by simp [Fence.wide] at h,(callsIn_wide.2 h).inRound l |>.mono fun e w'' he=>?_⟩
    cases e <;> exact he
   case row row args=>exact ⟨fun h=>by simp [Fence.wide] at h,rowsIn_of l _ h⟩
 | halt x w' => cases x <;> simp only [Oper.upon,Oper.uponIn] at h ⊢ <;> exact h
def noDefers (ops:Array Oper):Bool:=ops.all fun o=>match o.op with | .defer _=>false | _=>true
theorem noDefers_at {ops:Array Oper} (h:noDefers ops=true) {i:Nat} {o:Oper} (ho:ops[i]?=some o):∀ c,o.op≠.defer c:=by
 intro c e
 unfold noDefers at h
 rw [Array.all_eq_true] at h
 obtain ⟨hi,ho⟩:=Array.getElem?_eq_some_iff.1 ho
 have:=h i hi
 rw [ho,e] at this
 cases this
theorem wpAnyIn_of {P:Program} {ops:Array Oper} {md:Region.Mode} {Q:Exit→Act→World→Prop} (l n:Nat) (hnd:noDefers ops=true) (hQ:¬ LetsOut Q):∀ (fuel:Nat) (listed:Array Bool) (a:Act) (w:World),
 wpAny P md ops Q fuel listed a w→wpAnyIn (Fence.wide.inRound l) n P md ops Q fuel listed a w
 | 0,_,_,_,h=>h
 | fuel+1,listed,a,w,h=>⟨h.1,fun i hi=>by
    have h2:=h.2 i hi
    unfold wpOp at h2
    unfold wpOpIn
    cases ho:ops[i]? with
    | none=>rw [ho] at h2;exact wpAnyIn_of l n hnd hQ fuel _ a w h2
    | some o =>
      rw [ho] at h2
      simp only at h2 ⊢
      split
      · rename_i hw
        rw [if_pos hw] at h2
        rcases h2 with h2 | h2
        · exact Oper.wpIn_mono (fun a w h=>wpAnyIn_of l n hnd hQ fuel _ a w h) (operIn_of l n (noDefers_at hnd ho) hQ h2)
        · exact absurd h2.2 hQ
      · rename_i hw
        rw [if_neg hw] at h2
        exact ⟨fun _ _=>trivial,wpAnyIn_of l n hnd hQ fuel _ _ w h2⟩⟩
theorem region_round {P:Program} {id:Nat} {ops:Array Oper} {Q:Exit→Act→World→Prop} {a:Act} {w:World} {S:World→Prop} (l n:Nat) (hm:P.follows .mixedOrders=true) (hnd:noDefers ops=true) (hQ:¬ LetsOut Q)
 (h:wpAnyH P .any ops Q S ops.size (Array.replicate ops.size false) a w.drew):(Code.region id ops true).wpIn (Fence.wide.inRound l) n P Q a w :=
 wpIn_region_any hm (wpAnyIn_of l n hnd hQ _ _ _ _ (wpAny_of_held _ _ _ _ h))
/-- How a round's body may end. -/
def roundHolds {α:Type} (I:List α→World→Prop) (bad:List TypeId) (xs:List α) (W:World):Exit→Act→World→Prop
 | .normal,_,W' => Holds bad W W' ∧ I xs W'
 | .ret,_,_=>False
 | .exit _,_,_=>False
 | .goto _,_,_=>False
 | .panic _,_,_=>False
 | .outgrown,_,_=>False
theorem YieldAt.any {P:Program} {l m k:Nat} {args:Array Value} {W:World} {R:Ending→World→Prop} (h:YieldAt Fence.wide m P l args W R):YieldAt Fence.wide k P l args W R:=by
 obtain ⟨fn,tmps,assign,body,h1,h2⟩:=h
 exact ⟨fn,tmps,assign,body,h1,h2.1,fun c cs _=>h2.2 c cs (room_wide _)⟩
def Puts {β:Type} (S:Nat) (J:β→World→Prop):Prop:=∀ x W l o o',J x W→S≤l→W.heap[l]?=some o→o.isCells=false→J x (W.putObj l o')
def Grows {β:Type} (J:β→World→Prop):Prop:=∀ x W W',J x W→Below W.heap.size W W' → J x W'
/-- What an iterator does with a loop's yield. -/
def Iterates {α:Type} (P:Program) (gf:Nat) (lb:Array Value) (bad:List TypeId) (xs:List α) (Enc:α × Array Value→World→Prop) (w:World):Prop :=
 ∀ (l : Nat) (J : List α → World → Prop) (W : World), Below w.heap.size w W → Grows J →
   (∀ pre x args W,J pre W→(pre ++ [x]) <+: xs→Enc (x,args) W→∀ m,YieldAt Fence.wide m P l args W fun e W' => e = .returned (.bool true)∧J (pre ++ [x]) W' ∧ Holds bad W W') →
   J [] W→∀ n,CallsIn Fence.wide n P gf (#[.func (.yield l) #[] #[]] ++ lb) W fun e W' => (∃ v,e=.returned v)∧J xs W'
theorem range_typed {α:Type} {P:Program} {g:Operand} {ps:Array Tmp} {assign body:Code} {Q:Exit→Act→World→Prop} {a:Act} {w:World} {n:Nat} {gf:Nat} {lb:Array Value} (bad:List TypeId)
 (hg:a.eval g=.func (.func gf) #[] lb) (eg:∀ args w,(callFunc gf args).run P w=.ok (.enter gf args) w)
 (I:List α→World→Prop) (xs:List α) (Enc:α × Array Value→World→Prop) (Ax:α × Act→World→Prop)
 (hsz:∀ x args W,Enc (x,args) W→args.size=ps.size)
 (hIb:Grows I) (hIp:Puts w.heap.size I) (hAp:Puts w.heap.size Ax)
 (hiter:Iterates P gf lb bad xs Enc w)
 (h0:I [] w)
 (hassign:∀ (l m:Nat) pre (x:α) args (W:World) (K:Act→World→Prop),I pre W→Below w.heap.size w W∨True→w.heap.size≤W.heap.size→Enc (x,args) W→(∀ a W1,Below W.heap.size W W1→I pre W1→Ax (x,a) W1→K a W1) →
   assign.wpIn (Fence.wide.inRound l) m P (Exit.then K (fun _ _ _=>False)) { tmps:=(ps.zip args).foldl (fun t (p,v)=>t.setIfInBounds p v) a.tmps,defers:=[] } W)
 (hbody:∀ (l m:Nat) pre (x:α) (a:Act) (W:World),I pre W→w.heap.size≤W.heap.size→(pre ++ [x]) <+: xs→Ax (x,a) W→body.wpIn (Fence.wide.inRound l) m P (roundHolds I bad (pre ++ [x]) W) a W)
 (hdone:∀ (D:Nat) (W:World),w.heap.size≤D→I xs W→W.heap[D]?=some (.deferred (some []))→Q .normal { a with defers:={ target:=.collected D,args:=#[] } :: a.defers } W) :
 (Code.rangeFunc g ps assign body).wpIn Fence.wide n P Q a w:=by
 refine wpIn_rangeFunc fun fn hfn=>?_
 generalize hS:w.heap.size=S at *
 obtain ⟨rd,hrd⟩:∃ rd:Loop,rd={ state:=.ready,pending:=none,fn,tmps:=a.tmps,params:=ps,assign,body,defers:=S }:=⟨_,rfl⟩
 obtain ⟨bz,hbz⟩:∃ bz:Loop,bz={ rd with state:=.busy }:=⟨_,rfl⟩
 obtain ⟨W1,hW1⟩:∃ W1,(w.alloc (.deferred (some []))).alloc (.loop rd)=W1:=⟨_,rfl⟩
 have hB1:Below S w W1:=by rw [← hW1,← hS];exact ((Below.refl _ w).alloc lR _).alloc (by simp) _
 have hD1:W1.heap[S]?=some (.deferred (some [])):=by
  rw [← hW1,← hS];exact (Below.heap_alloc _ _ _ (by simp)).trans (World.alloc_heap_new w _)
 have hL1:W1.heap[S+1]?=some (.loop rd):=by
  have:=World.alloc_heap_new (w.alloc (.deferred (some []))) (.loop rd)
  rw [World.size_alloc,hS] at this
  rw [← hW1];exact this
 have hI1:I [] W1:=hIb _ _ _ h0 (by rw [hS];exact hB1)
 have henter:(Instr.enterLoop fn a.tmps ps assign body none).run P w=.ok (S+1,[{ target:=.collected S,args:=#[] }]) W1:=by
  rw [run_enterLoop_outer,← hW1,hrd,hS]
 refine ⟨S+1,[{ target:=.collected S,args:=#[] }],W1,{ target:=.fn (.func gf) lb,args:=#[.func (.yield (S+1)) #[] #[]] },W1,gf,
  #[.func (.yield (S + 1)) #[] #[]] ++ lb, W1, henter, ?_, fun _ _ => trivial, ?_, fun h => by simp [Fence.wide] at h, ?_⟩
 · simp only [resolve, hg]
   simp [go_sem]
 · simp [invoke,go_sem,eg]
 · refine (hiter (S + 1) (fun pre W => I pre W ∧ W.heap[S + 1]? = some (.loop rd) ∧ W.heap[S]? = some (.deferred (some []))) W1 (by rw [hS]; exact hB1)
    (fun pre W W' h hb=>⟨hIb _ _ _ h.1 hb,(hb.block _ (Array.getElem?_eq_some_iff.1 h.2.1).1).trans h.2.1,(hb.block _ (Array.getElem?_eq_some_iff.1 h.2.2).1).trans h.2.2⟩) ?_ ⟨hI1,hL1,hD1⟩ (n - 1)).mono ?_
   · rintro pre x args W ⟨hi, hl, hd⟩ hxs henc m
     have hlt:S+1<W.heap.size:=(Array.getElem?_eq_some_iff.1 hl).1
     have hy:=run_yield (P:=P) (args:=args) hl (by rw [hrd];exact hsz _ _ _ henc)
     have e1:rd.fn=fn∧rd.assign=assign∧rd.body=body∧rd.params=ps∧rd.tmps=a.tmps:=by rw [hrd];exact ⟨rfl,rfl,rfl,rfl,rfl⟩
     rw [e1.1,e1.2.1,e1.2.2.1,e1.2.2.2.1,e1.2.2.2.2] at hy
     refine ⟨fn,_,assign,body,hy,roundIn_of_wpIn hfn (hassign _ m pre x args W _ hi (.inr trivial) (by omega) henc ?_)⟩
     intro a2 W2 hb2 hi2 hax
     have hl2:W2.heap[S+1]?=some (.loop rd):=(hb2.block _ hlt).trans hl
     have hd2:W2.heap[S]?=some (.deferred (some [])):=(hb2.block _ (by omega)).trans hd
     have hlt2:S+1<W2.heap.size:=(Array.getElem?_eq_some_iff.1 hl2).1
     have hbeg:=run_beginRound (P:=P) hl2 (by rw [hrd])
     rw [← hbz] at hbeg
     refine ⟨_,hbeg,?_⟩
     have hi3:I pre (W2.putObj (S+1) (.loop bz)):=hIp _ _ _ _ _ hi2 (by omega) hl2 rfl
     have hax3:Ax (x,a2) (W2.putObj (S+1) (.loop bz)):=hAp _ _ _ _ _ hax (by omega) hl2 rfl
     refine wpIn_mono (hbody _ m pre x a2 _ hi3 (by simp;omega) hxs hax3) ?_
     rintro e a3 W3 hp
     cases e with
     | normal =>
       obtain ⟨hk3,hi3⟩:=hp
       have hl3:W3.heap[S+1]?=some (.loop bz):=hk3.others.same _ _ (World.putObj_heap_same hlt2) rfl
       have hd3:W3.heap[S]?=some (.deferred (some [])):=hk3.others.same _ _ ((World.putObj_heap_other (by omega)).trans hd2) rfl
       have hlt3:S+1<W3.heap.size:=(Array.getElem?_eq_some_iff.1 hl3).1
       have hend:=run_endRound (P:=P) none hl3
       have e2:({ bz with state:=if (none:Option Code).isNone then .ready else .done,pending:=none }:Loop)=rd:=by rw [hbz,hrd];rfl
       rw [e2] at hend
       refine ⟨_,_,hend,rfl,⟨hIp _ _ _ _ _ hi3 (by omega) hl3 rfl,World.putObj_heap_same hlt3,(World.putObj_heap_other (by omega)).trans hd3⟩,?_⟩
       refine ⟨by simp;have:=hk3.size;have:=hb2.size;simp at *;omega,fun k o hk ho=>?_⟩
       by_cases ek:k=S+1
       · subst ek
         rw [hl] at hk
         cases hk
         exact World.putObj_heap_same hlt3
       · rw [World.putObj_heap_other ek]
         refine hk3.same k o ?_ ho
         rw [World.putObj_heap_other ek]
         exact (hb2.block k (Array.getElem?_eq_some_iff.1 hk).1).trans hk
     | ret=>exact hp.elim
     | exit id=>exact hp.elim
     | goto t=>exact hp.elim
     | panic ch=>exact hp.elim
     | outgrown=>exact hp.elim
   · rintro e W2 ⟨⟨v, rfl⟩, hi, hl, hd⟩
     have hend:=run_endLoop (P:=P) hl (by rw [hrd];simp)
     have e3:rd.pending=none:=by rw [hrd]
     rw [e3] at hend
     exact ⟨none,_,hend,hdone S _ lR (hIp _ _ _ _ _ hi (by omega) hl rfl) ((World.putObj_heap_other (by omega)).trans hd)⟩
/-- Whatever lay in W lies so in W', but for the block that is owned and for cells of the types named. -/
structure HoldsO (own:Option Nat) (bad:List TypeId) (W W' : World):Prop where
 size:W.heap.size≤W'.heap.size
 same:∀ (g:Nat) (o:Obj),W.heap[g]?=some o→some g≠own→(∀ (cs:Array Value) (t:TypeId) (m:Nat × Nat),o=Obj.cells cs t m→t ∉ bad)→W'.heap[g]?=some o
theorem HoldsO.of_below {own:Option Nat} {bad:List TypeId} {W W' : World} (h:Below W.heap.size W W'):HoldsO own bad W W' :=
 ⟨h.size,fun g o hg _ _=>(h.block g (Array.getElem?_eq_some_iff.1 hg).1).trans hg⟩
/-- The block that is owned behind a round: the same one, or a new one. -/
def Newer (own own' : Option Nat) (W:World):Prop:=own' = own∨∃ g,own' = some g∧W.heap.size≤g
theorem HoldsO.trans {own own' : Option Nat} {bad:List TypeId} {A B C:World} (h:HoldsO own bad A B) (k:HoldsO own' bad B C) (hn:Newer own own' A):HoldsO own bad A C :=
 ⟨Nat.le_trans h.size k.size,fun g o hg hgo ho=>k.same g o (h.same g o hg hgo ho) (by
  rcases hn with rfl | ⟨g',rfl,hg'⟩
  · exact hgo
  · intro e
    cases e
    have:=(Array.getElem?_eq_some_iff.1 hg).1
    omega) ho⟩
theorem Newer.trans {o1 o2 o3:Option Nat} {A B:World} (h:Newer o1 o2 A) (k:Newer o2 o3 B) (hs:A.heap.size≤B.heap.size):Newer o1 o3 A:=by
 rcases k with rfl | ⟨g,rfl,hg⟩
 · exact h
 · exact .inr ⟨g,rfl,Nat.le_trans hs hg⟩
/-- How a round's body may end. -/
def roundOwns {α:Type} (I:List α→Option Nat→World→Prop) (own:Option Nat) (bad:List TypeId) (xs:List α) (W:World):Exit→Act→World→Prop
 | .normal,_,W' => ∃ own',HoldsO own bad W W' ∧ Newer own own' W∧I xs own' W'
 | .ret,_,_=>False
 | .exit _,_,_=>False
 | .goto _,_,_=>False
 | .panic _,_,_=>False
 | .outgrown,_,_=>False
def Grows2 {α:Type} (J:List α→Option Nat→World→Prop):Prop:=∀ pre own W W',J pre own W→Below W.heap.size W W' → J pre own W'
def Puts2 {α:Type} (S:Nat) (J:List α→Option Nat→World→Prop):Prop:=∀ pre own W l o o',J pre own W→S≤l→W.heap[l]?=some o→o.isCells=false→J pre own (W.putObj l o')
def Sets2 {α:Type} (S:Nat) (J:List α→Option Nat→World→Prop):Prop:=∀ pre own W g i v,J pre own W→S≤g→(∃ cs t m,W.heap[g]?=some (.cells cs t m))→own≠some g→J pre own (W.setCell ⟨g,i,none⟩ v)
def Rows2 {α:Type} (ty:TypeId) (J:List α→Option Nat→World→Prop):Prop:=∀ pre own W g,J pre own W→own=some g→∃ cs m,W.heap[g]?=some (.cells cs ty m)
/-- What an iterator does with a loop's yield. -/
def Iterates2 {α:Type} (Kp:World→Prop) (P:Program) (gf:Nat) (lb:Array Value) (ty:TypeId) (bad:List TypeId) (xs:List α) (Enc:α × Array Value→World→Prop) (w:World):Prop :=
 ∀ (l : Nat) (J : List α → Option Nat → World → Prop) (W : World), Below w.heap.size w W → Grows2 J → Rows2 ty J → Sets2 w.heap.size J → (∀ pre own W, J pre own W → Kp W) →
   (∀ pre x args own W,J pre own W→(pre ++ [x]) <+: xs→Enc (x,args) W→∀ m,YieldAt Fence.wide m P l args W fun e W' => e = .returned (.bool true)∧∃ own',J (pre ++ [x]) own' W' ∧ HoldsO own bad W W' ∧ Newer own own' W) →
   ∀ own0,J [] own0 W→∀ n,CallsIn Fence.wide n P gf (#[.func (.yield l) #[] #[]] ++ lb) W fun e W' => (∃ v,e=.returned v)∧∃ own,J xs own W'
theorem range_own {α:Type} {Kp:World→Prop} {P:Program} {g:Operand} {ps:Array Tmp} {assign body:Code} {Q:Exit→Act→World→Prop} {a:Act} {w:World} {n:Nat} {gf:Nat} {lb:Array Value} (ty:TypeId) (bad:List TypeId)
 (hg:a.eval g=.func (.func gf) #[] lb) (eg:∀ args w,(callFunc gf args).run P w=.ok (.enter gf args) w)
 (I:List α→Option Nat→World→Prop) (xs:List α) (Enc:α × Array Value→World→Prop) (Ax:α × Act→World→Prop)
 (hsz:∀ x args W,Enc (x,args) W→args.size=ps.size)
 (hIb:Grows2 I) (hIp:Puts2 w.heap.size I) (hIr:Rows2 ty I) (hIs:Sets2 w.heap.size I) (hAp:Puts w.heap.size Ax)
 (hIk:∀ pre own W,I pre own W→Kp W) (hiter:Iterates2 Kp P gf lb ty bad xs Enc w) (own0:Option Nat)
 (h0:I [] own0 w)
 (hassign:∀ (l m:Nat) pre (x:α) args own (W:World) (K:Act→World→Prop),I pre own W→w.heap.size≤W.heap.size→Enc (x,args) W→(∀ a W1,Below W.heap.size W W1→I pre own W1→Ax (x,a) W1→K a W1) →
   assign.wpIn (Fence.wide.inRound l) m P (Exit.then K (fun _ _ _=>False)) { tmps:=(ps.zip args).foldl (fun t (p,v)=>t.setIfInBounds p v) a.tmps,defers:=[] } W)
 (hbody:∀ (l m:Nat) pre (x:α) (a:Act) own (W:World),I pre own W→w.heap.size≤W.heap.size→(pre ++ [x]) <+: xs→Ax (x,a) W→body.wpIn (Fence.wide.inRound l) m P (roundOwns I own bad (pre ++ [x]) W) a W)
 (hdone:∀ (D:Nat) own (W:World),w.heap.size≤D→I xs own W→W.heap[D]?=some (.deferred (some []))→Q .normal { a with defers:={ target:=.collected D,args:=#[] } :: a.defers } W) :
 (Code.rangeFunc g ps assign body).wpIn Fence.wide n P Q a w:=by
 refine wpIn_rangeFunc fun fn hfn=>?_
 generalize hS:w.heap.size=S at *
 obtain ⟨rd,hrd⟩:∃ rd:Loop,rd={ state:=.ready,pending:=none,fn,tmps:=a.tmps,params:=ps,assign,body,defers:=S }:=⟨_,rfl⟩
 obtain ⟨bz,hbz⟩:∃ bz:Loop,bz={ rd with state:=.busy }:=⟨_,rfl⟩
 obtain ⟨W1,hW1⟩:∃ W1,(w.alloc (.deferred (some []))).alloc (.loop rd)=W1:=⟨_,rfl⟩
 have hB1:Below S w W1:=by rw [← hW1,← hS];exact ((Below.refl _ w).alloc lR _).alloc (by simp) _
 have hD1:W1.heap[S]?=some (.deferred (some [])):=by
  rw [← hW1,← hS];exact (Below.heap_alloc _ _ _ (by simp)).trans (World.alloc_heap_new w _)
 have hL1:W1.heap[S+1]?=some (.loop rd):=by
  have:=World.alloc_heap_new (w.alloc (.deferred (some []))) (.loop rd)
  rw [World.size_alloc,hS] at this
  rw [← hW1];exact this
 have hI1:I [] own0 W1:=hIb _ _ _ _ h0 (by rw [hS];exact hB1)
 have henter:(Instr.enterLoop fn a.tmps ps assign body none).run P w=.ok (S+1,[{ target:=.collected S,args:=#[] }]) W1:=by
  rw [run_enterLoop_outer,← hW1,hrd,hS]
 refine ⟨S+1,[{ target:=.collected S,args:=#[] }],W1,{ target:=.fn (.func gf) lb,args:=#[.func (.yield (S+1)) #[] #[]] },W1,gf,
  #[.func (.yield (S + 1)) #[] #[]] ++ lb, W1, henter, ?_, fun _ _ => trivial, ?_, fun h => by simp [Fence.wide] at h, ?_⟩
 · simp only [resolve, hg]
   simp [go_sem]
 · simp [invoke,go_sem,eg]
 · refine (hiter (S + 1) (fun pre own W => I pre own W ∧ W.heap[S + 1]? = some (.loop rd) ∧ W.heap[S]? = some (.deferred (some []))) W1 (by rw [hS]; exact hB1)
    (fun pre own W W' h hb=>⟨hIb _ _ _ _ h.1 hb,(hb.block _ (Array.getElem?_eq_some_iff.1 h.2.1).1).trans h.2.1,(hb.block _ (Array.getElem?_eq_some_iff.1 h.2.2).1).trans h.2.2⟩) (fun pre own W g h ho=>hIr pre own W g h.1 ho) (fun pre own W g i v h hg hc ho=>⟨hIs _ _ _ _ _ _ h.1 (by omega) hc ho,(Below.heap_setCell _ _ _ _ (by
    rintro e;show False;obtain ⟨cs,t,m,hc⟩:=hc;have e:S+1=g:=e;rw [← e,h.2.1] at hc;cases hc)).trans h.2.1,(Below.heap_setCell _ _ _ _ (by
    rintro e;show False;obtain ⟨cs,t,m,hc⟩:=hc;have e:S=g:=e;rw [← e,h.2.2] at hc;cases hc)).trans h.2.2⟩) (fun pre own W h=>hIk _ _ _ h.1) ?_ own0 ⟨hI1,hL1,hD1⟩ (n - 1)).mono ?_
   · rintro pre x args own W ⟨hi, hl, hd⟩ hxs henc m
     have hlt:S+1<W.heap.size:=(Array.getElem?_eq_some_iff.1 hl).1
     have hy:=run_yield (P:=P) (args:=args) hl (by rw [hrd];exact hsz _ _ _ henc)
     have e1:rd.fn=fn∧rd.assign=assign∧rd.body=body∧rd.params=ps∧rd.tmps=a.tmps:=by rw [hrd];exact ⟨rfl,rfl,rfl,rfl,rfl⟩
     rw [e1.1,e1.2.1,e1.2.2.1,e1.2.2.2.1,e1.2.2.2.2] at hy
     refine ⟨fn,_,assign,body,hy,roundIn_of_wpIn hfn (hassign _ m pre x args own W _ hi (by omega) henc ?_)⟩
     intro a2 W2 hb2 hi2 hax
     have hl2:W2.heap[S+1]?=some (.loop rd):=(hb2.block _ hlt).trans hl
     have hd2:W2.heap[S]?=some (.deferred (some [])):=(hb2.block _ (by omega)).trans hd
     have hlt2:S+1<W2.heap.size:=(Array.getElem?_eq_some_iff.1 hl2).1
     have hbeg:=run_beginRound (P:=P) hl2 (by rw [hrd])
     rw [← hbz] at hbeg
     refine ⟨_,hbeg,?_⟩
     have hi3:I pre own (W2.putObj (S+1) (.loop bz)):=hIp _ _ _ _ _ _ hi2 (by omega) hl2 rfl
     have hax3:Ax (x,a2) (W2.putObj (S+1) (.loop bz)):=hAp _ _ _ _ _ hax (by omega) hl2 rfl
     refine wpIn_mono (hbody _ m pre x a2 own _ hi3 (by simp;omega) hxs hax3) ?_
     rintro e a3 W3 hp
     cases e with
     | normal =>
       obtain ⟨own',hk3,hn3,hi4⟩:=hp
       have hne:∀ g o,(W2.putObj (S+1) (.loop bz)).heap[g]?=some o→o.isCells=false→some g≠own:=by
        intro g o hg ho e
        obtain ⟨cs,mm,hc⟩:=hIr _ _ _ g hi3 e.symm
        rw [hg] at hc;cases hc;cases ho
       have hl3:W3.heap[S+1]?=some (.loop bz):=hk3.same _ _ (World.putObj_heap_same hlt2) (hne _ _ (World.putObj_heap_same hlt2) rfl) (fun cs t m e=>by cases e)
       have hd3:W3.heap[S]?=some (.deferred (some [])):=hk3.same _ _ ((World.putObj_heap_other (by omega)).trans hd2) (hne _ _ ((World.putObj_heap_other (by omega)).trans hd2) rfl) (fun cs t m e=>by cases e)
       have hlt3:S+1<W3.heap.size:=(Array.getElem?_eq_some_iff.1 hl3).1
       have hend:=run_endRound (P:=P) none hl3
       have e2:({ bz with state:=if (none:Option Code).isNone then .ready else .done,pending:=none }:Loop)=rd:=by rw [hbz,hrd];rfl
       rw [e2] at hend
       refine ⟨_,_,hend,rfl,own',⟨hIp _ _ _ _ _ _ hi4 (by omega) hl3 rfl,World.putObj_heap_same hlt3,(World.putObj_heap_other (by omega)).trans hd3⟩,?_,?_⟩
       · refine ⟨by simp; have := hk3.size; have := hb2.size; simp at *; omega, fun k o hk hko ho => ?_⟩
         by_cases ek:k=S+1
         · subst ek
           rw [hl] at hk
           cases hk
           exact World.putObj_heap_same hlt3
         · rw [World.putObj_heap_other ek]
           refine hk3.same k o ?_ hko ho
           rw [World.putObj_heap_other ek]
           exact (hb2.block k (Array.getElem?_eq_some_iff.1 hk).1).trans hk
       · rcases hn3 with e | ⟨g, e, hg⟩
         · exact .inl e
         · have := hb2.size
           exact .inr ⟨g,e,by simp at hg;omega⟩
     | ret=>exact hp.elim
     | exit id=>exact hp.elim
     | goto t=>exact hp.elim
     | panic ch=>exact hp.elim
     | outgrown=>exact hp.elim
   · rintro e W2 ⟨⟨v, rfl⟩, own, hi, hl, hd⟩
     have hend:=run_endLoop (P:=P) hl (by rw [hrd];simp)
     have e3:rd.pending=none:=by rw [hrd]
     rw [e3] at hend
     exact ⟨none,_,hend,hdone S own _ lR (hIp _ _ _ _ _ _ hi (by omega) hl rfl) ((World.putObj_heap_other (by omega)).trans hd)⟩
end Go.Proofs.YteocjaihaegmoaaGreatDoor
namespace Go.Proofs.YteocjaihaegmoaaGreatDoor
open Go Go.RowKit
theorem tk {P:Program} {md:Region.Mode} {ops:Array Oper} {Q:Exit→Act→World→Prop} {S:World→Prop} (i:Nat) {oi:Oper} {v:Value} {fuel:Nat} {listed:Array Bool} {a:Act} {w:World} (hi:ops[i]?=some oi) (hQ:∀ c a w,Q (.panic c) (a.put oi.dst v) w→Q (.panic c) a w) (hy:YieldsIf P ops S oi v a) (hS:S w)
 (h:wpAnyH P md ops Q S fuel (listed.setIfInBounds i true) (a.put oi.dst v) w) (hs:Region.noSelect ops=true:=by kernel_rfl) (hf:Region.free md ops listed i=true:=by kernel_rfl) (hr:(Region.ready md ops listed).contains i=true:=by kernel_rfl):wpAnyH P md ops Q S (fuel+1) listed a w:=wpAnyH_take hi hs hf hr hQ hy hS h
theorem tl {P:Program} {md:Region.Mode} {ops:Array Oper} {Q:Exit→Act→World→Prop} {S:World→Prop} (i:Nat) {oi:Oper} {v:Value} {fuel:Nat} {listed:Array Bool} {a:Act} {w:World} (hy:∀ w,S w→(execOp a.eval oi).run P w=.ok (.value v) w)
 (h:wpAnyH P md ops Q S fuel (listed.setIfInBounds i true) (a.put oi.dst v) w) (hi:ops[i]?=some oi:=by exact rfl) (hQ:∀ c a w,Q (.panic c) (a.put oi.dst v) w→Q (.panic c) a w:=by exact fun _ _ _ h=>h) (hw:Region.wanted oi (yielded ops a.tmps)=true:=by rfl) (hS:S w:=by assumption) (hs:Region.noSelect ops=true:=by kernel_rfl) (hf:Region.free md ops listed i=true:=by kernel_rfl) (hr:(Region.ready md ops listed).contains i=true:=by kernel_rfl):wpAnyH P md ops Q S (fuel+1) listed a w:=wpAnyH_take hi hs hf hr hQ (.inl ⟨hw,hy⟩) hS h
theorem tr {P:Program} {md:Region.Mode} {ops:Array Oper} {Q:Exit→Act→World→Prop} {S:World→Prop} (i:Nat) {oi:Oper} {fuel:Nat} {listed:Array Bool} {a:Act} {w:World}
 (h:wpAnyH P md ops Q S fuel (listed.setIfInBounds i true) (a.put oi.dst undef) w) (hi:ops[i]?=some oi:=by exact rfl) (hQ:∀ c a w,Q (.panic c) (a.put oi.dst undef) w→Q (.panic c) a w:=by exact fun _ _ _ h=>h) (hw:Region.wanted oi (yielded ops a.tmps)=false:=by rfl) (hS:S w:=by assumption) (hs:Region.noSelect ops=true:=by kernel_rfl) (hf:Region.free md ops listed i=true:=by kernel_rfl) (hr:(Region.ready md ops listed).contains i=true:=by kernel_rfl):wpAnyH P md ops Q S (fuel+1) listed a w:=wpAnyH_take hi hs hf hr hQ (.inr ⟨hw,rfl⟩) hS h
/-- The row behind is that ahead, or one that was not there. -/
theorem run_append_new {P:Program} (w:World) (base:Nat) (t ty e:TypeId) (i:TypeInfo) (z:Value) (size bytes:Nat) (ht:P.underlying t=some (.slice e)) (hi:P.info? e=some i) (hz:i.zero=some z)
 (hsize:i.size=size) (hby:i.bytes=bytes) (hzs:z.cells.size=size) (hsz:0<size) (v:Value) (n:Nat) (xs:List Value) (hown:w.ownsRow base e size v n xs)
 (a:Addr) (m c:Nat) (news:List Value) (hl:news.length=m*size) (hnews:∀ j u,news[j]?=some u→w.cell? (a.add j)=some u) (h1:∀ u∈news,u.oneCell' = true)
 (h63:n+m≤maxLen) (hbytes:(n+m)*bytes≤140737488355328) (hbase:base≤w.heap.size) (hm:0<m) :
 ∃ v' w',(Builtin.append_ #[t,t] ty #[v,.slice (some a) m c]).run P w=.ok v' w' ∧ w'.ownsRow base e size v' (n+m) (xs ++ news)∧w.grownBy w' v.ownBlock∧(v'.ownBlock=v.ownBlock∨v'.ownBlock=some w.heap.size):=by
 obtain ⟨v',w',hr,h2,h3,_⟩:=run_append_own (P:=P) w base t ty e i z size bytes ht hi hz hsize hby hzs hsz v n xs hown a m c news hl hnews h1 h63 hbytes hbase
 have hsm:n+m≤9223372036854775807:=by simp only [maxLen] at h63;omega
 refine ⟨v',w',hr,h2,h3,?_⟩
 have ho:=hown
 rcases hown.2 with ⟨rfl,rfl⟩ | ⟨g,cap,cur,rfl,_⟩
 · subst hsize
   subst hby
   have hx:=run_append_nil (P:=P) (w:=w) t ty e i z ht hi hz a m c news hl hnews hm (by omega) (by have hb:=hbytes;simp only [Nat.zero_add] at hb;omega)
   rw [hr] at hx
   injection hx with hx _
   right;rw [hx];rfl
 · by_cases hroom : n + m ≤ cap
   · obtain ⟨w2, hx, _⟩ := run_append_fits (P := P) w base t ty e i size ht hi hsize g n cap xs ho a m c news hl hnews h1 hroom
     rw [hr] at hx
     injection hx with hx _
     left;rw [hx];rfl
   · subst hsize
     subst hby
     have holds:∀ j u,xs[j]?=some u→w.cell? ((⟨g,0,none⟩:Addr).add j)=some u:=ho.cells (g:=g) rfl
     have hx:=run_append_grow (P:=P) (w:=w) t ty e i z ht hi hz ⟨g,0,none⟩ n cap xs ho.1 holds a m c news hl hnews (by omega) (by omega) (growslice_fits (by omega) hbytes)
     rw [hr] at hx
     injection hx with hx _
     right;rw [hx];rfl
theorem wpListIn_append_new {F:Fence} {n:Nat} {P:Program} (w:World) {ops:Array Oper} {rest:List Oper} {o:Oper} {a:Act} {Q:Exit→Act→World→Prop}
 (hg:o.guard=none) (s x:Operand) (t:TypeId) (hop:o.op=Op.call { callee:=Callee.builtin Builtin.append,args:=#[s,x],argTypes:=#[t,t] })
 (base:Nat) (e:TypeId) (i:TypeInfo) (z:Value) (size bytes:Nat) (h1:P.underlying t=some (.slice e)) (h2:P.info? e=some i) (h3:i.zero=some z) (h4:i.size=size) (h5:i.bytes=bytes) (h6:z.cells.size=size) (h7:0<size)
 (v:Value) (k:Nat) (xs:List Value) (hs:a.eval s=v) (hown:w.ownsRow base e size v k xs) (ad:Addr) (m c:Nat) (news:List Value) (hx:a.eval x=.slice (some ad) m c) (hn:news.length=m*size)
 (hc:∀ j u,news[j]?=some u→w.cell? (ad.add j)=some u) (h1c:∀ u∈news,u.oneCell' = true) (b1:k+m≤maxLen) (b2:(k+m)*bytes≤140737488355328) (b3:base≤w.heap.size) (b4:0<m)
 (hK:∀ v' w',w'.ownsRow base e size v' (k+m) (xs ++ news)→w.grownBy w' v.ownBlock→(v'.ownBlock=v.ownBlock∨v'.ownBlock=some w.heap.size)→wpListIn F n P ops Q rest (a.put o.dst v') w') :
 wpListIn F n P ops Q (o :: rest) a w:=by
 obtain ⟨v',w',hr,r1,r2,r3⟩:=run_append_new (P:=P) w base t o.type e i z size bytes h1 h2 h3 h4 h5 h6 h7 v k xs hown ad m c news hn hc h1c b1 b2 b3 b4
 refine wpListIn_plain hg fun K hK' => ?_
 unfold Oper.wpIn
 refine ⟨by simp [Oper.about,hop,resolve,Target.leads,Sem.run_pure],?_⟩
 rw [Oper.semAt_plain F _ _ (by rw [hop];intro c hc';cases hc')]
 simp [execOp,hop,resolve,invoke,builtin,hs,hx,hr,Result.andThen]
 exact hK' _ _ (hK v' w' r1 r2 r3)
theorem wpList_append_new {P:Program} (w:World) {ops:Array Oper} {rest:List Oper} {o:Oper} {a:Act} {Q:Exit→Act→World→Prop}
 (hg:o.guard=none) (s x:Operand) (t:TypeId) (hop:o.op=Op.call { callee:=Callee.builtin Builtin.append,args:=#[s,x],argTypes:=#[t,t] })
 (base:Nat) (e:TypeId) (i:TypeInfo) (z:Value) (size bytes:Nat) (h1:P.underlying t=some (.slice e)) (h2:P.info? e=some i) (h3:i.zero=some z) (h4:i.size=size) (h5:i.bytes=bytes) (h6:z.cells.size=size) (h7:0<size)
 (v:Value) (k:Nat) (xs:List Value) (hs:a.eval s=v) (hown:w.ownsRow base e size v k xs) (ad:Addr) (m c:Nat) (news:List Value) (hx:a.eval x=.slice (some ad) m c) (hn:news.length=m*size)
 (hc:∀ j u,news[j]?=some u→w.cell? (ad.add j)=some u) (h1c:∀ u∈news,u.oneCell' = true) (b1:k+m≤maxLen) (b2:(k+m)*bytes≤140737488355328) (b3:base≤w.heap.size) (b4:0<m)
 (hK:∀ v' w',w'.ownsRow base e size v' (k+m) (xs ++ news)→w.grownBy w' v.ownBlock→(v'.ownBlock=v.ownBlock∨v'.ownBlock=some w.heap.size)→wpList P ops Q rest (a.put o.dst v') w') :
 wpList P ops Q (o :: rest) a w:=by
 obtain ⟨v',w',hr,r1,r2,r3⟩:=run_append_new (P:=P) w base t o.type e i z size bytes h1 h2 h3 h4 h5 h6 h7 v k xs hown ad m c news hn hc h1c b1 b2 b3 b4
 refine wpList_plain hg fun K hK' => ?_
 unfold Oper.wp execOp
 simp only [hop,resolve,invoke,builtin,Sem.run_bind,Sem.run_pure,Result.andThen_ok,List.map_toArray,List.map_cons,List.map_nil,hs,hx,hr]
 exact hK' _ _ (hK v' w' r1 r2 r3)
end Go.Proofs.YteocjaihaegmoaaGreatDoor
