/- Parts of the proof: H1, H2, H3. -/
import Derived.Test.YteocjaihaegmoaaGreatDoorWAB
import Derived.Test.YteocjaihaegmoaaGreatDoorWAC
import Derived.Test.YteocjaihaegmoaaGreatDoorWAD
import Derived.Test.YteocjaihaegmoaaGreatDoorWAE
set_option linter.unusedVariables false
set_option maxHeartbeats 16000000
set_option maxRecDepth 100000
namespace Go.Proofs.YteocjaihaegmoaaGreatDoor
open Go Go.RowKit
def vHead (n:Nat→Int):Bool:=!(decide (9≤n 0) || (decide (1<n 78) || (decide (n 83 < -1) || decide (64≤n 83))))
def vMan (n:Nat→Int) (s:Nat):Bool:=(n (1+s)==0) || !(kndI (n (1+s))==0)
def vFile (n:Nat→Int) (c s:Nat):Bool:=!(decide (n (79+c*2+s) < -1) || decide (7<n (79+c*2+s)))
def vChk (n:Nat→Int) (c:Nat):Bool:=!(decide (3<n (84+c)) || (decide (0<n (84+c))&&!(n 0==5)))
def vPlain (n:Nat→Int):Bool:=vHead n&&((List.range 64).all (vMan n)&&(List.range 2).all (fun c=>(List.range 2).all (vFile n c)&&vChk n c))
theorem vPlain_iff (n:Nat→Int):vPlain n=true↔vHead n=true∧(∀ s,s<64→vMan n s=true)∧∀ c,c<2→(∀ s,s<2→vFile n c s=true)∧vChk n c=true:=by
 unfold vPlain
 simp only [Bool.and_eq_true,List.all_eq_true,List.mem_range]
theorem vPlain_no {n:Nat→Int} (h:vHead n=false∨(∃ s,s<64∧vMan n s=false)∨∃ c,c<2∧((∃ s,s<2∧vFile n c s=false)∨vChk n c=false)):vPlain n=false:=by
 cases hp:vPlain n with
 | false=>rfl
 | true =>
   obtain ⟨h1,h2,h3⟩:=(vPlain_iff n).1 hp
   rcases h with h | ⟨s,hs,h⟩ | ⟨c,hc,⟨s,hs,h⟩ | h⟩
   · rw [h1] at h;cases h
   · rw [h2 s hs] at h;cases h
   · rw [(h3 c hc).1 s hs] at h;cases h
   · rw [(h3 c hc).2] at h;cases h
def vClocks (n:Nat→Int):Bool:=decide (0≤n 86)&&decide (n 86≤10000)&&decide (1≤n 87)&&decide (n 87≤10000)
def vCount (n:Nat→Int) (c k:Int):Nat:=cntP (fun s=>n (1+s)==makeI c k) 64
def vKing (n:Nat→Int) (c:Nat):Bool:=if royI (n 0).toNat c=false then vCount n c 6==0 else (vCount n c 6==1) || ((vCount n c 6==0)&&(n 0==3)&&((c:Int)==n 78))
def vKings (n:Nat→Int):Bool:=(n 0==4) || (vKing n 0&&vKing n 1)
def vPawn (n:Nat→Int) (s:Nat):Bool:=!(kndI (n (1+s))==1) || (pawB (n 0).toNat&&((decide (8≤s)&&decide (s≤55)) || ((n 0==7)&&(n (1+s)==1)&&decide (s<8))))
def vPawns (n:Nat→Int):Bool:=(List.range 64).all (vPawn n)
def vMarks (n:Nat→Int) (s:Nat):Bool:=!(hasB (BitVec.ofInt 64 (n 65)) s) || (decide (2≤kndI (n (1+s)))&&decide (kndI (n (1+s))≤5))
def pockI (n:Nat→Int):Nat→Int
 | 0=>0
 | k+1=>pockI n k+n (66+k)
def vMen (n:Nat→Int):Int:=(cntP (fun s=>!(n (1+s)==0)) 64:Int)+pockI n 12
def vPockets (n:Nat→Int):Bool :=
 if pocB (n 0).toNat=false then (List.range 12).all (fun k=>n (66+k)==0)&&(n 65==0)
 else (List.range 64).all (vMarks n)&&((n 66==0)&&((n 72==0)&&decide (vMen n≤32)))
def vKingAt (n:Nat→Int) (c:Nat):Int:=firstB (ofN n c 6)
def vRight (n:Nat→Int) (c side:Nat):Bool :=
 decide (n (79+c*2+side)<0) ||
 (casB (n 0).toNat && !(decide (vKingAt n c < 56 * c) || decide (56 * c + 7 < vKingAt n c)) && (n (1 + (56 * (c : Int) + n (79 + c * 2 + side)).toNat) == makeI c 4) &&
  ((n 0==1) || ((vKingAt n c==56*c+4)&&(n (79+c*2+side)==7 - 7*side))) &&
  (if side=0 then decide (vKingAt n c - 56*c<n (79+c*2+side)) else decide (n (79+c*2+side)<vKingAt n c - 56*c)))
def vRooks (n:Nat→Int):Bool:=vRight n 0 0&&vRight n 0 1&&vRight n 1 0&&vRight n 1 1
/-- The block of what is asked. -/
def AskAt (w:World) (g:Nat) (n:Nat→Int):Prop:=w.heap[g]?=some (.cells (posA n) 77 (0,0))
def IsAsk (w:World) (g:Nat):Prop:=∃ n,AskAt w g n
theorem AskAt.lt {w:World} {g:Nat} {n:Nat→Int} (h:AskAt w g n):g<w.heap.size:=(Array.getElem?_eq_some_iff.1 h).1
theorem AskAt.cell {w:World} {g:Nat} {n:Nat→Int} (h:AskAt w g n) (i:Nat) (hi:i<88):w.cell? ⟨g,i,none⟩=some (.int (kindAt i) (n i)):=by
 rw [cell_of_row w g i _ _ _ h,posA_get n i hi];rfl
theorem AskAt.board {w:World} {g:Nat} {n:Nat→Int} (h:AskAt w g n) (i:Nat) (hi:i≤64):w.cell? ⟨g,i,none⟩=some (.int .u8 (n i)):=by
 rw [h.cell i (by omega),kB hi]
theorem AskAt.below {w w' : World} {g B:Nat} {n:Nat→Int} (h:AskAt w g n) (hb:Below B w w') (hg:g<B):AskAt w' g n:=(hb.block g hg).trans h
theorem AskAt.range {w:World} {g:Nat} {n:Nat→Int} (h:AskAt w g n) (o k:Nat) (hk:o+k≤88):w.rangeAt g o (rowN n o k):=by
 intro j v hv
 unfold rowN at hv
 have hj:j<k:=by
  have:=(List.getElem?_eq_some_iff.1 hv).1
  simpa using this
 rw [List.getElem?_map,List.getElem?_range hj] at hv
 cases hv
 exact h.cell (o+j) (by omega)
theorem AskAt.posOf {w:World} {g:Nat} {n:Nat→Int} (h:AskAt w g n):posOf w g=cut n:=by
 funext i
 unfold Proofs.YteocjaihaegmoaaGreatDoor.posOf cut
 by_cases hi:i<88
 · rw [if_pos hi,if_pos hi,h.cell i hi]
 · rw [if_neg hi,if_neg hi]
theorem AskAt.rules {w:World} {g:Nat} {n:Nat→Int} (h:AskAt w g n):IsAsk w g∧rowOf w g=posA n:=⟨⟨n,h⟩,by unfold rowOf;rw [h.posOf,posA_cut]⟩
theorem AskAt.new (w:World) (n:Nat→Int):AskAt (w.alloc (.cells (posA n) 77)) w.heap.size n:=heap_alloc_last w _
theorem ask1 (w:World) (n:Nat→Int) (X:World) (h:w.alloc (.cells (posA n) 77)=X):AskAt X w.heap.size n∧Below w.heap.size w X:=by
 subst h
 exact ⟨AskAt.new w n,(Below.refl _ _).alloc lR _⟩
theorem sizeAsk:(Tryz.prog.info? 77).map (·.size)=some 88:=by kernel_rfl
@[go_sem] theorem run_loadAskP (w : World) (g : Nat) (h : IsAsk w g) : (posLoad (.pointer (some ⟨g, 0, none⟩))).run Tryz.prog w = .ok (.agg (rowOf w g)) w := by
  obtain ⟨n,hn⟩:=h
  rw [hn.rules.2]
  unfold posLoad
  simp only [Instr.loadAt,Instr.sureAddr,Sem.run_bind,Sem.run_pure,Result.andThen_ok]
  exact run_loadVar_row w g _ _ (posA n) _ _ hn Tryz.underlying31 rfl (by rw [posA_size];exact sizePos)
def askLoad (v:Value):Sem Value:=Instr.loadAt 77 v
@[go_sem ↓] theorem loadAt_ask (v : Value) : Instr.loadAt 77 v = askLoad v := rfl
@[go_sem] theorem run_loadAsk (w : World) (g : Nat) (h : IsAsk w g) : (askLoad (.pointer (some ⟨g, 0, none⟩))).run Tryz.prog w = .ok (.agg (rowOf w g)) w := by
  obtain ⟨n,hn⟩:=h
  rw [hn.rules.2]
  unfold askLoad
  simp only [Instr.loadAt,Instr.sureAddr,Sem.run_bind,Sem.run_pure,Result.andThen_ok]
  exact run_loadVar_row w g _ _ (posA n) _ _ hn Tryz.underlying77 rfl (by rw [posA_size];exact sizeAsk)
def askBuild (parts:Array (Nat × Value)):Sem Value:=Instr.build 77 parts
@[go_sem ↓] theorem build_ask (parts : Array (Nat × Value)) : Instr.build 77 parts = askBuild parts := rfl
theorem askBuilt (n:Nat→Int):Program.built Tryz.prog 77 [(0,.agg (posA n))]=some (posA n):=by kernel_rfl
@[go_sem] theorem run_askBuild (w : World) (n : Nat → Int) : (askBuild #[(0, .agg (posA n))]).run Tryz.prog w = .ok (.agg (posA n)) w :=
  run_build w _ _ _ (askBuilt n)
theorem vclocks_any (n:Nat→Int) (hn:PosOk n) (w:World):Calls Tryz.prog 112 #[.agg (posA n)] w fun e w' => e = .returned (.bool (vClocks n))∧Below w.heap.size w w' := by
 obtain ⟨X,hX⟩:∃ X,w.alloc (.cells (posA n) 77)=X:=⟨_,rfl⟩
 obtain ⟨p0,hb⟩:=ask1 w n X hX
 have c86:X.cell? ⟨w.heap.size,86,none⟩=some (.int .i64 (n 86)):=p0.cell 86 (by decide)
 have c87:X.cell? ⟨w.heap.size,87,none⟩=some (.int .i64 (n 87)):=p0.cell 87 (by decide)
 have HX:=hI hX
 have HC:=hI (show vClocks n=(decide (0≤n 86)&&decide (n 86≤10000)&&decide (1≤n 87)&&decide (n 87≤10000)) from rfl)
 clear hX p0
 generalize n 86=a at *
 generalize n 87=b at *
 cases e1:decide (0≤a) <;> cases e2:decide (a≤10000) <;> cases e3:decide (1≤b)
 all_goals
  go_enter Tryz.func112,Tryz.ntmps112
  go_wp2_with (rw [HX.out])
  go_ret
  exact ⟨rB (by rw [HC.out,e1,e2,e3];simp),hb⟩
theorem kind_rook {c s:Nat} (hc:c<2) (hs:s<2):kindAt (79+c*2+s)=.i8:=by
 unfold kindAt
 rw [if_neg (by omega),if_neg (by omega),if_neg (by omega),if_pos (by omega)]
theorem kind_chk {c:Nat} (hc:c<2):kindAt (84+c)=.u8:=by
 unfold kindAt
 rw [if_neg (by omega),if_neg (by omega),if_neg (by omega),if_neg (by omega),if_pos (by omega)]
theorem size_rooks (n:Nat→Int) (o:Nat):(Tryz.prog.info? 27).map (·.size)=some (rowN n o 2).length:=by
 unfold rowN
 rw [List.length_map,List.length_range];kernel_rfl
theorem index_rooks (n:Nat→Int) {c s:Nat} (hc:c<2) (hs:s<2) (w:World):(Instr.index 27 (.agg (rowN n (79+c*2) 2).toArray) (.int .i64 (s:Int))).run Tryz.prog w=.ok (.int .i8 (n (79+c*2+s))) w:=by
 have hcc:(rowN n (79+c*2) 2)[s]?=some (.int .i8 (n (79+c*2+s))):=by
  unfold rowN
  rw [List.getElem?_map,List.getElem?_range hs]
  show some (cellP n (79+c*2+s))=_
  unfold cellP
  rw [kind_rook hc hs]
 simp [Instr.index,part,go_sem,hcc]
 intro h;omega
theorem vplain_any (n:Nat→Int) (hn:PosOk n) (w:World):Calls Tryz.prog 111 #[.agg (posA n)] w fun e w' => e = .returned (.bool (vPlain n))∧Below w.heap.size w w' := by
 obtain ⟨X,hX⟩:∃ X,w.alloc (.cells (posA n) 77)=X:=⟨_,rfl⟩
 obtain ⟨p0,hb⟩:=ask1 w n X hX
 have c0:X.cell? ⟨w.heap.size,0,none⟩=some (.int .u8 (n 0)):=p0.board 0 (by decide)
 have c78:X.cell? ⟨w.heap.size,78,none⟩=some (.int .u8 (n 78)):=p0.cell 78 (by decide)
 have c83:X.cell? ⟨w.heap.size,83,none⟩=some (.int .i8 (n 83)):=p0.cell 83 (by decide)
 have HX:=hI hX
 have HP:=hI p0
 have HNO:=hI (@vPlain_no n)
 have HYES:=hI (vPlain_iff n).2
 have HH:=hI (show vHead n=!(decide (9≤n 0) || (decide (1<n 78) || (decide (n 83 < -1) || decide (64≤n 83)))) from rfl)
 have HB:=hI hb
 clear hX p0 hb
 obtain ⟨v,hv⟩:∃ v,n 0=v:=⟨_,rfl⟩
 obtain ⟨t,ht⟩:∃ t,n 78=t:=⟨_,rfl⟩
 obtain ⟨q,hq⟩:∃ q,n 83=q:=⟨_,rfl⟩
 have HV:=hI hv
 rw [hv] at HH c0
 rw [ht] at HH c78
 rw [hq] at HH c83
 clear hv ht hq
 by_cases hbad:(decide (9≤v) || (decide (1<t) || (decide (q < -1) || decide (64≤q))))=true
 case pos =>
  have HN:=hI (HNO.out (.inl (HH.out.trans (by rw [hbad];rfl))))
  rcases (show decide (9≤v)=true∨(decide (9≤v)=false∧decide (1<t)=true)∨(decide (9≤v)=false∧decide (1<t)=false∧decide (q < -1)=true)∨(decide (9≤v)=false∧decide (1<t)=false∧decide (q < -1)=false∧decide (64≤q)=true) by
   revert hbad
   cases decide (9≤v) <;> cases decide (1<t) <;> cases decide (q < -1) <;> cases decide (64≤q) <;> simp) with e1 | ⟨e1,e2⟩ | ⟨e1,e2,e3⟩ | ⟨e1,e2,e3,e4⟩
  all_goals
   clear hbad
   go_enter Tryz.func111,Tryz.ntmps111
   go_wp2_with (rw [HX.out])
   go_ret
   exact ⟨rB HN.out.symm,HB.out⟩
 case neg =>
  rw [Bool.not_eq_true] at hbad
  have HHD:=hI (HH.out.trans (by rw [hbad]))
  obtain ⟨e1,e2,e3,e4⟩:decide (9≤v)=false∧decide (1<t)=false∧decide (q < -1)=false∧decide (64≤q)=false:=by
   revert hbad
   cases decide (9≤v) <;> cases decide (1<t) <;> cases decide (q < -1) <;> cases decide (64≤q) <;> simp
  clear hbad
  go_enter Tryz.func111,Tryz.ntmps111
  go_wp2_with (first | rw [HX.out] | (refine wpList_load_mid (by rfl) 22 _ rfl w.heap.size 1 rfl (rowN n 1 64) _ (HP.out.range 1 64 (by decide)) Tryz.underlying22 rfl (size_board n) ?_))
  go_loopw [34] (fun i wr=>∃ k:Nat,k≤64∧i=.int .i64 k∧(∀ s:Nat,s<k→vMan n s=true)∧Below X.heap.size X wr) (fun i _=>64 - (intOf i).toNat)
  case atStart=>exact ⟨0,by omega,rfl,fun s hs=>absurd hs (Nat.not_lt_zero s),Below.refl _ _⟩
  case round =>
   obtain ⟨k,hk,rfl,hall,hr⟩:=hrel
   have HR:=hI hr
   have HALL:=hI hall
   clear hall
   by_cases hlt:k<64
   · have ix := index_board n k hlt
     obtain ⟨v0,v1⟩:=hn.u8 (1+k) (by omega) (kB (by omega))
     have HM:=hI (show vMan n k=((n (1+k)==0) || !(kndI (n (1+k))==0)) from rfl)
     have HNX:=hI (fun h:vMan n k=true=>(show ∀ s:Nat,s<k+1→vMan n s=true from fun s hs=>by
      by_cases e:s=k
      · subst e;exact h
      · exact HALL.out s (by omega)))
     have HK:=hI (kind_any _ v0 v1 wr)
     have HMN:=hI (fun h:vMan n k=false=>HNO.out (.inr (.inl ⟨k,hlt,h⟩)))
     generalize n (1+k)=x at *
     generalize kndI x=y at *
     clear hr v0 v1
     cases g1:(x==0)
     · have g2 : (x != 0) = true := by rw [bne, g1]; rfl
       cases g3:(y==0)
       · have HM2 := hideIt (HNX.out (HM.out.trans (by rw [g1, g3]; rfl)))
         go_wp2_with (refine HK.out.mono ?_;rintro e w2 ⟨rfl,rfl⟩)
         go_roundw
         case rel=>exact ⟨k+1,by omega,by go_num,HM2.out,HR.out⟩
         case measure=>simp [intOf];omega
       · have HM2 := hideIt (HMN.out (HM.out.trans (by rw [g1, g3]; rfl)))
         go_wp2_with (refine HK.out.mono ?_;rintro e w2 ⟨rfl,rfl⟩)
         go_ret
         exact ⟨rB HM2.out.symm,HB.out.trans (HR.out.mono HB.out.size)⟩
     · have g2 : (x != 0) = false := by rw [bne, g1]; rfl
       have HM2:=hI (HNX.out (HM.out.trans (by rw [g1];rfl)))
       go_wp2
       go_roundw
       case rel=>exact ⟨k+1,by omega,by go_num,HM2.out,HR.out⟩
       case measure=>simp [intOf];omega
   · obtain rfl : k = 64 := by omega
     clear hr
     go_wp2
     go_loopw [45] (fun i wr=>∃ c:Nat,c≤2∧i=.int .i64 c∧(∀ d:Nat,d<c→(∀ s,s<2→vFile n d s=true)∧vChk n d=true)∧Below X.heap.size X wr) (fun i _=>2 - (intOf i).toNat)
     case atStart=>exact ⟨0,by omega,rfl,fun s hs=>absurd hs (Nat.not_lt_zero s),HR.out⟩
     case round =>
      obtain ⟨c,hc,rfl,hall,hr⟩:=hrel
      have HR:=hI hr
      have HAL2:=hI hall
      clear hall
      by_cases hlt:c<2
      · have HPW := hideIt (HP.out.below hr HP.out.lt)
        clear hr
        go_wp2_with (refine wpList_load_mid (by rfl) 27 _ rfl w.heap.size (79+c*2) rfl (rowN n (79+c*2) 2) _ (HPW.out.range (79+c*2) 2 (by omega)) Tryz.underlying27 rfl (size_rooks n _) ?_)
        go_loopw [53] (fun i wr=>∃ s:Nat,s≤2∧i=.int .i64 s∧(∀ d:Nat,d<s→vFile n c d=true)∧Below X.heap.size X wr) (fun i _=>2 - (intOf i).toNat)
        case atStart=>exact ⟨0,by omega,rfl,fun s hs=>absurd hs (Nat.not_lt_zero s),HR.out⟩
        case round =>
         obtain ⟨s,hs,rfl,hall,hr⟩:=hrel
         have HR:=hI hr
         have HAL3:=hI hall
         clear hall hr
         by_cases hls:s<2
         · have ix := fun w => index_rooks n hlt hls w
           have HM:=hI (show vFile n c s=!(decide (n (79+c*2+s) < -1) || decide (7<n (79+c*2+s))) from rfl)
           have HNX:=hI (fun h:vFile n c s=true=>(show ∀ d:Nat,d<s+1→vFile n c d=true from fun d hd=>by
            by_cases e:d=s
            · subst e;exact h
            · exact HAL3.out d (by omega)))
           have HMN:=hI (fun h:vFile n c s=false=>HNO.out (.inr (.inr ⟨c,hlt,.inl ⟨s,hls,h⟩⟩)))
           generalize n (79+c*2+s)=x at *
           cases g1:decide (x < -1)
           · cases g2 : decide (7 < x)
             · have HM2 := hideIt (HNX.out (HM.out.trans (by rw [g1, g2]; rfl)))
               go_wp2
               go_roundw
               case rel=>exact ⟨s+1,by omega,by go_num,HM2.out,HR.out⟩
               case measure=>simp [intOf];omega
             · have HM2 := hideIt (HMN.out (HM.out.trans (by rw [g1, g2]; rfl)))
               go_wp2
               go_ret
               exact ⟨rB HM2.out.symm,HB.out.trans (HR.out.mono HB.out.size)⟩
           · have HM2 := hideIt (HMN.out (HM.out.trans (by rw [g1]; rfl)))
             go_wp2
             go_ret
             exact ⟨rB HM2.out.symm,HB.out.trans (HR.out.mono HB.out.size)⟩
         · obtain rfl : s = 2 := by omega
           have HPV:=HP.out.below HR.out HP.out.lt
           have d0:wr.cell? ⟨w.heap.size,0,none⟩=some (.int .u8 v):=by rw [← HV.out];exact HPV.board 0 (by decide)
           have dc:wr.cell? ⟨w.heap.size,84+c,none⟩=some (.int .u8 (n (84+c))):=by rw [HPV.cell (84+c) (by omega),kind_chk hlt]
           clear HPV
           have HM:=hI (show vChk n c=!(decide (3<n (84+c)) || (decide (0<n (84+c))&&!(v==5))) by rw [← HV.out];rfl)
           have HNX:=hI (fun h:vChk n c=true=>(show ∀ d:Nat,d<c+1→(∀ s,s<2→vFile n d s=true)∧vChk n d=true from fun d hd=>by
            by_cases e:d=c
            · subst e;exact ⟨HAL3.out,h⟩
            · exact HAL2.out d (by omega)))
           have HMN:=hI (fun h:vChk n c=false=>HNO.out (.inr (.inr ⟨c,hlt,.inr h⟩)))
           generalize n (84+c)=x at *
           cases g1:decide (3<x)
           · cases g2 : decide (0 < x)
             · have HM2 := hideIt (HNX.out (HM.out.trans (by rw [g1, g2]; rfl)))
               go_wp2
               go_roundw
               case rel=>((repeat apply Exists.intro);exact ⟨⟨c+1,by omega,by go_num,HM2.out,HR.out⟩,rfl⟩)
               case measure=>simp [intOf];omega
             · cases g3 : (v == 5)
               · have g4 : (v != 5) = true := by rw [bne, g3]; rfl
                 have HM2:=hI (HMN.out (HM.out.trans (by rw [g1,g2,g3];rfl)))
                 go_wp2
                 go_ret
                 exact ⟨rB HM2.out.symm,HB.out.trans (HR.out.mono HB.out.size)⟩
               · have g4 : (v != 5) = false := by rw [bne, g3]; rfl
                 have HM2:=hI (HNX.out (HM.out.trans (by rw [g1,g2,g3];rfl)))
                 go_wp2
                 go_roundw
                 case rel=>((repeat apply Exists.intro);exact ⟨⟨c+1,by omega,by go_num,HM2.out,HR.out⟩,rfl⟩)
                 case measure=>simp [intOf];omega
           · have HM2 := hideIt (HMN.out (HM.out.trans (by rw [g1]; rfl)))
             go_wp2
             go_ret
             exact ⟨rB HM2.out.symm,HB.out.trans (HR.out.mono HB.out.size)⟩
      · obtain rfl : c = 2 := by omega
        have HY:=hI (HYES.out ⟨HHD.out,HALL.out,HAL2.out⟩)
        go_wp2
        go_ret
        exact ⟨rB HY.out.symm,HB.out.trans (hr.mono HB.out.size)⟩
theorem cntP_le (p:Nat→Bool):∀ j,cntP p j≤j
 | 0=>Nat.le_refl _
 | j + 1 => by
   have:=cntP_le p j
   show cntP p j+_≤_
   split <;> omega
theorem cntP_yes {p:Nat→Bool} {j:Nat} (h:p j=true):cntP p (j+1)=cntP p j+1:=by show _+ite _ _ _=_;rw [if_pos h]
theorem cntP_no {p:Nat→Bool} {j:Nat} (h:p j=false):cntP p (j+1)=cntP p j:=by show _+ite _ _ _=_;rw [h];rfl
theorem vcount_any (n:Nat→Int) (hn:PosOk n) (c k:Int) (c0:0≤c) (c1:c≤255) (k0:0≤k) (k1:k≤255) (w:World):Calls Tryz.prog 166 #[.agg (posA n),.int .u8 c,.int .u8 k] w fun e w' => e = .returned (.int .i64 (vCount n c k))∧Below w.heap.size w w' := by
 obtain ⟨X,hX⟩:∃ X,w.alloc (.cells (posA n) 77)=X:=⟨_,rfl⟩
 obtain ⟨p0,hb⟩:=ask1 w n X hX
 have HX:=hI hX
 have HP:=hI p0
 have HB:=hI hb
 have HM:=hI (fun w=>make_any c k c0 c1 k0 k1 w)
 clear hX p0 hb
 go_enter Tryz.func166,Tryz.ntmps166
 go_wp2_with (first | rw [HX.out] | (refine wpList_load_mid (by rfl) 22 _ rfl w.heap.size 1 rfl (rowN n 1 64) _ (HP.out.range 1 64 (by decide)) Tryz.underlying22 rfl (size_board n) ?_))
 go_loopw [7,13] (fun a i wr=>∃ j:Nat,j≤64∧i=.int .i64 j∧a=.int .i64 (cntP (fun s=>n (1+s)==makeI c k) j)∧Below X.heap.size X wr) (fun _ i _=>64 - (intOf i).toNat)
 case atStart=>exact ⟨0,by omega,rfl,rfl,Below.refl _ _⟩
 case round =>
  obtain ⟨j,hj,rfl,rfl,hr⟩:=hrel
  have HR:=hI hr
  clear hr
  by_cases hlt:j<64
  · have ix := fun w => index_board n j hlt w
    have HY:=hI (show (n (1+j)==makeI c k)=true→_ from @cntP_yes (fun s=>n (1+s)==makeI c k) j)
    have HN:=hI (show (n (1+j)==makeI c k)=false→_ from @cntP_no (fun s=>n (1+s)==makeI c k) j)
    have hle:=cntP_le (fun s=>n (1+s)==makeI c k) j
    generalize n (1+j)=x at *
    cases g:(x==makeI c k)
    · have H2 := hideIt (HN.out g)
      go_wp2_with (refine (HM.out _).mono ?_;rintro e w2 ⟨rfl,rfl⟩)
      go_roundw
      case rel=>exact ⟨j+1,by omega,by go_num,by rw [H2.out],HR.out⟩
      case measure=>simp [intOf];omega
    · have H2 := hideIt (HY.out g)
      go_wp2_with (refine (HM.out _).mono ?_;rintro e w2 ⟨rfl,rfl⟩)
      go_roundw
      case rel=>exact ⟨j+1,by omega,by go_num,by rw [H2.out];go_num,HR.out⟩
      case measure=>simp [intOf];omega
  · obtain rfl : j = 64 := by omega
    go_wp2
    go_ret
    exact ⟨rfl,HB.out.trans (HR.out.mono HB.out.size)⟩
theorem vKings_no {n:Nat→Int} (h4:(n 0==4)=false) {c:Nat} (hc:c<2) (h:vKing n c=false):vKings n=false:=by
 unfold vKings
 rw [h4,Bool.false_or]
 rcases (show c=0∨c=1 by omega) with rfl | rfl
 · rw [h];rfl
 · rw [h,Bool.and_false]
theorem vKings_yes {n:Nat→Int} (h:∀ c:Nat,c<2→vKing n c=true):vKings n=true:=by
 unfold vKings
 rw [h 0 (by decide),h 1 (by decide),Bool.and_true,Bool.or_true]
theorem vkings_any (n:Nat→Int) (hn:PosOk n) (w:World):Calls Tryz.prog 113 #[.agg (posA n)] w fun e w' => e = .returned (.bool (vKings n))∧Below w.heap.size w w' := by
 obtain ⟨X,hX⟩:∃ X,w.alloc (.cells (posA n) 77)=X:=⟨_,rfl⟩
 obtain ⟨p0,hb⟩:=ask1 w n X hX
 obtain ⟨v0,v1⟩:=hn.u8 0 (by decide) rfl
 obtain ⟨v,hv⟩:∃ v:Nat,n 0=v:=⟨(n 0).toNat,by omega⟩
 have hv1:v≤255:=by omega
 have HF:=hI (fun (U:World) (hU:Below X.heap.size X U)=>(show (U.cell? ⟨w.heap.size,0,none⟩=some (.int .u8 (v:Int))∧U.cell? ⟨w.heap.size,78,none⟩=some (.int .u8 (n 78)))∧(IsAsk U w.heap.size∧rowOf U w.heap.size=posA n) from
  (fun hh=>⟨⟨by rw [← hv];exact hh.board 0 (by decide),hh.cell 78 (by decide)⟩,hh.rules⟩) (p0.below hU p0.lt)))
 have HX:=hI hX
 have HB:=hI hb
 have HRO:=hI (fun (c:Nat) (hc:c<2) w=>vroyal_any v c hv1 (by omega) w)
 have HCN:=hI (fun (c:Nat) (hc:c<2) w=>vcount_any n hn (c:Int) 6 (by omega) (by omega) (by decide) (by decide) w)
 have HNO:=hI (@vKings_no n)
 have HYES:=hI (@vKings_yes n)
 have HK4:=hI (show (n 0==4)=true→vKings n=true from fun h=>by unfold vKings;rw [h];rfl)
 have HKI:=hI (fun c=>(show vKing n c=if royI v c=false then vCount n c 6==0 else (vCount n c 6==1) || ((vCount n c 6==0)&&((v:Int)==3)&&((c:Int)==n 78)) by unfold vKing;rw [hv];rfl))
 rw [hv] at HNO HK4
 generalize n 78=t at *
 have h0:=(HF.out X (Below.refl _ _)).1.1
 clear hX p0 hb hv v0
 cases g4:((v:Int)==4)
 · have HNO := hideIt (fun (c : Nat) (hc : c < 2) h => HNO.out g4 hc h)
   go_enter Tryz.func113,Tryz.ntmps113
   go_wp2_with (rw [HX.out])
   clear h0
   go_loopw [3] (fun i wr=>∃ c:Nat,c≤2∧i=.int .u8 c∧(∀ d:Nat,d<c→vKing n d=true)∧Below X.heap.size X wr) (fun i _=>2 - (intOf i).toNat)
   case atStart=>exact ⟨0,by omega,rfl,fun s hs=>absurd hs (Nat.not_lt_zero s),Below.refl _ _⟩
   case round =>
    obtain ⟨c,hc,rfl,hall,hr⟩:=hrel
    have HALL:=hI hall
    clear hall
    by_cases hlt:c<2
    · have HNX := hideIt (fun h : vKing n c = true => (show ∀ d : Nat, d < c + 1 → vKing n d = true from fun d hd => by
       by_cases e:d=c
       · subst e;exact h
       · exact HALL.out d (by omega)))
      have HMN:=hI (fun h:vKing n c=false=>HNO.out c hlt h)
      have HK:=hI (HKI.out c)
      have HR1:=hI (HRO.out c hlt)
      have HC1:=hI (HCN.out c hlt)
      have hle:vCount n c 6≤64:=cntP_le _ 64
      generalize vCount n c 6=x at *
      generalize royI v c=r at *
      obtain ⟨⟨c0,c78⟩,i0,r0⟩:=HF.out wr hr
      have HR:=hI hr
      clear hr
      have hc3:(c:Int)+1≤255:=by omega
      rcases (show (vKing n c=true∧((r=false∧x=0)∨(r=true∧x=1)∨(r=true∧x=0∧((v:Int)==3)=true∧((c:Int)==t)=true))) ∨
       (vKing n c=false∧((r=false∧(x=1∨2≤x))∨(r=true∧2≤x)∨(r=true∧x=0∧((v:Int)==3)=false)∨(r=true∧x=0∧((v:Int)==3)=true∧((c:Int)==t)=false))) by
       have:=HK.out
       rw [this]
       rcases (show x=0∨x=1∨2≤x by omega) with rfl | rfl | hx
       · cases r <;> cases ((v:Int)==3) <;> cases ((c:Int)==t) <;> simp
       · cases r <;> cases ((v:Int)==3) <;> cases ((c:Int)==t) <;> simp
       · have hx0 : (x == 0) = false := beq_eq_false_iff_ne.2 (by omega)
         have hx1:(x==1)=false:=beq_eq_false_iff_ne.2 (by omega)
         rw [hx0,hx1]
         cases r <;> simp <;> omega) with ⟨hk,hw⟩ | ⟨hk,hw⟩
      · have HN2 := hideIt (HNX.out hk)
        clear hk
        rcases hw with ⟨rfl,rfl⟩ | ⟨rfl,rfl⟩ | ⟨rfl,rfl,e3,e4⟩
        all_goals
         (try have e5:((v:Int) != 3)=false:=congrArg not e3)
         (try have e6:((c:Int) != t)=false:=congrArg not e4)
         go_wp2_with (first | (go_at_call 166;refine (HC1.out _).mono ?_;rintro e U ⟨rfl,h1⟩;have HR2:=hI (bl_then HR.out h1);clear c0 c78 i0 r0 h1;obtain ⟨⟨c0,c78⟩,i0,r0⟩:=HF.out _ HR2.out) | (go_at_call 66;refine (HR1.out _).mono ?_;rintro e U2 ⟨rfl,h1⟩;have HR3:=hI (bl_then HR2.out h1);clear c0 c78 i0 r0 h1;obtain ⟨⟨c0,c78⟩,i0,r0⟩:=HF.out _ HR3.out))
         go_roundw
         case rel=>exact ⟨c+1,by omega,by go_num,HN2.out,HR3.out⟩
         case measure=>simp [intOf];omega
      · have HN2 := hideIt (HMN.out hk)
        clear hk
        rcases hw with ⟨rfl,rfl | hx⟩ | ⟨rfl,hx⟩ | ⟨rfl,rfl,e3⟩ | ⟨rfl,rfl,e3,e4⟩
        all_goals
         (try have e5:((v:Int) != 3)=true:=congrArg not e3)
         (try have e5:((v:Int) != 3)=false:=congrArg not e3)
         (try have e6:((c:Int) != t)=true:=congrArg not e4)
         (try have q1:decide (x=0)=false:=decide_eq_false (by omega))
         (try have q2:decide (x=1)=false:=decide_eq_false (by omega))
         (try have q3:((x:Int)==1)=false:=beq_eq_false_iff_ne.2 (by omega))
         (try have q4:((x:Int) != 1)=true:=congrArg not q3)
         go_wp2_with (first | (go_at_call 166;refine (HC1.out _).mono ?_;rintro e U ⟨rfl,h1⟩;have HR2:=hI (bl_then HR.out h1);clear c0 c78 i0 r0 h1;obtain ⟨⟨c0,c78⟩,i0,r0⟩:=HF.out _ HR2.out) | (go_at_call 66;refine (HR1.out _).mono ?_;rintro e U2 ⟨rfl,h1⟩;have HR3:=hI (bl_then HR2.out h1);clear c0 c78 i0 r0 h1;obtain ⟨⟨c0,c78⟩,i0,r0⟩:=HF.out _ HR3.out))
         go_ret
         exact ⟨rB HN2.out.symm,HB.out.trans (HR3.out.mono HB.out.size)⟩
    · obtain rfl : c = 2 := by omega
      have HY:=hI (HYES.out HALL.out)
      go_wp2
      go_ret
      exact ⟨rB HY.out.symm,HB.out.trans (hr.mono HB.out.size)⟩
 · have HY := hideIt (HK4.out g4)
   go_enter Tryz.func113,Tryz.ntmps113
   go_wp2_with (rw [HX.out])
   go_ret
   exact ⟨rB HY.out.symm,HB.out⟩
theorem vPawns_no {n:Nat→Int} {s:Nat} (hs:s<64) (h:vPawn n s=false):vPawns n=false:=by
 cases e:vPawns n with
 | false=>rfl
 | true =>
   unfold vPawns at e
   rw [List.all_eq_true] at e
   rw [e s (List.mem_range.2 hs)] at h;cases h
theorem vPawns_yes {n:Nat→Int} (h:∀ s:Nat,s<64→vPawn n s=true):vPawns n=true:=by
 unfold vPawns
 rw [List.all_eq_true]
 exact fun s hs=>h s (List.mem_range.1 hs)
theorem vpawns_any' (n:Nat→Int) (hn:PosOk n) (w:World):Calls Tryz.prog 114 #[.agg (posA n)] w fun e w' => e = .returned (.bool (vPawns n))∧Below w.heap.size w w' := by
 obtain ⟨X,hX⟩:∃ X,w.alloc (.cells (posA n) 77)=X:=⟨_,rfl⟩
 obtain ⟨p0,hb⟩:=ask1 w n X hX
 obtain ⟨v0,v1⟩:=hn.u8 0 (by decide) rfl
 obtain ⟨v,hv⟩:∃ v:Nat,n 0=v:=⟨(n 0).toNat,by omega⟩
 have hv1:v≤255:=by omega
 have HX:=hI hX
 have HB:=hI hb
 have HP:=hI p0
 have HF:=hI (fun (U:World) (hU:Below X.heap.size X U)=>(show U.cell? ⟨w.heap.size,0,none⟩=some (.int .u8 (v:Int)) by rw [← hv];exact (p0.below hU p0.lt).board 0 (by decide)))
 have HPW:=hI (fun w=>vpawns_any v hv1 w)
 have HNO:=hI (fun (s:Nat) (hs:s<64) (h:vPawn n s=false)=>vPawns_no hs h)
 have HYES:=hI (fun (h:∀ s:Nat,s<64→vPawn n s=true)=>vPawns_yes h)
 have HW:=hI (fun s=>(show vPawn n s=(!(kndI (n (1+s))==1) || (pawB v&&((decide (8≤s)&&decide (s≤55)) || (((v:Int)==7)&&(n (1+s)==1)&&decide (s<8))))) by unfold vPawn;rw [hv];rfl))
 clear hX p0 hb hv v0
 go_enter Tryz.func114,Tryz.ntmps114
 go_wp2_with (first | rw [HX.out] | (refine wpList_load_mid (by rfl) 22 _ rfl w.heap.size 1 rfl (rowN n 1 64) _ (HP.out.range 1 64 (by decide)) Tryz.underlying22 rfl (size_board n) ?_))
 go_loopw [9] (fun i wr=>∃ j:Nat,j≤64∧i=.int .i64 j∧(∀ s:Nat,s<j→vPawn n s=true)∧Below X.heap.size X wr) (fun i _=>64 - (intOf i).toNat)
 case atStart=>exact ⟨0,by omega,rfl,fun s hs=>absurd hs (Nat.not_lt_zero s),Below.refl _ _⟩
 case round =>
  obtain ⟨j,hj,rfl,hall,hr⟩:=hrel
  have HALL:=hI hall
  clear hall
  by_cases hlt:j<64
  · have ix := fun w => index_board n j hlt w
    have HNX:=hI (fun h:vPawn n j=true=>(show ∀ d:Nat,d<j+1→vPawn n d=true from fun d hd=>by
     by_cases e:d=j
     · subst e;exact h
     · exact HALL.out d (by omega)))
    have HMN:=hI (fun h:vPawn n j=false=>HNO.out j hlt h)
    obtain ⟨x0,x1⟩:=hn.u8 (1+j) (by omega) (kB (by omega))
    have HK:=hI (kind_any _ x0 x1 wr)
    have c0:=HF.out wr hr
    have HR:=hI hr
    have HWJ:=HW.out j
    obtain ⟨res,hres⟩:∃ res,vPawn n j=res:=⟨_,rfl⟩
    rw [hres] at HNX HMN HWJ
    generalize n (1+j)=x at *
    generalize kndI x=y at *
    clear hr hres x0 x1
    have HWJ:=hI HWJ
    cases e1:(y==1)
    · have HN2 := hideIt (HNX.out (HWJ.out.trans (by rw [e1]; rfl)))
      have d1:(y != 1)=true:=congrArg not e1
      go_wp2_with (refine HK.out.mono ?_;rintro e w2 ⟨rfl,rfl⟩)
      go_roundw
      case rel=>exact ⟨j+1,by omega,by go_num,HN2.out,HR.out⟩
      case measure=>simp [intOf];omega
    · have d1 : (y != 1) = false := congrArg not e1
      obtain ⟨P,hP⟩:∃ P,pawB v=P:=⟨_,rfl⟩
      rw [hP] at HWJ HPW
      clear hP
      have HPV:=hI (HPW.out wr)
      rcases (show j<8∨(8≤j∧j≤55)∨55<j by omega) with hj1 | ⟨hj1,hj2⟩ | hj1
      all_goals
       (try have a1:decide (8≤j)=true:=decide_eq_true (by omega))
       (try have a1:decide (8≤j)=false:=decide_eq_false (by omega))
       (try have a2:decide (j≤55)=true:=decide_eq_true (by omega))
       (try have a2:decide (j≤55)=false:=decide_eq_false (by omega))
       (try have a3:decide (j<8)=true:=decide_eq_true (by omega))
       (try have a3:decide (j<8)=false:=decide_eq_false (by omega))
       rw [a1,a2,a3] at HWJ
       clear a1 a2
       (try have a4:decide ((j:Int)<8)=true:=decide_eq_true (by omega))
       (try have a4:decide ((j:Int)<8)=false:=decide_eq_false (by omega))
       (try have a5:decide (55<(j:Int))=true:=decide_eq_true (by omega))
       (try have a5:decide (55<(j:Int))=false:=decide_eq_false (by omega))
       cases P
       all_goals
        rcases (show ((v:Int)==7)=false∨(((v:Int)==7)=true∧(x==1)=false)∨(((v:Int)==7)=true∧(x==1)=true) by cases ((v:Int)==7) <;> cases (x==1) <;> simp) with b1 | ⟨b1,b2⟩ | ⟨b1,b2⟩
        all_goals
         first
         | have HN2 := hideIt (HNX.out (HWJ.out.trans (by (try rw [b1]); (try rw [b2]); rw [e1]; rfl)))
           clear hj
           go_wp2_with (first | (go_at_call 87;refine HK.out.mono ?_;rintro e w2 ⟨rfl,rfl⟩) | (go_at_call 167;refine HPV.out.mono ?_;rintro e U ⟨rfl,h1⟩;have HR2:=hI (bl_then HR.out h1);clear h1))
           go_roundw
           case rel=>exact ⟨j+1,by omega,by go_num,HN2.out,HR2.out⟩
           case measure=>simp [intOf];omega
         | have HN2 := hideIt (HMN.out (HWJ.out.trans (by (try rw [b1]); (try rw [b2]); rw [e1]; rfl)))
           go_wp2_with (first | (go_at_call 87;refine HK.out.mono ?_;rintro e w2 ⟨rfl,rfl⟩) | (go_at_call 167;refine HPV.out.mono ?_;rintro e U ⟨rfl,h1⟩;have HR2:=hI (bl_then HR.out h1);clear h1))
           go_ret
           exact ⟨rB HN2.out.symm,HB.out.trans (HR2.out.mono HB.out.size)⟩
  · obtain rfl : j = 64 := by omega
    have HY:=hI (HYES.out HALL.out)
    go_wp2
    go_ret
    exact ⟨rB HY.out.symm,HB.out.trans (hr.mono HB.out.size)⟩
end Go.Proofs.YteocjaihaegmoaaGreatDoor
