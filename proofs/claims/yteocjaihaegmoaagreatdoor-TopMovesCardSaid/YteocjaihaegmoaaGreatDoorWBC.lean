/- Parts of the proof: N1, N2. -/
import Derived.Test.YteocjaihaegmoaaGreatDoorWAU
import Derived.Test.YteocjaihaegmoaaGreatDoorWBA
import Derived.Test.YteocjaihaegmoaaGreatDoorWBB
set_option linter.unusedVariables false
namespace Go.Proofs.YteocjaihaegmoaaGreatDoor
open Go Go.RowKit
def thereN (n:Nat→Int):Bool:=decide (n 0<9)&&decide (n 78≤1)
/-- Castling. -/
def kGoal (side:Nat):Int:=if side=0 then 6 else 2
def rGoal (side:Nat):Int:=if side=0 then 5 else 3
def homeC (c:Int):Int:=56*c
def kSq (n:Nat→Int):Int:=firstB (ofN n (n 78) 6)
def rFile (n:Nat→Int) (side:Nat):Int:=n (79+2*(n 78).toNat+side)
def rSq (n:Nat→Int) (side:Nat):Int:=homeC (n 78)+rFile n side
def offN (n:Nat→Int) (k r:Int):Nat→Int:=upd (upd n (1+k.toNat) 0) (1+r.toNat) 0
def loI (a b:Int):Int:=if a≤b then a else b
def hiI (a b:Int):Int:=if a≤b then b else a
def fromTo (a b:Int):List Int:=(List.range (hiI a b - loI a b+1).toNat).map (fun j:Nat=>loI a b+(j:Int))
def safeB (n q:Nat→Int) (s:Int):Bool:=((n 0==3)&&!((kingB s&&&ofN n (1 - n 78) 6)==0#64)) || (byN q s (1 - n 78)==0#64)
def emptyB (q:Nat→Int) (s:Int):Bool:=!hasB (allN q) s
def kingOk (n:Nat→Int):Bool:=decide (0≤kSq n)&&(kSq n / 8==7*n 78)
def rookOk (n:Nat→Int) (side:Nat):Bool :=
 decide (0≤rFile n side)&&decide (rFile n side≤7)&&(n (1+(rSq n side).toNat)==8*n 78+4)&&(decide (kSq n<rSq n side)==(side==0))&&!(rSq n side==kSq n)
def wayOk (n:Nat→Int) (side:Nat):Bool :=
 (fromTo (kSq n) (homeC (n 78)+kGoal side)).all (emptyB (offN n (kSq n) (rSq n side))) &&
 (fromTo (rSq n side) (homeC (n 78)+rGoal side)).all (emptyB (offN n (kSq n) (rSq n side))) &&
 (fromTo (kSq n) (homeC (n 78)+kGoal side)).all (safeB n (offN n (kSq n) (rSq n side)))
def castB (n:Nat→Int) (side:Nat):Bool:=decide (n 78≤1)&&casB (n 0).toNat&&kingOk n&&rookOk n side&&wayOk n side
def castM (n:Nat→Int) (side:Nat):Mv:=⟨kSq n,rSq n side,0,0,true⟩
def castIf (n:Nat→Int) (side:Nat):List Mv:=if castB n side=true then [castM n side] else []
def castleL (n:Nat→Int):List Mv:=castIf n 1 ++ castIf n 0
/-- All moves. -/
def pseuL (n:Nat→Int):List Mv:=if thereN n=true then pseudoL n else []
def allL (n:Nat→Int):List Mv:=pseuL n ++ castleL n ++ dropL n (n 0).toNat (n 78).toNat
def takenP (n:Nat→Int) (m:Mv):Int:=if thereN n=true then takenN n m else -1
/-- The position behind a move, step by step. -/
def sideM (m:Mv):Nat:=if m.f<m.t then 0 else 1
def movK (n:Nat→Int) (m:Mv):Int:=if m.d≠0 then m.d else kndI (n (1+m.f.toNat))
def menA (n:Nat→Int) (m:Mv):Nat→Int :=
 upd (upd (upd (upd n (1+m.f.toNat) 0) (1+m.t.toNat) 0) (1+(homeC (n 78)+kGoal (sideM m)).toNat) (n (1+m.f.toNat))) (1+(homeC (n 78)+rGoal (sideM m)).toNat) (n (1+m.t.toNat))
def menB (n:Nat→Int) (m:Mv):Nat→Int:=upd (takN n (n 78).toNat m.d.toNat) (1+m.t.toNat) (8*n 78+m.d)
def menC0 (n:Nat→Int) (tk:Int):Nat→Int:=if 0≤tk then upd n (1+tk.toNat) 0 else n
def menC (n:Nat→Int) (m:Mv) (tk:Int):Nat→Int :=
 if m.p≠0 then upd (upd (upd (menC0 n tk) (1+m.f.toNat) 0) (1+m.t.toNat) (n (1+m.f.toNat))) (1+m.t.toNat) (8*n 78+m.p)
 else upd (upd (menC0 n tk) (1+m.f.toNat) 0) (1+m.t.toNat) (n (1+m.f.toNat))
def menN (n:Nat→Int) (m:Mv) (tk:Int):Nat→Int:=if m.c=true then menA n m else if m.d≠0 then menB n m else menC n m tk
def proB (n:Nat→Int):BitVec 64:=BitVec.ofInt 64 (n 65)
def tkK (n:Nat→Int) (tk:Int):Int:=if hasB (proB n) tk=true∧n (1+tk.toNat)≠0 then 1 else kndI (n (1+tk.toNat))
def pocC (n q:Nat→Int) (m:Mv):Nat→Int :=
 if hasB (proB n) m.t=true then upd q 65 (u ((proB n&&&~~~oneB m.t) ||| oneB (homeC (n 78)+rGoal (sideM m)))) else q
def marks0 (n:Nat→Int) (m:Mv) (tk:Int):BitVec 64:=(if 0≤tk then proB n&&&~~~oneB tk else proB n)&&&~~~oneB m.f
def marksB (n:Nat→Int) (m:Mv) (tk:Int):BitVec 64:=if m.p≠0∨hasB (proB n) m.f=true then marks0 n m tk ||| oneB m.t else marks0 n m tk
def pocT (n q:Nat→Int) (tk:Int):Nat→Int:=if 0≤tk then addN q (n 78).toNat (tkK n tk).toNat else q
def pocN (n q:Nat→Int) (m:Mv) (tk:Int):Nat→Int :=
 if n 0≠2∨m.d≠0 then q else if m.c=true then pocC n q m else upd (pocT n q tk) 65 (u (marksB n m tk))
def blownB (q:Nat→Int) (s:Int):BitVec 64:=((kingB s&&&allN q)&&&~~~ofN q 0 1&&&~~~ofN q 1 1) ||| oneB s
def wipeN (q:Nat→Int) (b:BitVec 64):Nat→Int:=fun i=>if 1≤i∧i≤64∧hasB b ((i:Int) - 1)=true then 0 else q i
def blowN (n q:Nat→Int) (m:Mv) (tk:Int):Nat→Int:=if n 0=3∧0≤tk then wipeN q (blownB q m.t) else q
def rig0 (n q:Nat→Int) (m:Mv):Nat→Int:=if movK n m=6∧m.d=0 then upd (upd q (79+2*(n 78).toNat) (-1)) (80+2*(n 78).toNat) (-1) else q
def goneB (q:Nat→Int) (m:Mv) (tk:Int) (c:Nat) (s:Int):Bool :=
 (tk==s) || ((m.d==0)&&(m.f==s)) || decide (firstB (ofN q c 6)<0) || !(firstB (ofN q c 6) / 8==7*(c:Int)) || !(q (1+s.toNat)==8*(c:Int)+4)
def rig1 (q:Nat→Int) (m:Mv) (tk:Int) (c side:Nat):Nat→Int :=
 if 0≤q (79+2*c+side)∧q (79+2*c+side)≤7∧goneB q m tk c (56*(c:Int)+q (79+2*c+side))=true then upd q (79+2*c+side) (-1) else q
def rigN (n q:Nat→Int) (m:Mv) (tk:Int):Nat→Int:=rig1 (rig1 (rig1 (rig1 (rig0 n q m) m tk 0 0) m tk 0 1) m tk 1 0) m tk 1 1
def passI (n q:Nat→Int) (m:Mv):Int :=
 if movK n m≠1∨m.d≠0∨(m.t - m.f≠16∧m.f - m.t≠16) then -1 else
 if m.f / 8≠7*n 78+1∧m.f / 8≠7*n 78 - 1 then -1 else
 if (pawnB (n 78) ((m.f+m.t) / 2)&&&ofN q (1 - n 78) 1==0#64)=true then -1 else (m.f+m.t) / 2
def moreI (x:Int):Int:=if 10000≤x then x else x+1
def halfI (n:Nat→Int) (m:Mv) (tk:Int):Int:=if movK n m=1∨0≤tk then 0 else moreI (n 86)
def fullI (n:Nat→Int):Int:=if n 78=1 then moreI (n 87) else n 87
def clkN (n q:Nat→Int) (m:Mv) (tk:Int):Nat→Int:=upd (upd q 86 (halfI n m tk)) 87 (fullI n)
def turnN (n q:Nat→Int):Nat→Int :=
 if n 0=5∧q (84+(n 78).toNat)<3∧checkN (upd q 78 (1 - n 78)) (1 - n 78)=true then upd (upd q 78 (1 - n 78)) (84+(n 78).toNat) (q (84+(n 78).toNat)+1) else upd q 78 (1 - n 78)
def mov3 (n:Nat→Int) (m:Mv) (tk:Int):Nat→Int:=blowN n (pocN n (menN n m tk) m tk) m tk
def mov5 (n:Nat→Int) (m:Mv) (tk:Int):Nat→Int:=upd (rigN n (mov3 n m tk) m tk) 83 (passI n (rigN n (mov3 n m tk) m tk) m)
def movT (n:Nat→Int) (m:Mv) (tk:Int):Nat→Int:=turnN n (clkN n (mov5 n m tk) m tk)
def madeN (n:Nat→Int) (m:Mv):Nat→Int:=movT n m (takenP n m)
/-- The moves that may be. -/
def hasK (n:Nat→Int) (c:Int):Bool:=decide (0≤firstB (ofN n c 6))
def leavesB (n q:Nat→Int):Bool :=
 (!royC n (n 78) || (hasK q (n 78)&&!(checkN q (n 78)&&(!(n 0==3) || hasK q (1 - n 78)))))&&(!(n 0==8) || !checkN q (1 - n 78))
def wellB (n:Nat→Int) (m:Mv):Bool:=leavesB n (madeN n m)
def takesB (n:Nat→Int) (m:Mv):Bool:=decide (0≤takenP n m)
def would0 (n:Nat→Int):List Mv:=(allL n).filter (wellB n)
def wouldL (n:Nat→Int):List Mv :=
 if thereN n=false∨(royC n (n 78)=true∧hasK n (n 78)=false) then [] else
 if n 0=4∧(would0 n).any (takesB n)=true then (would0 n).filter (takesB n) else would0 n
theorem upd_ok {n:Nat→Int} (hn:PosOk n) {i:Nat} {x:Int} (h:(Lit.int (kindAt i) x).wf=true):PosOk (upd n i x):=by
 intro j hj
 unfold upd
 split
 · rename_i e;rw [e];exact h
 · exact hn j hj
theorem wf8 {x:Int} (h0:0≤x) (h1:x≤255):(Lit.int .u8 x).wf=true:=by
 simp [Lit.wf]
 have e1:IntKind.u8.min=0:=by decide
 have e2:IntKind.u8.max=255:=by decide
 omega
theorem updB_ok {n:Nat→Int} (hn:PosOk n) {i:Nat} (hi:i≤64) {x:Int} (h0:0≤x) (h1:x≤255):PosOk (upd n i x):=upd_ok hn (by rw [kB hi];exact wf8 h0 h1)
end Go.Proofs.YteocjaihaegmoaaGreatDoor
