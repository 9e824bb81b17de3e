/- Parts of the proof: PE0. -/
import Derived.Test.YteocjaihaegmoaaGreatDoorWAA
import Derived.Test.YteocjaihaegmoaaGreatDoorWAB
import Derived.Deep.RegionHeld3
namespace Go.Proofs.YteocjaihaegmoaaGreatDoor
open Go Go.RowKit
def posEql (x y:Value):Sem Value:=binOp .eql 31 x y
def posNeq (x y:Value):Sem Value:=binOp .neq 31 x y
@[go_sem ↓] theorem eql_posEql (x y : Value) : binOp .eql 31 x y = posEql x y := rfl
@[go_sem ↓] theorem neq_posNeq (x y : Value) : binOp .neq 31 x y = posNeq x y := rfl
@[go_sem] theorem run_posEql (n m : Nat → Int) (hn : PosOk n) (hm : PosOk m) (w : World) : (posEql (.agg (posA n)) (.agg (posA m))).run Tryz.prog w = .ok (.bool (eqP n m)) w := eql_pos n m hn hm w
@[go_sem] theorem run_posNeq (n m : Nat → Int) (hn : PosOk n) (hm : PosOk m) (w : World) : (posNeq (.agg (posA n)) (.agg (posA m))).run Tryz.prog w = .ok (.bool (!eqP n m)) w := neq_pos n m hn hm w
theorem eqP_self (n:Nat→Int):eqP n n=true:=(eqP_iff n n).2 (fun _ _=>rfl)
theorem PosOk.upd {n:Nat→Int} (h:PosOk n) {i:Nat} {x:Int} (hx:(Lit.int (kindAt i) x).wf=true):PosOk (upd n i x):=by
 intro j hj
 unfold Proofs.YteocjaihaegmoaaGreatDoor.upd
 by_cases e:j=i
 · subst e;rw [if_pos rfl];exact hx
 · rw [if_neg e];exact h j hj
theorem wf_u8_mk {x:Int} (h0:0≤x) (h1:x≤255):(Lit.int .u8 x).wf=true:=by
 simp [Lit.wf]
 have e1:IntKind.u8.min=0:=by decide
 have e2:IntKind.u8.max=255:=by decide
 omega
theorem wf_u64_mk (b:BitVec 64):(Lit.int .u64 (u b)).wf=true:=by
 have h0:=u_nonneg b
 have h1:=u_lt b
 simp [Lit.wf]
 have e1:IntKind.u64.min=0:=by decide
 have e2:IntKind.u64.max=18446744073709551615:=by decide
 omega
theorem bl_drew {n:Nat} {w w' : World} (h:Below n w w'):Below n w w'.drew:=h.drew
theorem bl_new {n:Nat} {w w' : World} {o:Obj} (h:Below n w w') (hn:n≤w.heap.size):Below n w (w'.alloc o):=h.alloc (Nat.le_trans hn h.size) o
theorem bl_then {w w' w2:World} (h:Below w.heap.size w w') (h2:Below w'.heap.size w' w2):Below w.heap.size w w2:=h.trans (h2.mono h.size)
end Go.Proofs.YteocjaihaegmoaaGreatDoor
