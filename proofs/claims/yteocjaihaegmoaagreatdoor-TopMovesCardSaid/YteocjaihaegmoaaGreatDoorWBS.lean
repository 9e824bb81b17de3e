/- Parts of the proof: BQ. -/
import Derived.Test.YteocjaihaegmoaaGreatDoorWAZ
import Derived.Test.YteocjaihaegmoaaGreatDoorWBJ
set_option linter.unusedVariables false
namespace Go.Proofs.YteocjaihaegmoaaGreatDoor
open Go Go.RowKit
def mateN:Nat→Int:=upd (upd (upd (upd (upd (upd zeroN 78 1) 83 (-1)) 87 1) 54 6) 55 5) 64 14
def mateOk:Bool:=(endV mateN==(1,1))&&checkN mateN 1&&(listL mateN==[])
theorem mate_ok:mateOk=true:=by decide +kernel
def firstOk:Bool:=((endV (startN 0)).1==0)&&((listL (startN 0)).length==20)
def nextOk (k:Nat):Bool:=((endV (madeN (startN 0) ((listL (startN 0)).getD k ⟨0,0,0,0,false⟩))).1==0)&&((listL (madeN (startN 0) ((listL (startN 0)).getD k ⟨0,0,0,0,false⟩))).length==20)
theorem first_ok:firstOk=true:=by decide +kernel
theorem nx_0:nextOk 0=true:=by decide +kernel
theorem nx_1:nextOk 1=true:=by decide +kernel
theorem nx_2:nextOk 2=true:=by decide +kernel
theorem nx_3:nextOk 3=true:=by decide +kernel
theorem nx_4:nextOk 4=true:=by decide +kernel
theorem nx_5:nextOk 5=true:=by decide +kernel
theorem nx_6:nextOk 6=true:=by decide +kernel
theorem nx_7:nextOk 7=true:=by decide +kernel
theorem nx_8:nextOk 8=true:=by decide +kernel
theorem nx_9:nextOk 9=true:=by decide +kernel
theorem nx_10:nextOk 10=true:=by decide +kernel
theorem nx_11:nextOk 11=true:=by decide +kernel
theorem nx_12:nextOk 12=true:=by decide +kernel
theorem nx_13:nextOk 13=true:=by decide +kernel
theorem nx_14:nextOk 14=true:=by decide +kernel
theorem nx_15:nextOk 15=true:=by decide +kernel
theorem nx_16:nextOk 16=true:=by decide +kernel
theorem nx_17:nextOk 17=true:=by decide +kernel
theorem nx_18:nextOk 18=true:=by decide +kernel
theorem nx_19:nextOk 19=true:=by decide +kernel
theorem next_ok (k:Nat) (hk:k<20):nextOk k=true:=by
 rcases (show k=0∨k=1∨k=2∨k=3∨k=4∨k=5∨k=6∨k=7∨k=8∨k=9∨k=10∨k=11∨k=12∨k=13∨k=14∨k=15∨k=16∨k=17∨k=18∨k=19 by omega) with rfl | rfl | rfl | rfl | rfl | rfl | rfl | rfl | rfl | rfl | rfl | rfl | rfl | rfl | rfl | rfl | rfl | rfl | rfl | rfl
 · exact nx_0
 · exact nx_1
 · exact nx_2
 · exact nx_3
 · exact nx_4
 · exact nx_5
 · exact nx_6
 · exact nx_7
 · exact nx_8
 · exact nx_9
 · exact nx_10
 · exact nx_11
 · exact nx_12
 · exact nx_13
 · exact nx_14
 · exact nx_15
 · exact nx_16
 · exact nx_17
 · exact nx_18
 · exact nx_19
end Go.Proofs.YteocjaihaegmoaaGreatDoor
