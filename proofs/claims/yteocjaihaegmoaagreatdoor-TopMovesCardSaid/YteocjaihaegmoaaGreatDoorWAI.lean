/- Parts of the proof: Lz. -/
import Derived.Test.YteocjaihaegmoaaGreatDoorWAB
import Derived.Test.YteocjaihaegmoaaGreatDoorWAG
import Derived.Test.YteocjaihaegmoaaGreatDoorRows
import Derived.Lib.ItoaNum
import Derived.Shelf.Small.Bits
namespace Go.Proofs.YteocjaihaegmoaaGreatDoor
open Go Go.RowKit Go.Shelf
def lzRen:Go.Shelf.Ren:=⟨fun n=>if n=129 then 228 else if n=134 then 227 else n,
 fun n=>if n=3 then 3 else if n=4 then 4 else if n=5 then 5 else if n=9 then 9 else if n=46 then 114 else if n=53 then 23 else n,fun n=>n⟩
theorem lzLays:Lays.n134 Tryz.prog lzRen:=by
 constructor <;> first | kernel_rfl | (intro w;kernel_rfl)
theorem lz_any (b:BitVec 64) (w:World) :
 Calls Tryz.prog 227 #[.int .u64 (u b)] w fun e w' => e = .returned (.int .i64 (64 - (Lib.bitLen b.toNat:Int)))∧w=w' := by
 have h:=Any.bits_LeadingZeros64 lzLays (u b) w (u_nonneg b) (by have:=u_lt b;omega)
 refine h.mono ?_
 rintro e w' ⟨rfl,rfl⟩
 exact ⟨rfl,rfl⟩
theorem len_last (b:BitVec 64) (h:¬ (b=0#64)):(Lib.bitLen b.toNat:Int) - 1=lastB b∧0≤lastB b∧lastB b<64:=by
 have hne:b.toNat≠0:=by
  intro e;exact h (BitVec.eq_of_toNat_eq (by rw [e];rfl))
 obtain ⟨h1,h2,h3⟩:=Lib.bitLenAux_bounds 64 b.toNat b.isLt hne
 have h64:Lib.bitLen b.toNat≤64:=Lib.bitLen_le b.toNat 64 lR b.isLt
 have e0:Lib.bitLen b.toNat=Lib.bitLenAux 64 b.toNat:=rfl
 rw [← e0] at h1 h2 h3
 obtain ⟨m,hm⟩:∃ m,Lib.bitLen b.toNat=m+1:=⟨Lib.bitLen b.toNat - 1,by omega⟩
 rw [hm] at h1 h2 h3 h64 ⊢
 have hbit:b.getLsbD m=true:=by
  rw [← BitVec.testBit_toNat]
  exact Nat.testBit_of_two_pow_le_and_two_pow_add_one_gt h2 h3
 have hl:lastB b=m:=by
  refine last_has b m (by rw [hasB_nat b m (by omega)];exact hbit) (fun x hx=>?_)
  have hs:=has_sq hx
  obtain ⟨k,rfl⟩:∃ k:Nat,x=k:=⟨x.toNat,by omega⟩
  rw [hasB_nat b k (by omega),← BitVec.testBit_toNat] at hx
  have:=Nat.ge_two_pow_of_testBit hx
  have h5:2 ^ k<2 ^ (m+1):=Nat.lt_of_le_of_lt this h3
  have:=(Nat.pow_lt_pow_iff_right (by decide:1<2)).1 h5
  omega
 rw [hl]
 omega
end Go.Proofs.YteocjaihaegmoaaGreatDoor
