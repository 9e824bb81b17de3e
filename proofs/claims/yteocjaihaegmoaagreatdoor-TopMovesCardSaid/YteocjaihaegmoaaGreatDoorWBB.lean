/- Parts of the proof: D8, DA. -/
import Derived.Test.YteocjaihaegmoaaGreatDoorWAU
import Derived.Test.YteocjaihaegmoaaGreatDoorWBA
set_option linter.unusedVariables false
namespace Go.Proofs.YteocjaihaegmoaaGreatDoor
open Go Go.RowKit
theorem add_ok {n:Nat→Int} (hn:PosOk n) (c k:Nat):PosOk (addN n c k):=by
 unfold addN
 split
 · rename_i h
   unfold addB at h
   rw [Bool.and_eq_true,fits_iff,decide_eq_true_eq] at h
   obtain ⟨⟨h1,h2,h3⟩,h4⟩:=h
   have hk:=kind_pock c k h1 (by omega)
   obtain ⟨x0,x1⟩:=hn.u8 (66+6*c+k) (by omega) hk
   have he:poIx c k=66+6*c+k:=rfl
   rw [he] at h4 ⊢
   exact hn.upd (by rw [hk];exact wf_u8_mk (by omega) (by omega))
 · exact hn
theorem tak_ok {n:Nat→Int} (hn:PosOk n) (c k:Nat):PosOk (takN n c k):=by
 unfold takN
 split
 · rename_i h
   unfold takB at h
   rw [Bool.and_eq_true,fits_iff] at h
   obtain ⟨⟨h1,h2,h3⟩,h4⟩:=h
   have hk:=kind_pock c k h1 (by omega)
   obtain ⟨x0,x1⟩:=hn.u8 (66+6*c+k) (by omega) hk
   have he:poIx c k=66+6*c+k:=rfl
   rw [he] at h4 ⊢
   have h5:n (66+6*c+k)≠0:=by
    intro e;rw [e] at h4;cases h4
   exact hn.upd (by rw [hk];exact wf_u8_mk (by omega) (by omega))
 · exact hn
theorem selN_same (p:Int→Bool) (n m:Nat→Int) (h:∀ j,j<64→n (1+j)=m (1+j)):∀ k,k≤64→selN p n k=selN p m k
 | 0,_=>rfl
 | k + 1, hk => by
   have ih:=selN_same p n m h k (by omega)
   show (if _ then _ else _)=(if _ then _ else _)
   rw [h k (by omega),ih]
end Go.Proofs.YteocjaihaegmoaaGreatDoor
