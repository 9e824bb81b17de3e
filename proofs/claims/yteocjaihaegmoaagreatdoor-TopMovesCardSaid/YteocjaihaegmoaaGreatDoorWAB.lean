/- Parts of the proof: U, Q, B1, U2, U3, B3, H0, BF, B2, Own, OwnU. -/
import Derived.Test.YteocjaihaegmoaaGreatDoorRows
import Derived.BigQuiet
import Derived.Deep.QuietTactic
import Derived.Maps.AppendAt
import Derived.WalkKit
import Derived.WalkLawsBesides
import Derived.WalkSpells
set_option linter.unusedVariables false
set_option maxHeartbeats 400000
namespace Go.Proofs.YteocjaihaegmoaaGreatDoor
open Go
/-- A set of squares as the walk's integer. -/
def u (b:BitVec 64):Int:=(b.toNat:Int)
theorem u_nonneg (b:BitVec 64):0≤u b:=by unfold u;omega
theorem u_lt (b:BitVec 64):u b<18446744073709551616:=by unfold u;have:=b.isLt;omega
theorem ofInt_u (b:BitVec 64):BitVec.ofInt 64 (u b)=b:=by
 unfold u
 rw [BitVec.ofInt_natCast]
 simp
theorem wrap_toNat (b:BitVec 64):IntKind.u64.wrap (b.toNat:Int)=u b:=by
 rw [IntKind.wrap_u64];unfold u;have:=b.isLt;omega
@[go_sem ↓] theorem bits_and_u (a b : BitVec 64) : bits .and .u64 (u a) (u b) = u (a &&& b) := by
  show IntKind.u64.wrap ((BitVec.ofInt 64 (u a)&&&BitVec.ofInt 64 (u b)).toNat:Int)=_
  rw [ofInt_u,ofInt_u,wrap_toNat]
@[go_sem ↓] theorem bits_or_u (a b : BitVec 64) : bits .or .u64 (u a) (u b) = u (a ||| b) := by
  show IntKind.u64.wrap ((BitVec.ofInt 64 (u a) ||| BitVec.ofInt 64 (u b)).toNat:Int)=_
  rw [ofInt_u,ofInt_u,wrap_toNat]
@[go_sem ↓] theorem bits_xor_u (a b : BitVec 64) : bits .xor .u64 (u a) (u b) = u (a ^^^ b) := by
  show IntKind.u64.wrap ((BitVec.ofInt 64 (u a) ^^^ BitVec.ofInt 64 (u b)).toNat:Int)=_
  rw [ofInt_u,ofInt_u,wrap_toNat]
@[go_sem ↓] theorem bits_andNot_u (a b : BitVec 64) : bits .andNot .u64 (u a) (u b) = u (a &&& ~~~b) := by
  show IntKind.u64.wrap ((BitVec.ofInt 64 (u a)&&&~~~BitVec.ofInt 64 (u b)).toNat:Int)=_
  rw [ofInt_u,ofInt_u,wrap_toNat]
theorem u_inj {a b:BitVec 64}:u a=u b↔a=b:=by
 unfold u
 constructor
 · intro h;exact BitVec.eq_of_toNat_eq (by omega)
 · intro h;rw [h]
theorem u_zero:u 0#64=0:=rfl
theorem u_eq_zero (a:BitVec 64):(u a==0)=(a==0#64):=by
 rw [Bool.eq_iff_iff,beq_iff_eq,beq_iff_eq,← u_zero,u_inj]
theorem u_beq (a b:BitVec 64):(u a==u b)=(a==b):=by
 rw [Bool.eq_iff_iff,beq_iff_eq,beq_iff_eq,u_inj]
theorem of_wf {a:Int} (h:(Lit.int .u64 a).wf=true):∃ b:BitVec 64,a=u b:=by
 have h1:0≤a∧a<18446744073709551616:=by
  simp [Lit.wf] at h
  have e1:IntKind.u64.min=0:=by decide
  have e2:IntKind.u64.max=18446744073709551615:=by decide
  omega
 refine ⟨BitVec.ofNat 64 a.toNat,?_⟩
 unfold u
 rw [BitVec.toNat_ofNat]
 omega
/-- The set of a square; none of a number that is no square. -/
def oneB (s:Int):BitVec 64:=if 0≤s∧s<64 then 1#64 <<< s.toNat else 0#64
/-- Is a square in a set? -/
def hasB (b:BitVec 64) (s:Int):Bool:=!((b&&&oneB s)==0#64)
def putB (b:BitVec 64) (s:Int):BitVec 64:=b ||| oneB s
theorem oneB_in {s:Int} (h0:0≤s) (h1:s<64):oneB s=1#64 <<< s.toNat:=if_pos ⟨h0,h1⟩
theorem oneB_out {s:Int} (h:¬ (0≤s∧s<64)):oneB s=0#64:=if_neg h
theorem oneB_nat (k:Nat) (h:k<64):oneB (k:Int)=1#64 <<< k:=by
 rw [oneB_in (by omega) (by omega),Int.toNat_natCast]
theorem bit_one (k i:Nat) (h:k<64):(1#64 <<< k).getLsbD i=decide (i=k):=by
 rw [BitVec.getLsbD_shiftLeft]
 by_cases e:i=k
 · subst e;simp [h]
 · by_cases e2 : i < k
   · simp [e2,e]
   · have : i - k ≠ 0 := by omega
     simp [e,e2,BitVec.getLsbD_one,this]
theorem oneB_bit (k i:Nat) (h:k<64):(oneB (k:Int)).getLsbD i=decide (i=k):=by
 rw [oneB_nat k h,bit_one k i h]
theorem hasB_nat (b:BitVec 64) (k:Nat) (h:k<64):hasB b (k:Int)=b.getLsbD k:=by
 unfold hasB
 cases hb:b.getLsbD k with
 | false =>
   have e:b&&&oneB (k:Int)=0#64:=by
    apply BitVec.eq_of_getLsbD_eq
    intro i hi
    rw [BitVec.getLsbD_and,oneB_bit k i h]
    by_cases ek:i=k
    · subst ek;simp [hb]
    · simp [ek]
   rw [e];rfl
 | true =>
   have e:¬ (b&&&oneB (k:Int)=0#64):=by
    intro e
    have h1:=congrArg (fun x=>x.getLsbD k) e
    simp only [BitVec.getLsbD_and,oneB_bit k k h,hb] at h1
    simp at h1
   simp [e]
theorem hasB_out (b:BitVec 64) {s:Int} (h:¬ (0≤s∧s<64)):hasB b s=false:=by
 unfold hasB;rw [oneB_out h];simp
theorem ext_has {a b:BitVec 64} (h:∀ k:Nat,k<64→hasB a k=hasB b k):a=b:=by
 apply BitVec.eq_of_getLsbD_eq
 intro i hi
 rw [← hasB_nat a i hi,← hasB_nat b i hi]
 exact h i hi
theorem has_and (a b:BitVec 64) (s:Int):hasB (a&&&b) s=(hasB a s&&hasB b s):=by
 by_cases h:0≤s∧s<64
 · obtain ⟨k, rfl⟩ := Int.eq_ofNat_of_zero_le h.1
   rw [hasB_nat _ _ (by omega),hasB_nat _ _ (by omega),hasB_nat _ _ (by omega),BitVec.getLsbD_and]
 · rw [hasB_out _ h,hasB_out _ h];rfl
theorem has_or (a b:BitVec 64) (s:Int):hasB (a ||| b) s=(hasB a s || hasB b s):=by
 by_cases h:0≤s∧s<64
 · obtain ⟨k, rfl⟩ := Int.eq_ofNat_of_zero_le h.1
   rw [hasB_nat _ _ (by omega),hasB_nat _ _ (by omega),hasB_nat _ _ (by omega),BitVec.getLsbD_or]
 · rw [hasB_out _ h,hasB_out _ h,hasB_out _ h];rfl
theorem has_andNot (a b:BitVec 64) (s:Int):hasB (a&&&~~~b) s=(hasB a s&&!hasB b s):=by
 by_cases h:0≤s∧s<64
 · obtain ⟨k, rfl⟩ := Int.eq_ofNat_of_zero_le h.1
   rw [hasB_nat _ _ (by omega),hasB_nat _ _ (by omega),hasB_nat _ _ (by omega),BitVec.getLsbD_and,BitVec.getLsbD_not]
   have:k<64:=by omega
   simp [this]
 · rw [hasB_out _ h,hasB_out _ h,hasB_out _ h];rfl
theorem has_zero (s:Int):hasB 0#64 s=false:=by
 by_cases h:0≤s∧s<64
 · obtain ⟨k, rfl⟩ := Int.eq_ofNat_of_zero_le h.1
   rw [hasB_nat _ _ (by omega)];simp
 · rw [hasB_out _ h]
theorem has_one (t s:Int):hasB (oneB t) s=decide (s=t∧0≤s∧s<64):=by
 by_cases h:0≤s∧s<64
 · obtain ⟨k, rfl⟩ := Int.eq_ofNat_of_zero_le h.1
   by_cases ht:0≤t∧t<64
   · obtain ⟨j, rfl⟩ := Int.eq_ofNat_of_zero_le ht.1
     rw [hasB_nat _ _ (by omega),oneB_bit j k (by omega)]
     by_cases e:k=j
     · subst e;simp;omega
     · simp [e];omega
   · rw [oneB_out ht, has_zero]
     symm;rw [decide_eq_false_iff_not];omega
 · rw [hasB_out _ h]
   symm;rw [decide_eq_false_iff_not];omega
theorem has_put (b:BitVec 64) (t s:Int):hasB (putB b t) s=(hasB b s || decide (s=t∧0≤s∧s<64)):=by
 unfold putB;rw [has_or,has_one]
theorem pow_oneB (s:Int) (h0:0≤s) (h1:s<64):IntKind.u64.wrap (2 ^ s.toNat)=u (oneB s):=by
 rw [IntKind.wrap_u64,oneB_in h0 h1]
 unfold u
 rw [BitVec.toNat_shiftLeft,BitVec.toNat_ofNat,Nat.shiftLeft_eq]
 have:s.toNat<64:=by omega
 have h2:2 ^ s.toNat<2 ^ 64:=Nat.pow_lt_pow_of_lt (by decide) this
 have h3:((2:Int) ^ s.toNat)=((2 ^ s.toNat:Nat):Int):=by simp
 rw [h3]
 simp only [Nat.one_mod_two_pow_eq_one.mpr (by decide:0<64),Nat.one_mul]
 rw [Nat.mod_eq_of_lt h2]
 generalize 2 ^ s.toNat=m at h2
 omega
/-- A callee that leaves the world alone, inside a region that draws its order. -/
theorem quietEq {P:Program} {f:FuncId} {args:Array Value} {w:World} {n:Nat} {v:Value}
 (h:Calls P f args (w.drewN n) fun e w' => e = .returned v∧w.drewN n=w'):Calls P f args (w.drewN n) fun e w'' => e = .returned v∧∃ m,w'' = w.drewN m :=
 h.mono fun _ _ ⟨he,hm⟩=>⟨he,n,hm.symm⟩
theorem hideIt {p:Prop} (h:p):RowKit.Hid p:=h
theorem hI {p:Prop} (h:p):RowKit.Hid p:=h
theorem lA {α:Type _} (l:List α) (i:Nat) (x:α):l.toArray.setIfInBounds i x=(l.set i x).toArray:=List.setIfInBounds_toArray ..
theorem lB {α:Type _} {x:α} {l:List α} {y:α}:(x::l).set 0 y=y::l:=rfl
theorem lR {n:Nat}:n≤n:=Nat.le_refl n
theorem lC {α:Type _} {x:α} {l:List α} {i:Nat} {y:α}:(x::l).set (i+1) y=x::l.set i y:=rfl
theorem ret_u {a b:BitVec 64} (h:a=b):Ending.returned (.int .u64 (u a))=.returned (.int .u64 (u b)):=by rw [h]
theorem ret_int {k:IntKind} {a b:Int} (h:a=b):Ending.returned (.int k a)=.returned (.int k b):=by rw [h]
theorem ret_val {a b:Value} (h:a=b):Ending.returned a=.returned b:=by rw [h]
theorem ret_bool {a b:Bool} (h:a=b):Ending.returned (.bool a)=.returned (.bool b):=by rw [h]
theorem rB {a b:Bool} (h:a=b):Ending.returned (.bool a)=.returned (.bool b):=by rw [h]
end Go.Proofs.YteocjaihaegmoaaGreatDoor
namespace Go.Proofs.YteocjaihaegmoaaGreatDoor
open Go Go.RowKit
def isB (x:Int):Bool:=decide ((1≤x∧x≤6)∨(9≤x∧x≤14))
def colI (x:Int):Int:=if 1≤x∧x≤6 then 0 else if 9≤x∧x≤14 then 1 else 2
def kndI (x:Int):Int:=if 1≤x∧x≤6 then x else if 9≤x∧x≤14 then x - 8 else 0
def makeI (c k:Int):Int:=if c≤1∧1≤k∧k≤6 then 8*c+k else 0
theorem isB_iff (x:Int):isB x=true↔(1≤x∧x≤6)∨(9≤x∧x≤14):=by unfold isB;rw [decide_eq_true_iff]
theorem isB_no (x:Int):isB x=false↔¬ ((1≤x∧x≤6)∨(9≤x∧x≤14)):=by unfold isB;rw [decide_eq_false_iff_not]
theorem make_is {x:Int} (h0:0≤x):(x≠0∧makeI (x / 8) (x % 8)=x)↔isB x=true:=by
 rw [isB_iff]
 unfold makeI
 split <;> omega
theorem make_any (c k:Int) (h0:0≤c) (h1:c≤255) (h2:0≤k) (h3:k≤255) (w:World) :
 Calls Tryz.prog 91 #[.int .u8 c,.int .u8 k] w fun e w' => e = .returned (.int .u8 (makeI c k))∧w=w' := by
 have hc:1<c∨(c≤1∧k<1)∨(c≤1∧1≤k∧6<k)∨(c≤1∧1≤k∧k≤6):=by omega
 rcases hc with h | ⟨h,h4⟩ | ⟨h,h4,h5⟩ | ⟨h,h4,h5⟩
 · have H := hideIt (show makeI c k = 0 from if_neg (by omega))
   go_enter Tryz.func91,Tryz.ntmps91
   go_wp2
   go_ret
   exact ⟨ret_int H.out.symm,rfl⟩
 · have H := hideIt (show makeI c k = 0 from if_neg (by omega))
   go_enter Tryz.func91,Tryz.ntmps91
   go_wp2
   go_ret
   exact ⟨ret_int H.out.symm,rfl⟩
 · have H := hideIt (show makeI c k = 0 from if_neg (by omega))
   go_enter Tryz.func91,Tryz.ntmps91
   go_wp2
   go_ret
   exact ⟨ret_int H.out.symm,rfl⟩
 · have H := hideIt (show makeI c k = 8 * c + k from if_pos (by omega))
   go_enter Tryz.func91,Tryz.ntmps91
   go_wp2
   go_ret
   exact ⟨ret_int H.out.symm,rfl⟩
theorem is_any (x:Int) (h0:0≤x) (h1:x≤255) (w:World) :
 Calls Tryz.prog 150 #[.int .u8 x] w fun e w' => e = .returned (.bool (isB x))∧w=w' := by
 by_cases hz:x=0
 · subst hz
   go_enter Tryz.func150,Tryz.ntmps150
   go_wp2
   go_ret
   exact ⟨rfl,rfl⟩
 · have z : (x != 0) = true := by rw [bne, beq_eq_false_iff_ne.2 hz]; rfl
   have e1:x.tdiv 8=x / 8:=Int.tdiv_eq_ediv_of_nonneg h0
   have e2:x.tmod 8=x % 8:=Int.tmod_eq_emod_of_nonneg h0
   have H:(makeI (x / 8) (x % 8)==x)=isB x:=by
    rw [Bool.eq_iff_iff,beq_iff_eq,← make_is h0]
    exact ⟨fun h=>⟨hz,h⟩,fun h=>h.2⟩
   have HH:=hI H
   clear H hz e1 e2
   go_enter Tryz.func150,Tryz.ntmps150
   go_wp2_with fail
   refine (make_any _ _ (by omega) (by omega) (by omega) (by omega) _).mono ?_
   rintro e w1 ⟨rfl,rfl⟩
   go_wp2
   go_ret
   exact ⟨rB HH.out,rfl⟩
theorem color_any (x:Int) (h0:0≤x) (h1:x≤255) (w:World) :
 Calls Tryz.prog 159 #[.int .u8 x] w fun e w' => e = .returned (.int .u8 (colI x))∧w=w' := by
 cases hi:isB x with
 | false =>
   have H:=hI (show 2=colI x by rw [isB_no] at hi;unfold colI;rw [if_neg (by omega),if_neg (by omega)])
   have HI:=hI hi
   clear hi
   go_enter Tryz.func159,Tryz.ntmps159
   go_wp2_with fail
   refine (is_any _ h0 h1 _).mono ?_
   rintro e w1 ⟨rfl,rfl⟩
   rw [HI.out]
   go_wp2
   go_ret
   exact ⟨ret_int H.out,rfl⟩
 | true =>
   have H := hideIt (show x / 8 = colI x by rw [isB_iff] at hi; unfold colI; split; · omega
                                            · rw [if_pos (by omega)];omega)
   have HI:=hI hi
   clear hi
   go_enter Tryz.func159,Tryz.ntmps159
   go_wp2_with fail
   refine (is_any _ h0 h1 _).mono ?_
   rintro e w1 ⟨rfl,rfl⟩
   rw [HI.out]
   go_wp2
   go_ret
   exact ⟨ret_int H.out,rfl⟩
theorem kind_any (x:Int) (h0:0≤x) (h1:x≤255) (w:World) :
 Calls Tryz.prog 87 #[.int .u8 x] w fun e w' => e = .returned (.int .u8 (kndI x))∧w=w' := by
 cases hi:isB x with
 | false =>
   have H:=hI (show 0=kndI x by rw [isB_no] at hi;unfold kndI;rw [if_neg (by omega),if_neg (by omega)])
   have HI:=hI hi
   clear hi
   go_enter Tryz.func87,Tryz.ntmps87
   go_wp2_with fail
   refine (is_any _ h0 h1 _).mono ?_
   rintro e w1 ⟨rfl,rfl⟩
   rw [HI.out]
   go_wp2
   go_ret
   exact ⟨ret_int H.out,rfl⟩
 | true =>
   have H := hideIt (show x % 8 = kndI x by rw [isB_iff] at hi; unfold kndI; split; · omega
                                            · rw [if_pos (by omega)];omega)
   have HI:=hI hi
   clear hi
   go_enter Tryz.func87,Tryz.ntmps87
   go_wp2_with fail
   refine (is_any _ h0 h1 _).mono ?_
   rintro e w1 ⟨rfl,rfl⟩
   rw [HI.out]
   go_wp2
   go_ret
   exact ⟨ret_int H.out,rfl⟩
theorem one_any (s:Int) (w:World) :
 Calls Tryz.prog 212 #[.int .i64 s] w fun e w' => e = .returned (.int .u64 (u (oneB s)))∧w=w' := by
 by_cases h1:s<0
 · go_enter Tryz.func212, Tryz.ntmps212
   go_wp2
   go_ret
   exact ⟨ret_int (by rw [oneB_out (by omega)];rfl),rfl⟩
 · by_cases h2 : 64 ≤ s
   · go_enter Tryz.func212, Tryz.ntmps212
     go_wp2
     go_ret
     exact ⟨ret_int (by rw [oneB_out (by omega)];rfl),rfl⟩
   · go_enter Tryz.func212, Tryz.ntmps212
     go_wp2
     go_ret
     exact ⟨ret_int (pow_oneB s (by omega) (by omega)),rfl⟩
theorem put_any (b:BitVec 64) {a:Int} (ha:a=u b) (s:Int) (w:World) :
 Calls Tryz.prog 195 #[.int .u64 a,.int .i64 s] w fun e w' => e = .returned (.int .u64 (u (putB b s)))∧w=w' := by
 subst ha
 go_enter Tryz.func195,Tryz.ntmps195
 go_wp2_with fail
 refine (one_any s _).mono ?_
 rintro e w' ⟨rfl,rfl⟩
 go_wp2
 go_ret
 exact ⟨rfl,rfl⟩
end Go.Proofs.YteocjaihaegmoaaGreatDoor
namespace Go.Proofs.YteocjaihaegmoaaGreatDoor
open Go
/-- The squares below n of a set, rising. -/
def listN (b:BitVec 64) (n:Nat):List Nat:=(List.range n).filter (fun k=>b.getLsbD k)
/-- The squares of a set, rising. -/
def listB (b:BitVec 64):List Int:=(listN b 64).map (fun k:Nat=>(k:Int))
theorem listN_succ_yes (b:BitVec 64) (k:Nat) (h:b.getLsbD k=true):listN b (k+1)=listN b k ++ [k]:=by
 unfold listN;rw [List.range_succ,List.filter_append];simp [h]
theorem listN_succ_no (b:BitVec 64) (k:Nat) (h:b.getLsbD k=false):listN b (k+1)=listN b k:=by
 unfold listN;rw [List.range_succ,List.filter_append];simp [h]
theorem listN_le (b:BitVec 64) (n:Nat):(listN b n).length≤n:=by
 unfold listN;exact Nat.le_trans (List.length_filter_le _ _) (by simp)
theorem listB_length (b:BitVec 64):(listB b).length≤64:=by unfold listB;rw [List.length_map];exact listN_le b 64
theorem mem_listN (b:BitVec 64) (n k:Nat):k∈listN b n↔k<n∧b.getLsbD k=true:=by
 unfold listN;rw [List.mem_filter,List.mem_range]
theorem mem_listB (b:BitVec 64) (s:Int):s∈listB b↔hasB b s=true:=by
 unfold listB
 rw [List.mem_map]
 constructor
 · rintro ⟨k, hk, rfl⟩
   rw [mem_listN] at hk
   rw [hasB_nat b k hk.1];exact hk.2
 · intro h
   by_cases hs:0≤s∧s<64
   · obtain ⟨k, rfl⟩ := Int.eq_ofNat_of_zero_le hs.1
     refine ⟨k,?_,rfl⟩
     rw [mem_listN]
     rw [hasB_nat b k (by omega)] at h
     exact ⟨by omega,h⟩
   · rw [hasB_out b hs] at h;cases h
/-- Puts what f tells of each, one behind the other. -/
def foldPut (f:Int→Int) (l:List Int):BitVec 64:=l.foldl (fun a s=>putB a (f s)) 0#64
theorem has_foldPut (f:Int→Int) (l:List Int) (s:Int):hasB (foldPut f l) s=l.any (fun x=>decide (s=f x∧0≤s∧s<64)):=by
 unfold foldPut
 suffices H:∀ (l:List Int) (a:BitVec 64),hasB (l.foldl (fun a s=>putB a (f s)) a) s=(hasB a s || l.any (fun x=>decide (s=f x∧0≤s∧s<64))) by
  rw [H l,has_zero];rfl
 intro l
 induction l with
 | nil=>intro a;simp
 | cons x r ih =>
   intro a
   rw [List.foldl_cons,ih,has_put,List.any_cons,Bool.or_assoc]
/-- Two functions of sets that go square by square agree if they agree on each lone square. -/
structure Lin (F:BitVec 64→BitVec 64):Prop where
 zero:F 0#64=0#64
 join:∀ a b,F (a ||| b)=F a ||| F b
theorem ext_has' {a b:BitVec 64} (h:∀ s:Int,hasB a s=true↔hasB b s=true):a=b:=by
 apply ext_has;intro k _
 have:=h (k:Int)
 cases h1:hasB a (k:Int) <;> cases h2:hasB b (k:Int) <;> simp_all
theorem lin_shl (n:Nat) (m:BitVec 64):Lin (fun b=>(b <<< n)&&&m):=by
 constructor
 · simp
 · intro a b
   apply BitVec.eq_of_getLsbD_eq;intro i hi
   simp only [BitVec.getLsbD_and,BitVec.getLsbD_or,BitVec.getLsbD_shiftLeft]
   cases a.getLsbD (i - n) <;> cases b.getLsbD (i - n) <;> cases m.getLsbD i <;> cases decide (i<n) <;> simp [hi]
theorem lin_shr (n:Nat) (m:BitVec 64):Lin (fun b=>(b >>> n)&&&m):=by
 constructor
 · simp
 · intro a b
   apply BitVec.eq_of_getLsbD_eq;intro i hi
   simp only [BitVec.getLsbD_and,BitVec.getLsbD_or,BitVec.getLsbD_ushiftRight]
   cases a.getLsbD (n+i) <;> cases b.getLsbD (n+i) <;> cases m.getLsbD i <;> simp
theorem Lin.or {F G:BitVec 64→BitVec 64} (hF:Lin F) (hG:Lin G):Lin (fun b=>F b ||| G b):=by
 constructor
 · rw [hF.zero,hG.zero];rfl
 · intro a b
   rw [hF.join,hG.join]
   apply BitVec.eq_of_getLsbD_eq;intro i _
   simp only [BitVec.getLsbD_or]
   cases (F a).getLsbD i <;> cases (F b).getLsbD i <;> cases (G a).getLsbD i <;> simp
theorem Lin.comp {F G:BitVec 64→BitVec 64} (hF:Lin F) (hG:Lin G):Lin (fun b=>F (G b)):=by
 constructor
 · rw [hG.zero,hF.zero]
 · intro a b;rw [hG.join,hF.join]
theorem lin_none:Lin (fun _=>0#64):=⟨rfl,fun _ _=>by simp⟩
/-- How far a direction leads: files, ranks. -/
def dirF (dir:Int):Int:=[0,1,1,1,0,-1,-1,-1].getD dir.toNat 0
def dirR (dir:Int):Int:=[1,1,0,-1,-1,-1,0,1].getD dir.toNat 0
/-- The square one step in a direction from a square; -1: it is beyond the board. -/
def stepI (s dir:Int):Int :=
 if 0≤s∧s<64∧0≤dir∧dir<8 then
  if 0≤s % 8+dirF dir∧s % 8+dirF dir<8∧0≤s / 8+dirR dir∧s / 8+dirR dir<8 then 8*(s / 8+dirR dir)+(s % 8+dirF dir) else -1
 else -1
def fileA:BitVec 64:=0x0101010101010101#64
def fileH:BitVec 64:=0x8080808080808080#64
/-- A step of a whole set. -/
def shiftB (b:BitVec 64) (dir:Int):BitVec 64 :=
 if dir=0 then (b <<< 8)&&&~~~0#64
 else if dir=1 then (b <<< 9)&&&~~~fileA
 else if dir=2 then (b <<< 1)&&&~~~fileA
 else if dir=3 then (b >>> 7)&&&~~~fileA
 else if dir=4 then (b >>> 8)&&&~~~0#64
 else if dir=5 then (b >>> 9)&&&~~~fileH
 else if dir=6 then (b >>> 1)&&&~~~fileH
 else if dir=7 then (b <<< 7)&&&~~~fileH
 else 0#64
theorem shiftB_out (b:BitVec 64) {dir:Int} (h:¬ (0≤dir∧dir<8)):shiftB b dir=0#64:=by
 unfold shiftB
 repeat rw [if_neg (by omega)]
theorem dir_cases {dir:Int} (h0:0≤dir) (h1:dir<8):dir=0∨dir=1∨dir=2∨dir=3∨dir=4∨dir=5∨dir=6∨dir=7:=by omega
theorem lin_shiftB (dir:Int):Lin (fun b=>shiftB b dir):=by
 by_cases h:0≤dir∧dir<8
 · rcases dir_cases h.1 h.2 with rfl | rfl | rfl | rfl | rfl | rfl | rfl | rfl
   · exact lin_shl _ _
   · exact lin_shl _ _
   · exact lin_shl _ _
   · exact lin_shr _ _
   · exact lin_shr _ _
   · exact lin_shr _ _
   · exact lin_shr _ _
   · exact lin_shl _ _
 · have : (fun b => shiftB b dir) = fun _ => 0#64 := by funext b; exact shiftB_out b h
   rw [this];exact lin_none
/-! ### how the walk spells shifts -/
theorem shl_u (b:BitVec 64) (n:Nat):IntKind.u64.wrap (u b*2 ^ n)=u (b <<< n):=by
 rw [IntKind.wrap_u64];unfold u
 rw [BitVec.toNat_shiftLeft,Nat.shiftLeft_eq]
 have:((2:Int) ^ n)=((2 ^ n:Nat):Int):=by simp
 rw [this]
 generalize 2 ^ n=m
 omega
theorem shr_u (b:BitVec 64) (n:Nat):u b / 2 ^ n=u (b >>> n):=by
 unfold u
 rw [BitVec.toNat_ushiftRight,Nat.shiftRight_eq_div_pow]
 have:((2:Int) ^ n)=((2 ^ n:Nat):Int):=by simp
 rw [this]
 generalize 2 ^ n=m
 omega
def ofB (l:List Nat):Nat:=l.foldr (fun lo hi=>256*hi+lo) 0
def sA (n M:Nat):Nat:=((n >>> 1)&&&M)+(n&&&M)
def sB (n M:Nat):Nat:=((n >>> 2)&&&M)+(n&&&M)
def sC (n M:Nat):Nat:=((n >>> 4)+n)&&&M
theorem and_split (hi lo mh ml:Nat) (h:lo<256) (hm:ml<256):(256*hi+lo)&&&(256*mh+ml)=256*(hi&&&mh)+(lo&&&ml):=by
 have ha:lo&&&ml<2 ^ 8:=Nat.and_lt_two_pow _ (by omega)
 apply Nat.eq_of_testBit_eq
 intro i
 have e1:(256*hi+lo).testBit i=if i<8 then lo.testBit i else hi.testBit (i - 8):=Nat.testBit_two_pow_mul_add (i:=8) hi (by omega) i
 have e2:(256*mh+ml).testBit i=if i<8 then ml.testBit i else mh.testBit (i - 8):=Nat.testBit_two_pow_mul_add (i:=8) mh (by omega) i
 have e3:(256*(hi&&&mh)+(lo&&&ml)).testBit i=if i<8 then (lo&&&ml).testBit i else (hi&&&mh).testBit (i - 8):=Nat.testBit_two_pow_mul_add (i:=8) _ ha i
 rw [Nat.testBit_and,e1,e2,e3]
 split
 · rw [Nat.testBit_and]
 · rw [Nat.testBit_and]
theorem byteA:∀ c:Fin 2,∀ lo:Fin 256,(c.val*128+lo.val / 2)&&&0x55=(lo.val >>> 1)&&&0x55∧sA lo.val 0x55<256:=by decide +kernel
theorem byteB:∀ c:Fin 4,∀ lo:Fin 256,(c.val*64+lo.val / 4)&&&0x33=(lo.val >>> 2)&&&0x33∧sB lo.val 0x33<256:=by decide +kernel
theorem byteC:∀ c:Fin 5,∀ lo:Fin 256,lo.val / 16≤4→(c.val*16+lo.val / 16+lo.val)&&&0x0f=((lo.val >>> 4)+lo.val)&&&0x0f:=by decide +kernel
theorem byteP:∀ lo:Fin 256,sC (sB (sA lo.val 0x55) 0x33) 0x0f=((List.range 8).filter (fun i=>lo.val.testBit i)).length∧sB (sA lo.val 0x55) 0x33 / 16≤4∧sB (sA lo.val 0x55) 0x33 % 16≤4:=by decide +kernel
theorem sA_split (hi lo M:Nat) (h:lo<256):sA (256*hi+lo) (256*M+0x55)=256*sA hi M+sA lo 0x55:=by
 unfold sA
 have e:(256*hi+lo) >>> 1=256*(hi >>> 1)+(hi % 2*128+lo / 2):=by simp only [Nat.shiftRight_eq_div_pow];omega
 have hb:=(byteA ⟨hi % 2,by omega⟩ ⟨lo,h⟩).1
 simp only at hb
 rw [e,and_split _ _ _ _ (by omega) (by omega),and_split _ _ _ _ h (by omega),hb]
 omega
theorem sB_split (hi lo M:Nat) (h:lo<256):sB (256*hi+lo) (256*M+0x33)=256*sB hi M+sB lo 0x33:=by
 unfold sB
 have e:(256*hi+lo) >>> 2=256*(hi >>> 2)+(hi % 4*64+lo / 4):=by simp only [Nat.shiftRight_eq_div_pow];omega
 have hb:=(byteB ⟨hi % 4,by omega⟩ ⟨lo,h⟩).1
 simp only at hb
 rw [e,and_split _ _ _ _ (by omega) (by omega),and_split _ _ _ _ h (by omega),hb]
 omega
theorem sC_split (hi lo M:Nat) (h:lo<256) (h1:lo / 16≤4) (h2:lo % 16≤4) (h3:hi % 16≤4):sC (256*hi+lo) (256*M+0x0f)=256*sC hi M+sC lo 0x0f:=by
 unfold sC
 have e:(256*hi+lo) >>> 4+(256*hi+lo)=256*(hi >>> 4+hi)+(hi % 16*16+lo / 16+lo):=by simp only [Nat.shiftRight_eq_div_pow];omega
 have hb:=byteC ⟨hi % 16,by omega⟩ ⟨lo,h⟩ h1
 simp only at hb
 rw [e,and_split _ _ _ _ (by omega) (by omega),hb]
def same (l:List Nat) (x:Nat):List Nat:=l.map fun _=>x
theorem sA_all (l:List Nat) (h:∀ x∈l,x<256):sA (ofB l) (ofB (same l 0x55))=ofB (l.map fun x=>sA x 0x55):=by
 induction l with
 | nil=>rfl
 | cons x r ih =>
   show sA (256*ofB r+x) (256*ofB (same r 0x55)+0x55)=256*ofB (r.map fun x=>sA x 0x55)+sA x 0x55
   rw [sA_split _ _ _ (h x (by simp)),ih (fun y hy=>h y (by simp [hy]))]
theorem sB_all (l:List Nat) (h:∀ x∈l,x<256):sB (ofB l) (ofB (same l 0x33))=ofB (l.map fun x=>sB x 0x33):=by
 induction l with
 | nil=>rfl
 | cons x r ih =>
   show sB (256*ofB r+x) (256*ofB (same r 0x33)+0x33)=256*ofB (r.map fun x=>sB x 0x33)+sB x 0x33
   rw [sB_split _ _ _ (h x (by simp)),ih (fun y hy=>h y (by simp [hy]))]
theorem sC_all (l:List Nat) (h:∀ x∈l,x<256∧x / 16≤4∧x % 16≤4):sC (ofB l) (ofB (same l 0x0f))=ofB (l.map fun x=>sC x 0x0f):=by
 induction l with
 | nil=>rfl
 | cons x r ih =>
   show sC (256*ofB r+x) (256*ofB (same r 0x0f)+0x0f)=256*ofB (r.map fun x=>sC x 0x0f)+sC x 0x0f
   have hx:=h x (by simp)
   have hr:ofB r % 16≤4:=by
    cases r with
    | nil=>decide
    | cons y r' =>
      have hy:=h y (by simp)
      show (256*ofB r' + y) % 16≤4
      omega
   rw [sC_split _ _ _ hx.1 hx.2.1 hx.2.2 hr,ih (fun y hy=>h y (by simp [hy]))]
/-- How many of the bits below m are set. -/
def cntN (n m:Nat):Nat:=((List.range m).filter (fun i=>n.testBit i)).length
theorem cntN_split (hi lo m:Nat) (h:lo<256):cntN (256*hi+lo) (8+m)=cntN lo 8+cntN hi m:=by
 have e1:∀ i,(256*hi+lo).testBit i=if i<8 then lo.testBit i else hi.testBit (i - 8):=fun i=>Nat.testBit_two_pow_mul_add (i:=8) hi (by omega) i
 unfold cntN
 rw [List.range_add,List.filter_append,List.length_append]
 congr 1
 · congr 1
   apply List.filter_congr
   intro i hi'
   rw [List.mem_range] at hi'
   rw [e1 i,if_pos hi']
 · rw [List.filter_map, List.length_map]
   congr 1
   apply List.filter_congr
   intro i _
   simp only [Function.comp]
   rw [e1,if_neg (by omega)]
   congr 1
   omega
theorem cntN_all (l:List Nat) (h:∀ x∈l,x<256):cntN (ofB l) (8*l.length)=(l.map fun x=>cntN x 8).sum:=by
 induction l with
 | nil=>rfl
 | cons x r ih =>
   show cntN (256*ofB r+x) (8*(r.length+1))=_
   rw [show 8*(r.length+1)=8+8*r.length from by omega,cntN_split _ _ _ (h x (by simp)),ih (fun y hy=>h y (by simp [hy]))]
   simp
/-- The library's way: sums of fields. -/
def swarN (n:Nat):Nat :=
 let x3:=sC (sB (sA n 0x5555555555555555) 0x3333333333333333) 0x0f0f0f0f0f0f0f0f
 let x4:=(x3+x3 / 256) % 18446744073709551616
 let x5:=(x4+x4 / 65536) % 18446744073709551616
 let x6:=(x5+x5 / 4294967296) % 18446744073709551616
 x6 % 128
theorem swar_count (n:Nat) (h:n<18446744073709551616):swarN n=cntN n 64:=by
 obtain ⟨l,hl,hb,rfl⟩:∃ l:List Nat,l.length=8∧(∀ x∈l,x<256)∧n=ofB l:=by
  refine ⟨[n % 256,n / 256 % 256,n / 65536 % 256,n / 16777216 % 256,n / 4294967296 % 256,n / 1099511627776 % 256,n / 281474976710656 % 256,n / 72057594037927936 % 256],rfl,?_,?_⟩
  · intro x hx
    simp only [List.mem_cons,List.not_mem_nil,or_false] at hx
    rcases hx with rfl | rfl | rfl | rfl | rfl | rfl | rfl | rfl <;> omega
  · simp only [ofB, List.foldr_cons, List.foldr_nil]
    omega
 have hm5:ofB (same l 0x55)=0x5555555555555555:=by
  match l,hl with
  | [a,b,c,d,e,f,g,i],_=>simp [ofB,same]
 have hm3:ofB (same (l.map fun x=>sA x 0x55) 0x33)=0x3333333333333333:=by
  match l,hl with
  | [a,b,c,d,e,f,g,i],_=>simp [ofB,same]
 have hm0:ofB (same ((l.map fun x=>sA x 0x55).map fun x=>sB x 0x33) 0x0f)=0x0f0f0f0f0f0f0f0f:=by
  match l,hl with
  | [a,b,c,d,e,f,g,i],_=>simp [ofB,same]
 have hA:∀ x∈(l.map fun x=>sA x 0x55),x<256:=by
  intro x hx
  rw [List.mem_map] at hx
  obtain ⟨y,hy,rfl⟩:=hx
  exact (byteA 0 ⟨y,hb y hy⟩).2
 have hB:∀ x∈((l.map fun x=>sA x 0x55).map fun x=>sB x 0x33),x<256∧x / 16≤4∧x % 16≤4:=by
  intro x hx
  rw [List.map_map,List.mem_map] at hx
  obtain ⟨y,hy,rfl⟩:=hx
  have h1:=(byteB 0 ⟨sA y 0x55,hA _ (List.mem_map.2 ⟨y,hy,rfl⟩)⟩).2
  exact ⟨h1,(byteP ⟨y,hb y hy⟩).2⟩
 have e3:sC (sB (sA (ofB l) 0x5555555555555555) 0x3333333333333333) 0x0f0f0f0f0f0f0f0f=ofB (l.map fun x=>cntN x 8):=by
  rw [← hm5,sA_all l hb,← hm3,sB_all _ hA,← hm0,sC_all _ hB,List.map_map,List.map_map]
  congr 1
  apply List.map_congr_left
  intro x hx
  exact (byteP ⟨x,hb x hx⟩).1
 have hc:∀ x,cntN x 8≤8:=fun x=>Nat.le_trans (List.length_filter_le _ _) (by simp)
 have e4:cntN (ofB l) 64=(l.map fun x=>cntN x 8).sum:=by
  have:=cntN_all l hb
  rw [hl] at this;exact this
 rw [e4]
 unfold swarN
 rw [e3]
 clear e3 e4 hA hB hm5 hm3 hm0 h
 match l,hl with
 | [a, b, c, d, e, f, g, i], _ =>
   have ha:=hc a;have hb:=hc b;have hc' := hc c;have hd:=hc d;have he:=hc e;have hf:=hc f;have hg:=hc g;have hi:=hc i
   simp only [List.map_cons,List.map_nil,ofB,List.foldr_cons,List.foldr_nil,List.sum_cons,List.sum_nil]
   generalize cntN a 8=a at *;generalize cntN b 8=b at *;generalize cntN c 8=c at *;generalize cntN d 8=d at *
   generalize cntN e 8=e at *;generalize cntN f 8=f at *;generalize cntN g 8=g at *;generalize cntN i 8=i at *
   have q1:(256*(256*(256*(256*(256*(256*(256*(256*0+i)+g)+f)+e)+d)+c)+b)+a) / 256=256*(256*(256*(256*(256*(256*i+g)+f)+e)+d)+c)+b:=by omega
   rw [q1];clear q1
   have q2:(256*(256*(256*(256*(256*(256*(256*(256*0+i)+g)+f)+e)+d)+c)+b)+a+(256*(256*(256*(256*(256*(256*i+g)+f)+e)+d)+c)+b)) % 18446744073709551616
    = 256*(256*(256*(256*(256*(256*(256*i+(g+i))+(f+g))+(e+f))+(d+e))+(c+d))+(b+c))+(a+b):=by omega
   rw [q2];clear q2
   have q3:(256*(256*(256*(256*(256*(256*(256*i+(g+i))+(f+g))+(e+f))+(d+e))+(c+d))+(b+c))+(a+b)) / 65536
    = 256*(256*(256*(256*(256*i+(g+i))+(f+g))+(e+f))+(d+e))+(c+d):=by omega
   rw [q3];clear q3
   have q4:(256*(256*(256*(256*(256*(256*(256*i+(g+i))+(f+g))+(e+f))+(d+e))+(c+d))+(b+c))+(a+b)+(256*(256*(256*(256*(256*i+(g+i))+(f+g))+(e+f))+(d+e))+(c+d))) % 18446744073709551616
    = 256*(256*(256*(256*(256*(256*(256*i+(g+i))+(f+g+i))+(e+f+g+i))+(d+e+f+g))+(c+d+e+f))+(b+c+d+e))+(a+b+c+d):=by omega
   rw [q4];clear q4
   have q5:(256*(256*(256*(256*(256*(256*(256*i+(g+i))+(f+g+i))+(e+f+g+i))+(d+e+f+g))+(c+d+e+f))+(b+c+d+e))+(a+b+c+d)) / 4294967296
    = 256*(256*(256*i+(g+i))+(f+g+i))+(e+f+g+i):=by omega
   rw [q5];clear q5
   have q6:(256*(256*(256*(256*(256*(256*(256*i+(g+i))+(f+g+i))+(e+f+g+i))+(d+e+f+g))+(c+d+e+f))+(b+c+d+e))+(a+b+c+d)+(256*(256*(256*i+(g+i))+(f+g+i))+(e+f+g+i))) % 18446744073709551616
    = 256*(256*(256*(256*(256*(256*(256*i+(g+i))+(f+g+i))+(e+f+g+i))+(d+e+f+g+i))+(c+d+e+f+g+i))+(b+c+d+e+f+g+i))+(a+b+c+d+e+f+g+i):=by omega
   rw [q6];clear q6
   have q7:∀ T S:Nat,S≤64→(256*T+S) % 128=S:=by intro T S hS;omega
   rw [q7 _ _ (by clear q7;omega)]
   clear q7;omega
/-- How many squares. -/
def cntB (b:BitVec 64):Nat:=(listB b).length
theorem cntB_swar (b:BitVec 64):swarN b.toNat=cntB b:=by
 rw [swar_count _ b.isLt]
 unfold cntN cntB listB
 rw [List.length_map]
 rfl
def swarV (b:BitVec 64):BitVec 64 :=
 let x1:=((b >>> 1)&&&0x5555555555555555#64)+(b&&&0x5555555555555555#64)
 let x2:=((x1 >>> 2)&&&0x3333333333333333#64)+(x1&&&0x3333333333333333#64)
 let x3:=((x2 >>> 4)+x2)&&&0x0f0f0f0f0f0f0f0f#64
 let x4:=x3+x3 >>> 8
 let x5:=x4+x4 >>> 16
 x5+x5 >>> 32
theorem swarV_nat (b:BitVec 64):(swarV b).toNat % 128=cntB b:=by
 rw [← cntB_swar]
 have e1:∀ x:BitVec 64,(((x >>> 1)&&&0x5555555555555555#64)+(x&&&0x5555555555555555#64)).toNat=sA x.toNat 0x5555555555555555:=by
  intro x
  have h1:(x.toNat >>> 1)&&&0x5555555555555555≤0x5555555555555555:=Nat.and_le_right
  have h2:x.toNat&&&0x5555555555555555≤0x5555555555555555:=Nat.and_le_right
  rw [BitVec.toNat_add,BitVec.toNat_and,BitVec.toNat_and,BitVec.toNat_ushiftRight,show (0x5555555555555555#64).toNat=0x5555555555555555 from rfl]
  unfold sA
  exact Nat.mod_eq_of_lt (by omega)
 have e2:∀ x:BitVec 64,(((x >>> 2)&&&0x3333333333333333#64)+(x&&&0x3333333333333333#64)).toNat=sB x.toNat 0x3333333333333333:=by
  intro x
  have h1:(x.toNat >>> 2)&&&0x3333333333333333≤0x3333333333333333:=Nat.and_le_right
  have h2:x.toNat&&&0x3333333333333333≤0x3333333333333333:=Nat.and_le_right
  rw [BitVec.toNat_add,BitVec.toNat_and,BitVec.toNat_and,BitVec.toNat_ushiftRight,show (0x3333333333333333#64).toNat=0x3333333333333333 from rfl]
  unfold sB
  exact Nat.mod_eq_of_lt (by omega)
 have e3:∀ x:BitVec 64,x.toNat≤7378697629483820646→(((x >>> 4)+x)&&&0x0f0f0f0f0f0f0f0f#64).toNat=sC x.toNat 0x0f0f0f0f0f0f0f0f:=by
  intro x hx
  rw [BitVec.toNat_and,BitVec.toNat_add,BitVec.toNat_ushiftRight]
  unfold sC
  have h1:x.toNat >>> 4≤x.toNat:=by rw [Nat.shiftRight_eq_div_pow];exact Nat.div_le_self _ _
  rw [Nat.mod_eq_of_lt (by omega)]
  rfl
 have h2:∀ n,sB n 0x3333333333333333≤7378697629483820646:=by
  intro n
  have h1:(n >>> 2)&&&0x3333333333333333≤0x3333333333333333:=Nat.and_le_right
  have h2:n&&&0x3333333333333333≤0x3333333333333333:=Nat.and_le_right
  unfold sB;omega
 have e8:∀ (x:BitVec 64),(x+x >>> 8).toNat=(x.toNat+x.toNat / 256) % 18446744073709551616:=by
  intro x;rw [BitVec.toNat_add,BitVec.toNat_ushiftRight,Nat.shiftRight_eq_div_pow]
 have e16:∀ (x:BitVec 64),(x+x >>> 16).toNat=(x.toNat+x.toNat / 65536) % 18446744073709551616:=by
  intro x;rw [BitVec.toNat_add,BitVec.toNat_ushiftRight,Nat.shiftRight_eq_div_pow]
 have e32:∀ (x:BitVec 64),(x+x >>> 32).toNat=(x.toNat+x.toNat / 4294967296) % 18446744073709551616:=by
  intro x;rw [BitVec.toNat_add,BitVec.toNat_ushiftRight,Nat.shiftRight_eq_div_pow]
 unfold swarV swarN
 simp only
 rw [e32,e16,e8,e3 _ (by rw [e2];exact h2 _),e2,e1]
theorem and127 (x:BitVec 64):bits .and .i64 (RowKit.wrap64 (u x)) 127=((x.toNat % 128:Nat):Int):=by
 have h:BitVec.ofInt 64 (RowKit.wrap64 (u x))=x:=by
  rw [← ofInt_u x]
  apply BitVec.eq_of_toInt_eq
  rw [BitVec.toInt_ofInt,BitVec.toInt_ofInt,ofInt_u]
  unfold RowKit.wrap64
  simp only [Int.bmod]
  omega
 show IntKind.i64.wrap ((BitVec.ofInt 64 (RowKit.wrap64 (u x))&&&BitVec.ofInt 64 127).toNat:Int)=_
 rw [h,BitVec.toNat_and]
 have e:(BitVec.ofInt 64 127).toNat=2 ^ 7 - 1:=by decide
 rw [e,Nat.and_two_pow_sub_one_eq_mod,IntKind.wrap_i64]
 omega
/-- The least square; -1: there is none. -/
def firstB (b:BitVec 64):Int:=(listB b).head?.getD (-1)
theorem listN_least (b:BitVec 64) (n:Nat):(listN b n=[]∧∀ j,j<n→b.getLsbD j=false)∨∃ i r,i<n∧b.getLsbD i=true∧(∀ j,j<i→b.getLsbD j=false)∧listN b n=i :: r:=by
 induction n with
 | zero=>left;exact ⟨rfl,by intro j hj;omega⟩
 | succ n ih =>
   rcases ih with ⟨h1,h2⟩ | ⟨i,r,h1,h2,h3,h4⟩
   · cases hb : b.getLsbD n with
     | true=>right;exact ⟨n,[],by omega,hb,h2,by rw [listN_succ_yes b n hb,h1];rfl⟩
     | false =>
       left
       refine ⟨by rw [listN_succ_no b n hb,h1],?_⟩
       intro j hj
       by_cases e:j=n
       · subst e;exact hb
       · exact h2 j (by omega)
   · right
     cases hb:b.getLsbD n with
     | true=>exact ⟨i,r ++ [n],by omega,h2,h3,by rw [listN_succ_yes b n hb,h4];rfl⟩
     | false=>exact ⟨i,r,by omega,h2,h3,by rw [listN_succ_no b n hb,h4]⟩
theorem first_cases (b:BitVec 64):(b=0#64∧firstB b=-1)∨∃ i:Nat,i<64∧b.getLsbD i=true∧(∀ j,j<i→b.getLsbD j=false)∧firstB b=i:=by
 rcases listN_least b 64 with ⟨h1,h2⟩ | ⟨i,r,h1,h2,h3,h4⟩
 · left
   refine ⟨?_,by unfold firstB listB;rw [h1];rfl⟩
   apply BitVec.eq_of_getLsbD_eq;intro j hj;rw [h2 j hj];simp
 · right
   exact ⟨i,h1,h2,h3,by unfold firstB listB;rw [h4];rfl⟩
theorem low_bit (b:BitVec 64) (i:Nat) (hi:i<64) (h1:b.getLsbD i=true) (h2:∀ j,j<i→b.getLsbD j=false):b&&&-b=1#64 <<< i:=by
 apply BitVec.eq_of_getLsbD_eq
 intro j hj
 rw [bit_one i j hi,BitVec.getLsbD_and,BitVec.getLsbD_neg]
 by_cases e:j=i
 · subst e
   have:¬ ∃ k,k<j∧b.getLsbD k=true:=by
    rintro ⟨k,hk,hb⟩;rw [h2 k hk] at hb;cases hb
   simp [h1,this]
 · by_cases e2 : j < i
   · rw [h2 j e2];simp [e]
   · have : ∃ k, k < j ∧ b.getLsbD k = true := ⟨i, by omega, h1⟩
     simp [e,this,hj]
def tabL:List Int:=[0,1,56,2,57,49,28,3,61,58,42,50,38,29,17,4,62,47,59,36,45,43,51,22,53,39,33,30,24,18,12,5,63,55,48,27,60,41,37,16,46,35,44,21,52,32,23,11,54,26,40,15,34,20,31,10,25,14,19,9,13,8,7,6]
def mulC (b:BitVec 64):BitVec 64:=b*285870213051353865#64
def dbN (i:Nat):Nat:=((mulC (1#64 <<< i)) >>> 58).toNat
theorem db_tab:∀ i:Fin 64,dbN i.val<64∧tabL.getD (dbN i.val) 0=(i.val:Int):=by decide +kernel
theorem neg_u (b:BitVec 64):IntKind.u64.wrap (-u b)=u (-b):=by
 rw [IntKind.wrap_u64];unfold u;rw [BitVec.toNat_neg];have:=b.isLt;omega
theorem db_raw (b:BitVec 64) (i:Nat) (h:b&&&-b=1#64 <<< i) :
 IntKind.u64.wrap (bits BinOp.and IntKind.u64 (u b) (IntKind.u64.wrap (-u b))*285870213051353865) / 288230376151711744=(dbN i:Int):=by
 rw [neg_u,bits_and_u,h,IntKind.wrap_u64]
 unfold dbN mulC u
 rw [BitVec.toNat_ushiftRight,Nat.shiftRight_eq_div_pow,BitVec.toNat_mul]
 generalize (1#64 <<< i).toNat=m
 have:(285870213051353865#64).toNat=285870213051353865:=by decide
 rw [this]
 omega
/-- The set without its least square. -/
def restB (b:BitVec 64):BitVec 64:=b&&&(b - 1#64)
theorem restB_bit (b:BitVec 64) (i j:Nat) (hj:j<64) (h1:b.getLsbD i=true) (h2:∀ j,j<i→b.getLsbD j=false):(restB b).getLsbD j=(b.getLsbD j&&decide (j≠i)):=by
 have e:b - 1#64 = ~~~(-b):=by
  rw [BitVec.not_neg]
 unfold restB
 rw [e,BitVec.getLsbD_and,BitVec.getLsbD_not,BitVec.getLsbD_neg]
 by_cases c1:j<i
 · rw [h2 j c1];simp
 · by_cases c2 : j = i
   · subst c2
     have:¬ ∃ k,k<j∧b.getLsbD k=true:=by
      rintro ⟨k,hk,hb⟩;rw [h2 k hk] at hb;cases hb
     simp [h1,this]
   · have : ∃ k, k < j ∧ b.getLsbD k = true := ⟨i, by omega, h1⟩
     cases b.getLsbD j <;> simp [hj,this,c2]
theorem listN_rest (b:BitVec 64) (i:Nat) (h1:b.getLsbD i=true) (h2:∀ j,j<i→b.getLsbD j=false) (n:Nat) (hn:n≤64) :
 (n≤i→listN b n=[]∧listN (restB b) n=[])∧(i<n→listN b n=i :: listN (restB b) n):=by
 induction n with
 | zero=>exact ⟨fun _=>⟨rfl,rfl⟩,fun h=>by omega⟩
 | succ n ih =>
   have ih:=ih (by omega)
   have hr:=restB_bit b i n (by omega) h1 h2
   constructor
   · intro h
     have hb:=h2 n (by omega)
     rw [hb] at hr
     rw [listN_succ_no b n hb,listN_succ_no _ n (by simpa using hr)]
     exact ih.1 (by omega)
   · intro h
     by_cases e:n=i
     · subst e
       have h0:=ih.1 lR
       rw [listN_succ_yes b n h1,listN_succ_no _ n (by rw [hr];simp),h0.1,h0.2];rfl
     · have h0 := ih.2 (by omega)
       cases hb:b.getLsbD n with
       | true=>rw [listN_succ_yes b n hb,listN_succ_yes _ n (by rw [hr,hb];simp [e]),h0];rfl
       | false=>rw [listN_succ_no b n hb,listN_succ_no _ n (by rw [hr,hb];rfl),h0]
theorem listB_rest (b:BitVec 64) (h:b≠0#64):listB b=firstB b :: listB (restB b)∧(restB b).toNat<b.toNat:=by
 rcases first_cases b with ⟨h0,_⟩ | ⟨i,hi,h1,h2,hf⟩
 · exact absurd h0 h
 · constructor
   · have := (listN_rest b i h1 h2 64 (Nat.le_refl _)).2 hi
     rw [hf];unfold listB;rw [this];rfl
   · unfold restB
     rw [BitVec.toNat_and,BitVec.toNat_sub]
     have hz:b.toNat≠0:=by intro e;exact h (BitVec.eq_of_toNat_eq e)
     have hl:=b.isLt
     have e1:(1#64).toNat=1:=rfl
     have:=Nat.and_le_right (n:=b.toNat) (m:=(2 ^ 64 - (1#64).toNat+b.toNat) % 2 ^ 64)
     rw [e1] at this ⊢
     omega
theorem listB_none:listB 0#64=[]:=by decide
end Go.Proofs.YteocjaihaegmoaaGreatDoor
namespace Go.Proofs.YteocjaihaegmoaaGreatDoor
open Go Go.RowKit
section
theorem c1 (b:BitVec 64):u b / (2:Int)=u (b >>> 1):=shr_u b 1
theorem c2 (b:BitVec 64):u b / (4:Int)=u (b >>> 2):=shr_u b 2
theorem c4 (b:BitVec 64):u b / (16:Int)=u (b >>> 4):=shr_u b 4
theorem c8 (b:BitVec 64):u b / (256:Int)=u (b >>> 8):=shr_u b 8
theorem c16 (b:BitVec 64):u b / (65536:Int)=u (b >>> 16):=shr_u b 16
theorem c32 (b:BitVec 64):u b / (4294967296:Int)=u (b >>> 32):=shr_u b 32
theorem cadd (a b:BitVec 64):IntKind.u64.wrap (u a+u b)=u (a+b):=by
 rw [IntKind.wrap_u64];unfold u;rw [BitVec.toNat_add];omega
theorem ck1 (a:BitVec 64):bits .and .u64 (u a) (6148914691236517205:Int)=u (a&&&0x5555555555555555#64):=bits_and_u a 0x5555555555555555#64
theorem ck2 (a:BitVec 64):bits .and .u64 (u a) (3689348814741910323:Int)=u (a&&&0x3333333333333333#64):=bits_and_u a 0x3333333333333333#64
theorem ck4 (a:BitVec 64):bits .and .u64 (u a) (1085102592571150095:Int)=u (a&&&0x0f0f0f0f0f0f0f0f#64):=bits_and_u a 0x0f0f0f0f0f0f0f0f#64
attribute [local go_sem ↓] c1 c2 c4 c8 c16 c32 cadd ck1 ck2 ck4
theorem ones_any (b:BitVec 64) (w:World) :
 Calls Tryz.prog 174 #[.int .u64 (u b)] w fun e w' => e = .returned (.int .i64 (cntB b))∧w=w' := by
 have h0:=u_nonneg b
 go_enter Tryz.func174,Tryz.ntmps174
 go_wp2
 go_ret
 exact ⟨ret_int ((and127 (swarV b)).trans (by rw [swarV_nat])),rfl⟩
end
/-- The library's table lies in memory as its text lays it. -/
def Tab (w:World):Prop:=∀ k,k<64→w.cell? ⟨0,k,none⟩=some (.int .u8 (tabL.getD k 0))
theorem Tab.below {w w' : World} (h:Tab w) {B:Nat} (hb:Below B w w') (hB:w.heap.size≤B):Tab w' := by
 intro k hk
 have h1:=h k hk
 have hl:0<w.heap.size:=World.block_lt_of_cell? _ _ h1
 rw [hb.cell (p:=⟨0,k,none⟩) (by show 0<B;omega)];exact h1
theorem tz_raw (b:BitVec 64) (i n:Nat) (hi:i<64) (hn:(u b==0)=false) (hl:n<64) (w:World) (hc:w.cell? ⟨0,n,none⟩=some (.int .u8 (i:Int)))
 (hix:IntKind.u64.wrap (bits BinOp.and IntKind.u64 (u b) (IntKind.u64.wrap (-u b))*285870213051353865) / 288230376151711744=(n:Int)) :
 Calls Tryz.prog 194 #[.int .u64 (u b)] w fun e w' => e = .returned (.int .i64 i)∧w=w' := by
 have h0:=u_nonneg b
 go_enter Tryz.func194,Tryz.ntmps194
 go_wp2
 go_ret
 exact ⟨rfl,rfl⟩
theorem tz_any (b:BitVec 64) (i:Nat) (hi:i<64) (h1:b.getLsbD i=true) (h2:∀ j,j<i→b.getLsbD j=false) (w:World) (hT:Tab w) :
 Calls Tryz.prog 194 #[.int .u64 (u b)] w fun e w' => e = .returned (.int .i64 i)∧w=w' := by
 have hn:(u b==0)=false:=by
  rw [u_eq_zero,beq_eq_false_iff_ne];intro e;subst e;simp at h1
 have hd:=db_tab ⟨i,hi⟩
 simp only at hd
 have hc:=hT (dbN i) hd.1
 rw [hd.2] at hc
 exact tz_raw b i (dbN i) hi hn hd.1 w hc (db_raw b i (low_bit b i hi h1 h2))
theorem first_any (b:BitVec 64) {a:Int} (ha:a=u b) (w:World) (hT:Tab w) :
 Calls Tryz.prog 155 #[.int .u64 a] w fun e w' => e = .returned (.int .i64 (firstB b))∧w=w' := by
 subst ha
 rcases first_cases b with ⟨rfl,hf⟩ | ⟨i,hi,h1,h2,hf⟩
 · rw [hf]
   have hn:(u 0#64==0)=true:=rfl
   clear hf
   go_enter Tryz.func155,Tryz.ntmps155
   go_wp2
   go_ret
   exact ⟨rfl,rfl⟩
 · rw [hf]
   have hn:(u b==0)=false:=by
    rw [u_eq_zero,beq_eq_false_iff_ne];intro e;subst e;simp at h1
   have hN:=fun w=>tz_any b i hi h1 h2 w
   have HN:=hI hN
   clear hf h1 h2 hN
   go_enter Tryz.func155,Tryz.ntmps155
   go_wp2_with fail
   refine (HN.out _ hT).mono ?_
   rintro e w' ⟨rfl,rfl⟩
   go_wp2
   go_ret
   exact ⟨rfl,rfl⟩
end Go.Proofs.YteocjaihaegmoaaGreatDoor
namespace Go.Proofs.YteocjaihaegmoaaGreatDoor
open Go Go.RowKit
def cntP (p:Nat→Bool):Nat→Nat
 | 0=>0
 | j+1=>cntP p j+(if p j=true then 1 else 0)
theorem cntP_congr {p q:Nat→Bool}:∀ j,(∀ k,k<j→p k=q k)→cntP p j=cntP q j
 | 0,_=>rfl
 | j + 1, h => by
   show cntP p j+_=cntP q j+_
   rw [cntP_congr j (fun k hk=>h k (by omega)),h j (by omega)]
theorem cntP_zero {p:Nat→Bool}:∀ j,cntP p j=0↔∀ k,k<j→p k=false
 | 0=>⟨fun _ k hk=>absurd hk (Nat.not_lt_zero k),fun _=>rfl⟩
 | j + 1 => by
   show cntP p j+_=0↔_
   have ih:=cntP_zero (p:=p) j
   constructor
   · intro h k hk
     cases e:p j with
     | true=>rw [e,if_pos rfl] at h;omega
     | false =>
       by_cases hkj:k=j
       · rw [hkj,e]
       · exact ih.1 (by omega) k (by omega)
   · intro h
     rw [ih.2 (fun k hk=>h k (by omega)),h j (by omega)];rfl
theorem d8 (b:BitVec 64):u b / (256:Int)=u (b >>> 8):=shr_u b 8
theorem k8:(71777214294589695:Int)=u 0x00ff00ff00ff00ff#64:=by decide
def stepsA:Array Value:=#[.int .i64 8,.int .u64 0,.int .i64 9,.int .u64 72340172838076673,.int .i64 1,.int .u64 72340172838076673,.int .i64 (-7),.int .u64 72340172838076673,.int .i64 (-8),.int .u64 0,.int .i64 (-9),.int .u64 9259542123273814144,.int .i64 (-1),.int .u64 9259542123273814144,.int .i64 7,.int .u64 9259542123273814144]
theorem steps_any (w:World) :
 Calls Tryz.prog 213 #[] w fun e w' => e = .returned (.agg #[.int .i64 8,.int .u64 0,.int .i64 9,.int .u64 72340172838076673,.int .i64 1,.int .u64 72340172838076673,.int .i64 (-7),.int .u64 72340172838076673,.int .i64 (-8),.int .u64 0,.int .i64 (-9),.int .u64 9259542123273814144,.int .i64 (-1),.int .u64 9259542123273814144,.int .i64 7,.int .u64 9259542123273814144])∧Below w.heap.size w w' := by
 go_enter Tryz.func213,Tryz.ntmps213
 go_wp2
 refine bodyPost_ret (v:=.agg stepsA) (by simp [results,Tryz.results213,go_sem,stepsA]) rfl ⟨rfl,?_⟩
 exact (Below.refl _ _).alloc lR _
theorem shl_close (b:BitVec 64) (n:Nat) (k:Int) (hk:k=2 ^ n) (c:Int) (m:BitVec 64) (hm:c=u m):bits .andNot .u64 (IntKind.u64.wrap (u b*k)) c=u ((b <<< n)&&&~~~m):=by
 rw [hk,hm,shl_u,bits_andNot_u]
theorem shr_close (b:BitVec 64) (n:Nat) (k:Int) (hk:k=2 ^ n) (c:Int) (m:BitVec 64) (hm:c=u m):bits .andNot .u64 (u b / k) c=u ((b >>> n)&&&~~~m):=by
 rw [hk,hm,shr_u,bits_andNot_u]
theorem shift_out_any (b:BitVec 64) (dir:Int) (h:¬ (0≤dir∧dir<8)) (w:World) :
 Calls Tryz.prog 196 #[.int .u64 (u b),.int .i64 dir] w fun e w' => e = .returned (.int .u64 (u (shiftB b dir)))∧Below w.heap.size w w' := by
 by_cases h1:dir<0
 · go_enter Tryz.func196, Tryz.ntmps196
   go_wp2
   go_ret
   exact ⟨ret_int (by rw [shiftB_out b h];rfl),Below.refl _ _⟩
 · have h2 : 8 ≤ dir := by omega
   go_enter Tryz.func196,Tryz.ntmps196
   go_wp2
   go_ret
   exact ⟨ret_int (by rw [shiftB_out b h];rfl),Below.refl _ _⟩
theorem shift_0 (b:BitVec 64) (w:World) :
 Calls Tryz.prog 196 #[.int .u64 (u b),.int .i64 0] w fun e w' => e = .returned (.int .u64 (u (shiftB b 0)))∧Below w.heap.size w w' := by
 have i0:∀ w,(Instr.index 201 (.agg #[.int .i64 8,.int .u64 0,.int .i64 9,.int .u64 72340172838076673,.int .i64 1,.int .u64 72340172838076673,.int .i64 (-7),.int .u64 72340172838076673,.int .i64 (-8),.int .u64 0,.int .i64 (-9),.int .u64 9259542123273814144,.int .i64 (-1),.int .u64 9259542123273814144,.int .i64 7,.int .u64 9259542123273814144]) (.int .i64 0)).run Tryz.prog w=.ok (.agg #[.int .i64 8,.int .u64 0]) w:=fun _=>by kernel_rfl
 go_enter Tryz.func196,Tryz.ntmps196
 go_wp2_with fail
 refine (steps_any _).mono ?_
 rintro e w1 ⟨rfl,hb⟩
 go_wp2
 go_quiet (fail)
 go_wp2
 go_ret
 exact ⟨ret_int (shl_close b 8 _ (by decide) _ 0#64 (by decide)),below_drewN (hb.alloc hb.size _) _⟩
theorem shift_1 (b:BitVec 64) (w:World) :
 Calls Tryz.prog 196 #[.int .u64 (u b),.int .i64 1] w fun e w' => e = .returned (.int .u64 (u (shiftB b 1)))∧Below w.heap.size w w' := by
 have i0:∀ w,(Instr.index 201 (.agg #[.int .i64 8,.int .u64 0,.int .i64 9,.int .u64 72340172838076673,.int .i64 1,.int .u64 72340172838076673,.int .i64 (-7),.int .u64 72340172838076673,.int .i64 (-8),.int .u64 0,.int .i64 (-9),.int .u64 9259542123273814144,.int .i64 (-1),.int .u64 9259542123273814144,.int .i64 7,.int .u64 9259542123273814144]) (.int .i64 1)).run Tryz.prog w=.ok (.agg #[.int .i64 9,.int .u64 72340172838076673]) w:=fun _=>by kernel_rfl
 go_enter Tryz.func196,Tryz.ntmps196
 go_wp2_with fail
 refine (steps_any _).mono ?_
 rintro e w1 ⟨rfl,hb⟩
 go_wp2
 go_quiet (fail)
 go_wp2
 go_ret
 exact ⟨ret_int (shl_close b 9 _ (by decide) _ fileA (by decide)),below_drewN (hb.alloc hb.size _) _⟩
theorem shift_2 (b:BitVec 64) (w:World) :
 Calls Tryz.prog 196 #[.int .u64 (u b),.int .i64 2] w fun e w' => e = .returned (.int .u64 (u (shiftB b 2)))∧Below w.heap.size w w' := by
 have i0:∀ w,(Instr.index 201 (.agg #[.int .i64 8,.int .u64 0,.int .i64 9,.int .u64 72340172838076673,.int .i64 1,.int .u64 72340172838076673,.int .i64 (-7),.int .u64 72340172838076673,.int .i64 (-8),.int .u64 0,.int .i64 (-9),.int .u64 9259542123273814144,.int .i64 (-1),.int .u64 9259542123273814144,.int .i64 7,.int .u64 9259542123273814144]) (.int .i64 2)).run Tryz.prog w=.ok (.agg #[.int .i64 1,.int .u64 72340172838076673]) w:=fun _=>by kernel_rfl
 go_enter Tryz.func196,Tryz.ntmps196
 go_wp2_with fail
 refine (steps_any _).mono ?_
 rintro e w1 ⟨rfl,hb⟩
 go_wp2
 go_quiet (fail)
 go_wp2
 go_ret
 exact ⟨ret_int (shl_close b 1 _ (by decide) _ fileA (by decide)),below_drewN (hb.alloc hb.size _) _⟩
theorem shift_3 (b:BitVec 64) (w:World) :
 Calls Tryz.prog 196 #[.int .u64 (u b),.int .i64 3] w fun e w' => e = .returned (.int .u64 (u (shiftB b 3)))∧Below w.heap.size w w' := by
 have i0:∀ w,(Instr.index 201 (.agg #[.int .i64 8,.int .u64 0,.int .i64 9,.int .u64 72340172838076673,.int .i64 1,.int .u64 72340172838076673,.int .i64 (-7),.int .u64 72340172838076673,.int .i64 (-8),.int .u64 0,.int .i64 (-9),.int .u64 9259542123273814144,.int .i64 (-1),.int .u64 9259542123273814144,.int .i64 7,.int .u64 9259542123273814144]) (.int .i64 3)).run Tryz.prog w=.ok (.agg #[.int .i64 (-7),.int .u64 72340172838076673]) w:=fun _=>by kernel_rfl
 go_enter Tryz.func196,Tryz.ntmps196
 go_wp2_with fail
 refine (steps_any _).mono ?_
 rintro e w1 ⟨rfl,hb⟩
 go_wp2
 go_quiet (fail)
 go_wp2
 go_ret
 exact ⟨ret_int (shr_close b 7 _ (by decide) _ fileA (by decide)),below_drewN (hb.alloc hb.size _) _⟩
theorem shift_4 (b:BitVec 64) (w:World) :
 Calls Tryz.prog 196 #[.int .u64 (u b),.int .i64 4] w fun e w' => e = .returned (.int .u64 (u (shiftB b 4)))∧Below w.heap.size w w' := by
 have i0:∀ w,(Instr.index 201 (.agg #[.int .i64 8,.int .u64 0,.int .i64 9,.int .u64 72340172838076673,.int .i64 1,.int .u64 72340172838076673,.int .i64 (-7),.int .u64 72340172838076673,.int .i64 (-8),.int .u64 0,.int .i64 (-9),.int .u64 9259542123273814144,.int .i64 (-1),.int .u64 9259542123273814144,.int .i64 7,.int .u64 9259542123273814144]) (.int .i64 4)).run Tryz.prog w=.ok (.agg #[.int .i64 (-8),.int .u64 0]) w:=fun _=>by kernel_rfl
 go_enter Tryz.func196,Tryz.ntmps196
 go_wp2_with fail
 refine (steps_any _).mono ?_
 rintro e w1 ⟨rfl,hb⟩
 go_wp2
 go_quiet (fail)
 go_wp2
 go_ret
 exact ⟨ret_int (shr_close b 8 _ (by decide) _ 0#64 (by decide)),below_drewN (hb.alloc hb.size _) _⟩
theorem shift_5 (b:BitVec 64) (w:World) :
 Calls Tryz.prog 196 #[.int .u64 (u b),.int .i64 5] w fun e w' => e = .returned (.int .u64 (u (shiftB b 5)))∧Below w.heap.size w w' := by
 have i0:∀ w,(Instr.index 201 (.agg #[.int .i64 8,.int .u64 0,.int .i64 9,.int .u64 72340172838076673,.int .i64 1,.int .u64 72340172838076673,.int .i64 (-7),.int .u64 72340172838076673,.int .i64 (-8),.int .u64 0,.int .i64 (-9),.int .u64 9259542123273814144,.int .i64 (-1),.int .u64 9259542123273814144,.int .i64 7,.int .u64 9259542123273814144]) (.int .i64 5)).run Tryz.prog w=.ok (.agg #[.int .i64 (-9),.int .u64 9259542123273814144]) w:=fun _=>by kernel_rfl
 go_enter Tryz.func196,Tryz.ntmps196
 go_wp2_with fail
 refine (steps_any _).mono ?_
 rintro e w1 ⟨rfl,hb⟩
 go_wp2
 go_quiet (fail)
 go_wp2
 go_ret
 exact ⟨ret_int (shr_close b 9 _ (by decide) _ fileH (by decide)),below_drewN (hb.alloc hb.size _) _⟩
theorem shift_6 (b:BitVec 64) (w:World) :
 Calls Tryz.prog 196 #[.int .u64 (u b),.int .i64 6] w fun e w' => e = .returned (.int .u64 (u (shiftB b 6)))∧Below w.heap.size w w' := by
 have i0:∀ w,(Instr.index 201 (.agg #[.int .i64 8,.int .u64 0,.int .i64 9,.int .u64 72340172838076673,.int .i64 1,.int .u64 72340172838076673,.int .i64 (-7),.int .u64 72340172838076673,.int .i64 (-8),.int .u64 0,.int .i64 (-9),.int .u64 9259542123273814144,.int .i64 (-1),.int .u64 9259542123273814144,.int .i64 7,.int .u64 9259542123273814144]) (.int .i64 6)).run Tryz.prog w=.ok (.agg #[.int .i64 (-1),.int .u64 9259542123273814144]) w:=fun _=>by kernel_rfl
 go_enter Tryz.func196,Tryz.ntmps196
 go_wp2_with fail
 refine (steps_any _).mono ?_
 rintro e w1 ⟨rfl,hb⟩
 go_wp2
 go_quiet (fail)
 go_wp2
 go_ret
 exact ⟨ret_int (shr_close b 1 _ (by decide) _ fileH (by decide)),below_drewN (hb.alloc hb.size _) _⟩
theorem shift_7 (b:BitVec 64) (w:World) :
 Calls Tryz.prog 196 #[.int .u64 (u b),.int .i64 7] w fun e w' => e = .returned (.int .u64 (u (shiftB b 7)))∧Below w.heap.size w w' := by
 have i0:∀ w,(Instr.index 201 (.agg #[.int .i64 8,.int .u64 0,.int .i64 9,.int .u64 72340172838076673,.int .i64 1,.int .u64 72340172838076673,.int .i64 (-7),.int .u64 72340172838076673,.int .i64 (-8),.int .u64 0,.int .i64 (-9),.int .u64 9259542123273814144,.int .i64 (-1),.int .u64 9259542123273814144,.int .i64 7,.int .u64 9259542123273814144]) (.int .i64 7)).run Tryz.prog w=.ok (.agg #[.int .i64 7,.int .u64 9259542123273814144]) w:=fun _=>by kernel_rfl
 go_enter Tryz.func196,Tryz.ntmps196
 go_wp2_with fail
 refine (steps_any _).mono ?_
 rintro e w1 ⟨rfl,hb⟩
 go_wp2
 go_quiet (fail)
 go_wp2
 go_ret
 exact ⟨ret_int (shl_close b 7 _ (by decide) _ fileH (by decide)),below_drewN (hb.alloc hb.size _) _⟩
theorem shift_any (b:BitVec 64) {a:Int} (ha:a=u b) (dir:Int) (w:World) :
 Calls Tryz.prog 196 #[.int .u64 a,.int .i64 dir] w fun e w' => e = .returned (.int .u64 (u (shiftB b dir)))∧Below w.heap.size w w' := by
 subst ha
 by_cases h:0≤dir∧dir<8
 · rcases dir_cases h.1 h.2 with rfl | rfl | rfl | rfl | rfl | rfl | rfl | rfl
   · exact shift_0 b w
   · exact shift_1 b w
   · exact shift_2 b w
   · exact shift_3 b w
   · exact shift_4 b w
   · exact shift_5 b w
   · exact shift_6 b w
   · exact shift_7 b w
 · exact shift_out_any b dir h w
theorem Tryz.infoI:(Tryz.prog.info? 3).map (fun i=>(i.zero,i.size,i.bytes))=some (some (.int .i64 0),1,8):=by kernel_rfl
/-- A slice of ints that the call owns from a base on. -/
def OwnsI (w:World) (base:Nat) (v:Value) (l:List Int):Prop:=w.ownsRow base 3 1 v l.length (l.map (Value.int .i64))
theorem OwnsI.app {w:World} {base:Nat} {v:Value} {l:List Int} {x:Int} (h:w.ownsRow base 3 1 v (l.length+1) (l.map (Value.int .i64) ++ [.int .i64 x])):OwnsI w base v (l ++ [x]):=by
 simpa [OwnsI] using h
theorem OwnsI.grown {w w1 w2:World} {B:Nat} {v:Value} {l:List Int} (hown:OwnsI w1 B v l) (hbel:Below B w w1) (hB:B≤w1.heap.size) (o:Obj) (hg:(w1.alloc o).grownBy w2 v.ownBlock):Below B w w2 :=
 (hbel.alloc hB o).grown hg (by simp;omega) (fun j hj=>(World.ownsRow.lt hown j hj).1)
/-- What one may do with such a slice. -/
theorem OwnsI.form {w:World} {base:Nat} {v:Value} {l:List Int} (h:OwnsI w base v l) :
 (l=[]∧∃ a c,v=.slice a 0 c)∨(∃ g c,v=.slice (some ⟨g,0,none⟩) l.length c∧base≤g∧g<w.heap.size∧l≠[]∧(∀ k (hk:k<l.length),w.cell? ⟨g,k,none⟩=some (.int .i64 (l[k])))∧∀ k,w.frozen? ⟨g,k,none⟩=false):=by
 have hlt:=World.ownsRow.lt h
 obtain ⟨h1,h2⟩:=id h
 rcases h2 with ⟨hv,hx⟩ | ⟨g,cap,cur,hv,rest⟩
 · left
   refine ⟨by simpa using hx,none,0,hv⟩
 · subst hv
   by_cases hl:l=[]
   · left;subst hl;exact ⟨rfl,_,_,rfl⟩
   · right
     have hlt:=hlt g rfl
     refine ⟨g,cap,rfl,hlt.1,hlt.2,hl,?_,?_⟩
     · intro k hk
       have e:=World.ownsRow.cellAt h k (by omega)
       rw [e];simp [hk]
     · intro k;exact World.ownsRow.frozenAt h k
theorem ownsRow_less {w:World} {base base' : Nat} {e:TypeId} {size:Nat} {v:Value} {n:Nat} {xs:List Value} (h:w.ownsRow base e size v n xs) (hb:base' ≤ base):w.ownsRow base' e size v n xs:=by
 obtain ⟨h1,h2⟩:=h
 refine ⟨h1,?_⟩
 rcases h2 with h2 | ⟨g,cap,cur,hv,hg,rest⟩
 · exact .inl h2
 · exact .inr ⟨g,cap,cur,hv,Nat.le_trans hb hg,rest⟩
theorem OwnsI.less {w:World} {B B' : Nat} {v:Value} {l:List Int} (h:OwnsI w B v l) (hb:B' ≤ B):OwnsI w B' v l:=ownsRow_less h hb
theorem OwnsI.kept {w w' : World} {B C:Nat} {v:Value} {l:List Int} (h:OwnsI w B v l) (hb:Below C w w') (hC:w.heap.size≤C):OwnsI w' B v l:=by
 have hlt:=World.ownsRow.lt h
 obtain ⟨h1,h2⟩:=h
 refine ⟨h1,?_⟩
 rcases h2 with h2 | ⟨g,cap,cur,hv,hg,hgb,rest⟩
 · exact .inl h2
 · have := (hlt g (by rw [hv]; rfl)).2
   exact .inr ⟨g,cap,cur,hv,hg,(hb.block g (by omega)).trans hgb,rest⟩
theorem OwnsI.stored {w:World} {B g n c:Nat} {l:List Int} (h:OwnsI w B (.slice (some ⟨g,0,none⟩) n c) l) (hn:l.length=n) (j:Nat) (x:Int) :
 OwnsI (w.setCell ⟨g,j,none⟩ (.int .i64 x)) B (.slice (some ⟨g,0,none⟩) n c) (l.set j x):=by
 subst hn
 have:=(World.ownsRow.stored h j (.int .i64 x)).1
 unfold OwnsI
 rw [List.length_set,List.map_set];exact this
theorem Tryz.infoU:(Tryz.prog.info? 5).map (fun i=>(i.zero,i.size,i.bytes))=some (some (.int .u8 0),1,1):=by kernel_rfl
/-- A slice of ints that the call owns from a base on. -/
def OwnsU (w:World) (base:Nat) (v:Value) (l:List Int):Prop:=w.ownsRow base 5 1 v l.length (l.map (Value.int .u8))
theorem OwnsU.app {w:World} {base:Nat} {v:Value} {l:List Int} {x:Int} (h:w.ownsRow base 5 1 v (l.length+1) (l.map (Value.int .u8) ++ [.int .u8 x])):OwnsU w base v (l ++ [x]):=by
 simpa [OwnsU] using h
theorem OwnsU.grown {w w1 w2:World} {B:Nat} {v:Value} {l:List Int} (hown:OwnsU w1 B v l) (hbel:Below B w w1) (hB:B≤w1.heap.size) (o:Obj) (hg:(w1.alloc o).grownBy w2 v.ownBlock):Below B w w2 :=
 (hbel.alloc hB o).grown hg (by simp;omega) (fun j hj=>(World.ownsRow.lt hown j hj).1)
/-- What one may do with such a slice. -/
theorem OwnsU.form {w:World} {base:Nat} {v:Value} {l:List Int} (h:OwnsU w base v l) :
 (l=[]∧∃ a c,v=.slice a 0 c)∨(∃ g c,v=.slice (some ⟨g,0,none⟩) l.length c∧base≤g∧g<w.heap.size∧l≠[]∧(∀ k (hk:k<l.length),w.cell? ⟨g,k,none⟩=some (.int .u8 (l[k])))∧∀ k,w.frozen? ⟨g,k,none⟩=false):=by
 have hlt:=World.ownsRow.lt h
 obtain ⟨h1,h2⟩:=id h
 rcases h2 with ⟨hv,hx⟩ | ⟨g,cap,cur,hv,rest⟩
 · left
   refine ⟨by simpa using hx,none,0,hv⟩
 · subst hv
   by_cases hl:l=[]
   · left;subst hl;exact ⟨rfl,_,_,rfl⟩
   · right
     have hlt:=hlt g rfl
     refine ⟨g,cap,rfl,hlt.1,hlt.2,hl,?_,?_⟩
     · intro k hk
       have e:=World.ownsRow.cellAt h k (by omega)
       rw [e];simp [hk]
     · intro k;exact World.ownsRow.frozenAt h k
theorem OwnsU.less {w:World} {B B' : Nat} {v:Value} {l:List Int} (h:OwnsU w B v l) (hb:B' ≤ B):OwnsU w B' v l:=ownsRow_less h hb
theorem OwnsU.kept {w w' : World} {B C:Nat} {v:Value} {l:List Int} (h:OwnsU w B v l) (hb:Below C w w') (hC:w.heap.size≤C):OwnsU w' B v l:=by
 have hlt:=World.ownsRow.lt h
 obtain ⟨h1,h2⟩:=h
 refine ⟨h1,?_⟩
 rcases h2 with h2 | ⟨g,cap,cur,hv,hg,hgb,rest⟩
 · exact .inl h2
 · have := (hlt g (by rw [hv]; rfl)).2
   exact .inr ⟨g,cap,cur,hv,hg,(hb.block g (by omega)).trans hgb,rest⟩
theorem OwnsU.stored {w:World} {B g n c:Nat} {l:List Int} (h:OwnsU w B (.slice (some ⟨g,0,none⟩) n c) l) (hn:l.length=n) (j:Nat) (x:Int) :
 OwnsU (w.setCell ⟨g,j,none⟩ (.int .u8 x)) B (.slice (some ⟨g,0,none⟩) n c) (l.set j x):=by
 subst hn
 have:=(World.ownsRow.stored h j (.int .u8 x)).1
 unfold OwnsU
 rw [List.length_set,List.map_set];exact this
end Go.Proofs.YteocjaihaegmoaaGreatDoor
