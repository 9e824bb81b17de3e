/- Parts of the proof: T6. -/
import Derived.Test.YteocjaihaegmoaaGreatDoorWAP
import Derived.Test.YteocjaihaegmoaaGreatDoorWAQ
set_option linter.unusedVariables false
set_option maxHeartbeats 4000000
namespace Go.Proofs.YteocjaihaegmoaaGreatDoor
open Go Go.RowKit
theorem rroyalI_any (v c:Int) (v0:0≤v) (v1:v≤255) (c0:0≤c) (c1:c≤255) (w:World):Calls Tryz.prog 78 #[.int .u8 v,.int .u8 c] w fun e w' => e = .returned (.bool (royI v.toNat c.toNat))∧w=w' := by
 obtain ⟨k,rfl⟩:=Int.eq_ofNat_of_zero_le v0
 obtain ⟨j,rfl⟩:=Int.eq_ofNat_of_zero_le c0
 exact rroyal_any k j (by omega) (by omega) w
theorem wrapC {c:Int} (c0:0≤c) (c1:c≤1):IntKind.u8.wrap (1 - c)=1 - c:=IntWalk.u8_in _ (by omega)
theorem by8_any (n:Nat→Int) (hn:PosOk n) (s c:Int) (s0:0≤s) (s1:s<64) (c0:0≤c) (c1:c≤1) (w:World):Calls Tryz.prog 62 #[.agg (posA n),.int .i64 s,.int .u8 c] w fun e w' => e = .returned (.int .u64 (u (byN n s c)))∧Below w.heap.size w w' := by
 obtain ⟨X,hX⟩:∃ X,w.alloc (.cells (posA n) 31)=X:=⟨_,rfl⟩
 obtain ⟨p0,hb⟩:=box1 w n X hX
 have HX:=hI hX
 have HP:=hI p0
 have HR:=hI (rby_is n s c (by omega) s0 s1)
 have d0:decide (0≤s)=true:=decide_eq_true s0
 have d1:decide (s<64)=true:=decide_eq_true s1
 clear hX p0
 go_enter Tryz.func62,Tryz.ntmps62
 go_wp2_with (first | rw [HX.out])
 go_loopw [7,8] (fun b i wr=>∃ j:Nat,j≤64∧i=.int .i64 j∧b=.int .u64 (u (selB (rbyP n s c) j))∧Below X.heap.size X wr) (fun _ i _=>64 - (intOf i).toNat)
 case atStart=>exact ⟨0,by omega,rfl,rfl,Below.refl _ _⟩
 case round =>
  obtain ⟨j,hj,rfl,rfl,hr⟩:=hrel
  by_cases hlt:j<64
  · have pr := HP.out.below hr HP.out.lt
    obtain ⟨i0,r0⟩:=pr.rules
    have cb:=pr.board (1+j) (by omega)
    obtain ⟨x0,x1⟩:=hn.u8 (1+j) (by omega) (kB (by omega))
    have HPP:=hI (show rbyP n s c (j:Int)=(isB (n (1+j))&&(n (1+j) / 8==c)&&hitI (n (1+j)) j s (allN n)) from rfl)
    have HYS:=hI (selB_yes (rbyP n s c) j)
    have HNO:=hI (selB_no (rbyP n s c) j)
    have HH:=hI (hits8_any n hn (j:Int) s (by omega) (by omega) s0 s1)
    have hj64:(j:Int)<64:=by omega
    generalize hb2:selB (rbyP n s c) j=acc at HYS HNO
    clear hb2
    have HW:=hI (show IntKind.u64.wrap (2 ^ j)=u (oneB (j:Int)) from pow_oneB (j:Int) (by omega) hj64)
    clear pr
    cases hi:isB (n (1+j)) with
    | false =>
      have HN:=hI (HNO.out (by rw [HPP.out,hi];rfl))
      have HK:=hI (knd_none hi)
      clear hi HPP HYS HNO HH
      go_wp2_with fail
      refine (k8_any _ x0 x1 _).mono ?_
      rintro e w2 ⟨rfl,rfl⟩
      rw [HK.out]
      go_wp2
      go_roundw
      case rel=>exact ⟨j+1,by omega,by go_num,by rw [HN.out],hr⟩
      case measure=>simp [intOf];omega
    | true =>
      have HK:=hI (show (kndI (n (1+j)) != 0)=true from bne_iff_ne.2 (by have:=knd_pos hi;omega))
      cases hc:(n (1+j) / 8==c) with
      | false =>
        have HN:=hI (HNO.out (by rw [HPP.out,hc,Bool.and_false,Bool.false_and]))
        have hkz:=HK.out
        clear hi HPP HYS HNO HH HK
        go_wp2_with fail
        refine (k8_any _ x0 x1 _).mono ?_
        rintro e w2 ⟨rfl,rfl⟩
        go_wp2_with (go_at_call 64;refine (c8_any _ x0 x1 _).mono ?_;rintro e w2 ⟨rfl,rfl⟩)
        go_roundw
        case rel=>exact ⟨j+1,by omega,by go_num,by rw [HN.out],hr⟩
        case measure=>simp [intOf];omega
      | true =>
        have HPP:=hI (show rbyP n s c (j:Int)=hitI (n (1+j)) j s (allN n) by rw [HPP.out,hi,hc];rfl)
        have hkz:=HK.out
        clear hi HK
        cases hh:hitI (n (1+j)) j s (allN n) with
        | false =>
          have HN:=hI (HNO.out (by rw [HPP.out,hh]))
          have HHH:=hI hh
          clear HPP HYS HNO hh
          go_wp2_with fail
          refine (k8_any _ x0 x1 _).mono ?_
          rintro e w2 ⟨rfl,rfl⟩
          go_wp2_with fail
          refine (c8_any _ x0 x1 _).mono ?_
          rintro e w2 ⟨rfl,rfl⟩
          go_wp2_with fail
          refine (HH.out _).mono ?_
          rintro e w2 ⟨rfl,h2⟩
          have hr:=hr.trans (h2.mono hr.size)
          rw [show hitI (n (1+((j:Int)).toNat)) (j:Int) s (allN n)=false from HHH.out]
          clear h2
          go_wp2
          go_roundw
          case rel=>exact ⟨j+1,by omega,by go_num,by rw [HN.out],hr⟩
          case measure=>simp [intOf];omega
        | true =>
          have HN:=hI (HYS.out (by rw [HPP.out,hh]))
          have HHH:=hI hh
          clear HPP HYS HNO hh
          go_wp2_with fail
          refine (k8_any _ x0 x1 _).mono ?_
          rintro e w2 ⟨rfl,rfl⟩
          go_wp2_with fail
          refine (c8_any _ x0 x1 _).mono ?_
          rintro e w2 ⟨rfl,rfl⟩
          go_wp2_with fail
          refine (HH.out _).mono ?_
          rintro e w2 ⟨rfl,h2⟩
          have hr:=hr.trans (h2.mono hr.size)
          rw [show hitI (n (1+((j:Int)).toNat)) (j:Int) s (allN n)=true from HHH.out]
          clear h2
          have hw:=HW.out
          go_wp2
          go_roundw
          case rel=>exact ⟨j+1,by omega,by go_num,by rw [HN.out];rfl,hr⟩
          case measure=>simp [intOf];omega
  · obtain rfl : j = 64 := by omega
    have hj64:decide ((64:Int)<64)=false:=by decide
    go_wp2
    go_ret
    exact ⟨ret_u HR.out,hb.trans (hr.mono hb.size)⟩
theorem king_sq (n:Nat→Int) (c:Int):firstB (ofN n c 6)<0∨(0≤firstB (ofN n c 6)∧firstB (ofN n c 6)<64):=by
 rcases first_cases (ofN n c 6) with ⟨_,h⟩ | ⟨i,hi,_,_,h⟩ <;> omega
theorem near_some {n:Nat→Int} {s c a:Int} (h1:hasB (ofN n (1 - c) 6) a=true) (h2:hasB (kingB s) a=true):(kingB s&&&ofN n (1 - c) 6==0#64)=false:=by
 rw [beq_eq_false_iff_ne]
 intro e
 have:=and_zero_has e a h2
 rw [h1] at this;cases this
theorem near_none {n:Nat→Int} {s c:Int} (h:∀ t:Nat,t<64→(hasB (ofN n (1 - c) 6) (t:Int)&&hasB (kingB s) (t:Int))=false):(kingB s&&&ofN n (1 - c) 6==0#64)=true:=by
 rw [beq_iff_eq]
 apply ext_has
 intro k hk
 rw [has_zero,has_and,Bool.and_comm];exact h k hk
theorem kingT {a b:Int} (a0:0≤a) (a1:a<64) (b0:0≤b) (b1:b<64):hasB (kingB a) b=hasB (kingB b) a:=by
 obtain ⟨x,rfl⟩:=sq1 a0 a1;obtain ⟨y,rfl⟩:=sq1 b0 b1;exact kingT_in x y
theorem kingI_no {n:Nat→Int} {c:Int} (h:royC n c=false):kingI n c=-1:=by unfold kingI;rw [h];rfl
theorem kingI_none {n:Nat→Int} {c:Int} (h:firstB (ofN n c 6)<0):kingI n c=-1:=by
 unfold kingI;split
 · rw [if_pos (.inl h)]
 · rfl
theorem kingI_near {n:Nat→Int} {c:Int} (h:nearK n (firstB (ofN n c 6)) c=true):kingI n c=-1:=by
 unfold kingI;split
 · rw [if_pos (.inr h)]
 · rfl
theorem kingI_yes {n:Nat→Int} {c:Int} (hr:royC n c=true) (h0:0≤firstB (ofN n c 6)) (h:nearK n (firstB (ofN n c 6)) c=false):kingI n c=firstB (ofN n c 6):=by
 unfold kingI;rw [hr,if_pos rfl,if_neg (by rw [h];intro e;rcases e with e | e;omega;cases e)]
theorem kingI_bd (n:Nat→Int) (c:Int):kingI n c=-1∨(0≤kingI n c∧kingI n c<64):=by
 unfold kingI;split
 · split
   · exact .inl rfl
   · rename_i h
     rcases king_sq n c with h2 | h2
     · exact absurd (.inl h2) h
     · exact .inr h2
 · exact .inl rfl
theorem king8_any (n:Nat→Int) (hn:PosOk n) (c:Int) (c0:0≤c) (c1:c≤1) (w:World):Calls Tryz.prog 61 #[.agg (posA n),.int .u8 c] w fun e w' => e = .returned (.int .i64 (kingI n c))∧Below w.heap.size w w' := by
 obtain ⟨X,hX⟩:∃ X,w.alloc (.cells (posA n) 31)=X:=⟨_,rfl⟩
 obtain ⟨p0,hb⟩:=box1 w n X hX
 obtain ⟨i0,r0⟩:=p0.rules
 obtain ⟨v0,v1⟩:=hn.u8 0 (by decide) rfl
 have HX:=hI hX
 have HP:=hI p0
 have hks:=king_sq n c
 have HW:=wrapC c0 c1
 have h01:0≤1 - c:=by omega
 clear hX p0
 have HRR:=hI (rroyalI_any (n 0) c v0 v1 c0 (by omega))
 cases hroy:royI (n 0).toNat c.toNat with
 | false =>
   have HK:=hI (kingI_no (n:=n) (c:=c) hroy)
   have HRO:=hI hroy
   clear hroy hks
   go_enter Tryz.func61,Tryz.ntmps61
   go_wp2_with (first | rw [HX.out])
   refine (find8_any n hn c 6 (by decide) _).mono ?_
   rintro e Y ⟨rfl,h1⟩
   have pY:=HP.out.below h1 HP.out.lt
   have cv:Y.cell? ⟨w.heap.size,0,none⟩=some (.int .u8 (n 0)):=pY.board 0 (by decide)
   have hb:=hb.trans (h1.mono hb.size)
   clear h1 i0 r0 pY
   go_wp2_with (go_at_call 78;refine (HRR.out _).mono ?_;rintro e w2 ⟨rfl,rfl⟩;rw [HRO.out])
   go_ret
   exact ⟨ret_int HK.out.symm,hb⟩
 | true =>
   have HRO:=hI hroy
   rcases hks with hk | ⟨hk0,hk1⟩
   · have HK := hideIt (kingI_none (n := n) (c := c) hk)
     have HF:=hI (find8_any n hn c 6 (by decide))
     clear hroy
     generalize firstB (ofN n c 6)=s at *
     go_enter Tryz.func61,Tryz.ntmps61
     go_wp2_with (first | rw [HX.out])
     refine (HF.out _).mono ?_
     rintro e Y ⟨rfl,h1⟩
     have pY:=HP.out.below h1 HP.out.lt
     have cv:Y.cell? ⟨w.heap.size,0,none⟩=some (.int .u8 (n 0)):=pY.board 0 (by decide)
     have hb:=hb.trans (h1.mono hb.size)
     clear h1 i0 r0 pY
     go_wp2_with (go_at_call 78;refine (HRR.out _).mono ?_;rintro e w2 ⟨rfl,rfl⟩;rw [HRO.out])
     go_ret
     exact ⟨ret_int HK.out.symm,hb⟩
   · have HF := hideIt (find8_any n hn c 6 (by decide))
     have HY:=hI (fun h=>kingI_yes (n:=n) (c:=c) hroy hk0 h)
     have HN:=hI (kingI_near (n:=n) (c:=c))
     have HNK:=hI (show ∀ s,nearK n s c=((n 0==3)&&!(kingB s&&&ofN n (1 - c) 6==0#64)) from fun s=>rfl)
     clear hroy
     generalize firstB (ofN n c 6)=s at *
     have s0:decide (s<0)=false:=decide_eq_false (by omega)
     by_cases hv:n 0=3
     · have e3 : (n 0 == 3) = true := beq_iff_eq.2 hv
       have HNK:=hI (show nearK n s c=!(kingB s&&&ofN n (1 - c) 6==0#64) by rw [HNK.out,e3];rfl)
       have HV:=hI hv
       have HE:=hI e3
       clear hv e3
       go_enter Tryz.func61,Tryz.ntmps61
       go_wp2_with (first | rw [HX.out])
       refine (HF.out _).mono ?_
       rintro e Y ⟨rfl,h1⟩
       have pY:=HP.out.below h1 HP.out.lt
       have cv:Y.cell? ⟨w.heap.size,0,none⟩=some (.int .u8 (n 0)):=pY.board 0 (by decide)
       have hb:=hb.trans (h1.mono hb.size)
       clear h1 i0 r0
       go_wp2_with (go_at_call 78;refine (HRR.out _).mono ?_;rintro e w2 ⟨rfl,rfl⟩;rw [HRO.out])
       have HPY:=hI pY
       clear pY cv
       go_loopw [6] (fun i wr=>∃ j:Nat,j≤64∧i=.int .i64 j∧Hid (∀ t:Nat,t<j→(hasB (ofN n (1 - c) 6) (t:Int)&&hasB (kingB s) (t:Int))=false)∧Below Y.heap.size Y wr) (fun i _=>64 - (intOf i).toNat)
       case atStart=>exact ⟨0,by omega,rfl,hI (fun t ht=>absurd ht (Nat.not_lt_zero _)),Below.refl _ _⟩
       case round =>
        obtain ⟨j,hj,rfl,hno,hr⟩:=hrel
        by_cases hlt:j<64
        · have pr := HPY.out.below hr HPY.out.lt
          obtain ⟨i0,r0⟩:=pr.rules
          have cv:wr.cell? ⟨w.heap.size,0,none⟩=some (.int .u8 (n 0)):=pr.board 0 (by decide)
          have e3:=HE.out
          have HI:=hI (isN_of n (j:Int) (1 - c) 6 (by decide) (by omega) (by omega))
          have HT:=hI (kingT (a:=(j:Int)) (b:=s) (by omega) (by omega) hk0 hk1)
          have HB:=hI (beside_any (j:Int) s (by omega) (by omega) hk0 hk1)
          clear pr
          cases h1:hasB (ofN n (1 - c) 6) (j:Int) with
          | false =>
            have hno2:Hid (∀ t:Nat,t<j+1→(hasB (ofN n (1 - c) 6) (t:Int)&&hasB (kingB s) (t:Int))=false):=hI (fun t ht=>by
             by_cases e:t=j
             · rw [e,h1];rfl
             · exact hno.out t (by omega))
            rw [h1] at HI
            clear h1 hno
            go_wp2_with fail
            refine (is8_any n hn j hlt (1 - c) 6 _).mono ?_
            rintro e w3 ⟨rfl,h2⟩
            have hr:=hr.trans (h2.mono hr.size)
            rw [HI.out]
            clear h2
            go_wp2
            go_roundw
            case rel=>exact ⟨j+1,by omega,by go_num,hno2,hr⟩
            case measure=>simp [intOf];omega
          | true =>
            cases h3:hasB (kingB s) (j:Int) with
            | false =>
              have hno2:Hid (∀ t:Nat,t<j+1→(hasB (ofN n (1 - c) 6) (t:Int)&&hasB (kingB s) (t:Int))=false):=hI (fun t ht=>by
               by_cases e:t=j
               · rw [e,h3,Bool.and_false]
               · exact hno.out t (by omega))
              rw [h1] at HI
              rw [h3] at HT
              clear h1 h3 hno
              go_wp2_with fail
              refine (is8_any n hn j hlt (1 - c) 6 _).mono ?_
              rintro e w3 ⟨rfl,h2⟩
              have hr:=hr.trans (h2.mono hr.size)
              rw [HI.out]
              clear h2
              go_wp2_with fail
              refine (HB.out _).mono ?_
              rintro e w4 ⟨rfl,rfl⟩
              rw [HT.out]
              go_wp2
              go_roundw
              case rel=>exact ⟨j+1,by omega,by go_num,hno2,hr⟩
              case measure=>simp [intOf];omega
            | true =>
              have HR:=hI (HN.out (by rw [HNK.out,near_some h1 h3];rfl))
              rw [h1] at HI
              rw [h3] at HT
              clear h1 h3 hno
              go_wp2_with fail
              refine (is8_any n hn j hlt (1 - c) 6 _).mono ?_
              rintro e w3 ⟨rfl,h2⟩
              have hr:=hr.trans (h2.mono hr.size)
              rw [HI.out]
              clear h2
              go_wp2_with fail
              refine (HB.out _).mono ?_
              rintro e w4 ⟨rfl,rfl⟩
              rw [HT.out]
              go_wp2
              go_ret
              exact ⟨ret_int HR.out.symm,hb.trans (hr.mono hb.size)⟩
        · obtain rfl : j = 64 := by omega
          have HR:=hI (HY.out (by rw [HNK.out,near_none hno.out];rfl))
          clear hno
          go_wp2
          go_ret
          exact ⟨ret_int HR.out.symm,hb.trans (hr.mono hb.size)⟩
     · have e3 : (n 0 == 3) = false := beq_eq_false_iff_ne.2 hv
       have HR:=hI (HY.out (by rw [HNK.out,e3];rfl))
       clear hv
       go_enter Tryz.func61,Tryz.ntmps61
       go_wp2_with (first | rw [HX.out])
       refine (HF.out _).mono ?_
       rintro e Y ⟨rfl,h1⟩
       have pY:=HP.out.below h1 HP.out.lt
       have cv:Y.cell? ⟨w.heap.size,0,none⟩=some (.int .u8 (n 0)):=pY.board 0 (by decide)
       have hb:=hb.trans (h1.mono hb.size)
       clear h1 i0 r0 pY
       go_wp2_with (go_at_call 78;refine (HRR.out _).mono ?_;rintro e w2 ⟨rfl,rfl⟩;rw [HRO.out])
       refine wp_loop_rounds 1 ?_
       rw [rounds_succ]
       go_wp2
       go_ret
       exact ⟨ret_int HR.out.symm,hb⟩
theorem check_no {n:Nat→Int} {c:Int} (h:kingI n c=-1):checkN n c=false:=by unfold checkN;rw [h];rfl
theorem check_yes {n:Nat→Int} {c:Int} (h:0≤kingI n c):checkN n c=!(byN n (kingI n c) (1 - c)==0#64):=by unfold checkN;rw [decide_eq_true h,Bool.true_and]
theorem nz_u (b:BitVec 64):(u b != 0)=!(b==0#64):=by rw [bne,u_eq_zero]
theorem check8_any (n:Nat→Int) (hn:PosOk n) (c:Int) (c0:0≤c) (c1:c≤1) (w:World):Calls Tryz.prog 25 #[.agg (posA n),.int .u8 c] w fun e w' => e = .returned (.bool (checkN n c))∧Below w.heap.size w w' := by
 obtain ⟨X,hX⟩:∃ X,w.alloc (.cells (posA n) 31)=X:=⟨_,rfl⟩
 obtain ⟨p0,hb⟩:=box1 w n X hX
 obtain ⟨i0,r0⟩:=p0.rules
 have HX:=hI hX
 have HP:=hI p0
 have HK:=hI (king8_any n hn c c0 c1)
 have HW:=wrapC c0 c1
 have h01:0≤1 - c:=by omega
 have dc:decide ((1:Int)<c)=false:=decide_eq_false (by omega)
 clear hX p0
 rcases kingI_bd n c with h | ⟨h0,h1⟩
 · have HR := hideIt (check_no h)
   have HKI:=hI h
   clear h
   go_enter Tryz.func25,Tryz.ntmps25
   go_wp2_with (first | rw [HX.out])
   refine (HK.out _).mono ?_
   rintro e Y ⟨rfl,h1⟩
   have hb:=hb.trans (h1.mono hb.size)
   rw [HKI.out]
   clear h1 i0 r0
   go_wp2
   go_ret
   exact ⟨rB HR.out.symm,hb⟩
 · have HR := hideIt (check_yes h0)
   have HB:=hI (by8_any n hn (kingI n c) (1 - c) h0 h1 (by omega) (by omega))
   generalize kingI n c=s at *
   go_enter Tryz.func25,Tryz.ntmps25
   go_wp2_with (first | rw [HX.out])
   refine (HK.out _).mono ?_
   rintro e Y ⟨rfl,h2⟩
   have hb:=hb.trans (h2.mono hb.size)
   have pY:=HP.out.below h2 HP.out.lt
   obtain ⟨i0',r0'⟩:=pY.rules
   clear h2 i0 r0 pY
   go_wp2_with fail
   refine (HB.out _).mono ?_
   rintro e Z ⟨rfl,h3⟩
   have hb:=hb.trans (h3.mono hb.size)
   clear h3
   go_wp2
   go_ret
   exact ⟨rB (by rw [HR.out,← nz_u]),hb⟩
end Go.Proofs.YteocjaihaegmoaaGreatDoor
