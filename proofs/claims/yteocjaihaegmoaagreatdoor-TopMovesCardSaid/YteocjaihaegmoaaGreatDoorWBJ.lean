/- Parts of the proof: AC, AD, N4, N5, AA, N6, AE, N7, N9. -/
import Derived.Test.YteocjaihaegmoaaGreatDoorWAH
import Derived.Test.YteocjaihaegmoaaGreatDoorWBD
import Derived.Test.YteocjaihaegmoaaGreatDoorWBI
set_option linter.unusedVariables false
set_option maxHeartbeats 16000000
set_option maxRecDepth 100000
namespace Go.Proofs.YteocjaihaegmoaaGreatDoor
open Go Go.RowKit
theorem MovAt.from {w:World} {g:Nat} {q n:Nat→Int} {m:Mv} {tk:Int} (h:MovAt w g q n m tk) (k:Nat) (hk:k<64):w.cell? ⟨g,89+k,none⟩=some (.int .u8 (n (1+k))):=by
 have:=h.oldBoard (1+k) (by omega)
 rwa [show 88+(1+k)=89+k by omega] at this
theorem mkind_any (q n:Nat→Int) (hn:PosOk n) (m:Mv) (tk:Int) (f0:0≤m.f) (f1:m.f<64) (g:Nat) (W:World) (h:MovAt W g q n m tk) :
 Calls Tryz.prog 96 #[.pointer (some ⟨g,0,none⟩)] W fun e w' => e = .returned (.int .u8 (movK n m))∧∃ k,w' = W.drewN k:=by
 have vb:=h.from m.f.toNat (by omega)
 obtain ⟨v0,v1,v2,v3,v4,v5⟩:=h.mv
 obtain ⟨x0,x1⟩:=hn.u8 (1+m.f.toNat) (by omega) (kB (by omega))
 have HK:=hI (show movK n m=if m.d≠0 then m.d else kndI (n (1+m.f.toNat)) from rfl)
 obtain ⟨mf,mt,mp,md,mc⟩:=m
 dsimp only at *
 generalize n (1+mf.toNat)=x at *
 by_cases hd:md=0
 · subst hd
   have HK:=hI (show kndI x=movK n ⟨mf,mt,mp,0,mc⟩ by rw [HK.out];rfl)
   have F1:=hI (fun k=>kind_any x x0 x1 (W.drewN k))
   go_enter Tryz.func96,Tryz.ntmps96
   go_wp2
   go_quiet ((go_at_call 87;exact quietEq (F1.out _)))
   go_wp2
   go_ret
   exact ⟨ret_int HK.out,_,rfl⟩
 · have e1 : (md == 0) = false := beq_eq_false_iff_ne.2 hd
   have e2:(md != 0)=true:=by rw [bne,e1];rfl
   have HK:=hI (show md=movK n ⟨mf,mt,mp,md,mc⟩ by rw [HK.out,if_pos hd])
   clear hd
   go_enter Tryz.func96,Tryz.ntmps96
   go_wp2
   go_ret
   exact ⟨ret_int HK.out,0,rfl⟩
theorem clk_is {q n:Nat→Int} {m:Mv} {tk:Int} (h86:q 86=n 86) (h87:q 87=n 87) :
 (¬(movK n m=1∨0≤tk)→n 78=0→clkN n q m tk=upd q 86 (moreI (q 86)))∧(¬(movK n m=1∨0≤tk)→n 78=1→clkN n q m tk=upd (upd q 86 (moreI (q 86))) 87 (moreI (q 87))) ∧
 ((movK n m=1∨0≤tk)→n 78=0→clkN n q m tk=upd (upd q 86 (moreI (q 86))) 86 0)∧((movK n m=1∨0≤tk)→n 78=1→clkN n q m tk=upd (upd (upd q 86 (moreI (q 86))) 86 0) 87 (moreI (q 87))):=by
 have e:∀ (p:Nat→Int) (x:Int),p 87=x→upd p 87 x=p:=fun p x h=>by rw [← h];exact upd_same p 87
 have e2:∀ x,upd q 86 x 87=n 87:=fun x=>h87
 unfold clkN halfI fullI
 refine ⟨fun h t=>?_,fun h t=>?_,fun h t=>?_,fun h t=>?_⟩
 · rw [if_neg h,if_neg (by omega),e _ _ (e2 _),h86]
 · rw [if_neg h,if_pos t,h86,h87]
 · rw [if_pos h,if_neg (by omega),e _ _ (e2 _),upd_upd]
 · rw [if_pos h,if_pos t,upd_upd,h87]
theorem mclocks_any (q n:Nat→Int) (hq:PosOk q) (hn:PosOk n) (m:Mv) (tk:Int) (f0:0≤m.f) (f1:m.f<64) (h86:q 86=n 86) (h87:q 87=n 87) (h78:q 78=n 78) (ht:n 78=0∨n 78=1) (g:Nat) (W:World) (h:MovAt W g q n m tk) :
 Calls Tryz.prog 39 #[.pointer (some ⟨g,0,none⟩)] W fun e w' => e = .returned (.tuple #[])∧MovAt w' g (clkN n q m tk) n m tk∧Below g W w' := by
 obtain ⟨C1,C2,C3,C4⟩:=clk_is (m:=m) (tk:=tk) h86 h87
 have HKD:=hI (fun r=>mkind_any r n hn m tk f0 f1 g)
 obtain ⟨h0,h1⟩:=hq.i64 86 (by decide) rfl
 obtain ⟨h2,h3⟩:=hq.i64 87 (by decide) rfl
 have HM1:=hI (more_any (q 86) h0 h1)
 have HM2:=hI (more_any (q 87) h2 h3)
 obtain ⟨k,hk⟩:∃ k,movK n m=k:=⟨_,rfl⟩
 rw [hk] at C1 C2 C3 C4 HKD
 have HC1:=hI C1
 have HC2:=hI C2
 have HC3:=hI C3
 have HC4:=hI C4
 have H78:=hI h78
 have wc:=h.cell 86 (by decide)
 obtain ⟨Z,hZ⟩:∃ Z,W.setCell ⟨g,86,none⟩ (.int .i64 (moreI (q 86)))=Z:=⟨_,rfl⟩
 have hZw:MovAt Z g (upd (q) (86) (moreI (q 86))) n m tk:=by rw [← hZ];exact h.setK (86) (by decide) .i64 (rfl) _
 have bZ:Below g W Z:=by rw [← hZ];exact (Below.refl g W).setCell (p:=⟨g,86,none⟩) lR _
 have fZ:=h.free (86)
 have HZ:=hI hZ
 have HZW:=hI hZw
 have HBZ:=hI bZ
 have HKE:=hI (HKD.out _ Z hZw)
 obtain ⟨mf,mt,mp,md,mc⟩:=m
 clear hZ hZw bZ h86 h87 h78 h hk C1 C2 C3 C4 HKD
 generalize hw:clkN n q ⟨mf,mt,mp,md,mc⟩ tk=r at *
 clear hw
 have HTT:=hI ht
 go_enter Tryz.func39,Tryz.ntmps39
 go_wp2_with fail
 refine (HM1.out _).mono ?_
 rintro e w2 ⟨rfl,rfl⟩
 go_wp2_with (rw [HZ.out])
 refine HKE.out.mono ?_
 rintro e V ⟨rfl,kk,rfl⟩
 have hb:=blN Z kk
 have hV:=HZW.out.grow hb
 obtain ⟨V,hVV⟩:∃ V,Z.drewN kk=V:=⟨_,rfl⟩
 rw [hVV] at hb hV ⊢
 clear hVV
 have bV:Below g W V:=HBZ.out.trans (hb.mono (Nat.le_of_lt HZW.out.lt))
 obtain ⟨Vv0,Vv1,Vv2,Vv3,Vv4,Vv5⟩:=hV.mv
 dsimp only at Vv0 Vv1 Vv2 Vv3 Vv4 Vv5
 have Vc78:V.cell? ⟨g,78,none⟩=some (.int .u8 (q 78)):=hV.cell 78 (by decide)
 have Vc86:V.cell? ⟨g,86,none⟩=some (.int .i64 (moreI (q 86))):=hV.cell 86 (by decide)
 have Vc87:V.cell? ⟨g,87,none⟩=some (.int .i64 (q 87)):=hV.cell 87 (by decide)
 obtain ⟨V0,hV0⟩:∃ Z,V.setCell ⟨g,86,none⟩ (.int .i64 (0))=Z:=⟨_,rfl⟩
 have hV0w:MovAt V0 g (upd (upd q 86 (moreI (q 86))) (86) (0)) n ⟨mf,mt,mp,md,mc⟩ tk:=by rw [← hV0];exact hV.setK (86) (by decide) .i64 (rfl) _
 have bV0:Below g W V0:=by rw [← hV0];exact bV.setCell (p:=⟨g,86,none⟩) lR _
 have fV0:=hV.free (86)
 obtain ⟨V1,hV1⟩:∃ Z,V.setCell ⟨g,87,none⟩ (.int .i64 (moreI (q 87)))=Z:=⟨_,rfl⟩
 have hV1w:MovAt V1 g (upd (upd q 86 (moreI (q 86))) (87) (moreI (q 87))) n ⟨mf,mt,mp,md,mc⟩ tk:=by rw [← hV1];exact hV.setK (87) (by decide) .i64 (rfl) _
 have bV1:Below g W V1:=by rw [← hV1];exact bV.setCell (p:=⟨g,87,none⟩) lR _
 have fV1:=hV.free (87)
 have V0c78:V0.cell? ⟨g,78,none⟩=some (.int .u8 (q 78)):=hV0w.cell 78 (by decide)
 have V0c87:V0.cell? ⟨g,87,none⟩=some (.int .i64 (q 87)):=hV0w.cell 87 (by decide)
 obtain ⟨V2,hV2⟩:∃ Z,V0.setCell ⟨g,87,none⟩ (.int .i64 (moreI (q 87)))=Z:=⟨_,rfl⟩
 have hV2w:MovAt V2 g (upd (upd (upd q 86 (moreI (q 86))) 86 0) (87) (moreI (q 87))) n ⟨mf,mt,mp,md,mc⟩ tk:=by rw [← hV2];exact hV0w.setK (87) (by decide) .i64 (rfl) _
 have bV2:Below g W V2:=by rw [← hV2];exact bV0.setCell (p:=⟨g,87,none⟩) lR _
 have fV2:=hV0w.free (87)
 rw [H78.out] at Vc78 V0c78
 have E1:=hI (fun h t=>(show MovAt V g r n ⟨mf,mt,mp,md,mc⟩ tk by rw [HC1.out h t];exact hV))
 have E2:=hI (fun h t=>(show MovAt V1 g r n ⟨mf,mt,mp,md,mc⟩ tk by rw [HC2.out h t];exact hV1w))
 have E3:=hI (fun h t=>(show MovAt V0 g r n ⟨mf,mt,mp,md,mc⟩ tk by rw [HC3.out h t];exact hV0w))
 have E4:=hI (fun h t=>(show MovAt V2 g r n ⟨mf,mt,mp,md,mc⟩ tk by rw [HC4.out h t];exact hV2w))
 have B0:=hI bV0
 have B1:=hI bV1
 have B2:=hI bV2
 have B:=hI bV
 have H0:=hI hV0
 have H1:=hI hV1
 have H2:=hI hV2
 clear hV hV0w hV1w hV2w bV0 bV1 bV2 bV hV0 hV1 hV2 hb
 have hc:(k=1∨0≤tk)∨¬(k=1∨0≤tk):=Decidable.em _
 rcases HTT.out with ht | ht <;> rw [ht] at Vc78 V0c78 <;> have HT:=hI ht <;> clear ht
 all_goals
  cases e1:(k==1) with
  | true =>
    have HA:=hI (Or.inl (beq_iff_eq.1 e1):k=1∨0≤tk)
    go_wp2_with (first | rw [H0.out] | rw [H1.out] | rw [H2.out] | (refine (HM2.out _).mono ?_;rintro e w3 ⟨rfl,rfl⟩))
    go_end0
    first | exact ⟨rfl,E3.out HA.out HT.out,B0.out⟩ | exact ⟨rfl,E4.out HA.out HT.out,B2.out⟩
  | false =>
    by_cases hk:0≤tk
    · have dk : decide (tk ≥ 0) = true := decide_eq_true hk
      have HA:=hI (Or.inr hk:k=1∨0≤tk)
      go_wp2_with (first | rw [H0.out] | rw [H1.out] | rw [H2.out] | (refine (HM2.out _).mono ?_;rintro e w3 ⟨rfl,rfl⟩))
      go_end0
      first | exact ⟨rfl,E3.out HA.out HT.out,B0.out⟩ | exact ⟨rfl,E4.out HA.out HT.out,B2.out⟩
    · have dk : decide (tk ≥ 0) = false := decide_eq_false hk
      have HA:=hI (fun h=>h.elim (beq_eq_false_iff_ne.1 e1) hk:¬(k=1∨0≤tk))
      go_wp2_with (first | rw [H0.out] | rw [H1.out] | rw [H2.out] | (refine (HM2.out _).mono ?_;rintro e w3 ⟨rfl,rfl⟩))
      go_end0
      first | exact ⟨rfl,E1.out HA.out HT.out,B.out⟩ | exact ⟨rfl,E2.out HA.out HT.out,B1.out⟩
theorem mturn_any (q n:Nat→Int) (hq:PosOk q) (hn:PosOk n) (m:Mv) (tk:Int) (f0:0≤m.f) (f1:m.f<64) (h0:q 0=n 0) (h78:q 78=n 78) (ht:n 78=0∨n 78=1) (g:Nat) (W:World) (h:MovAt W g q n m tk) (hT:∀ V,Below g W V→Tab V) :
 Calls Tryz.prog 40 #[.pointer (some ⟨g,0,none⟩)] W fun e w' => e = .returned (.tuple #[])∧MovAt w' g (turnN n q) n m tk∧Below g W w' := by
 obtain ⟨t,htt⟩:∃ t,n 78=t:=⟨_,rfl⟩
 rw [htt] at ht h78
 have HN:=hI (show turnN n q=if n 0=5∧q (84+t.toNat)<3∧checkN (upd q 78 (1 - t)) (1 - t)=true then upd (upd q 78 (1 - t)) (84+t.toNat) (q (84+t.toNat)+1) else upd q 78 (1 - t) by unfold turnN;rw [htt])
 have hk:kindAt (84+t.toNat)=.u8:=by rcases ht with e | e <;> rw [e] <;> rfl
 obtain ⟨x0,x1⟩:=hq.u8 (84+t.toNat) (by omega) hk
 have HCK:=hI (check_any (upd q 78 (1 - t)) (upd_ok hq (wf8 (by omega) (by omega))) (1 - t) (by omega) (by omega))
 have t0:0≤t:=by omega
 have t1:t<2:=by omega
 have w1:IntKind.u8.wrap (1 - t)=1 - t:=IntWalk.u8_in _ (by omega)
 have w2:IntKind.u8.wrap (1 - (1 - t))=t:=by rw [IntWalk.u8_in _ (by omega)];omega
 have Wc78:W.cell? ⟨g,78,none⟩=some (.int .u8 (q 78)):=h.cell 78 (by decide)
 obtain ⟨Z,hZ⟩:∃ Z,W.setCell ⟨g,78,none⟩ (.int .u8 (1 - t))=Z:=⟨_,rfl⟩
 have hZw:MovAt Z g (upd (q) (78) (1 - t)) n m tk:=by rw [← hZ];exact h.setK (78) (by decide) .u8 (rfl) _
 have bZ:Below g W Z:=by rw [← hZ];exact (Below.refl g W).setCell (p:=⟨g,78,none⟩) lR _
 have fZ:=h.free (78)
 rw [h78] at Wc78
 have HZ:=hI hZ
 have HGB:=hI (fun (V:World) (hb:Below Z.heap.size Z V)=>(show ((IsMov V g∧movNow V g=posA (upd q 78 (1 - t))∧movWas V g=posA n)∧V.cell? ⟨g,0,none⟩=some (.int .u8 (n 0))∧V.cell? ⟨g,78,none⟩=some (.int .u8 (1 - t))∧V.cell? ⟨g,84+t.toNat,none⟩=some (.int .u8 (q (84+t.toNat))))∧Below Z.heap.size Z V from
  ⟨⟨(hZw.grow hb).rules,by rw [← h0];exact (hZw.grow hb).cell 0 (by decide),(hZw.grow hb).cell 78 (by decide),by rw [← hk];have:=(hZw.grow hb).cell (84+t.toNat) (by omega);rwa [upd_ne _ (by omega)] at this⟩,hb⟩))
 have HG:=hI (fun (V:World) (hb:Below Z.heap.size Z V)=>(show MovAt V g (upd q 78 (1 - t)) n m tk∧Below g W V from ⟨hZw.grow hb,bZ.trans (hb.mono (Nat.le_of_lt hZw.lt))⟩))
 have HTZ:=hI (fun (V:World) (hb:Below Z.heap.size Z V)=>hT V (bZ.trans (hb.mono (Nat.le_of_lt hZw.lt))))
 obtain ⟨⟨_,v1,v2,v3⟩,_⟩:=HGB.out Z bR
 clear hZ hZw bZ h hT htt h0 h78
 obtain ⟨x,hx⟩:∃ x,q (84+t.toNat)=x:=⟨_,rfl⟩
 rw [hx] at HN HGB v3 x0 x1
 by_cases hv:n 0=5
 case neg =>
  have HN:=hI (HN.out.trans (if_neg (fun h=>hv h.1)))
  have e1:(n 0==5)=false:=beq_eq_false_iff_ne.2 hv
  go_enter Tryz.func40,Tryz.ntmps40
  go_wp2_with (rw [HZ.out])
  go_quiet (fail)
  go_wp2
  go_end0
  exact ⟨rfl,by rw [HN.out];exact (HG.out _ (blN _ _)).1,(HG.out _ (blN _ _)).2⟩
 case pos =>
  have e1:(n 0==5)=true:=beq_iff_eq.2 hv
  by_cases hx3:x<3
  case neg =>
   have HN:=hI (HN.out.trans (if_neg (fun h=>hx3 h.2.1)))
   have e2:decide (x<3)=false:=decide_eq_false hx3
   go_enter Tryz.func40,Tryz.ntmps40
   go_wp2_with (rw [HZ.out])
   go_quiet (fail)
   go_wp2
   go_end0
   exact ⟨rfl,by rw [HN.out];exact (HG.out _ (blN _ _)).1,(HG.out _ (blN _ _)).2⟩
  case pos =>
   have e2:decide (x<3)=true:=decide_eq_true hx3
   have w3:IntKind.u8.wrap (x+1)=x+1:=IntWalk.u8_in _ (by omega)
   cases hc:checkN (upd q 78 (1 - t)) (1 - t) <;> rw [hc] at HCK
   case false =>
    have HN:=hI (HN.out.trans (if_neg (fun h=>by rw [hc] at h;cases h.2.2)))
    go_enter Tryz.func40,Tryz.ntmps40
    go_wp2_with (rw [HZ.out])
    go_region_held3 (fun V=>((IsMov V g∧movNow V g=posA (upd q 78 (1 - t))∧movWas V g=posA n)∧V.cell? ⟨g,0,none⟩=some (.int .u8 (n 0))∧V.cell? ⟨g,78,none⟩=some (.int .u8 (1 - t))∧V.cell? ⟨g,84+t.toNat,none⟩=some (.int .u8 x))∧Below Z.heap.size Z V) ((refine HGB.out _ ?_;repeat (first | exact bR | assumption | refine bD ?_ | refine bT ?_ (by assumption) | refine bl_new7 ?_))) ((go_at_call 20;refine (HCK.out _ (HTZ.out _ (And.right ‹(_∧_∧_)∧Below Z.heap.size Z _›))).mono ?_;rintro e w31 ⟨rfl,h1⟩))
    all_goals
     have hq:=And.right ‹(_∧_∧_)∧Below Z.heap.size Z _›
     go_wp2
     go_end0
     exact ⟨rfl,by rw [HN.out];exact (HG.out _ hq).1,(HG.out _ hq).2⟩
   case true =>
    have HN:=hI (HN.out.trans (if_pos ⟨hv,hx3,hc⟩))
    go_enter Tryz.func40,Tryz.ntmps40
    go_wp2_with (rw [HZ.out])
    go_region_held3 (fun V=>((IsMov V g∧movNow V g=posA (upd q 78 (1 - t))∧movWas V g=posA n)∧V.cell? ⟨g,0,none⟩=some (.int .u8 (n 0))∧V.cell? ⟨g,78,none⟩=some (.int .u8 (1 - t))∧V.cell? ⟨g,84+t.toNat,none⟩=some (.int .u8 x))∧Below Z.heap.size Z V) ((refine HGB.out _ ?_;repeat (first | exact bR | assumption | refine bD ?_ | refine bT ?_ (by assumption) | refine bl_new7 ?_))) ((go_at_call 20;refine (HCK.out _ (HTZ.out _ (And.right ‹(_∧_∧_)∧Below Z.heap.size Z _›))).mono ?_;rintro e w31 ⟨rfl,h1⟩))
    all_goals
     have hq:=And.right ‹(_∧_∧_)∧Below Z.heap.size Z _›
     obtain ⟨hV,bV⟩:=HG.out w31 hq
     obtain ⟨_,_,_,c84⟩:=(HGB.out w31 hq).1
     have fz:=hV.free (84+t.toNat)
     obtain ⟨Y,hY⟩:∃ Y,(w31.setCell ⟨g,84+t.toNat,none⟩ (.int .u8 (x+1))).drew=Y:=⟨_,rfl⟩
     have hYw:MovAt Y g (upd (upd q 78 (1 - t)) (84+t.toNat) (x+1)) n m tk:=by rw [← hY];exact (hV.setK (84+t.toNat) (by omega) .u8 hk _).drew
     have bY:Below g W Y:=by rw [← hY];exact (bV.setCell (p:=⟨g,84+t.toNat,none⟩) lR _).drew
     have HY:=hI hY
     have HE:=hI hYw
     clear hY hYw hV bV
     go_wp2
     go_region
     all_goals
      go_wp2_with (rw [HY.out])
      go_end0
      exact ⟨rfl,by rw [HN.out];exact HE.out,bY⟩
theorem i64_small {x:Int} (h0:-1000≤x) (h1:x≤1000):IntKind.i64.wrap x=x:=IntWalk.i64_in _ (by omega)
theorem cside_any (n:Nat→Int) (t:Int) (ht:n 78=t) (h01:t=0∨t=1) (m:Mv) (hc:CastOk n m) (w:World):Calls Tryz.prog 151 #[.agg (posA n),.agg #[.int .i8 m.f,.int .i8 m.t,.int .u8 m.p,.int .u8 m.d,.bool m.c]] w fun e w' => e = .returned (.int .i64 (sideM m:Int))∧Below w.heap.size w w' := by
 obtain ⟨h1,h2,h3,h4,h5,h6,h7,h8⟩:=hc
 obtain ⟨mf,mt,mp,md,mc⟩:=m
 dsimp only at h1 h2 h3 h4 h5 h6 h7 h8 ⊢
 subst h1 h2 h3
 rw [ht] at h5 h6 h7 h8
 obtain ⟨X,hX⟩:∃ X,box2m n ⟨mf,mt,0,0,true⟩ w=X:=⟨_,rfl⟩
 obtain ⟨p0,q0,hb,hsz⟩:=box2m_at n _ w X hX
 have HX:=hI (show (w.alloc (.cells (posA n) 31)).alloc (.cells #[.int .i8 mf,.int .i8 mt,.int .u8 0,.int .u8 0,.bool true] 49)=X from hX)
 obtain ⟨m0,m1,m2,m3,m4⟩:=mv_cell (m:=⟨mf,mt,0,0,true⟩) (show X.heap[w.heap.size+1]?=_ from q0)
 have c78:X.cell? ⟨w.heap.size,78,none⟩=some (.int .u8 t):=by rw [← ht];exact p0.cell 78 (by decide)
 obtain ⟨Y,hY⟩:∃ Y,X.alloc (.cells #[.int .i8 mf,.int .i8 mt] 26)=Y:=⟨_,rfl⟩
 have hbY:Below X.heap.size X Y:=by rw [← hY];exact bR.alloc lR _
 have y0:Y.cell? ⟨X.heap.size,0,none⟩=some (.int .i8 mf):=by rw [← hY];exact World.cell?_alloc_new ..
 have y1:Y.cell? ⟨X.heap.size,1,none⟩=some (.int .i8 mt):=by rw [← hY];exact World.cell?_alloc_new ..
 have y78:Y.cell? ⟨w.heap.size,78,none⟩=some (.int .u8 t):=by rw [← ht];exact (p0.below hbY p0.lt).cell 78 (by decide)
 obtain ⟨n0,n1,n2,n3,n4⟩:=mv_cell (m:=⟨mf,mt,0,0,true⟩) (show Y.heap[w.heap.size+1]?=_ from (hbY.block _ (Array.getElem?_eq_some_iff.1 q0).1).trans q0)
 have z0:=y0
 have z1:=y1
 rw [hsz] at z0 z1
 have HY:=hI hY
 clear hsz
 have HS:Hid (sideM ⟨mf,mt,0,0,true⟩=if mf<mt then 0 else 1):=rfl
 have HB:=hI (hb.trans (hbY.mono hb.size))
 have HH:=hI (chome_any t h01)
 have e1:(mf==mt)=false:=beq_eq_false_iff_ne.2 h4
 have e0:decide (1<t)=false:=decide_eq_false (by omega)
 have g0:homeC t=56*t:=rfl
 have w1:IntKind.i64.wrap (mf - homeC t)=mf - homeC t:=i64_small (by omega) (by omega)
 have w2:IntKind.i64.wrap (mt - homeC t)=mt - homeC t:=i64_small (by omega) (by omega)
 have d1:decide (mf - homeC t<0)=false:=decide_eq_false (by omega)
 have d2:decide (7<mf - homeC t)=false:=decide_eq_false (by omega)
 have d3:decide (mt - homeC t<0)=false:=decide_eq_false (by omega)
 have d4:decide (7<mt - homeC t)=false:=decide_eq_false (by omega)
 have HSD:=hI (show sideM ⟨mf,mt,0,0,true⟩=if mf<mt then 0 else 1 from rfl)
 have f0:0≤mf:=by omega
 have f1:mf<64:=by omega
 have t0:0≤mt:=by omega
 have t1:mt<64:=by omega
 clear hX p0 q0 hb h4 hbY hY g0 h5 h6 h7 h8
 go_enter Tryz.func151,Tryz.ntmps151
 go_wp2_with (first | rw [HX.out] | rw [HY.out])
 refine wp_loop_rounds 3 ?_
 rw [rounds_succ]
 go_wp2_with ((refine (HH.out _).mono ?_;rintro e w2 ⟨rfl,rfl⟩))
 rw [rounds_succ]
 go_wp2_with ((refine (HH.out _).mono ?_;rintro e w2 ⟨rfl,rfl⟩))
 rw [rounds_succ]
 by_cases hlt:mf<mt
 · have e4 : decide (mt > mf) = true := decide_eq_true hlt
   have HS:=hI (show sideM ⟨mf,mt,0,0,true⟩=0 by rw [HS.out,if_pos hlt])
   go_wp2
   go_ret
   exact ⟨ret_val (by rw [HS.out];rfl),HB.out⟩
 · have e4 : decide (mt > mf) = false := decide_eq_false (by omega)
   have HS:=hI (show sideM ⟨mf,mt,0,0,true⟩=1 by rw [HS.out,if_neg hlt])
   go_wp2
   go_ret
   exact ⟨ret_val (by rw [HS.out];rfl),HB.out⟩
theorem cgoalsM_any (n:Nat→Int) (t:Int) (ht:n 78=t) (h01:t=0∨t=1) (m:Mv) (hc:CastOk n m) (w:World):Calls Tryz.prog 89 #[.agg (posA n),.agg #[.int .i8 m.f,.int .i8 m.t,.int .u8 m.p,.int .u8 m.d,.bool m.c]] w fun e w' => e = .returned (.tuple #[.int .i64 (homeC t+kGoal (sideM m)),.int .i64 (homeC t+rGoal (sideM m)),.bool true])∧Below w.heap.size w w' := by
 have HSD:=hI (cside_any n t ht h01 m hc)
 have hsd:sideM m=0∨sideM m=1:=by unfold sideM;split <;> simp
 obtain ⟨sd,hs⟩:∃ sd,sideM m=sd:=⟨_,rfl⟩
 rw [hs] at HSD hsd ⊢
 obtain ⟨mf,mt,mp,md,mc⟩:=m
 dsimp only at *
 obtain ⟨X,hX⟩:∃ X,box2m n ⟨mf,mt,mp,md,mc⟩ w=X:=⟨_,rfl⟩
 obtain ⟨p0,q0,hb,hsz⟩:=box2m_at n _ w X hX
 have HX:=hI (show (w.alloc (.cells (posA n) 31)).alloc (.cells #[.int .i8 mf,.int .i8 mt,.int .u8 mp,.int .u8 md,.bool mc] 49)=X from hX)
 obtain ⟨m0,m1,m2,m3,m4⟩:=mv_cell (m:=⟨mf,mt,mp,md,mc⟩) (show X.heap[w.heap.size+1]?=_ from q0)
 dsimp only at m0 m1 m2 m3 m4
 obtain ⟨xi,xr⟩:=p0.rules
 have HP:=hI p0
 have HB:=hI hb
 have HT:=hI ht
 have HGO:=hI cgoals_any
 have HH:=hI (fun w=>chome_any t h01 w)
 have h00:0≤homeC t∧homeC t≤56:=by unfold homeC;omega
 obtain ⟨h00,h56⟩:=h00
 have e1:∀ w,(Instr.index 163 (.agg #[.int .i64 6,.int .i64 5,.int .i64 2,.int .i64 3]) (.int .i64 0)).run Tryz.prog w=.ok (.agg #[.int .i64 6,.int .i64 5]) w:=fun _=>by kernel_rfl
 have e2:∀ w,(Instr.index 163 (.agg #[.int .i64 6,.int .i64 5,.int .i64 2,.int .i64 3]) (.int .i64 1)).run Tryz.prog w=.ok (.agg #[.int .i64 2,.int .i64 3]) w:=fun _=>by kernel_rfl
 clear hX p0 q0 hb hsz hs hc ht h01
 have W6:=IntWalk.i64_in (homeC t+6) (by omega)
 have W5:=IntWalk.i64_in (homeC t+5) (by omega)
 have W2:=IntWalk.i64_in (homeC t+2) (by omega)
 have W3:=IntWalk.i64_in (homeC t+3) (by omega)
 generalize homeC t=h at *
 rcases hsd with rfl | rfl
 all_goals
  go_enter Tryz.func89,Tryz.ntmps89
  go_wp2_with (first | rw [HX.out])
  refine (HSD.out _).mono ?_
  rintro e V ⟨rfl,h1⟩
  have hbV:=HB.out.trans (h1.mono HB.out.size)
  have hV:=HP.out.below h1 HP.out.lt
  clear h1 m0 m1 m2 m3 m4 xi xr
  go_wp2_with fail
  refine (HGO.out _).mono ?_
  rintro e V2 ⟨rfl,h1⟩
  have hbV2:=hbV.trans (h1.mono hbV.size)
  have hV2:=hV.below h1 hV.lt
  have c78:V2.cell? ⟨w.heap.size,78,none⟩=some (.int .u8 t):=by rw [← HT.out];exact hV2.cell 78 (by decide)
  have d78:∀ o,(V2.alloc o).cell? ⟨w.heap.size,78,none⟩=some (.int .u8 t):=fun o=>by rw [← HT.out];exact (hV2.alloc o).cell 78 (by decide)
  have d0:∀ a b,(V2.alloc (.cells #[.int .i64 a,.int .i64 b] 93)).cell? ⟨V2.heap.size,0,none⟩=some (.int .i64 a):=fun _ _=>World.cell?_alloc_new ..
  have d1:∀ a b,(V2.alloc (.cells #[.int .i64 a,.int .i64 b] 93)).cell? ⟨V2.heap.size,1,none⟩=some (.int .i64 b):=fun _ _=>World.cell?_alloc_new ..
  clear hV2 hV h1
  go_wp2
  go_quiet ((go_at_call 146;exact quietEq (HH.out _)))
  go_wp2
  go_ret3
  exact ⟨rfl,(hbV2.alloc hbV2.size _).trans ((blN _ _).mono (Nat.le_trans hbV2.size (by simp)))⟩
structure IsPm (n:Nat→Int) (m:Mv):Prop where
 c:m.c=false
 d:m.d=0
 f0:0≤m.f
 f1:m.f<64
 t0:0≤m.t
 t1:m.t<64
 may:mayP n m.f m.t=true
 p:(if kndI (n (1+m.f.toNat))=1∧rankC (n 78) m.t=7 then (promL (n 0).toNat).contains m.p else m.p==0)=true
theorem isP_parts {n:Nat→Int} {m:Mv} (h:isP n m=true):IsPm n m:=by
 unfold isP at h
 simp only [Bool.and_eq_true,Bool.not_eq_true',beq_iff_eq,decide_eq_true_iff] at h
 obtain ⟨⟨⟨⟨⟨h1,h2⟩,sa⟩,sb⟩,h5⟩,h6⟩:=h
 exact ⟨h1,h2,sa.1,sa.2,sb.1,sb.2,h5,h6⟩
theorem IsPm.p_bd {n:Nat→Int} {m:Mv} (h:IsPm n m):m.p=0∨(2≤m.p∧m.p≤6∧kndI (n (1+m.f.toNat))=1∧rankC (n 78) m.t=7∧m.p∈promL (n 0).toNat):=by
 have:=h.p
 split at this
 · rename_i hk
   have h2:=List.contains_iff_mem.1 this
   have:=promL_bd h2
   exact .inr ⟨this.1,this.2,hk.1,hk.2,h2⟩
 · exact .inl (beq_iff_eq.1 this)
theorem may_own {n:Nat→Int} {a b:Int} (h:mayP n a b=true):a≠b∧ownP n a (n 78)=true∧ownP n b (n 78)=false:=by
 unfold mayP at h
 by_cases e:a=b
 · rw [if_pos e] at h;cases h
 · rw [if_neg e] at h
   cases h1:ownP n a (n 78) with
   | false=>rw [h1,if_pos rfl] at h;cases h
   | true =>
     rw [h1,if_neg (by decide)] at h
     cases h2:ownP n b (n 78) with
     | true=>rw [h2,if_pos rfl] at h;cases h
     | false=>exact ⟨e,rfl,rfl⟩
theorem may_pawn {n:Nat→Int} {a b:Int} (h:mayP n a b=true) (hk:kndI (n (1+a.toNat))=1):rpawnP n a b=true:=by
 obtain ⟨h1,h2,h3⟩:=may_own h
 unfold mayP at h
 rwa [if_neg h1,h2,if_neg (by decide),h3,if_neg (by decide),if_pos hk] at h
theorem own_col {n:Nat→Int} {a c:Int} (h:ownP n a c=true):isB (n (1+a.toNat))=true∧colI (n (1+a.toNat))=c:=by
 unfold ownP at h
 rw [Bool.and_eq_true,beq_iff_eq] at h
 exact ⟨h.1,by rw [col_div h.1];exact h.2⟩
/-- A pawn's step: it hits, or goes ahead by one, or by two. -/
theorem pawn_ways {n:Nat→Int} {a b:Int} (h:rpawnP n a b=true) (hk:kndI (n (1+a.toNat))=1) (hc:colI (n (1+a.toNat))=n 78) :
 (hasB (pawnB (n 78) a) b=true∧(ownP n b (1 - n 78)=true∨n 83=b))∨(b=aheadC (n 78) a∧isB (n (1+b.toNat))=false) ∨
 (b=aheadC (n 78) (aheadC (n 78) a)∧fromC n a=true∧isB (n (1+(aheadC (n 78) a).toNat))=false∧isB (n (1+b.toNat))=false):=by
 have hhit:hitI (n (1+a.toNat)) a b (allN n)=hasB (pawnB (n 78) a) b:=by rw [hit_kind hk,hc];rfl
 unfold rpawnP at h
 rw [hhit] at h
 cases hh:hasB (pawnB (n 78) a) b with
 | true =>
   rw [hh,if_pos rfl,Bool.or_eq_true,beq_iff_eq] at h
   exact .inl ⟨rfl,h⟩
 | false =>
   rw [hh,if_neg (by decide)] at h
   by_cases e:b=aheadC (n 78) a
   · rw [if_pos e, Bool.not_eq_true'] at h
     exact .inr (.inl ⟨e,h⟩)
   · rw [if_neg e] at h
     simp only [Bool.and_eq_true,Bool.not_eq_true',beq_iff_eq] at h
     exact .inr (.inr ⟨h.1.1.1,h.1.1.2,h.1.2,h.2⟩)
def pawnBk (c a b:Int):Bool:=!(hasB (pawnB c a) b) || (decide (0≤aheadC (1 - c) b)&&decide (aheadC (1 - c) b<64)&&(rankC c b==rankC c a+1)&&!(a % 8==b % 8))
theorem pawnBk_in:∀ a b:Fin 64,pawnBk 0 (a.val:Int) (b.val:Int)=true∧pawnBk 1 (a.val:Int) (b.val:Int)=true:=by decide +kernel
theorem pawn_bk {c a b:Int} (hc:c=0∨c=1) (a0:0≤a) (a1:a<64) (b0:0≤b) (b1:b<64) (h:hasB (pawnB c a) b=true):0≤aheadC (1 - c) b∧aheadC (1 - c) b<64∧rankC c b=rankC c a+1∧a % 8≠b % 8:=by
 have G:pawnBk c a b=true:=by
  obtain ⟨x,rfl⟩:=sq1 a0 a1;obtain ⟨y,rfl⟩:=sq1 b0 b1
  rcases hc with rfl | rfl
  · exact (pawnBk_in x y).1
  · exact (pawnBk_in x y).2
 unfold pawnBk at G
 rw [h] at G
 simpa [and_assoc] using G
theorem ahead_file (c s:Int):aheadC c s % 8=s % 8:=by rcases ahead_cases c s with ⟨_,e⟩ | ⟨_,e⟩ <;> omega
theorem takenG_bd {n:Nat→Int} {m:Mv} (ht:n 78=0∨n 78=1) (h:IsPm n m):-1≤takenG n m∧takenG n m<64:=by
 unfold takenG
 have:=h.t0;have:=h.t1
 split
 · omega
 · split
   · rename_i hk
     have hc:=own_col (may_own h.may).2.1
     rcases pawn_ways (may_pawn h.may hk.1) hk.1 hc.2 with ⟨h1,_⟩ | ⟨h1,_⟩ | ⟨h1,_⟩
     · have:=pawn_bk ht h.f0 h.f1 h.t0 h.t1 h1;omega
     · exact absurd (by rw [h1,ahead_file]) hk.2
     · exact absurd (by rw [h1,ahead_file,ahead_file]) hk.2
   · omega
theorem taken_bd {n:Nat→Int} {m:Mv} (ht:n 78=0∨n 78=1):-1≤takenP n m∧takenP n m<64:=by
 unfold takenP takenN
 split
 · split
   · rename_i h;exact takenG_bd ht (isP_parts h)
   · omega
 · omega
theorem taken_not {n:Nat→Int} {m:Mv} (h:m.c=true∨m.d≠0):takenP n m=-1:=by
 have:isP n m=false:=by
  cases e:isP n m with
  | false=>rfl
  | true =>
    have:=isP_parts e
    rcases h with h | h
    · rw [this.c] at h;cases h
    · exact absurd this.d h
 unfold takenP takenN
 rw [this]
 split <;> rfl
theorem mem_castIf {n:Nat→Int} {side:Nat} {m:Mv}:m∈castIf n side↔castB n side=true∧m=castM n side:=by
 unfold castIf
 split
 · rename_i h;rw [List.mem_singleton];exact ⟨fun e=>⟨h,e⟩,fun e=>e.2⟩
 · rename_i h;exact ⟨fun e=>(by cases e),fun e=>absurd e.1 h⟩
theorem mem_castle {n:Nat→Int} {m:Mv} (h:m∈castleL n):∃ side,(side=0∨side=1)∧castB n side=true∧m=castM n side:=by
 unfold castleL at h
 rcases List.mem_append.1 h with h | h
 · exact ⟨1,.inr rfl,mem_castIf.1 h⟩
 · exact ⟨0,.inl rfl,mem_castIf.1 h⟩
theorem mem_dropK {n:Nat→Int} {t:Nat} {m:Mv}:∀ {k:Nat},m∈dropK n t k→∃ j s:Nat,j<k∧s<64∧n (67+6*t+j)≠0∧hasB (whB n (j+1)) (s:Int)=true∧m=dmv s ((j:Int)+1)
 | 0,h=>by cases h
 | k + 1, h => by
   unfold dropK at h
   rcases List.mem_append.1 h with h | h
   · obtain ⟨j, s, hj, r⟩ := mem_dropK h
     exact ⟨j,s,by omega,r⟩
   · split at h
     · cases h
     · rename_i h0
       obtain ⟨s,hs,rfl⟩:=List.mem_map.1 h
       have h1:=(mem_listB _ _).1 hs
       have h2:=has_sq h1
       exact ⟨k,s.toNat,by omega,by omega,h0,by rw [show ((s.toNat:Nat):Int)=s by omega];exact h1,by rw [show ((s.toNat:Nat):Int)=s by omega]⟩
theorem cast_ok {n:Nat→Int} (ht:n 78=0∨n 78=1) {side:Nat} (hs:side=0∨side=1) (h:castB n side=true):CastOk n (castM n side)∧kndI (n (1+(kSq n).toNat))=6∧(kSq n<rSq n side↔side=0):=by
 unfold castB kingOk rookOk at h
 simp only [Bool.and_eq_true,Bool.not_eq_true',decide_eq_true_iff,beq_iff_eq,beq_eq_false_iff_ne,and_assoc] at h
 obtain ⟨h1,h2,h3,h4,h5,h6,h7,h8,h9,_⟩:=h
 have hf:0≤kSq n∧kSq n<64∧hasB (ofN n (n 78) 6) (kSq n)=true:=by
  unfold kSq at h3 ⊢
  rcases first_cases (ofN n (n 78) 6) with ⟨_,e⟩ | ⟨i,hi,hb,_,e⟩
  · omega
  · rw [e]; refine ⟨by omega, by omega, ?_⟩
    rw [hasB_nat _ i (by omega)];exact hb
 refine ⟨⟨rfl,rfl,rfl,?_,?_,?_,?_,?_⟩,?_,?_⟩
 · show kSq n≠rSq n side;omega
 · show 56*n 78≤kSq n;rcases ht with e | e <;> rw [e] at h4 ⊢ <;> omega
 · show kSq n≤56*n 78+7;rcases ht with e | e <;> rw [e] at h4 ⊢ <;> omega
 · show 56*n 78≤homeC (n 78)+rFile n side;unfold homeC;omega
 · show homeC (n 78)+rFile n side≤56*n 78+7;unfold homeC;omega
 · have h9 := hf.2.2
   rw [has_of n _ _ _ hf.1 hf.2.1,Bool.and_eq_true] at h9
   have h10:=h9.2
   unfold ofP at h10
   simp at h10
   exact h10.2
 · have : decide (kSq n < rSq n side) = (side == 0) := h8
   rw [← beq_iff_eq (a:=side),← this,decide_eq_true_iff]
theorem all_cases {n:Nat→Int} (ht:n 78=0∨n 78=1) (hv:n 0<9) {m:Mv} (h:m∈allL n) :
 IsPm n m∨(∃ side,(side=0∨side=1)∧castB n side=true∧m=castM n side)∨(n 0=2∧∃ j s:Nat,j<5∧s<64∧n (67+6*(n 78).toNat+j)≠0∧hasB (whB n (j+1)) (s:Int)=true∧m=dmv s ((j:Int)+1)):=by
 unfold allL at h
 rcases List.mem_append.1 h with h | h
 · rcases List.mem_append.1 h with h | h
   · left
     unfold pseuL at h
     split at h
     · exact isP_parts ((mem_pseudo n ht m).1 h)
     · cases h
   · exact .inr (.inl (mem_castle h))
 · right; right
   unfold dropL at h
   split at h
   · rename_i hc
     obtain ⟨j,s,r⟩:=mem_dropK h
     exact ⟨by have:=hc.2;have:=hc.1;omega,j,s,r⟩
   · cases h
theorem all_mvok {n:Nat→Int} (ht:n 78=0∨n 78=1) (hv:n 0<9) {m:Mv} (h:m∈allL n):MvOk n m (takenP n m)∧(m.c=true→kndI (n (1+m.f.toNat))≠1):=by
 have hb:=taken_bd (m:=m) ht
 rcases all_cases ht hv h with h | ⟨side,hs,hc,rfl⟩ | ⟨_,j,s,hj,hs,hn,_,rfl⟩
 · have := h.p_bd
   exact ⟨⟨h.f0,h.f1,h.t0,h.t1,by omega,by omega,by rw [h.d];decide,by rw [h.d];decide,hb.1,hb.2,fun e=>(by rw [h.c] at e;cases e),fun e=>absurd h.d e⟩,fun e=>(by rw [h.c] at e;cases e)⟩
 · obtain ⟨ho, hk, _⟩ := cast_ok ht hs hc
   have h1:=ho.f0;have h2:=ho.f1;have h3:=ho.t0;have h4:=ho.t1
   have:0≤n 78∧n 78≤1:=by omega
   exact ⟨⟨by omega,by omega,by omega,by omega,(show (0:Int)≤0 by decide),(show (0:Int)≤6 by decide),(show (0:Int)≤0 by decide),(show (0:Int)≤5 by decide),hb.1,hb.2,fun _=>⟨ho,taken_not (.inl rfl)⟩,fun e=>absurd rfl e⟩,fun _=>by show kndI (n (1+(kSq n).toNat))≠1;omega⟩
 · have hd : (dmv s ((j : Int) + 1)).d ≠ 0 := by show (j : Int) + 1 ≠ 0; omega
   exact ⟨⟨by show (0:Int)≤s;omega,by show (s:Int)<64;omega,by show (0:Int)≤s;omega,by show (s:Int)<64;omega,(show (0:Int)≤0 by decide),(show (0:Int)≤6 by decide),by show (0:Int)≤(j:Int)+1;omega,by show (j:Int)+1≤5;omega,hb.1,hb.2,fun e=>(by cases e),fun _=>⟨rfl,rfl,taken_not (.inr hd),by show n (66+6*(n 78).toNat+((j:Int)+1).toNat)≠0;rwa [show 66+6*(n 78).toNat+((j:Int)+1).toNat=67+6*(n 78).toNat+j by omega]⟩⟩,fun e=>(by cases e)⟩
theorem goal_ix {n:Nat→Int} (ht:n 78=0∨n 78=1) (s:Nat):(0≤homeC (n 78)+kGoal s∧homeC (n 78)+kGoal s<64)∧(0≤homeC (n 78)+rGoal s∧homeC (n 78)+rGoal s<64):=by
 unfold homeC kGoal rGoal
 rcases ht with e | e <;> rw [e] <;> (constructor <;> split <;> omega)
/-- What a step leaves as it was. -/
def Far (n q:Nat→Int):Prop:=∀ i,i=0∨78≤i→q i=n i
theorem Far.refl (n:Nat→Int):Far n n:=fun _ _=>rfl
theorem Far.upd {n q:Nat→Int} (h:Far n q) {i:Nat} (h1:1≤i) (h2:i<78) (x:Int):Far n (upd q i x):=fun j hj=>by
 rw [upd_ne _ (by omega)];exact h j hj
theorem Far.trans {n q r:Nat→Int} (h:Far n q) (h2:Far q r):Far n r:=fun i hi=>(h2 i hi).trans (h i hi)
theorem Far.tk {n q:Nat→Int} (h:Far n q) (c k:Nat):Far n (takN q c k):=by
 unfold takN
 split
 · rename_i hb
   unfold takB at hb
   rw [Bool.and_eq_true,fits_iff] at hb
   refine h.upd ?_ ?_ _ <;> (unfold poIx;omega)
 · exact h
theorem Far.ad {n q:Nat→Int} (h:Far n q) (c k:Nat):Far n (addN q c k):=by
 unfold addN
 split
 · rename_i hb
   unfold addB at hb
   rw [Bool.and_eq_true,fits_iff] at hb
   refine h.upd ?_ ?_ _ <;> (unfold poIx;omega)
 · exact h
theorem men_far {n:Nat→Int} (ht:n 78=0∨n 78=1) {m:Mv} {tk:Int} (hm:MvOk n m tk):Far n (menN n m tk):=by
 have:=hm.f0;have:=hm.f1;have:=hm.t0;have:=hm.t1;have:=hm.k1
 have g:=goal_ix ht (sideM m)
 have h0:=Far.refl n
 unfold menN
 split
 · exact (((h0.upd (by omega) (by omega) _).upd (by omega) (by omega) _).upd (by omega) (by omega) _).upd (by omega) (by omega) _
 · split
   · exact (h0.tk _ _).upd (by omega) (by omega) _
   · have hc : Far n (menC0 n tk) := by
      unfold menC0;split
      · exact h0.upd (by omega) (by omega) _
      · exact h0
     unfold menC
     split
     · exact ((hc.upd (by omega) (by omega) _).upd (by omega) (by omega) _).upd (by omega) (by omega) _
     · exact (hc.upd (by omega) (by omega) _).upd (by omega) (by omega) _
theorem poc_far {n q:Nat→Int} {m:Mv} {tk:Int}:Far q (pocN n q m tk):=by
 unfold pocN
 split
 · exact Far.refl q
 · split
   · unfold pocC; split
     · exact (Far.refl q).upd (by omega) (by omega) _
     · exact Far.refl q
   · refine Far.upd ?_ (by omega) (by omega) _
     unfold pocT;split
     · exact (Far.refl q).ad _ _
     · exact Far.refl q
theorem wipe_far (q:Nat→Int) (b:BitVec 64):Far q (wipeN q b):=fun i hi=>if_neg (by omega)
theorem blow_far {n q:Nat→Int} {m:Mv} {tk:Int}:Far q (blowN n q m tk):=by
 unfold blowN;split
 · exact wipe_far _ _
 · exact Far.refl q
theorem mov3_far {n:Nat→Int} (ht:n 78=0∨n 78=1) {m:Mv} {tk:Int} (hm:MvOk n m tk):Far n (mov3 n m tk):=((men_far ht hm).trans poc_far).trans blow_far
/-- Rights alone are changed. -/
def Side0 (q r:Nat→Int):Prop:=∀ i,i<79∨83≤i→r i=q i
theorem rig0_side {n q:Nat→Int} (ht:n 78=0∨n 78=1) {m:Mv}:Side0 q (rig0 n q m):=fun i hi=>by
 unfold rig0
 split
 · rw [upd_ne _ (by omega),upd_ne _ (by omega)]
 · rfl
theorem rig1_side {q:Nat→Int} {m:Mv} {tk:Int} {c side:Nat} (hc:c≤1) (hs:side≤1):Side0 q (rig1 q m tk c side):=fun i hi=>by
 unfold rig1
 split
 · rw [upd_ne _ (by omega)]
 · rfl
theorem rig_side {n q:Nat→Int} (ht:n 78=0∨n 78=1) {m:Mv} {tk:Int}:Side0 q (rigN n q m tk):=fun i hi=>by
 unfold rigN
 rw [rig1_side (by decide) (by decide) i hi,rig1_side (by decide) (by decide) i hi,rig1_side (by decide) (by decide) i hi,rig1_side (by decide) (by decide) i hi,rig0_side ht i hi]
theorem wf64 (b:BitVec 64):(Lit.int .u64 (u b)).wf=true:=wf_u64_mk _
theorem bd8 {n:Nat→Int} (hn:PosOk n) {i:Nat} (hi:i≤64):0≤n i∧n i≤255:=hn.u8 i (by omega) (kB hi)
theorem men_ok {n:Nat→Int} (hn:PosOk n) (ht:n 78=0∨n 78=1) {m:Mv} {tk:Int} (hm:MvOk n m tk):PosOk (menN n m tk):=by
 have:=hm.f0;have:=hm.f1;have:=hm.t0;have:=hm.t1;have:=hm.k1;have:=hm.p0;have:=hm.p1;have:=hm.d0;have:=hm.d1
 have g:=goal_ix ht (sideM m)
 have hF:=bd8 hn (i:=1+m.f.toNat) (by omega)
 have hT:=bd8 hn (i:=1+m.t.toNat) (by omega)
 unfold menN
 split
 · exact updB_ok (updB_ok (updB_ok (updB_ok hn (by omega) (by omega) (by omega)) (by omega) (by omega) (by omega)) (by omega) hF.1 hF.2) (by omega) hT.1 hT.2
 · split
   · exact updB_ok (tak_ok hn _ _) (by omega) (by omega) (by omega)
   · have hc : PosOk (menC0 n tk) := by
      unfold menC0;split
      · exact updB_ok hn (by omega) (by omega) (by omega)
      · exact hn
     unfold menC
     split
     · exact updB_ok (updB_ok (updB_ok hc (by omega) (by omega) (by omega)) (by omega) hF.1 hF.2) (by omega) (by omega) (by omega)
     · exact updB_ok (updB_ok hc (by omega) (by omega) (by omega)) (by omega) hF.1 hF.2
theorem poc_ok {n q:Nat→Int} (hq:PosOk q) {m:Mv} {tk:Int}:PosOk (pocN n q m tk):=by
 unfold pocN
 split
 · exact hq
 · split
   · unfold pocC; split
     · exact upd_ok hq (wf64 _)
     · exact hq
   · refine upd_ok ?_ (wf64 _)
     unfold pocT;split
     · exact add_ok hq _ _
     · exact hq
theorem wipe_ok {q:Nat→Int} (hq:PosOk q) (b:BitVec 64):PosOk (wipeN q b):=fun i hi=>by
 unfold wipeN
 split
 · rename_i h;rw [kB (by omega)];decide
 · exact hq i hi
theorem blow_ok {n q:Nat→Int} (hq:PosOk q) {m:Mv} {tk:Int}:PosOk (blowN n q m tk):=by
 unfold blowN;split
 · exact wipe_ok hq _
 · exact hq
theorem mov3_ok {n:Nat→Int} (hn:PosOk n) (ht:n 78=0∨n 78=1) {m:Mv} {tk:Int} (hm:MvOk n m tk):PosOk (mov3 n m tk):=blow_ok (poc_ok (men_ok hn ht hm))
theorem rig_ok {n q:Nat→Int} (hq:PosOk q) (ht:n 78=0∨n 78=1) {m:Mv} {tk:Int}:PosOk (rigN n q m tk):=by
 rw [rigN_is];exact rigS_ok (rig0_ok hq ht m) m tk 4 (by decide)
theorem mov5_ok {n:Nat→Int} (hn:PosOk n) (ht:n 78=0∨n 78=1) {m:Mv} {tk:Int} (hm:MvOk n m tk):PosOk (mov5 n m tk):=by
 have:=pass_bd (n:=n) (q:=rigN n (mov3 n m tk) m tk) hm.f0 hm.f1 hm.t0 hm.t1
 exact upd_ok (rig_ok (mov3_ok hn ht hm) ht) (wfi8 (by omega) (by omega))
theorem wfi64 {x:Int} (h0:-9223372036854775808≤x) (h1:x≤9223372036854775807):(Lit.int .i64 x).wf=true:=by
 simp [Lit.wf]
 have e1:IntKind.i64.min=-9223372036854775808:=by decide
 have e2:IntKind.i64.max=9223372036854775807:=by decide
 omega
theorem more_bd {x:Int} (h0:-9223372036854775808≤x) (h1:x≤9223372036854775807):-9223372036854775808≤moreI x∧moreI x≤9223372036854775807:=by
 unfold moreI;split <;> omega
theorem clk_ok {n q:Nat→Int} (hn:PosOk n) (hq:PosOk q) {m:Mv} {tk:Int}:PosOk (clkN n q m tk):=by
 obtain ⟨h0,h1⟩:=hn.i64 86 (by decide) rfl
 obtain ⟨h2,h3⟩:=hn.i64 87 (by decide) rfl
 have a:=more_bd h0 h1
 have b:=more_bd h2 h3
 refine upd_ok (upd_ok hq (i:=86) ?_) (i:=87) ?_
 · refine wfi64 ?_ ?_ <;> (unfold halfI;split <;> omega)
 · refine wfi64 ?_ ?_ <;> (unfold fullI;split <;> omega)
theorem turn_ok {n q:Nat→Int} (hq:PosOk q) (ht:n 78=0∨n 78=1):PosOk (turnN n q):=by
 have h1:PosOk (upd q 78 (1 - n 78)):=upd_ok hq (wf8 (by omega) (by omega))
 unfold turnN
 split
 · rename_i h
   have hk:kindAt (84+(n 78).toNat)=.u8:=by rcases ht with e | e <;> rw [e] <;> rfl
   have:=hq.u8 (84+(n 78).toNat) (by omega) hk
   exact upd_ok h1 (by rw [hk];exact wf8 (by omega) (by omega))
 · exact h1
theorem movT_ok {n:Nat→Int} (hn:PosOk n) (ht:n 78=0∨n 78=1) {m:Mv} {tk:Int} (hm:MvOk n m tk):PosOk (movT n m tk):=turn_ok (clk_ok hn (mov5_ok hn ht hm)) ht
theorem turn_78 {n q:Nat→Int}:turnN n q 78=1 - n 78:=by
 unfold turnN;split
 · rw [upd_ne _ (by omega)];rfl
 · rfl
theorem mov5_far {n:Nat→Int} (ht:n 78=0∨n 78=1) {m:Mv} {tk:Int} (hm:MvOk n m tk) {i:Nat} (hi:i=0∨i=78∨84≤i):mov5 n m tk i=n i:=by
 unfold mov5
 rw [upd_ne _ (by omega),rig_side ht i (by omega),mov3_far ht hm i (by omega)]
theorem movT_0 {n:Nat→Int} (ht:n 78=0∨n 78=1) {m:Mv} {tk:Int} (hm:MvOk n m tk):movT n m tk 0=n 0∧movT n m tk 78=1 - n 78:=by
 refine ⟨?_,turn_78⟩
 unfold movT turnN clkN
 split
 · rw [upd_ne _ (by omega),upd_ne _ (by omega),upd_ne _ (by omega),upd_ne _ (by omega),mov5_far ht hm (.inl rfl)]
 · rw [upd_ne _ (by omega),upd_ne _ (by omega),upd_ne _ (by omega),mov5_far ht hm (.inl rfl)]
/-- What pocket has laid. -/
structure PocW (w:World) (m:Mv) (n q:Nat→Int) (W:World):Prop where
 old:PosAt W w.heap.size n
 pos:PosAt W (w.heap.size+1) q
 mv:W.heap[w.heap.size+2]?=some (.cells m.cells.toArray 49 (0,0))
 res:PosAt W (w.heap.size+3) zeroN
 low:Below w.heap.size w W
theorem PocW.grow {w:World} {m:Mv} {n q:Nat→Int} {W W' : World} (h:PocW w m n q W) (hb:Below W.heap.size W W'):PocW w m n q W' :=
 ⟨h.old.below hb h.old.lt,h.pos.below hb h.pos.lt,(hb.block _ (Array.getElem?_eq_some_iff.1 h.mv).1).trans h.mv,h.res.below hb h.res.lt,h.low.trans (hb.mono h.low.size)⟩
theorem PocW.set {w:World} {m:Mv} {n q:Nat→Int} {W:World} (h:PocW w m n q W) (i:Nat) (k:IntKind) (hi:kindAt i=k) (x:Int):PocW w m n (upd q i x) (W.setCell ⟨w.heap.size+1,i,none⟩ (.int k x)):=by
 have:=h.pos.set i x
 rw [hi] at this
 exact ⟨h.old.other (by omega) _,this,(Below.heap_setCell _ _ _ _ (by show w.heap.size+2≠w.heap.size+1;omega)).trans h.mv,h.res.other (by omega) _,h.low.setCell (p:=⟨w.heap.size+1,i,none⟩) (by show w.heap.size≤w.heap.size+1;omega) _⟩
theorem PocW.drew {w:World} {m:Mv} {n q:Nat→Int} {W:World} (h:PocW w m n q W):PocW w m n q W.drew:=⟨h.old,h.pos,h.mv,h.res,h.low.drew⟩
def pocX (n q:Nat→Int) (m:Mv) (w:World):World:=(box3 n q m w).alloc (.cells (posA zeroN) 31)
theorem pocX_at (n q:Nat→Int) (m:Mv) (w X:World) (h:pocX n q m w=X):PocW w m n q X:=by
 obtain ⟨X0,hX0⟩:∃ X0,box3 n q m w=X0:=⟨_,rfl⟩
 obtain ⟨p0,p1,q0,hb⟩:=box3_at n q m w X0 hX0
 have hs:X0.heap.size=w.heap.size+3:=by rw [← hX0];unfold box3;simp
 unfold pocX at h
 rw [hX0] at h
 obtain ⟨z0,hb1⟩:=box1 X0 zeroN X h
 rw [hs] at z0
 exact ⟨p0.below hb1 p0.lt,p1.below hb1 p1.lt,(hb1.block _ (Array.getElem?_eq_some_iff.1 q0).1).trans q0,z0,hb.trans (hb1.mono hb.size)⟩
theorem pro_u {n:Nat→Int} (hn:PosOk n):n 65=u (proB n):=by
 obtain ⟨b,hb⟩:=of_wf (a:=n 65) (hn 65 (by decide))
 unfold proB
 rw [hb,ofInt_u]
/-- The marks that stay. -/
def markP (P:BitVec 64) (tk f s:Int):Bool:=hasB P s&&!(s==tk)&&!(s==f)
theorem marks_is (n:Nat→Int) (m:Mv) (tk:Int):selB (markP (proB n) tk m.f) 64=marks0 n m tk:=by
 apply ext_has
 intro k hk
 rw [has_selB _ _ (by omega) 64 lR,decide_eq_true (show ((k:Nat):Int)<((64:Nat):Int) by omega),Bool.true_and]
 have h1:∀ s:Int,hasB (oneB s) (k:Int)=((k:Int)==s):=fun s=>by rw [has_one,Bool.eq_iff_iff,decide_eq_true_iff,beq_iff_eq];omega
 unfold markP marks0
 rw [has_andNot,h1]
 split
 · rw [has_andNot,h1]
 · rename_i h
   have:((k:Int)==tk)=false:=beq_eq_false_iff_ne.2 (by omega)
   rw [this,Bool.not_false,Bool.and_true]
theorem kk_range (x:Int):0≤kndI x∧kndI x≤6:=by
 unfold kndI
 split
 · omega
 · split <;> omega
theorem poc16_no1 (n q:Nat→Int) (hn:PosOk n) (hq:PosOk q) (m:Mv) (tk:Int) (hv:n 0≠2) (w:World):Calls Tryz.prog 105 #[.agg (posA n),.agg (posA q),.agg #[.int .i8 m.f,.int .i8 m.t,.int .u8 m.p,.int .u8 m.d,.bool m.c],.int .i64 tk] w fun e w' => e = .returned (.agg (posA (pocN n q m tk)))∧Below w.heap.size w w' := by
 have HN:=hI (show pocN n q m tk=q from if_pos (Or.inl hv))
 have e1:(n 0==2)=false:=beq_eq_false_iff_ne.2 hv
 have e2:(n 0 != 2)=true:=by rw [bne,e1];rfl
 obtain ⟨mf,mt,mp,md,mc⟩:=m
 dsimp only at *
 obtain ⟨X,hX⟩:∃ X,pocX n q ⟨mf,mt,mp,md,mc⟩ w=X:=⟨_,rfl⟩
 have hw:=pocX_at n q _ w X hX
 have HX:=hI (show (((w.alloc (.cells (posA n) 31)).alloc (.cells (posA q) 31)).alloc (.cells (⟨mf,mt,mp,md,mc⟩:Mv).cells.toArray 49)).alloc (.cells (posA zeroN) 31)=X from hX)
 unfold Mv.cells at HX
 dsimp only at HX
 have hzp:=zeroPos
 have Xp:=hw.old
 have Xq:=hw.pos
 have Xz:=hw.res
 obtain ⟨Xm0,Xm1,Xm2,Xm3,Xm4⟩:=mv_cell (m:=⟨mf,mt,mp,md,mc⟩) (show X.heap[w.heap.size+1+1]?=_ from hw.mv)
 have Xv:X.cell? ⟨w.heap.size,0,none⟩=some (.int .u8 (n 0)):=Xp.board 0 (by decide)
 obtain ⟨Xqi,Xqr⟩:=Xq.rules
 obtain ⟨Xzi,Xzr⟩:=Xz.rules
 have HE:=hI hw
 generalize n 0=v at *
 clear hX hw Xp Xq Xz hv
 go_enter Tryz.func105,Tryz.ntmps105
 go_wp2_with (first | rw [HX.out])
 refine bodyPost_ret (v:=.agg (posA (q))) (pos_result Tryz.results105 _ _ _ _ rfl (HE.out.res.setRow _)) rfl ⟨ret_val (by rw [HN.out]),below_setRow HE.out.low (by omega) _⟩
theorem poc16_no2 (n q:Nat→Int) (hn:PosOk n) (hq:PosOk q) (m:Mv) (tk:Int) (hv:n 0=2) (hd:m.d≠0) (w:World):Calls Tryz.prog 105 #[.agg (posA n),.agg (posA q),.agg #[.int .i8 m.f,.int .i8 m.t,.int .u8 m.p,.int .u8 m.d,.bool m.c],.int .i64 tk] w fun e w' => e = .returned (.agg (posA (pocN n q m tk)))∧Below w.heap.size w w' := by
 have HN:=hI (show pocN n q m tk=q from if_pos (Or.inr hd))
 have e1:(m.d==0)=false:=beq_eq_false_iff_ne.2 hd
 have e2:(m.d != 0)=true:=by rw [bne,e1];rfl
 obtain ⟨mf,mt,mp,md,mc⟩:=m
 dsimp only at *
 obtain ⟨X,hX⟩:∃ X,pocX n q ⟨mf,mt,mp,md,mc⟩ w=X:=⟨_,rfl⟩
 have hw:=pocX_at n q _ w X hX
 have HX:=hI (show (((w.alloc (.cells (posA n) 31)).alloc (.cells (posA q) 31)).alloc (.cells (⟨mf,mt,mp,md,mc⟩:Mv).cells.toArray 49)).alloc (.cells (posA zeroN) 31)=X from hX)
 unfold Mv.cells at HX
 dsimp only at HX
 have hzp:=zeroPos
 have Xp:=hw.old
 have Xq:=hw.pos
 have Xz:=hw.res
 obtain ⟨Xm0,Xm1,Xm2,Xm3,Xm4⟩:=mv_cell (m:=⟨mf,mt,mp,md,mc⟩) (show X.heap[w.heap.size+1+1]?=_ from hw.mv)
 have Xv:X.cell? ⟨w.heap.size,0,none⟩=some (.int .u8 (n 0)):=Xp.board 0 (by decide)
 obtain ⟨Xqi,Xqr⟩:=Xq.rules
 obtain ⟨Xzi,Xzr⟩:=Xz.rules
 have HE:=hI hw
 rw [hv] at Xv
 clear hX hw Xp Xq Xz hv hd
 go_enter Tryz.func105,Tryz.ntmps105
 go_wp2_with (first | rw [HX.out])
 refine bodyPost_ret (v:=.agg (posA (q))) (pos_result Tryz.results105 _ _ _ _ rfl (HE.out.res.setRow _)) rfl ⟨ret_val (by rw [HN.out]),below_setRow HE.out.low (by omega) _⟩
theorem poc16_c (n q:Nat→Int) (hn:PosOk n) (hq:PosOk q) (m:Mv) (tk:Int) (hv:n 0=2) (t:Nat) (ht1:t≤1) (ht:n 78=t) (hc:CastOk n m) (w:World):Calls Tryz.prog 105 #[.agg (posA n),.agg (posA q),.agg #[.int .i8 m.f,.int .i8 m.t,.int .u8 m.p,.int .u8 m.d,.bool m.c],.int .i64 tk] w fun e w' => e = .returned (.agg (posA (pocN n q m tk)))∧Below w.heap.size w w' := by
 have HSD:=hI (show ∀ w,Calls Tryz.prog 164 #[.agg (posA n),.agg #[.int .i8 m.f,.int .i8 m.t,.int .u8 m.p,.int .u8 m.d,.bool m.c]] w fun e w' => e = .returned (.int .i64 (sideM m:Int))∧Below w.heap.size w w' from fun w=>by
  rcases (show t=0∨t=1 by omega) with rfl | rfl
  · exact side14_0 n ht m hc w
  · exact side14_1 n ht m hc w)
 obtain ⟨h1,h2,h3,h4,h5,h6,h7,h8⟩:=hc
 rw [ht] at h5 h6 h7 h8
 obtain ⟨sd,hs⟩:∃ sd,sideM m=sd:=⟨_,rfl⟩
 have hsd:sd=0∨sd=1:=by rw [← hs];unfold sideM;split <;> simp
 have hrg:rGoal sd=5∨rGoal sd=3:=by rcases hsd with rfl | rfl <;> decide
 have HGL:=hI (goals14_any sd hsd)
 have HN:=hI (show pocN n q m tk=if hasB (proB n) m.t=true then upd q 65 (u ((proB n&&&~~~oneB m.t) ||| oneB (56*(t:Int)+rGoal sd))) else q by unfold pocN pocC homeC;rw [if_neg (by rw [hv,h2];decide),if_pos h1,hs,ht])
 rw [hs] at HSD
 generalize rGoal sd=rg at *
 have HH:=hI (has16_any (proB n) m.t (by omega) (by omega))
 have HW:=hI (pow_oneB m.t (by omega) (by omega))
 have HW2:=hI (pow_oneB (56*(t:Int)+rg) (by omega) (by omega))
 have HB:=hI (pro_u hn)
 generalize proB n=B at *
 have W1:=IntWalk.i64_in (56*(t:Int)) (by omega)
 have W2:=IntWalk.i64_in (56*(t:Int)+rg) (by omega)
 have r0:0≤56*(t:Int)+rg:=by omega
 have r1:56*(t:Int)+rg<64:=by omega
 clear hs hsd hrg
 have HT:=hI ht
 have HV:=hI hv
 obtain ⟨mf,mt,mp,md,mc⟩:=m
 dsimp only at *
 subst h1 h2 h3
 obtain ⟨X,hX⟩:∃ X,pocX n q ⟨mf,mt,0,0,true⟩ w=X:=⟨_,rfl⟩
 have hw:=pocX_at n q _ w X hX
 have HX:=hI (show (((w.alloc (.cells (posA n) 31)).alloc (.cells (posA q) 31)).alloc (.cells (⟨mf,mt,0,0,true⟩:Mv).cells.toArray 49)).alloc (.cells (posA zeroN) 31)=X from hX)
 unfold Mv.cells at HX
 dsimp only at HX
 have hzp:=zeroPos
 have Xp:=hw.old
 have Xq:=hw.pos
 have Xz:=hw.res
 obtain ⟨Xm0,Xm1,Xm2,Xm3,Xm4⟩:=mv_cell (m:=⟨mf,mt,0,0,true⟩) (show X.heap[w.heap.size+1+1]?=_ from hw.mv)
 have Xv:X.cell? ⟨w.heap.size,0,none⟩=some (.int .u8 (n 0)):=Xp.board 0 (by decide)
 obtain ⟨Xni,Xnr⟩:=Xp.rules
 rw [HV.out] at Xv
 have HW0:=hI (fun W (hb:Below X.heap.size X W)=>hw.grow hb)
 have f0:0≤mf:=by omega
 have f1:mf<64:=by omega
 have t0:0≤mt:=by omega
 have t1:mt<64:=by omega
 clear hX hw Xp Xq Xz hv ht h4 h5 h6 h7 h8
 go_enter Tryz.func105,Tryz.ntmps105
 go_wp2_with (first | rw [HX.out])
 refine (HSD.out _).mono ?_
 rintro e V ⟨rfl,hb⟩
 have hVw:=HW0.out V hb
 clear hb Xv Xm0 Xm1 Xm2 Xm3 Xm4 Xni Xnr
 have Vp:=hVw.old
 have Vq:=hVw.pos
 have Vz:=hVw.res
 obtain ⟨Vm0,Vm1,Vm2,Vm3,Vm4⟩:=mv_cell (m:=⟨mf,mt,0,0,true⟩) (show V.heap[w.heap.size+1+1]?=_ from hVw.mv)
 have Vpr:V.cell? ⟨w.heap.size,65,none⟩=some (.int .u64 (u B)):=by rw [← HB.out];exact Vp.cell 65 (by decide)
 have Vqp:V.cell? ⟨w.heap.size+1,65,none⟩=some (.int .u64 (q 65)):=Vq.cell 65 (by decide)
 have Vqf:=Vq.free 65
 have Vt:V.cell? ⟨w.heap.size,78,none⟩=some (.int .u8 (t:Int)):=by rw [← HT.out];exact Vp.cell 78 (by decide)
 obtain ⟨Vqi,Vqr⟩:=Vq.rules
 obtain ⟨Vzi,Vzr⟩:=Vz.rules
 have hw1:=HW.out
 have hw2:=HW2.out
 obtain ⟨Z1,hZ1⟩:∃ Z1,V.setCell ⟨w.heap.size+1,65,none⟩ (.int .u64 (u (B&&&~~~oneB mt)))=Z1:=⟨_,rfl⟩
 obtain ⟨Z2,hZ2⟩:∃ Z2,Z1.setCell ⟨w.heap.size+1,65,none⟩ (.int .u64 (u ((B&&&~~~oneB mt) ||| oneB (56*(t:Int)+rg))))=Z2:=⟨_,rfl⟩
 have hZ1w:PocW w ⟨mf,mt,0,0,true⟩ n (upd q 65 (u (B&&&~~~oneB mt))) Z1:=by rw [← hZ1];exact hVw.set 65 .u64 rfl _
 have hZ2w:PocW w ⟨mf,mt,0,0,true⟩ n (upd q 65 (u ((B&&&~~~oneB mt) ||| oneB (56*(t:Int)+rg)))) Z2:=by
  have:=hZ1w.set 65 .u64 rfl (u ((B&&&~~~oneB mt) ||| oneB (56*(t:Int)+rg)))
  rw [hZ2] at this
  rwa [upd_upd] at this
 have Z1p:=hZ1w.old
 have Z1q:=hZ1w.pos
 have Z1z:=hZ1w.res
 obtain ⟨Z1m0,Z1m1,Z1m2,Z1m3,Z1m4⟩:=mv_cell (m:=⟨mf,mt,0,0,true⟩) (show Z1.heap[w.heap.size+1+1]?=_ from hZ1w.mv)
 have Z1qp:Z1.cell? ⟨w.heap.size+1,65,none⟩=some (.int .u64 (u (B&&&~~~oneB mt))):=Z1q.cell 65 (by decide)
 have Z1qf:=Z1q.free 65
 have Z1t:Z1.cell? ⟨w.heap.size,78,none⟩=some (.int .u8 (t:Int)):=by rw [← HT.out];exact Z1p.cell 78 (by decide)
 have Z2p:=hZ2w.old
 have Z2q:=hZ2w.pos
 have Z2z:=hZ2w.res
 obtain ⟨Z2m0,Z2m1,Z2m2,Z2m3,Z2m4⟩:=mv_cell (m:=⟨mf,mt,0,0,true⟩) (show Z2.heap[w.heap.size+1+1]?=_ from hZ2w.mv)
 obtain ⟨Z2qi,Z2qr⟩:=Z2q.rules
 obtain ⟨Z2zi,Z2zr⟩:=Z2z.rules
 have HE:=hI hZ2w
 have HV0:=hI hVw
 have HZ1:=hI hZ1
 have HZ2:=hI hZ2
 generalize q 65=o1 at Vqp
 clear hVw Vp Vq Vz Z1p Z1q Z1z Z2p Z2q Z2z hZ1w hZ2w hZ1 hZ2
 cases hh:hasB B mt <;> rw [hh] at HH
 · have HN := hideIt (HN.out.trans (if_neg (by rw [hh]; decide)))
   go_wp2_with (first | (go_at_call 165;refine (HGL.out _).mono ?_;rintro e w2 ⟨rfl,rfl⟩) | (go_at_call 107;refine (HH.out _).mono ?_;rintro e w3 ⟨rfl,rfl⟩))
   refine bodyPost_ret (v:=.agg (posA (q))) (pos_result Tryz.results105 _ _ _ _ rfl (HV0.out.res.setRow _)) rfl ⟨ret_val (by rw [HN.out]),below_setRow HV0.out.low (by omega) _⟩
 · have HN := hideIt (HN.out.trans (if_pos hh))
   go_wp2_with (first | rw [HZ1.out] | rw [HZ2.out] | (go_at_call 165;refine (HGL.out _).mono ?_;rintro e w2 ⟨rfl,rfl⟩) | (go_at_call 107;refine (HH.out _).mono ?_;rintro e w3 ⟨rfl,rfl⟩))
   refine bodyPost_ret (v:=.agg (posA (upd q 65 (u ((B&&&~~~oneB mt) ||| oneB (56*(t:Int)+rg)))))) (pos_result Tryz.results105 _ _ _ _ rfl (HE.out.res.setRow _)) rfl ⟨ret_val (by rw [HN.out]),below_setRow HE.out.low (by omega) _⟩
theorem poc16_nt (n q:Nat→Int) (hn:PosOk n) (hq:PosOk q) (m:Mv) (tk:Int) (hv:n 0=2) (t:Nat) (ht1:t≤1) (ht:n 78=t) (f0:0≤m.f) (f1:m.f<64) (t0:0≤m.t) (t1:m.t<64) (hc:m.c=false) (hd:m.d=0) (k0:-1≤tk) (k1:tk<64) (w:World):Calls Tryz.prog 105 #[.agg (posA n),.agg (posA q),.agg #[.int .i8 m.f,.int .i8 m.t,.int .u8 m.p,.int .u8 m.d,.bool m.c],.int .i64 tk] w fun e w' => e = .returned (.agg (posA (pocN n q m tk)))∧Below w.heap.size w w' := by
 have HN:=hI (show pocN n q m tk=upd (pocT n q tk) 65 (u (marksB n m tk)) by unfold pocN;rw [if_neg (by omega),if_neg (by rw [hc];decide)])
 have HMK:=hI (marks_is n m tk)
 have HMB:=hI (show marksB n m tk=if m.p≠0∨hasB (proB n) m.f=true then marks0 n m tk ||| oneB m.t else marks0 n m tk from rfl)
 have HPT:=hI (show pocT n q tk=if 0≤tk then addN q t (tkK n tk).toNat else q by unfold pocT;rw [ht];rfl)
 have HTK:=hI (show tkK n tk=if hasB (proB n) tk=true∧n (1+tk.toNat)≠0 then 1 else kndI (n (1+tk.toNat)) from rfl)
 have HB:=hI (pro_u hn)
 have HT:=hI ht
 have HV:=hI hv
 have HQ:=hI hq
 have HNU:=hI (fun (i:Nat) (hi:i≤64)=>hn.u8 i (by omega) (kB hi))
 obtain ⟨B,hB⟩:∃ B,proB n=B:=⟨_,rfl⟩
 rw [hB] at HMK HMB HTK HB
 clear hB
 have HHF:=hI (has16_any B m.f f0 f1)
 clear hv ht
 obtain ⟨mf,mt,mp,md,mc⟩:=m
 dsimp only at *
 subst hc hd
 obtain ⟨X,hX⟩:∃ X,pocX n q ⟨mf,mt,mp,0,false⟩ w=X:=⟨_,rfl⟩
 have hw:=pocX_at n q _ w X hX
 have HX:=hI (show (((w.alloc (.cells (posA n) 31)).alloc (.cells (posA q) 31)).alloc (.cells (⟨mf,mt,mp,0,false⟩:Mv).cells.toArray 49)).alloc (.cells (posA zeroN) 31)=X from hX)
 unfold Mv.cells at HX
 dsimp only at HX
 have hzp:=zeroPos
 have Xp:=hw.old
 have Xq:=hw.pos
 have Xz:=hw.res
 obtain ⟨Xm0,Xm1,Xm2,Xm3,Xm4⟩:=mv_cell (m:=⟨mf,mt,mp,0,false⟩) (show X.heap[w.heap.size+1+1]?=_ from hw.mv)
 have Xv:X.cell? ⟨w.heap.size,0,none⟩=some (.int .u8 (n 0)):=Xp.board 0 (by decide)
 have Xt:X.cell? ⟨w.heap.size,78,none⟩=some (.int .u8 (t:Int)):=by rw [← HT.out];exact Xp.cell 78 (by decide)
 rw [HV.out] at Xv
 have HW0:=hI hw
 clear hX hw Xp Xq Xz
 have hmp:(mp != 0)=true∨(mp != 0)=false:=by cases (mp != 0) <;> simp
 go_enter Tryz.func105,Tryz.ntmps105
 go_upto_if 62 with (first | rw [HX.out])
 go_cut [] (fun wx=>PocW w ⟨mf,mt,mp,0,false⟩ n (pocT n q tk) wx)
 case first =>
  by_cases hk:0≤tk
  case neg =>
   have dk:decide (tk≥0)=false:=decide_eq_false hk
   have HE:=hI (HPT.out.trans (if_neg hk))
   go_wp2_with fail
   go_meet
   case rel=>rw [HE.out];exact HW0.out
  case pos =>
   have dk:decide (tk≥0)=true:=decide_eq_true hk
   have HPT:=hI (HPT.out.trans (if_pos hk))
   obtain ⟨x,hx⟩:∃ x,n (1+tk.toNat)=x:=⟨_,rfl⟩
   have HXX:=hI hx
   rw [hx] at HTK
   obtain ⟨x0,x1⟩:=HNU.out (1+tk.toNat) (by omega)
   rw [hx] at x0 x1
   have HKD:=hI (k8_any x x0 x1)
   have HHT:=hI (has16_any B tk hk k1)
   have hw:=HW0.out
   have Xp:=hw.old
   have Xq:=hw.pos
   have Xz:=hw.res
   obtain ⟨Ym0,Ym1,Ym2,Ym3,Ym4⟩:=mv_cell (m:=⟨mf,mt,mp,0,false⟩) (show X.heap[w.heap.size+1+1]?=_ from hw.mv)
   have Xpr:X.cell? ⟨w.heap.size,65,none⟩=some (.int .u64 (u B)):=by rw [← HB.out];exact Xp.cell 65 (by decide)
   have Xtk:X.cell? ⟨w.heap.size,1+tk.toNat,none⟩=some (.int .u8 x):=by rw [← HXX.out];exact Xp.board (1+tk.toNat) (by omega)
   have hkr:=kk_range x
   cases hm:hasB B tk with
   | true =>
     rw [hm] at HHT
     cases hx0:(x==0) with
     | true =>
       have hx1:x=0:=beq_iff_eq.1 hx0
       have ex:(x != 0)=false:=by rw [bne,hx0];rfl
       have HK:=hI (show tkK n tk=0 by rw [HTK.out,if_neg (fun h=>h.2 hx1),hx1];rfl)
       rw [HK.out] at HPT
       have hkx:kndI x=0:=by rw [hx1];rfl
       rw [hkx] at HKD
       clear hkx hx1 hkr hx
       have HE:=hI (HPT.out.trans (if_neg (by unfold addB fitsB;simp)))
       clear hw Xp Xq Xz
       go_wp2_with (first | (go_at_call 63;refine (HKD.out _).mono ?_;rintro e w2 ⟨rfl,rfl⟩) | (go_at_call 107;refine (HHT.out _).mono ?_;rintro e w3 ⟨rfl,rfl⟩))
       go_meet
       case rel=>rw [HE.out];exact HW0.out
     | false =>
       have hx1:x≠0:=beq_eq_false_iff_ne.1 hx0
       have ex:(x != 0)=true:=by rw [bne,hx0];rfl
       have HK:=hI (show tkK n tk=1 by rw [HTK.out,if_pos ⟨hm,hx1⟩])
       rw [HK.out] at HPT
       have HPT:=hI (show pocT n q tk=addN q t 1 from HPT.out)
       clear hx1 hkr hx
       have hk8:kindAt (66+t*6+1)=.u8:=by
        have:=kind_pock t (1) (by omega) (by omega)
        rwa [show 66+6*t+(1)=66+t*6+1 by omega] at this
       obtain ⟨y0,y1⟩:=HQ.out.u8 (66+t*6+1) (by omega) hk8
       have cz:X.cell? ⟨w.heap.size+1,66+t*6+1,none⟩=some (.int .u8 (q (66+t*6+1))):=by rw [← hk8];exact Xq.cell (66+t*6+1) (by omega)
       have fz:=Xq.free (66+t*6+1)
       have HFI:=hI (show fitsB ((t:Nat):Int) (((1):Nat):Int)=true from (fits_iff t (1)).2 ⟨by omega,by omega,by omega⟩)
       have HIX:=hI (show poIx t (1)=66+t*6+1 by unfold poIx;omega)
       have HAY:=hI (show q (66+t*6+1)<255→addN q t (1)=upd q (66+t*6+1) (q (66+t*6+1)+1) from fun h=>by unfold addN addB;rw [HFI.out,HIX.out,decide_eq_true h];rfl)
       have HAN:=hI (show ¬ q (66+t*6+1)<255→addN q t (1)=q from fun h=>by unfold addN addB;rw [HFI.out,HIX.out,decide_eq_false h];rfl)
       obtain ⟨Z,hZ⟩:∃ Z,(X.setCell ⟨w.heap.size+1,66+t*6+1,none⟩ (.int .u8 (q (66+t*6+1)+1))).drew=Z:=⟨_,rfl⟩
       have HZW:=hI (show PocW w ⟨mf,mt,mp,0,false⟩ n (upd q (66+t*6+1) (q (66+t*6+1)+1)) Z by rw [← hZ];exact (hw.set (66+t*6+1) .u8 hk8 _).drew)
       have HZ:=hI hZ
       clear hZ hk8
       generalize q (66+t*6+1)=z at *
       by_cases hz:z<255
       · have dz : decide (z < 255) = true := decide_eq_true hz
         have W1:IntKind.u8.wrap (z+1)=z+1:=IntWalk.u8_in _ (by omega)
         have HE:=hI (HPT.out.trans (HAY.out hz))
         clear hw Xp Xq Xz
         go_wp2_with (first | (go_at_call 63;refine (HKD.out _).mono ?_;rintro e w2 ⟨rfl,rfl⟩) | (go_at_call 107;refine (HHT.out _).mono ?_;rintro e w3 ⟨rfl,rfl⟩))
         go_region
         all_goals
          go_wp2_with (first | rw [HZ.out])
          go_meet
          case rel=>rw [HE.out];exact HZW.out
       · have dz : decide (z < 255) = false := decide_eq_false hz
         have HE:=hI (HPT.out.trans (HAN.out hz))
         clear hw Xp Xq Xz
         go_wp2_with (first | (go_at_call 63;refine (HKD.out _).mono ?_;rintro e w2 ⟨rfl,rfl⟩) | (go_at_call 107;refine (HHT.out _).mono ?_;rintro e w3 ⟨rfl,rfl⟩))
         go_meet
         case rel=>rw [HE.out];exact HW0.out
   | false =>
     rw [hm] at HHT
     have HK:=hI (show tkK n tk=kndI x by rw [HTK.out,if_neg (fun h=>by rw [hm] at h;cases h.1)])
     rw [HK.out] at HPT
     obtain ⟨k,hkk⟩:∃ k:Nat,kndI x=k:=⟨(kndI x).toNat,by omega⟩
     rw [hkk] at HPT HKD hkr
     have HPT:=hI (show pocT n q tk=addN q t k from HPT.out)
     clear hkk hx
     by_cases g1:1≤k
     case neg =>
      have d1:decide (1≤(k:Int))=false:=decide_eq_false (by omega)
      have HFI:=hI (show fitsB ((t:Nat):Int) (k:Int)=false by unfold fitsB;rw [decide_eq_false (show ¬ 1≤(k:Int) by omega)];simp)
      have HE:=hI (HPT.out.trans (by unfold addN addB;rw [HFI.out];try rfl))
      clear hw Xp Xq Xz
      go_wp2_with (first | (go_at_call 63;refine (HKD.out _).mono ?_;rintro e w2 ⟨rfl,rfl⟩) | (go_at_call 107;refine (HHT.out _).mono ?_;rintro e w3 ⟨rfl,rfl⟩))
      go_meet
      case rel=>rw [HE.out];exact HW0.out
     case pos =>
      by_cases g5:k≤5
      case neg =>
       have d1:decide (1≤(k:Int))=true:=decide_eq_true (by omega)
       have d5:decide ((k:Int)≤5)=false:=decide_eq_false (by omega)
       have HFI:=hI (show fitsB ((t:Nat):Int) (k:Int)=false by unfold fitsB;rw [decide_eq_false (show ¬ (k:Int)≤5 by omega)];simp)
       have HE:=hI (HPT.out.trans (by unfold addN addB;rw [HFI.out];try rfl))
       clear hw Xp Xq Xz
       go_wp2_with (first | (go_at_call 63;refine (HKD.out _).mono ?_;rintro e w2 ⟨rfl,rfl⟩) | (go_at_call 107;refine (HHT.out _).mono ?_;rintro e w3 ⟨rfl,rfl⟩))
       go_meet
       case rel=>rw [HE.out];exact HW0.out
      case pos =>
       have d1:decide (1≤(k:Int))=true:=decide_eq_true (by omega)
       have d5:decide ((k:Int)≤5)=true:=decide_eq_true (by omega)
       have l0:(0:Int)≤(k:Int):=by omega
       have l1:(k:Int)<6:=by omega
       have hk8:kindAt (66+t*6+k)=.u8:=by
        have:=kind_pock t (k) (by omega) (by omega)
        rwa [show 66+6*t+(k)=66+t*6+k by omega] at this
       obtain ⟨y0,y1⟩:=HQ.out.u8 (66+t*6+k) (by omega) hk8
       have cz:X.cell? ⟨w.heap.size+1,66+t*6+k,none⟩=some (.int .u8 (q (66+t*6+k))):=by rw [← hk8];exact Xq.cell (66+t*6+k) (by omega)
       have fz:=Xq.free (66+t*6+k)
       have HFI:=hI (show fitsB ((t:Nat):Int) (((k):Nat):Int)=true from (fits_iff t (k)).2 ⟨by omega,by omega,by omega⟩)
       have HIX:=hI (show poIx t (k)=66+t*6+k by unfold poIx;omega)
       have HAY:=hI (show q (66+t*6+k)<255→addN q t (k)=upd q (66+t*6+k) (q (66+t*6+k)+1) from fun h=>by unfold addN addB;rw [HFI.out,HIX.out,decide_eq_true h];rfl)
       have HAN:=hI (show ¬ q (66+t*6+k)<255→addN q t (k)=q from fun h=>by unfold addN addB;rw [HFI.out,HIX.out,decide_eq_false h];rfl)
       obtain ⟨Z,hZ⟩:∃ Z,(X.setCell ⟨w.heap.size+1,66+t*6+k,none⟩ (.int .u8 (q (66+t*6+k)+1))).drew=Z:=⟨_,rfl⟩
       have HZW:=hI (show PocW w ⟨mf,mt,mp,0,false⟩ n (upd q (66+t*6+k) (q (66+t*6+k)+1)) Z by rw [← hZ];exact (hw.set (66+t*6+k) .u8 hk8 _).drew)
       have HZ:=hI hZ
       clear hZ hk8
       generalize q (66+t*6+k)=z at *
       by_cases hz:z<255
       · have dz : decide (z < 255) = true := decide_eq_true hz
         have W1:IntKind.u8.wrap (z+1)=z+1:=IntWalk.u8_in _ (by omega)
         have HE:=hI (HPT.out.trans (HAY.out hz))
         clear hw Xp Xq Xz
         go_wp2_with (first | (go_at_call 63;refine (HKD.out _).mono ?_;rintro e w2 ⟨rfl,rfl⟩) | (go_at_call 107;refine (HHT.out _).mono ?_;rintro e w3 ⟨rfl,rfl⟩))
         go_region
         all_goals
          go_wp2_with (first | rw [HZ.out])
          go_meet
          case rel=>rw [HE.out];exact HZW.out
       · have dz : decide (z < 255) = false := decide_eq_false hz
         have HE:=hI (HPT.out.trans (HAN.out hz))
         clear hw Xp Xq Xz
         go_wp2_with (first | (go_at_call 63;refine (HKD.out _).mono ?_;rintro e w2 ⟨rfl,rfl⟩) | (go_at_call 107;refine (HHT.out _).mono ?_;rintro e w3 ⟨rfl,rfl⟩))
         go_meet
         case rel=>rw [HE.out];exact HW0.out
 case rest =>
  have cpr:wc.cell? ⟨w.heap.size,65,none⟩=some (.int .u64 (u B)):=by rw [← HB.out];exact hcut.old.cell 65 (by decide)
  obtain ⟨Wm0,Wm1,Wm2,Wm3,Wm4⟩:=mv_cell (m:=⟨mf,mt,mp,0,false⟩) (show wc.heap[w.heap.size+1+1]?=_ from hcut.mv)
  have cq:wc.cell? ⟨w.heap.size+1,65,none⟩=some (.int .u64 (pocT n q tk 65)):=hcut.pos.cell 65 (by decide)
  have fq:=hcut.pos.free 65
  obtain ⟨r,hr⟩:∃ r,pocT n q tk=r:=⟨_,rfl⟩
  rw [hr] at hcut cq HN
  generalize r 65=r65 at cq
  have HC:=hI hcut
  have HMP:=hI hmp
  clear hr hcut hmp
  go_wp2
  go_loopw [13,14] (fun b i wr=>∃ j:Nat,j≤64∧i=.int .i64 j∧b=.int .u64 (u (selB (markP B tk mf) j))∧wr=wc) (fun _ i _=>64 - (intOf i).toNat)
  case atStart=>exact ⟨0,by omega,rfl,rfl,rfl⟩
  case round =>
   obtain ⟨j,hj,rfl,rfl,rfl⟩:=hrel
   by_cases hlt:j<64
   · have HPP := hideIt (show markP B tk mf (j : Int) = (hasB B (j : Int) && !((j : Int) == tk) && !((j : Int) == mf)) from rfl)
     have HYS:=hI (selB_yes (markP B tk mf) j)
     have HNO:=hI (selB_no (markP B tk mf) j)
     have hj64:(j:Int)<64:=by omega
     have HHJ:=hI (has16_any B (j:Int) (by omega) hj64)
     have HW:=hI (show IntKind.u64.wrap (2 ^ j)=u (oneB (j:Int)) from pow_oneB (j:Int) (by omega) hj64)
     generalize selB (markP B tk mf) j=acc at HYS HNO ⊢
     cases e1:hasB B (j:Int) <;> cases e2:((j:Int)==tk) <;> cases e3:((j:Int)==mf)
     case true.false.false =>
      have HN2:=hI (HYS.out (by rw [HPP.out,e1,e2,e3];rfl))
      have e4:((j:Int) != tk)=true:=by rw [bne,e2];rfl
      have e5:((j:Int) != mf)=true:=by rw [bne,e3];rfl
      have hw:=HW.out
      rw [e1] at HHJ
      clear HPP HYS HNO
      go_wp2_with (go_at_call 107;refine (HHJ.out _).mono ?_;rintro e w2 ⟨rfl,rfl⟩)
      go_roundw
      case rel=>exact ⟨j+1,by omega,by go_num,by rw [HN2.out];unfold putB;rfl,trivial⟩
      case measure=>simp [intOf];omega
     all_goals
      have HN2:=hI (HNO.out (by rw [HPP.out,e1,e2,e3];rfl))
      have e4:((j:Int) != tk)=_:=congrArg not e2
      have e5:((j:Int) != mf)=_:=congrArg not e3
      rw [e1] at HHJ
      clear HPP HYS HNO
      go_wp2_with (go_at_call 107;refine (HHJ.out _).mono ?_;rintro e w2 ⟨rfl,rfl⟩)
      go_roundw
      case rel=>exact ⟨j+1,by omega,by go_num,by rw [HN2.out],trivial⟩
      case measure=>simp [intOf];omega
   · obtain rfl : j = 64 := by omega
     rw [HMK.out]
     have hpw:=pow_oneB mt t0 t1
     generalize marks0 n ⟨mf,mt,mp,0,false⟩ tk=K at HMB
     obtain ⟨Z1,hZ1⟩:∃ Z,wr.setCell ⟨w.heap.size+1,65,none⟩ (.int .u64 (u K))=Z:=⟨_,rfl⟩
     obtain ⟨Z2,hZ2⟩:∃ Z,wr.setCell ⟨w.heap.size+1,65,none⟩ (.int .u64 (u (K ||| oneB mt)))=Z:=⟨_,rfl⟩
     have hZ1w:PocW w ⟨mf,mt,mp,0,false⟩ n (upd r 65 (u K)) Z1:=by rw [← hZ1];exact HC.out.set 65 .u64 rfl _
     have hZ2w:PocW w ⟨mf,mt,mp,0,false⟩ n (upd r 65 (u (K ||| oneB mt))) Z2:=by rw [← hZ2];exact HC.out.set 65 .u64 rfl _
     obtain ⟨z1i,z1r⟩:=hZ1w.pos.rules
     obtain ⟨z2i,z2r⟩:=hZ2w.pos.rules
     obtain ⟨y1i,y1r⟩:=hZ1w.res.rules
     obtain ⟨y2i,y2r⟩:=hZ2w.res.rules
     have HZ1:=hI hZ1
     have HZ2:=hI hZ2
     have HE1:=hI hZ1w
     have HE2:=hI hZ2w
     clear hZ1 hZ2 hZ1w hZ2w
     cases e1:(mp != 0) <;> cases e2:hasB B mf
     case false.false =>
      have HB2:=hI (HMB.out.trans (if_neg (fun h=>h.elim (fun h=>h (by simpa using e1)) (fun h=>by rw [e2] at h;cases h))))
      rw [e2] at HHF
      go_wp2_with (first | rw [HZ1.out] | (go_at_call 107;refine (HHF.out _).mono ?_;rintro e w2 ⟨rfl,rfl⟩))
      refine bodyPost_ret (v:=.agg (posA (upd r 65 (u K)))) (pos_result Tryz.results105 _ _ _ _ rfl (HE1.out.res.setRow _)) rfl ⟨ret_val (by rw [HN.out,HB2.out]),below_setRow HE1.out.low (by omega) _⟩
     all_goals
      have HB2:=hI (HMB.out.trans (if_pos (by first | exact .inr e2 | exact .inl (by simpa using e1))))
      rw [e2] at HHF
      go_wp2_with (first | rw [HZ2.out] | (go_at_call 107;refine (HHF.out _).mono ?_;rintro e w2 ⟨rfl,rfl⟩))
      refine bodyPost_ret (v:=.agg (posA (upd r 65 (u (K ||| oneB mt))))) (pos_result Tryz.results105 _ _ _ _ rfl (HE2.out.res.setRow _)) rfl ⟨ret_val (by rw [HN.out,HB2.out]),below_setRow HE2.out.low (by omega) _⟩
theorem poc16_any (n q:Nat→Int) (hn:PosOk n) (hq:PosOk q) (t:Int) (ht:n 78=t) (h01:t=0∨t=1) (m:Mv) (tk:Int) (hm:MvOk n m tk) (w:World):Calls Tryz.prog 105 #[.agg (posA n),.agg (posA q),.agg #[.int .i8 m.f,.int .i8 m.t,.int .u8 m.p,.int .u8 m.d,.bool m.c],.int .i64 tk] w fun e w' => e = .returned (.agg (posA (pocN n q m tk)))∧Below w.heap.size w w' := by
 have hT:n 78=((t.toNat:Nat):Int):=by omega
 by_cases hv:n 0=2
 · by_cases hd : m.d = 0
   · cases hc : m.c with
     | true=>rw [← hc];exact poc16_c n q hn hq m tk hv t.toNat (by omega) hT (hm.cast hc).1 w
     | false=>rw [← hc];exact poc16_nt n q hn hq m tk hv t.toNat (by omega) hT hm.f0 hm.f1 hm.t0 hm.t1 hc hd hm.k0 hm.k1 w
   · exact poc16_no2 n q hn hq m tk hv hd w
 · exact poc16_no1 n q hn hq m tk hv w
theorem gone_ways (a b c d e f:Bool) (G:Bool) (h:(a || (b&&c) || d || !e || !f)=G) :
 (G=true∧a=true)∨(G=true∧a=false∧b=true∧c=true) ∨
 (G=true∧a=false∧b=false∧d=true)∨(G=true∧a=false∧b=false∧d=false∧e=false)∨(G=true∧a=false∧b=false∧d=false∧e=true∧f=false)∨(G=false∧a=false∧b=false∧d=false∧e=true∧f=true) ∨
 (G=true∧a=false∧b=true∧c=false∧d=true)∨(G=true∧a=false∧b=true∧c=false∧d=false∧e=false)∨(G=true∧a=false∧b=true∧c=false∧d=false∧e=true∧f=false)∨(G=false∧a=false∧b=true∧c=false∧d=false∧e=true∧f=true):=by
 subst h
 cases a <;> cases b <;> cases c <;> cases d <;> cases e <;> cases f <;> simp
/-- Squares of a list are emptied. -/
def wipeL (q:Nat→Int) (l:List Int):Nat→Int:=fun i=>if 1≤i∧i≤64∧((i:Int) - 1)∈l then 0 else q i
theorem wipeL_nil (q:Nat→Int):wipeL q []=q:=by
 funext i;unfold wipeL;rw [if_neg];rintro ⟨_,_,h⟩;cases h
theorem wipeL_snoc (q:Nat→Int) (l:List Int) (s:Int) (s0:0≤s) (s1:s<64):wipeL q (l ++ [s])=upd (wipeL q l) (1+s.toNat) 0:=by
 funext i
 unfold wipeL upd
 by_cases e:i=1+s.toNat
 · rw [if_pos e,if_pos ⟨by omega,by omega,List.mem_append.2 (.inr (List.mem_singleton.2 (by omega)))⟩]
 · rw [if_neg e]
   dsimp only
   by_cases h:1≤i∧i≤64∧((i:Int) - 1)∈l
   · rw [if_pos h,if_pos ⟨h.1,h.2.1,List.mem_append.2 (.inl h.2.2)⟩]
   · rw [if_neg h, if_neg]
     rintro ⟨h1,h2,h3⟩
     rcases List.mem_append.1 h3 with h3 | h3
     · exact h ⟨h1,h2,h3⟩
     · have:=List.mem_singleton.1 h3;omega
theorem wipeL_all (q:Nat→Int) (b:BitVec 64):wipeL q (listB b)=wipeN q b:=by
 funext i
 unfold wipeL wipeN
 by_cases h:1≤i∧i≤64
 · have : ((i : Int) - 1) ∈ listB b ↔ hasB b ((i : Int) - 1) = true := mem_listB _ _
   simp only [this]
 · rw [if_neg (fun e=>h ⟨e.1,e.2.1⟩),if_neg (fun e=>h ⟨e.1,e.2.1⟩)]
/-- The same, square by square. -/
def wipeK (q:Nat→Int) (b:BitVec 64) (j:Nat):Nat→Int:=fun i=>if 1≤i∧i≤j∧hasB b ((i:Int) - 1)=true then 0 else q i
theorem wipeK_0 (q:Nat→Int) (b:BitVec 64):wipeK q b 0=q:=by
 funext i;unfold wipeK;rw [if_neg];omega
theorem wipeK_yes (q:Nat→Int) (b:BitVec 64) (j:Nat) (h:hasB b (j:Int)=true):wipeK q b (j+1)=upd (wipeK q b j) (1+j) 0:=by
 funext i
 unfold wipeK upd
 by_cases e:i=1+j
 · rw [if_pos e,if_pos ⟨by omega,by omega,by rw [show (i:Int) - 1=j by omega];exact h⟩]
 · rw [if_neg e]
   dsimp only
   by_cases g:1≤i∧i≤j∧hasB b ((i:Int) - 1)=true
   · rw [if_pos g,if_pos ⟨g.1,by omega,g.2.2⟩]
   · rw [if_neg g, if_neg]
     rintro ⟨h1,h2,h3⟩
     exact g ⟨h1,by omega,h3⟩
theorem wipeK_no (q:Nat→Int) (b:BitVec 64) (j:Nat) (h:hasB b (j:Int)=false):wipeK q b (j+1)=wipeK q b j:=by
 funext i
 unfold wipeK
 by_cases g:1≤i∧i≤j∧hasB b ((i:Int) - 1)=true
 · rw [if_pos g,if_pos ⟨g.1,by omega,g.2.2⟩]
 · rw [if_neg g, if_neg]
   rintro ⟨h1,h2,h3⟩
   by_cases e:i=j+1
   · rw [show (i:Int) - 1=j by omega,h] at h3;cases h3
   · exact g ⟨h1,by omega,h3⟩
theorem wipeK_64 (q:Nat→Int) (b:BitVec 64):wipeK q b 64=wipeN q b:=rfl
theorem MvOk.ok {n:Nat→Int} {m:Mv} {tk:Int} (h:MvOk n m tk):m.Ok:=by
 obtain ⟨h1,h2,h3,h4,h5,h6,h7,h8,_,_,_,_⟩:=h
 exact ⟨by omega,by omega,by omega,by omega⟩
theorem takenP_is {n:Nat→Int} {m:Mv} (ht:n 78=0∨n 78=1) (hv:n 0<9):takenP n m=takenN n m:=by
 unfold takenP thereN
 rw [decide_eq_true hv,decide_eq_true (show n 78≤1 by omega)];rfl
/-- What Made has laid: the position, the move, the result; the one that is written, in a block of its own. -/
structure MadW (w:World) (m:Mv) (n q:Nat→Int) (g:Nat) (W:World):Prop where
 old:PosAt W w.heap.size n
 mv:W.heap[w.heap.size+1]?=some (.cells m.cells.toArray 49 (0,0))
 res:PosAt W (w.heap.size+2) zeroN
 pos:PosAt W g q
 gt:w.heap.size+2<g
 low:Below w.heap.size w W
theorem MadW.grow {w:World} {m:Mv} {n q:Nat→Int} {g:Nat} {W W' : World} (h:MadW w m n q g W) (hb:Below W.heap.size W W'):MadW w m n q g W' :=
 ⟨h.old.below hb h.old.lt,(hb.block _ (Array.getElem?_eq_some_iff.1 h.mv).1).trans h.mv,h.res.below hb h.res.lt,h.pos.below hb h.pos.lt,h.gt,h.low.trans (hb.mono h.low.size)⟩
theorem MadW.set {w:World} {m:Mv} {n q:Nat→Int} {g:Nat} {W:World} (h:MadW w m n q g W) (i:Nat) (k:IntKind) (hi:kindAt i=k) (x:Int):MadW w m n (upd q i x) g (W.setCell ⟨g,i,none⟩ (.int k x)):=by
 have:=h.pos.set i x
 rw [hi] at this
 have hg:=h.gt
 exact ⟨h.old.other (by omega) _,(Below.heap_setCell _ _ _ _ (by show w.heap.size+1≠g;omega)).trans h.mv,h.res.other (by omega) _,this,hg,h.low.setCell (p:=⟨g,i,none⟩) (by show w.heap.size≤g;omega) _⟩
theorem MadW.row {w:World} {m:Mv} {n q:Nat→Int} {g:Nat} {W:World} (h:MadW w m n q g W) (r:Nat→Int):MadW w m n r g (W.setRow g (posA r)):=by
 have hg:=h.gt
 refine ⟨h.old.otherRow (by omega) _,?_,h.res.otherRow (by omega) _,h.pos.setRow r,hg,below_setRow h.low (by omega) _⟩
 simp only [World.setRow]
 rw [Array.getElem?_modify,if_neg (by omega),h.mv]
theorem MadW.new {w:World} {m:Mv} {n:Nat→Int} {V:World} (old:PosAt V w.heap.size n) (mv:V.heap[w.heap.size+1]?=some (.cells m.cells.toArray 49 (0,0))) (res:PosAt V (w.heap.size+2) zeroN) (low:Below w.heap.size w V) :
 MadW w m n zeroN V.heap.size (V.alloc (.cells (posA zeroN) 31)) :=
 ⟨old.alloc _,(heap_alloc_old V _ (Array.getElem?_eq_some_iff.1 mv).1).trans mv,res.alloc _,PosAt.new V zeroN,res.lt,low.alloc low.size _⟩
theorem MadW.rules {w:World} {m:Mv} {n q:Nat→Int} {g:Nat} {W:World} (h:MadW w m n q g W) :
 (IsPos W w.heap.size∧rowOf W w.heap.size=posA n)∧(IsPos W g∧rowOf W g=posA q)∧(IsPos W (w.heap.size+2)∧rowOf W (w.heap.size+2)=posA zeroN):=⟨h.old.rules,h.pos.rules,h.res.rules⟩
theorem MadW.move {w:World} {m:Mv} {n q:Nat→Int} {g:Nat} {W:World} (h:MadW w m n q g W) :
 W.cell? ⟨w.heap.size+1,0,none⟩=some (.int .i8 m.f)∧W.cell? ⟨w.heap.size+1,1,none⟩=some (.int .i8 m.t)∧W.cell? ⟨w.heap.size+1,2,none⟩=some (.int .u8 m.p)∧W.cell? ⟨w.heap.size+1,3,none⟩=some (.int .u8 m.d)∧W.cell? ⟨w.heap.size+1,4,none⟩=some (.bool m.c):=mv_cell h.mv
theorem made16_any (n:Nat→Int) (hn:PosOk n) (t:Nat) (ht1:t≤1) (ht:n 78=t) (hv:n 0<9) (m:Mv) (hm:MvOk n m (takenP n m)) (hcc:m.c=true→kndI (n (1+m.f.toNat))≠1) (w:World):Calls Tryz.prog 43 #[.agg (posA n),.agg #[.int .i8 m.f,.int .i8 m.t,.int .u8 m.p,.int .u8 m.d,.bool m.c]] w fun e w' => e = .returned (.agg (posA (madeN n m)))∧Below w.heap.size w w' := by
 have h01:(t:Int)=0∨(t:Int)=1:=by omega
 have h78:n 78=0∨n 78=1:=by omega
 have HTK:=hI (taken13_any n hn t ht h01 hv m hm.ok hm.f0 hm.f1 hm.t0 hm.t1)
 rw [← takenP_is h78 hv] at HTK
 have HMD:=hI (show madeN n m=movT n m (takenP n m) from rfl)
 generalize takenP n m=tk at *
 have HMEN:=hI (men16_any n hn t ht h01 m tk hm)
 have o1:=men_ok hn h78 hm
 have HPOC:=hI (poc16_any n _ hn o1 t ht h01 m tk hm)
 have o2:PosOk (pocN n (menN n m tk) m tk):=poc_ok o1
 have HBLW:=hI (blown16_any _ o2 m.t hm.t0 hm.t1)
 have o3:PosOk (blowN n (pocN n (menN n m tk) m tk) m tk):=blow_ok o2
 have HRIG:=hI (rights16_any n _ hn o3 t ht h01 m tk hm.f0 hm.f1)
 have o4:PosOk (rigN n (blowN n (pocN n (menN n m tk) m tk) m tk) m tk):=rig_ok o3 h78
 have HPAS:=hI (pass16_any n _ hn o4 t ht h01 m hm.f0 hm.f1 hm.t0 hm.t1 hcc)
 have o5:=mov5_ok hn h78 hm
 have o6:PosOk (clkN n (mov5 n m tk) m tk):=clk_ok hn o5
 have HCK:=hI (check8_any (upd (clkN n (mov5 n m tk) m tk) 78 (1 - n 78)) (upd_ok o6 (wf8 (by omega) (by omega))) (1 - n 78) (by omega) (by omega))
 have HMT:=hI (show movT n m tk=turnN n (clkN n (mov5 n m tk) m tk) from rfl)
 have HM5:=hI (show mov5 n m tk=upd (rigN n (blowN n (pocN n (menN n m tk) m tk) m tk) m tk) 83 (passI n (rigN n (blowN n (pocN n (menN n m tk) m tk) m tk) m tk) m) from rfl)
 have HF5:=hI (fun i hi=>mov5_far h78 hm (i:=i) hi)
 have HBL:=hI (show blowN n (pocN n (menN n m tk) m tk) m tk=if n 0=3∧0≤tk then wipeN (pocN n (menN n m tk) m tk) (blownB (pocN n (menN n m tk) m tk) m.t) else pocN n (menN n m tk) m tk from rfl)
 obtain ⟨x0,x1⟩:=hn.u8 (1+m.f.toNat) (by have:=hm.f0;have:=hm.f1;omega) (kB (by have:=hm.f0;have:=hm.f1;omega))
 have HKD:=hI (k8_any (n (1+m.f.toNat)) x0 x1)
 obtain ⟨c0,c1⟩:=hn.i64 86 (by decide) rfl
 obtain ⟨c2,c3⟩:=hn.i64 87 (by decide) rfl
 have HMO1:=hI (more16_any (n 86) c0 c1)
 have HMO2:=hI (more16_any (n 87) c2 c3)
 have f0:=hm.f0
 have f1:=hm.f1
 have t0:=hm.t0
 have t1:=hm.t1
 have HK:=hI (show movK n m=if m.d≠0 then m.d else kndI (n (1+m.f.toNat)) from rfl)
 have HCL:=hI (show ∀ q,clkN n q m tk=upd (upd q 86 (if movK n m=1∨0≤tk then 0 else moreI (n 86))) 87 (if n 78=1 then moreI (n 87) else n 87) from fun q=>rfl)
 have HTU:=hI (show ∀ q,turnN n q=if n 0=5∧q (84+t)<3∧checkN (upd q 78 (1 - n 78)) (1 - n 78)=true then upd (upd q 78 (1 - n 78)) (84+t) (q (84+t)+1) else upd q 78 (1 - n 78) from fun q=>by unfold turnN;rw [ht];rfl)
 have HOK6:=hI o6
 rw [ht] at HCL HTU HCK
 have HT:=hI ht
 obtain ⟨v,hvv⟩:∃ v,n 0=v:=⟨_,rfl⟩
 have HV:=hI hvv
 rw [hvv] at HTU HBL
 obtain ⟨mf,mt,mp,md,mc⟩:=m
 dsimp only at *
 obtain ⟨X,hX⟩:∃ X,menX n ⟨mf,mt,mp,md,mc⟩ w=X:=⟨_,rfl⟩
 obtain ⟨xp,xm,xr,xb,_⟩:=menX_at n _ w X hX
 have HX:=hI (show ((w.alloc (.cells (posA n) 31)).alloc (.cells #[.int .i8 mf,.int .i8 mt,.int .u8 mp,.int .u8 md,.bool mc] 49)).alloc (.cells (posA zeroN) 31)=X from hX)
 have hzp:=zeroPos
 obtain ⟨xi,xro⟩:=xp.rules
 obtain ⟨m0,m1,m2,m3,m4⟩:=mv_cell (m:=⟨mf,mt,mp,md,mc⟩) xm
 dsimp only at m0 m1 m2 m3 m4
 have HX0:=hI (⟨xp,xm,xr,xb⟩:PosAt X w.heap.size n∧X.heap[w.heap.size+1]?=some (.cells (Mv.mk mf mt mp md mc).cells.toArray 49 (0,0))∧PosAt X (w.heap.size+2) zeroN∧Below w.heap.size w X)
 clear hX xp xm xr xb hm hcc o1 o2 o3 o4 o5 o6 hvv hv h78 ht
 go_enter Tryz.func43,Tryz.ntmps43
 go_wp2_with (first | rw [HX.out])
 refine (HTK.out _).mono ?_
 rintro e V ⟨rfl,hb⟩
 obtain ⟨yp,ym,yr,yb⟩:=HX0.out
 have hp:=yp.below hb yp.lt
 have hmv:=(hb.block _ (Array.getElem?_eq_some_iff.1 ym).1).trans ym
 have hr:=yr.below hb yr.lt
 have hlo:=yb.trans (hb.mono yb.size)
 clear hb yp ym yr yb xi xro m0 m1 m2 m3 m4
 obtain ⟨vi,vr⟩:=hp.rules
 obtain ⟨m0,m1,m2,m3,m4⟩:=mv_cell (m:=⟨mf,mt,mp,md,mc⟩) hmv
 dsimp only at m0 m1 m2 m3 m4
 have HV0:=hI (⟨hp,hmv,hr,hlo⟩:PosAt V w.heap.size n∧V.heap[w.heap.size+1]?=some (.cells (Mv.mk mf mt mp md mc).cells.toArray 49 (0,0))∧PosAt V (w.heap.size+2) zeroN∧Below w.heap.size w V)
 clear hp hmv hr hlo
 go_wp2_with fail
 refine (HMEN.out _).mono ?_
 rintro e V2 ⟨rfl,hb⟩
 obtain ⟨yp,ym,yr,yb⟩:=HV0.out
 have hW:=(MadW.new (yp.below hb yp.lt) ((hb.block _ (Array.getElem?_eq_some_iff.1 ym).1).trans ym) (yr.below hb yr.lt) (yb.trans (hb.mono yb.size)))
 clear hb yp ym yr yb vi vr m0 m1 m2 m3 m4
 obtain ⟨Z,hZ⟩:∃ Z,(V2.alloc (.cells (posA zeroN) 31))=Z:=⟨_,rfl⟩
 rw [hZ] at hW
 have hgs:(V2.heap.size:Nat)=V2.heap.size:=rfl
 obtain ⟨g,hg⟩:∃ g,V2.heap.size=g:=⟨_,rfl⟩
 rw [hg] at hW
 have hW1:=hW.row (menN n ⟨mf,mt,mp,md,mc⟩ tk)
 obtain ⟨Y,hY⟩:∃ Y,Z.setRow g (posA (menN n ⟨mf,mt,mp,md,mc⟩ tk))=Y:=⟨_,rfl⟩
 rw [hY] at hW1
 obtain ⟨zi,zr⟩:=hW.pos.rules
 obtain ⟨⟨i0,r0⟩,⟨i1,r1⟩,_⟩:=hW1.rules
 obtain ⟨m0,m1,m2,m3,m4⟩:=hW1.move
 dsimp only at m0 m1 m2 m3 m4
 have HZ:=hI hZ
 have HG:=hI hg
 have HY:=hI hY
 have HW:=hI (fun V hb=>hW1.grow (W' := V) hb)
 clear hZ hg hY hW hW1 hgs
 go_wp2_with (first | rw [HZ.out] | rw [HG.out] | rw [HY.out])
 refine (HPOC.out _).mono ?_
 rintro e V3 ⟨rfl,hb⟩
 have hW:=HW.out _ hb
 clear hb zi zr i0 r0 i1 r1 m0 m1 m2 m3 m4
 obtain ⟨q2,hq2⟩:∃ q2,pocN n (menN n ⟨mf,mt,mp,md,mc⟩ tk) ⟨mf,mt,mp,md,mc⟩ tk=q2:=⟨_,rfl⟩
 rw [hq2] at HBLW HRIG HPAS HBL HM5 ⊢
 have hW2:=hW.row q2
 obtain ⟨_,⟨j1,s1⟩,_⟩:=hW.rules
 obtain ⟨Y2,hY2⟩:∃ Y2,V3.setRow g (posA q2)=Y2:=⟨_,rfl⟩
 rw [hY2] at hW2
 have c0:Y2.cell? ⟨w.heap.size,0,none⟩=some (.int .u8 v):=by rw [← HV.out];exact hW2.old.board 0 (by decide)
 have HY2:=hI hY2
 have HW2:=hI hW2
 clear hW hW2 hq2 hY2 HPOC HMEN
 obtain ⟨bA,hbA⟩:∃ b,decide (v=3∧0≤tk)=b:=⟨_,rfl⟩
 have HbA:=hI hbA
 clear hbA
 go_upto_region 4 with (rw [HY2.out])
 go_cut [28] (fun s28 wx=>s28=.bool bA∧MadW w ⟨mf,mt,mp,md,mc⟩ n q2 g wx)
 case first =>
  by_cases h1:v=3
  · have e1 : (v == 3) = true := beq_iff_eq.2 h1
    by_cases h2:0≤tk
    · have e2 : decide (tk ≥ 0) = true := decide_eq_true h2
      have HA:=hI (decide_eq_true (p:=v=3∧0≤tk) ⟨h1,h2⟩)
      clear h1
      go_wp2_with fail
      go_meet
      exact ⟨by rw [← HbA.out,HA.out],HW2.out⟩
    · have e2 : decide (tk ≥ 0) = false := decide_eq_false h2
      have HA:=hI (decide_eq_false (p:=v=3∧0≤tk) (fun h=>h2 h.2))
      clear h1
      go_wp2_with fail
      go_meet
      exact ⟨by rw [← HbA.out,HA.out],HW2.out⟩
  · have e1 : (v == 3) = false := beq_eq_false_iff_ne.2 h1
    have HA:=hI (decide_eq_false (p:=v=3∧0≤tk) (fun h=>h1 h.1))
    clear h1
    go_wp2_with fail
    go_meet
    exact ⟨by rw [← HbA.out,HA.out],HW2.out⟩
 case rest =>
  obtain ⟨rfl,hC⟩:=hcut
  have HC:=hI hC
  obtain ⟨m0,m1,m2,m3,m4⟩:=hC.move
  dsimp only at m0 m1 m2 m3 m4
  obtain ⟨_,⟨k1,l1⟩,_⟩:=hC.rules
  clear hC j1 s1 c0
  go_upto_if 28 with fail
  go_cut [] (fun wx=>MadW w ⟨mf,mt,mp,md,mc⟩ n (blowN n q2 ⟨mf,mt,mp,md,mc⟩ tk) g wx)
  case first =>
   cases bA
   case false =>
    have HB3:=hI (HBL.out.trans (if_neg (of_decide_eq_false HbA.out)))
    go_wp2_with fail
    go_meet
    rw [HB3.out];exact HC.out
   case true =>
    have HB3:=hI (HBL.out.trans (if_pos (of_decide_eq_true HbA.out)))
    go_wp2_with fail
    refine (HBLW.out _).mono ?_
    rintro e V4 ⟨rfl,hb⟩
    have HC4:=hI (HC.out.grow hb)
    clear hb m0 m1 m2 m3 m4 k1 l1
    obtain ⟨B,hB⟩:∃ B,blownB q2 mt=B:=⟨_,rfl⟩
    rw [hB] at HB3 ⊢
    clear hB
    go_wp2
    go_loopg [8] 64 (fun gh i wr=>∃ j:Nat,j+gh=64∧i=.int .i64 j∧MadW w ⟨mf,mt,mp,md,mc⟩ n (wipeK q2 B j) g wr)
    case atStart=>exact ⟨0,rfl,rfl,by rw [wipeK_0];exact HC4.out⟩
    case round =>
     obtain ⟨j,hj,rfl,hW⟩:=hrel
     by_cases hlt:j<64
     · have hj64 : (j : Int) < 64 := by omega
       have HHJ:=hI (has16_any B (j:Int) (by omega) hj64)
       have HYS:=hI (wipeK_yes q2 B j)
       have HNO:=hI (wipeK_no q2 B j)
       have cj:=hW.pos.board (1+j) (by omega)
       have fj:=hW.pos.free (1+j)
       have HWJ:=hI hW
       generalize wipeK q2 B j (1+j)=y at cj
       clear hW
       cases e1:hasB B (j:Int) <;> rw [e1] at HHJ
       · have HN := hideIt (HNO.out e1)
         go_wp2_with (refine (HHJ.out _).mono ?_;rintro e w2 ⟨rfl,rfl⟩)
         go_roundg (63 - j)
         case measure=>omega
         case rel=>exact ⟨j+1,by omega,by go_num,by rw [HN.out];exact HWJ.out⟩
       · have HN := hideIt (HYS.out e1)
         go_wp2_with (refine (HHJ.out _).mono ?_;rintro e w2 ⟨rfl,rfl⟩)
         go_roundg (63 - j)
         case measure=>omega
         case rel=>exact ⟨j+1,by omega,by go_num,by rw [HN.out];exact HWJ.out.set (1+j) .u8 (kB (by omega)) 0⟩
     · obtain rfl : j = 64 := by omega
       have HWJ:=hI hW
       clear hW
       go_wp2_with fail
       go_meet
       rw [HB3.out,← wipeK_64];exact HWJ.out
  case rest =>
   obtain ⟨q3,hq3⟩:∃ q3,blowN n q2 ⟨mf,mt,mp,md,mc⟩ tk=q3:=⟨_,rfl⟩
   rw [hq3] at hcut HRIG HPAS HM5
   have HC3:=hI hcut
   obtain ⟨n0,n1,n2,n3,n4⟩:=hcut.move
   dsimp only at n0 n1 n2 n3 n4
   obtain ⟨⟨a1,b1⟩,⟨a2,b2⟩,_⟩:=hcut.rules
   clear hcut hq3 m0 m1 m2 m3 m4 k1 l1 HBL HBLW
   go_wp2_with fail
   refine (HRIG.out _).mono ?_
   rintro e V5 ⟨rfl,hb⟩
   have hW:=HC3.out.grow hb
   obtain ⟨q4,hq4⟩:∃ q4,rigN n q3 ⟨mf,mt,mp,md,mc⟩ tk=q4:=⟨_,rfl⟩
   rw [hq4] at HPAS HM5 ⊢
   have hW4:=hW.row q4
   obtain ⟨_,⟨a3,b3⟩,_⟩:=hW.rules
   obtain ⟨Y4,hY4⟩:∃ Y4,V5.setRow g (posA q4)=Y4:=⟨_,rfl⟩
   rw [hY4] at hW4
   clear hb n0 n1 n2 n3 n4 a1 b1 a2 b2 hq4
   obtain ⟨n0,n1,n2,n3,n4⟩:=hW4.move
   dsimp only at n0 n1 n2 n3 n4
   obtain ⟨⟨a1,b1⟩,⟨a2,b2⟩,_⟩:=hW4.rules
   have HY4:=hI hY4
   have HW4:=hI hW4
   clear hW hW4 hY4
   go_wp2_with (rw [HY4.out])
   refine (HPAS.out _).mono ?_
   rintro e V6 ⟨rfl,hb⟩
   have hW:=HW4.out.grow hb
   clear hb n0 n1 n2 n3 n4 a1 b1 a2 b2 a3 b3
   obtain ⟨ps,hps⟩:∃ ps,passI n q4 ⟨mf,mt,mp,md,mc⟩=ps:=⟨_,rfl⟩
   rw [hps] at HM5 ⊢
   have c83:=hW.pos.cell 83 (by decide)
   have f83:=hW.pos.free 83
   have hW5:=hW.set 83 .i8 rfl ps
   obtain ⟨Y5,hY5⟩:∃ Y5,V6.setCell ⟨g,83,none⟩ (.int .i8 ps)=Y5:=⟨_,rfl⟩
   rw [hY5,← HM5.out] at hW5
   generalize q4 83=z83 at c83
   obtain ⟨q5,hq5⟩:∃ q5,mov5 n ⟨mf,mt,mp,md,mc⟩ tk=q5:=⟨_,rfl⟩
   rw [hq5] at hW5 HF5 HCK HOK6 HMT
   obtain ⟨n0,n1,n2,n3,n4⟩:=hW5.move
   dsimp only at n0 n1 n2 n3 n4
   have cfr:=hW5.old.board (1+mf.toNat) (by omega)
   have HY5:=hI hY5
   have HW5:=hI hW5
   clear hW hW5 hY5 hps hq5 HM5
   obtain ⟨bP,hbP⟩:∃ b,decide (movK n ⟨mf,mt,mp,md,mc⟩=1)=b:=⟨_,rfl⟩
   have HbP:=hI hbP
   clear hbP
   go_upto_region 13 with (rw [HY5.out])
   go_cut [9] (fun s9 wx=>s9=.bool bP∧MadW w ⟨mf,mt,mp,md,mc⟩ n q5 g wx)
   case first =>
    by_cases h1:md=0
    · subst h1
      have HK:=hI (show decide (movK n ⟨mf,mt,mp,0,mc⟩=1)=(kndI (n (1+mf.toNat))==1) by rw [HK.out,if_neg (fun h=>h rfl)];rfl)
      generalize n (1+mf.toNat)=x at *
      go_wp2_with ((refine (HKD.out _).mono ?_;rintro e w2 ⟨rfl,rfl⟩))
      go_meet
      exact ⟨by rw [← HbP.out,HK.out],HW5.out⟩
    · have e1 : (md == 0) = false := beq_eq_false_iff_ne.2 h1
      have HK:=hI (show decide (movK n ⟨mf,mt,mp,md,mc⟩=1)=(md==1) by rw [HK.out,if_pos h1];rfl)
      clear h1
      cases e2:(md==1)
      · go_wp2_with fail
        go_meet
        exact ⟨by rw [← HbP.out,HK.out,e2],HW5.out⟩
      · go_wp2_with fail
        go_meet
        exact ⟨by rw [← HbP.out,HK.out,e2],HW5.out⟩
   case rest =>
    obtain ⟨rfl,hW⟩:=hcut
    have HPP:=hI (show bP=true↔movK n ⟨mf,mt,mp,md,mc⟩=1 from by rw [← HbP.out,decide_eq_true_iff])
    have c86:=hW.old.cell 86 (by decide)
    have d86:=hW.pos.cell 86 (by decide)
    have e86:=hW.pos.free 86
    have hW6:=hW.set 86 .i64 rfl (moreI (n 86))
    obtain ⟨Y6,hY6⟩:∃ Y6,wc.setCell ⟨g,86,none⟩ (.int .i64 (moreI (n 86)))=Y6:=⟨_,rfl⟩
    rw [hY6] at hW6
    have a86:=hW6.pos.cell 86 (by decide)
    have b86:=hW6.pos.free 86
    have hW7:=hW6.set 86 .i64 rfl 0
    obtain ⟨Y7,hY7⟩:∃ Y7,Y6.setCell ⟨g,86,none⟩ (.int .i64 0)=Y7:=⟨_,rfl⟩
    rw [hY7,upd_upd] at hW7
    obtain ⟨hf,hhf⟩:∃ hf,(if movK n ⟨mf,mt,mp,md,mc⟩=1∨0≤tk then 0 else moreI (n 86))=hf:=⟨_,rfl⟩
    rw [hhf] at HCL
    have HHF:=hI hhf
    have HY6:=hI hY6
    have HY7:=hI hY7
    have HW6:=hI hW6
    have HW7:=hI hW7
    generalize q5 86=z86 at d86
    generalize upd q5 86 (moreI (n 86)) 86=y86 at a86
    clear n0 n1 n2 n3 n4 cfr c83 f83 hW hhf hY6 hY7 hW6 hW7 HW5 HY5
    obtain ⟨bH,hbH⟩:∃ b,(bP || decide (0≤tk))=b:=⟨_,rfl⟩
    have HbH:=hI hbH
    clear hbH
    go_upto_region 15 with (first | rw [HY6.out] | ((refine (HMO1.out _).mono ?_;rintro e w2 ⟨rfl,rfl⟩)))
    go_cut [79] (fun s79 wx=>s79=.bool bH∧wx=Y6)
    case first =>
     cases bP
     · cases hk : decide (tk ≥ 0)
       · go_wp2_with fail
         go_meet
         exact ⟨by rw [← HbH.out];exact congrArg Value.bool hk.symm,rfl⟩
       · go_wp2_with fail
         go_meet
         exact ⟨by rw [← HbH.out];exact congrArg Value.bool hk.symm,rfl⟩
     · go_wp2_with fail
       go_meet
       exact ⟨by rw [← HbH.out];rfl,rfl⟩
    case rest =>
     obtain ⟨rfl,rfl⟩:=hcut
     go_upto_if 79 with fail
     go_cut [] (fun wx=>MadW w ⟨mf,mt,mp,md,mc⟩ n (upd q5 86 hf) g wx)
     case first =>
      cases bH
      · have HE := hideIt (show hf = moreI (n 86) by
         rw [← HHF.out,if_neg]
         rintro (h | h)
         · have:=HbH.out;rw [HPP.out.2 h] at this;cases this
         · have:=HbH.out;rw [decide_eq_true h,Bool.or_true] at this;cases this)
        go_wp2_with fail
        go_meet
        rw [HE.out];exact HW6.out
      · have HE := hideIt (show hf = 0 by
         rw [← HHF.out,if_pos]
         rcases Bool.or_eq_true_iff.1 HbH.out with h | h
         · exact .inl (HPP.out.1 h)
         · exact .inr (of_decide_eq_true h))
        go_wp2_with (rw [HY7.out])
        go_meet
        rw [HE.out];exact HW7.out
     case rest =>
      have HC7:=hI hcut
      have c78:wc.cell? ⟨w.heap.size,78,none⟩=some (.int .u8 (t:Int)):=by rw [← HT.out];exact hcut.old.cell 78 (by decide)
      have c87:=hcut.old.cell 87 (by decide)
      have d87:=hcut.pos.cell 87 (by decide)
      have e87:=hcut.pos.free 87
      have hW8:=hcut.set 87 .i64 rfl (moreI (n 87))
      obtain ⟨Y8,hY8⟩:∃ Y8,wc.setCell ⟨g,87,none⟩ (.int .i64 (moreI (n 87)))=Y8:=⟨_,rfl⟩
      rw [hY8] at hW8
      have HY8:=hI hY8
      have HW8:=hI hW8
      have HQ:=hI (HCL.out q5)
      have HQ0:=hI (show clkN n q5 ⟨mf,mt,mp,md,mc⟩ tk 0=v by rw [HQ.out,upd_ne _ (by omega),upd_ne _ (by omega),HF5.out 0 (.inl rfl),HV.out])
      have H87:=hI (HF5.out 87 (.inr (.inr (by decide))))
      obtain ⟨q6,hq6⟩:∃ q6,clkN n q5 ⟨mf,mt,mp,md,mc⟩ tk=q6:=⟨_,rfl⟩
      rw [hq6] at HQ HQ0 HCK HOK6 HMT
      generalize upd q5 86 hf 87=y87 at d87
      clear hcut hY8 hW8 hq6 c86 d86 e86 a86 b86
      go_upto_if 83 with fail
      go_cut [] (fun wx=>MadW w ⟨mf,mt,mp,md,mc⟩ n q6 g wx)
      case first =>
       rcases (show t=0∨t=1 by omega) with rfl | rfl
       · have HE := hideIt (show q6 = upd q5 86 hf by
          have h2:∀ x,x=upd q5 86 hf 87→upd (upd q5 86 hf) 87 x=upd q5 86 hf:=fun x h=>by rw [h,upd_same]
          rw [HQ.out,if_neg (by decide)]
          exact h2 _ (by rw [upd_ne _ (by decide),H87.out]))
         go_wp2_with fail
         go_meet
         rw [HE.out];exact HC7.out
       · have HE := hideIt (show q6 = upd (upd q5 86 hf) 87 (moreI (n 87)) by rw [HQ.out, if_pos (by decide)])
         go_wp2_with (first | rw [HY8.out] | ((refine (HMO2.out _).mono ?_;rintro e w2 ⟨rfl,rfl⟩)))
         go_meet
         rw [HE.out];exact HW8.out
      case rest =>
       have hk:kindAt (84+t)=.u8:=by rcases (show t=0∨t=1 by omega) with rfl | rfl <;> rfl
       obtain ⟨x0,x1⟩:=HOK6.out.u8 (84+t) (by omega) hk
       have k78:wc.cell? ⟨w.heap.size,78,none⟩=some (.int .u8 (t:Int)):=by rw [← HT.out];exact hcut.old.cell 78 (by decide)
       have p78:=hcut.pos.cell 78 (by decide)
       have f78:=hcut.pos.free 78
       have hW9:=hcut.set 78 .u8 rfl (1 - (t:Int))
       obtain ⟨Y9,hY9⟩:∃ Y9,wc.setCell ⟨g,78,none⟩ (.int .u8 (1 - (t:Int)))=Y9:=⟨_,rfl⟩
       rw [hY9] at hW9
       have g0:Y9.cell? ⟨g,0,none⟩=some (.int .u8 v):=by have:=hW9.pos.board 0 (by decide);rwa [upd_ne _ (by decide),HQ0.out] at this
       have g78:Y9.cell? ⟨g,78,none⟩=some (.int .u8 (1 - (t:Int))):=hW9.pos.cell 78 (by decide)
       have g84:Y9.cell? ⟨g,84+t,none⟩=some (.int .u8 (q6 (84+t))):=by have:=hW9.pos.cell (84+t) (by omega);rwa [upd_ne _ (by omega),hk] at this
       have n78:Y9.cell? ⟨w.heap.size,78,none⟩=some (.int .u8 (t:Int)):=by rw [← HT.out];exact hW9.old.cell 78 (by decide)
       obtain ⟨_,⟨i9,r9⟩,⟨z9,y9⟩⟩:=hW9.rules
       have HW9:=hI hW9
       have HY9:=hI hY9
       have wt:IntKind.u8.wrap (1 - (t:Int))=1 - t:=IntWalk.u8_in _ (by omega)
       have t0' : (0:Int)≤t:=by omega
       have t1' : (t:Int)<2:=by omega
       obtain ⟨x,hx⟩:∃ x,q6 (84+t)=x:=⟨_,rfl⟩
       have HTU:=hI (HTU.out q6)
       rw [hx] at HTU g84 x0 x1
       generalize q6 78=y78 at p78
       clear hcut hW9 hY9 hx c78 c87 d87 e87 h01
       by_cases hv5:v=5
       case neg =>
        have HN:=hI (show (if v=5∧x<3∧checkN (upd q6 78 (1 - (t:Int))) (1 - t)=true then upd (upd q6 78 (1 - t)) (84+t) (x+1) else upd q6 78 (1 - t))=upd q6 78 (1 - t) from if_neg (fun h=>hv5 h.1))
        have e1:(v==5)=false:=beq_eq_false_iff_ne.2 hv5
        clear hv5
        go_wp2_with (rw [HY9.out])
        refine bodyPost_ret (v:=.agg (posA (upd q6 78 (1 - (t:Int))))) (pos_result Tryz.results43 _ _ _ _ rfl (HW9.out.res.setRow _)) rfl ⟨ret_val (by rw [HMD.out,HMT.out,HTU.out,HN.out]),below_setRow HW9.out.low (by omega) _⟩
       case pos =>
        have e1:(v==5)=true:=beq_iff_eq.2 hv5
        by_cases hx3:x<3
        case neg =>
         have HN:=hI (show (if v=5∧x<3∧checkN (upd q6 78 (1 - (t:Int))) (1 - t)=true then upd (upd q6 78 (1 - t)) (84+t) (x+1) else upd q6 78 (1 - t))=upd q6 78 (1 - t) from if_neg (fun h=>hx3 h.2.1))
         have e2:decide (x<3)=false:=decide_eq_false hx3
         clear hv5
         go_wp2_with (rw [HY9.out])
         refine bodyPost_ret (v:=.agg (posA (upd q6 78 (1 - (t:Int))))) (pos_result Tryz.results43 _ _ _ _ rfl (HW9.out.res.setRow _)) rfl ⟨ret_val (by rw [HMD.out,HMT.out,HTU.out,HN.out]),below_setRow HW9.out.low (by omega) _⟩
        case pos =>
         have e2:decide (x<3)=true:=decide_eq_true hx3
         have w3:IntKind.u8.wrap (x+1)=x+1:=IntWalk.u8_in _ (by omega)
         cases hc:checkN (upd q6 78 (1 - (t:Int))) (1 - t) <;> rw [hc] at HCK
         case false =>
          have HN:=hI (show (if v=5∧x<3∧checkN (upd q6 78 (1 - (t:Int))) (1 - t)=true then upd (upd q6 78 (1 - t)) (84+t) (x+1) else upd q6 78 (1 - t))=upd q6 78 (1 - t) from if_neg (fun h=>by rw [hc] at h;cases h.2.2))
          clear hv5 hc
          go_wp2_with (rw [HY9.out])
          refine (HCK.out _).mono ?_
          rintro e V9 ⟨rfl,hb⟩
          have hV:=HW9.out.grow hb
          obtain ⟨_,⟨i8,r8⟩,⟨z8,y8⟩⟩:=hV.rules
          have HV9:=hI hV
          clear hV hb
          go_wp2
          refine bodyPost_ret (v:=.agg (posA (upd q6 78 (1 - (t:Int))))) (pos_result Tryz.results43 _ _ _ _ rfl (HV9.out.res.setRow _)) rfl ⟨ret_val (by rw [HMD.out,HMT.out,HTU.out,HN.out]),below_setRow HV9.out.low (by omega) _⟩
         case true =>
          have HN:=hI (show (if v=5∧x<3∧checkN (upd q6 78 (1 - (t:Int))) (1 - t)=true then upd (upd q6 78 (1 - t)) (84+t) (x+1) else upd q6 78 (1 - t))=upd (upd q6 78 (1 - t)) (84+t) (x+1) from if_pos ⟨hv5,hx3,hc⟩)
          clear hv5 hc
          go_wp2_with (rw [HY9.out])
          refine (HCK.out _).mono ?_
          rintro e V9 ⟨rfl,hb⟩
          have hV:=HW9.out.grow hb
          have v78:V9.cell? ⟨w.heap.size,78,none⟩=some (.int .u8 (t:Int)):=by rw [← HT.out];exact hV.old.cell 78 (by decide)
          have v84:=(hb.cell (p:=⟨g,84+t,none⟩) HW9.out.pos.lt).trans g84
          have f84:=hV.pos.free (84+t)
          have hWA:=hV.set (84+t) .u8 hk (x+1)
          obtain ⟨YA,hYA⟩:∃ YA,V9.setCell ⟨g,84+t,none⟩ (.int .u8 (x+1))=YA:=⟨_,rfl⟩
          rw [hYA] at hWA
          obtain ⟨_,⟨i8,r8⟩,⟨z8,y8⟩⟩:=hWA.rules
          have HYA:=hI hYA
          have HV9:=hI hWA
          clear hV hb hYA hWA
          go_wp2_with (rw [HYA.out])
          refine bodyPost_ret (v:=.agg (posA (upd (upd q6 78 (1 - (t:Int))) (84+t) (x+1)))) (pos_result Tryz.results43 _ _ _ _ rfl (HV9.out.res.setRow _)) rfl ⟨ret_val (by rw [HMD.out,HMT.out,HTU.out,HN.out]),below_setRow HV9.out.low (by omega) _⟩
def kSqC (n:Nat→Int) (c:Int):Int:=firstB (ofN n c 6)
def hillI (s:Int):Bool:=(s==27) || (s==28) || (s==35) || (s==36)
def menB0 (n:Nat→Int) (c:Int):Bool:=!(ofN n c 0==0#64)
def comesB (n:Nat→Int):Bool:=(wouldL n).any (fun m=>(m.f==kSqC n 1)&&decide (56≤m.t))
def goalP (n:Nat→Int):Int × Int :=
 if 56≤kSqC n 0∧56≤kSqC n 1 then (3,6) else if 56≤kSqC n 1 then (2,6) else if kSqC n 0<56 then (0,0) else
 if n 78=0 then (1,6) else if comesB n=true then (0,0) else (1,6)
/-- How it is won: state and reason. -/
def wonP (n:Nat→Int):Int × Int :=
 if n 0=3 then (if hasK n (n 78)=true then (0,0) else (2 - n 78,6)) else
 if n 0=5 then (if 3≤n (84+(1 - n 78).toNat) then (2 - n 78,7) else if 3≤n (84+(n 78).toNat) then (1+n 78,7) else (0,0)) else
 if n 0=6 then (if hillI (kSqC n (1 - n 78))=true then (2 - n 78,6) else if hillI (kSqC n (n 78))=true then (1+n 78,6) else (0,0)) else
 if n 0=7 then (if menB0 n 0=true then (0,0) else (2,8)) else
 if n 0=4 then (if menB0 n (n 78)=false then (1+n 78,8) else if menB0 n (1 - n 78)=false then (2 - n 78,8) else (0,0)) else
 if n 0=8 then goalP n else (0,0)
def listL (n:Nat→Int):List Mv:=if (wonP n).1=0 then wouldL n else []
def resV (r:Int × Int):Value:=.agg #[.int .u8 r.1,.int .u8 r.2]
/-- How a game stands. -/
def endV (n:Nat→Int):Int × Int :=
 if (wonP n).1≠0 then wonP n else if listL n=[] then (if n 0=4 then (1+n 78,8) else if checkN n (n 78)=true then (2 - n 78,1) else (3,2)) else
 if matB n=true then (3,3) else if 150≤n 86 then (3,4) else (0,0)
end Go.Proofs.YteocjaihaegmoaaGreatDoor
