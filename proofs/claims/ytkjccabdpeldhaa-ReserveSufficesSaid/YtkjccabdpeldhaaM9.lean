import Derived.Test.YtkjccabdpeldhaaM6
import Derived.Test.YtkjccabdpeldhaaM7
import Derived.Test.YtkjccabdpeldhaaM5
import Derived.Test.YtkjccabdpeldhaaM8
set_option linter.unusedVariables false
set_option linter.unusedSimpArgs false
set_option linter.unusedSectionVars false
namespace Go.Proofs.Ytkjccabdpeldhaa
open Go Go.Eng
set_option maxHeartbeats 0
set_option maxRecDepth 100000
def law33_ReserveSuffices_b4 (s22:Int) (s24:Int×Int) (y2:TReserve) (y3:Int) (s25:Int×Int):Option (Ct (Int×Int) Bool):=ix y2.Calls default s24.2 fun e26=>
   cn (decide (s25.2<(e26.Edges.length:Int))) (jn (fun p27:Bool=>jn (fun p31:Int=>some (.nx (p31,(wr (s25.2+1))))) fun k32=>
   cn p27 (ix y2.Calls default s24.2 fun e33=>let v34:=(wr (s25.1+e33.Amount));k32 v34) (k32 s25.1)) fun k28=>gd (0≤s24.2) (cn ((Int.tmod (bshr .i64 y3 s24.2) 2) ==
   1) (ix y2.Calls default s24.2 fun e29=>ix e29.Edges default s25.2 fun e30=>k28 (e30==s22)) (k28 false))) (some (.bk (s25.1,s25.2)))
theorem W_blaw33_ReserveSuffices_b4 {s22:Int} {s24:Int×Int} {y2:TReserve} {y3:Int} {s25:Int×Int} {Φ:Ct (Int×Int) Bool→Prop} (h:W (law33_ReserveSuffices_b4 s22 s24 y2 y3 s25) Φ):W (ix y2.Calls default s24.2 fun e26=>cn (decide (s25.2<(e26.Edges.length:Int))) (jn (fun p27:Bool=>jn (fun p31:Int=>some (.nx (p31,(wr (s25.2+1))))) fun k32=>
   cn p27 (ix y2.Calls default s24.2 fun e33=>let v34:=(wr (s25.1+e33.Amount));k32 v34) (k32 s25.1)) fun k28=>gd (0≤s24.2) (cn ((Int.tmod (bshr .i64 y3 s24.2) 2) ==
   1) (ix y2.Calls default s24.2 fun e29=>ix e29.Edges default s25.2 fun e30=>k28 (e30==s22)) (k28 false))) (some (.bk (s25.1,s25.2)))) Φ:=h

   def law33_ReserveSuffices_b3 (s22:Int) (y2:TReserve) (y3:Int) (s24:Int×Int):Option (Ct (Int×Int) Bool):=cn (decide (s24.2<(y2.Calls.length:Int))) (bd (lp (law33_ReserveSuffices_b4 s22 s24 y2 y3) FU (s24.1,0)) fun c35=>
   smK c35 (fun s36=>some (.nx (s36.1,(wr (s24.2+1))))) (fun r37=>some (.rt r37))) (some (.bk (s24.1,s24.2)))
theorem W_blaw33_ReserveSuffices_b3 {s22:Int} {y2:TReserve} {y3:Int} {s24:Int×Int} {Φ:Ct (Int×Int) Bool→Prop} (h:W (law33_ReserveSuffices_b3 s22 y2 y3 s24) Φ):W (cn (decide (s24.2<(y2.Calls.length:Int))) (bd (lp (law33_ReserveSuffices_b4 s22 s24 y2 y3) FU (s24.1,0)) fun c35=>smK c35 (fun s36=>
   some (.nx (s36.1,(wr (s24.2+1))))) (fun r37=>some (.rt r37))) (some (.bk (s24.1,s24.2)))) Φ:=h

   def law33_ReserveSuffices_b2 (y2:TReserve) (y3:Int) (y9:TSupply×Int) (s22:Int):Option (Ct Int Bool):=cn (decide (s22<(y2.Net.Edges.length:Int))) (ix y9.1.Amounts default s22 fun e23=>
   bd (lp (law33_ReserveSuffices_b3 s22 y2 y3) FU (e23,0)) fun c38=>smK c38 (fun s39=>ix y2.Net.Edges default s22 fun e41=>cn (decide (s39.1 >
   e41.Capacity)) (some (.rt false)) (some (.nx (wr (s22+1))))) (fun r40=>some (.rt r40))) (some (.bk s22))
theorem W_blaw33_ReserveSuffices_b2 {y2:TReserve} {y3:Int} {y9:TSupply×Int} {s22:Int} {Φ:Ct Int Bool→Prop} (h:W (law33_ReserveSuffices_b2 y2 y3 y9 s22) Φ):W (cn (decide (s22<(y2.Net.Edges.length:Int))) (ix y9.1.Amounts default s22 fun e23=>bd (lp (law33_ReserveSuffices_b3 s22 y2 y3) FU (e23,0)) fun c38=>smK c38 (fun s39=>
   ix y2.Net.Edges default s22 fun e41=>cn (decide (s39.1>e41.Capacity)) (some (.rt false)) (some (.nx (wr (s22+1))))) (fun r40=>some (.rt r40))) (some (.bk s22))) Φ:=h

   def law33_ReserveSuffices_b1 (y2:TReserve) (y7:Int) (y9:TSupply×Int) (s13:Int×Int×Int):Option (Ct (Int×Int×Int) Bool):=cn (decide (s13.2.2<y2.Net.N)) (ix y9.1.Amounts default (wr ((y2.Net.Edges.length:Int)+s13.2.2)) fun e14=>
   jn (fun p15:Bool=>cn p15 (some (.rt false)) (ix y2.Urgent default s13.2.2 fun e18=>some (.nx ((wr (s13.1+e18)),(wr (s13.2.1+e14)),(wr (s13.2.2+1)))))) fun k16=>
   ix y2.Centres default s13.2.2 fun e17=>cn (decide (e14>e17)) (k16 true) (cn (decide (e14 >
   0)) (gd (0≤(wr ((y2.Net.Edges.length:Int)+s13.2.2))) (k16 ((Int.tmod (bshr .i64 y7 (wr ((y2.Net.Edges.length:Int)+s13.2.2))) 2) ==
   1))) (k16 false))) (some (.bk (s13.1,s13.2.1,s13.2.2)))
theorem W_blaw33_ReserveSuffices_b1 {y2:TReserve} {y7:Int} {y9:TSupply×Int} {s13:Int×Int×Int} {Φ:Ct (Int×Int×Int) Bool→Prop} (h:W (law33_ReserveSuffices_b1 y2 y7 y9 s13) Φ):W (cn (decide (s13.2.2<y2.Net.N)) (ix y9.1.Amounts default (wr ((y2.Net.Edges.length:Int)+s13.2.2)) fun e14=>jn (fun p15:Bool=>
   cn p15 (some (.rt false)) (ix y2.Urgent default s13.2.2 fun e18=>some (.nx ((wr (s13.1+e18)),(wr (s13.2.1+e14)),(wr (s13.2.2+1)))))) fun k16=>
   ix y2.Centres default s13.2.2 fun e17=>cn (decide (e14>e17)) (k16 true) (cn (decide (e14 >
   0)) (gd (0≤(wr ((y2.Net.Edges.length:Int)+s13.2.2))) (k16 ((Int.tmod (bshr .i64 y7 (wr ((y2.Net.Edges.length:Int)+s13.2.2))) 2) ==
   1))) (k16 false))) (some (.bk (s13.1,s13.2.1,s13.2.2)))) Φ:=h
def law33_ReserveSuffices_F (a0:TNumbers) (a1:Int) (a2:Int×Int):Option Bool:=bd (law33_sane_F ) fun y1=>cn (!y1) (some false) (bd (ref33_Made_F a0) fun y2=>
   gd (0≤(y2.Calls.length:Int)) (bd (law33_pick_F a1 (bshl .i64 1 (y2.Calls.length:Int))) fun y3=>bd (reserve_Safe_F y2 y3) fun y4=>
   cn (!y4) (bd (reserve_Valid_F y2) fun y5=>some y5) (bd (reserve_Left_F y2 y3) fun y6=>bd (law33_failures_F y6.1 y2.Faults a2) fun y7=>bd (flow_Without_F y6.1 y7) fun y8=>
   bd (flow_Meet_F y8.1 y6.2.1) fun y9=>jn (fun p10:Bool=>cn p10 (some false) (bd (lp (law33_ReserveSuffices_b1 y2 y7 y9) FU (0,0,0)) fun c19=>smK c19 (fun s20=>
   bd (lp (law33_ReserveSuffices_b2 y2 y3 y9) FU 0) fun c42=>smK c42 (fun s43=>some (s20.1==s20.2.1)) (fun r44=>some r44)) (fun r21=>some r21))) fun k11=>cn (y6.2.2 !=
   0) (k11 true) (cn (y8.2 != 0) (k11 true) (cn (y9.2 != 0) (k11 true) (cn (!y9.1.Met) (k11 true) (bd (flow_CheckMeet_F y8.1 y6.2.1 y9.1) fun y12=>
   cn (!y12) (k11 true) (k11 ((y9.1.Amounts.length:Int) != (wr ((y2.Net.Edges.length:Int)+y2.Net.N)))))))))))
def law33_ReserveSuffices_S:List AV→AV→Prop:=fun args r=>∃ a0 a1 a2,args=[eTNumbers a0,eI a1,eA65 a2]∧W (law33_ReserveSuffices_F a0 a1 a2) fun y=>r=(eB y)
theorem law33_ReserveSuffices_ok {T:Tbl} (hT:TOk Try.prog T) (hpf:PfOk T PF) (h11:T 11=pureR law33_sane_S) (h12:T 12=pureR ref33_Made_S) (h14:T 14=pureR reserve_Safe_S) (h16:T 16=pureR law33_pick_S) (h20:T 20=pureR reserve_Left_S) (h23:T 23=pureR reserve_Valid_S) (h24:T 24=pureR law33_failures_S) (h25:T 25=pureR flow_Without_S) (h26:T 26=pureR flow_Meet_S) (h27:T 27=pureR flow_CheckMeet_S):FOk Try.prog 9 (pureR law33_ReserveSuffices_S):=by
 refine FOk_pure hT hpf Try.func9 rfl Try.ntmps9 Try.results9 (by decide) ?_
 rintro args r ⟨a0,a1,a2,rfl,h⟩
 refine ⟨nle rfl,?_,?_⟩
 · exact (lsC (lo_TNumbers _) (lsC (lsI _ _) (lsC (lo_A65 _) lsN)))
 rw [law33_ReserveSuffices_F.eq_1] at h
 refine HT_fr dCo rfl fun K hK=>?_;conv=>whnf
 refine hK _ _ _ ?_;clear hK K
 refine HT_seq ?_
 refine HT_fr dCo rfl fun K hK=>?_;conv=>whnf
 replace h:=W_bd h
 refine law33_sane_call h11 h (WkL.refl _) (fun _ h=>?_);conv=>whnf
 refine hK _ _ _ ?_;clear hK K
 refine HT_if fun K1 K2 hK1 hK2=>?_;conv=>whnf
 refine cLk h (fun _ h=>?_) (fun _ h=>?_)
 · refine hK1 ?_;clear hK1 hK2 K1 K2
   refine HT_fr dCo rfl fun K hK=>?_;conv=>whnf
   refine hK _ _ _ ?_;clear hK K
   refine HT_ret ?_
   refine Then_r ?_
   replace h:=W_some h
   refine PostP_r dCo fun K hK=>?_;conv=>whnf
   refine hK _ ?_;clear hK K
   cases h
   exact Wk.refl _
 refine hK2 ?_;clear hK1 hK2 K1 K2
 refine HT_skip ?_
 refine tHn ?_
 refine HT_fr dCo rfl fun K hK=>?_;conv=>whnf
 refine nlA rfl ?_;conv=>whnf
 refine bKo rfl ?_;conv=>whnf
 refine nlA rfl ?_;conv=>whnf
 replace h:=W_bd h
 refine ref33_Made_call h12 h (WkL.refl _) (fun _ h=>?_);conv=>whnf
 refine bKo rfl ?_;conv=>whnf
 refine And.intro rfl (And.intro (nle rfl) (And.intro rfl ?_));conv=>whnf
 refine hK _ _ _ ?_;clear hK K
 refine HT_fr dCo rfl fun K hK=>?_;conv=>whnf
 refine nlA rfl ?_;conv=>whnf
 refine bKo rfl ?_;conv=>whnf
 refine gKo rfl ?_;conv=>whnf
 refine gd_lk h fun _ h=>?_;conv=>whnf
 replace h:=W_bd h
 refine law33_pick_call h16 h (WkL.refl _) (fun _ h=>?_);conv=>whnf
 refine hK _ _ _ ?_;clear hK K
 refine HT_seq ?_
 refine HT_fr dCo rfl fun K hK=>?_;conv=>whnf
 refine nlA rfl ?_;conv=>whnf
 refine bKo rfl ?_;conv=>whnf
 refine nlA rfl ?_;conv=>whnf
 replace h:=W_bd h
 refine reserve_Safe_call h14 h (WkL.refl _) (fun _ h=>?_);conv=>whnf
 refine hK _ _ _ ?_;clear hK K
 refine HT_if fun K1 K2 hK1 hK2=>?_;conv=>whnf
 refine cLk h (fun _ h=>?_) (fun _ h=>?_)
 · refine hK1 ?_;clear hK1 hK2 K1 K2
   refine HT_fr dCo rfl fun K hK=>?_;conv=>whnf
   refine nlA rfl ?_;conv=>whnf
   refine bKo rfl ?_;conv=>whnf
   refine nlA rfl ?_;conv=>whnf
   replace h:=W_bd h
   refine reserve_Valid_call h23 h (WkL.refl _) (fun _ h=>?_);conv=>whnf
   refine hK _ _ _ ?_;clear hK K
   refine HT_ret ?_
   refine Then_r ?_
   replace h:=W_some h
   refine PostP_r dCo fun K hK=>?_;conv=>whnf
   refine hK _ ?_;clear hK K
   cases h
   exact Wk.refl _
 refine hK2 ?_;clear hK1 hK2 K1 K2
 refine HT_skip ?_
 refine tHn ?_
 refine HT_fr dCo rfl fun K hK=>?_;conv=>whnf
 refine nlA rfl ?_;conv=>whnf
 refine bKo rfl ?_;conv=>whnf
 refine nlA rfl ?_;conv=>whnf
 replace h:=W_bd h
 refine reserve_Left_call h20 h (WkL.refl _) (fun _ h=>?_);conv=>whnf
 refine bKo rfl ?_;conv=>whnf
 refine And.intro rfl (And.intro (nle rfl) (And.intro rfl ?_));conv=>whnf
 refine hK _ _ _ ?_;clear hK K
 refine HT_fr dCo rfl fun K hK=>?_;conv=>whnf
 refine nlA rfl ?_;conv=>whnf
 refine bKo rfl ?_;conv=>whnf
 refine nlA rfl ?_;conv=>whnf
 refine nlA rfl ?_;conv=>whnf
 refine bKo rfl ?_;conv=>whnf
 refine gKo rfl ?_;conv=>whnf
 refine nlA rfl ?_;conv=>whnf
 refine bKo rfl ?_;conv=>whnf
 refine nlA rfl ?_;conv=>whnf
 replace h:=W_bd h
 refine law33_failures_call h24 h (WkL.refl _) (fun _ h=>?_);conv=>whnf
 refine hK _ _ _ ?_;clear hK K
 refine HT_fr dCo rfl fun K hK=>?_;conv=>whnf
 refine nlA rfl ?_;conv=>whnf
 refine bKo rfl ?_;conv=>whnf
 refine nlA rfl ?_;conv=>whnf
 replace h:=W_bd h
 refine flow_Without_call h25 h (WkL.refl _) (fun _ h=>?_);conv=>whnf
 refine bKo rfl ?_;conv=>whnf
 refine And.intro rfl (And.intro (nle rfl) (And.intro rfl ?_));conv=>whnf
 refine hK _ _ _ ?_;clear hK K
 refine HT_fr dCo rfl fun K hK=>?_;conv=>whnf
 refine nlA rfl ?_;conv=>whnf
 refine bKo rfl ?_;conv=>whnf
 refine nlA rfl ?_;conv=>whnf
 replace h:=W_bd h
 refine flow_Meet_call h26 h (WkL.refl _) (fun _ h=>?_);conv=>whnf
 refine bKo rfl ?_;conv=>whnf
 refine And.intro rfl (And.intro (nle rfl) (And.intro rfl ?_));conv=>whnf
 refine hK _ _ _ ?_;clear hK K
 refine HT_seq ?_
 refine HT_jnK rfl h [7,8,12,15] [7,15] [] (fun kl kh ids b s=>⟨ofL ([(100,eB s)]++kl),ofH ([]++kh),b+64⟩) ?_;(conv=>whnf);refine And.intro (fun s h=>HT_st ?_) (fun k h=>?_)
 · refine HT_if fun K1 K2 hK1 hK2=>?_;conv=>whnf
   refine cLk h (fun _ h=>?_) (fun _ h=>?_)
   · refine hK1 ?_;clear hK1 hK2 K1 K2
     refine HT_fr dCo rfl fun K hK=>?_;conv=>whnf
     refine hK _ _ _ ?_;clear hK K
     refine HT_ret ?_
     refine Then_r ?_
     replace h:=W_some h
     refine PostP_r dCo fun K hK=>?_;conv=>whnf
     refine hK _ ?_;clear hK K
     cases h
     exact Wk.refl _
   refine hK2 ?_;clear hK1 hK2 K1 K2
   refine HT_skip ?_
   refine tHn ?_
   refine HT_fr dCo rfl fun K hK=>?_;conv=>whnf
   refine hK _ _ _ ?_;clear hK K
   refine HT_fr dCo rfl fun K hK=>?_;conv=>whnf
   refine hK _ _ _ ?_;clear hK K
   refine HT_seq ?_
   refine HT_fr dCo rfl fun K hK=>?_;conv=>whnf
   refine hK _ _ _ ?_;clear hK K
   refine HT_block ?_
   replace h:=W_bd h
   refine HT_lpK (body:=law33_ReserveSuffices_b1 _ _ _) rfl h [7,8,12,15] [7,15] [] (fun kl kh ids b s=>⟨ofL ([(17,eI s.1),(18,eI s.2.1),(19,eI s.2.2)]++kl),ofH ([]++kh),b+64⟩) ?_;(conv=>whnf);refine And.intro ?_ (fun s m h=>HT_st ?_)
   · refine weak_k ?_;conv=>whnf
     exact And.intro rfl (And.intro (aLc wkI (aLc wkI (aLc wkI (aLc (WkR.ptr (fun _=>rfl)) (aLc wkI (aLc wkI (aLc (WkR.ptr (fun _=>rfl)) aLn))))))) (aLc ⟨some _,rfl,bRc rfl (cKc wkI (cKc (wkr (lsL fun _=>(lo_TEdge _))) (cKc (wkr (lsL fun _=>(lsI _ _))) (cKc (wkr (lsL fun _=>(lsI _ _))) (cKc wkI (cKc (wkr (lsL fun _=>(lo_TOrdinary _))) cKn))))))⟩ (aLc ⟨some _,rfl,bRc rfl (cKc (wkr (lsB _)) (cKc (wkr (lsL fun _=>(lsI _ _))) (cKc wkI cKn)))⟩ aLn)))
   replace h:=W_blaw33_ReserveSuffices_b1 (W_bd h)
   refine HT_seq ?_
   refine HT_fr dCo rfl fun K hK=>?_;conv=>whnf
   refine nlA rfl ?_;conv=>whnf
   refine bKo rfl ?_;conv=>whnf
   refine gKo rfl ?_;conv=>whnf
   refine hK _ _ _ ?_;clear hK K
   refine HT_if fun K1 K2 hK1 hK2=>?_;conv=>whnf
   refine cLk h (fun _ h=>?_) (fun _ h=>?_)
   · refine hK1 ?_;clear hK1 hK2 K1 K2
     refine HT_skip ?_
     refine tHn ?_
     refine HT_seq ?_
     refine HT_block ?_
     refine HT_fr dCo rfl fun K hK=>?_;conv=>whnf
     refine nlA rfl ?_;conv=>whnf
     refine bKo rfl ?_;conv=>whnf
     refine gKo rfl ?_;conv=>whnf
     refine nlA rfl ?_;conv=>whnf
     refine bKo rfl ?_;conv=>whnf
     refine gKo rfl ?_;conv=>whnf
     refine ix_lk h fun _ h=>?_;conv=>whnf
     refine gKo rfl ?_;conv=>whnf
     refine hK _ _ _ ?_;clear hK K
     refine HT_seq ?_
     refine HT_fr dCo rfl fun K hK=>?_;conv=>whnf
     replace h:=W_jn h
     refine nlA rfl ?_;conv=>whnf
     refine bKo rfl ?_;conv=>whnf
     refine gKo rfl ?_;conv=>whnf
     refine ix_lk h fun _ h=>?_;conv=>whnf
     refine gKo rfl ?_;conv=>whnf
     refine cLk h (fun _ h=>?_) (fun _ h=>?_)<;>(conv=>whnf)
     · refine hK _ _ _ ?_;clear hK K
       refine HT_if fun K1 K2 hK1 hK2=>?_;conv=>whnf
       refine hK1 ?_;clear hK1 hK2 K1 K2
       replace h:=W_cnT h
       refine HT_fr dCo rfl fun K hK=>?_;conv=>whnf
       refine hK _ _ _ ?_;clear hK K
       refine HT_ret ?_
       refine Then_r ?_
       refine InBlock_r ?_
       refine Then_r ?_
       refine Then_r ?_
       refine InBlock_r ?_
       refine Then_r ?_
       replace h:=W_xrt h
       replace h:=W_inr h
       replace h:=W_some h
       refine PostP_r dCo fun K hK=>?_;conv=>whnf
       refine hK _ ?_;clear hK K
       cases h
       exact Wk.refl _
     refine cLk h (fun _ h=>?_) (fun _ h=>?_)<;>(conv=>whnf)
     · refine nlA rfl ?_;conv=>whnf
       refine bKo rfl ?_;conv=>whnf
       refine gKo rfl ?_;conv=>whnf
       refine gd_lk h fun _ h=>?_;conv=>whnf
       refine And.intro (by decide) ?_;conv=>whnf
       refine hK _ _ _ ?_;clear hK K
       refine HT_if fun K1 K2 hK1 hK2=>?_;conv=>whnf
       refine cLk h (fun _ h=>?_) (fun _ h=>?_)
       · refine hK1 ?_;clear hK1 hK2 K1 K2
         refine HT_fr dCo rfl fun K hK=>?_;conv=>whnf
         refine hK _ _ _ ?_;clear hK K
         refine HT_ret ?_
         refine Then_r ?_
         refine InBlock_r ?_
         refine Then_r ?_
         refine Then_r ?_
         refine InBlock_r ?_
         refine Then_r ?_
         replace h:=W_xrt h
         replace h:=W_inr h
         replace h:=W_some h
         refine PostP_r dCo fun K hK=>?_;conv=>whnf
         refine hK _ ?_;clear hK K
         cases h
         exact Wk.refl _
       refine hK2 ?_;clear hK1 hK2 K1 K2
       refine HT_skip ?_
       refine tHn ?_
       refine HT_fr dCo rfl fun K hK=>?_;conv=>whnf
       refine nlA rfl ?_;conv=>whnf
       refine bKo rfl ?_;conv=>whnf
       refine gKo rfl ?_;conv=>whnf
       refine ix_lk h fun _ h=>?_;conv=>whnf
       refine gKo rfl ?_;conv=>whnf
       refine hK _ _ _ ?_;clear hK K
       refine HT_f dCo rfl fun K hK=>?_;conv=>whnf
       refine hK _ _ _ ?_;clear hK K
       refine iBn ?_
       refine tHn ?_
       refine HT_f dCo rfl fun K hK=>?_;conv=>whnf
       refine hK _ _ _ ?_;clear hK K
       refine tHn ?_
       replace h:=W_xnx h
       refine ⟨_,h,?_⟩
       refine weak_k ?_;conv=>whnf
       exact And.intro rfl (And.intro (aLc wkI (aLc wkI (aLc wkI (aLc (WkR.ptr (fun _=>rfl)) (aLc wkI (aLc wkI (aLc (WkR.ptr (fun _=>rfl)) aLn))))))) (aLc ⟨some _,rfl,bRc rfl (cKc wkI (cKc (wkr (lsL fun _=>(lo_TEdge _))) (cKc (wkr (lsL fun _=>(lsI _ _))) (cKc (wkr (lsL fun _=>(lsI _ _))) (cKc wkI (cKc (wkr (lsL fun _=>(lo_TOrdinary _))) cKn))))))⟩ (aLc ⟨some _,rfl,bRc rfl (cKc (wkr (lsB _)) (cKc (wkr (lsL fun _=>(lsI _ _))) (cKc wkI cKn)))⟩ aLn)))
     refine hK _ _ _ ?_;clear hK K
     refine HT_if fun K1 K2 hK1 hK2=>?_;conv=>whnf
     refine hK2 ?_;clear hK1 hK2 K1 K2
     replace h:=W_cnF h
     refine HT_skip ?_
     refine tHn ?_
     refine HT_fr dCo rfl fun K hK=>?_;conv=>whnf
     refine nlA rfl ?_;conv=>whnf
     refine bKo rfl ?_;conv=>whnf
     refine gKo rfl ?_;conv=>whnf
     refine ix_lk h fun _ h=>?_;conv=>whnf
     refine gKo rfl ?_;conv=>whnf
     refine hK _ _ _ ?_;clear hK K
     refine HT_f dCo rfl fun K hK=>?_;conv=>whnf
     refine hK _ _ _ ?_;clear hK K
     refine iBn ?_
     refine tHn ?_
     refine HT_f dCo rfl fun K hK=>?_;conv=>whnf
     refine hK _ _ _ ?_;clear hK K
     refine tHn ?_
     replace h:=W_xnx h
     refine ⟨_,h,?_⟩
     refine weak_k ?_;conv=>whnf
     exact And.intro rfl (And.intro (aLc wkI (aLc wkI (aLc wkI (aLc (WkR.ptr (fun _=>rfl)) (aLc wkI (aLc wkI (aLc (WkR.ptr (fun _=>rfl)) aLn))))))) (aLc ⟨some _,rfl,bRc rfl (cKc wkI (cKc (wkr (lsL fun _=>(lo_TEdge _))) (cKc (wkr (lsL fun _=>(lsI _ _))) (cKc (wkr (lsL fun _=>(lsI _ _))) (cKc wkI (cKc (wkr (lsL fun _=>(lo_TOrdinary _))) cKn))))))⟩ (aLc ⟨some _,rfl,bRc rfl (cKc (wkr (lsB _)) (cKc (wkr (lsL fun _=>(lsI _ _))) (cKc wkI cKn)))⟩ aLn)))
   refine hK2 ?_;clear hK1 hK2 K1 K2
   refine HT_exit ?_
   refine Then_e ?_
   refine Then_e ?_
   refine InBlock_e ?_
   replace h:=W_xbk h
   replace h:=W_inl h
   refine tHn ?_
   refine HT_seq ?_
   refine HT_fr dCo rfl fun K hK=>?_;conv=>whnf
   refine hK _ _ _ ?_;clear hK K
   refine HT_block ?_
   replace h:=W_bd h
   refine HT_lpK (body:=law33_ReserveSuffices_b2 _ _ _) rfl h [7,8,15,17,18] [7,15] [] (fun kl kh ids b s=>⟨ofL ([(21,eI s)]++kl),ofH ([]++kh),b+64⟩) ?_;(conv=>whnf);refine And.intro ?_ (fun s m h=>HT_st ?_)
   · refine weak_k ?_;conv=>whnf
     exact And.intro rfl (And.intro (aLc wkI (aLc (WkR.ptr (fun _=>rfl)) (aLc wkI (aLc (WkR.ptr (fun _=>rfl)) (aLc wkI (aLc wkI aLn)))))) (aLc ⟨some _,rfl,bRc rfl (cKc wkI (cKc (wkr (lsL fun _=>(lo_TEdge _))) (cKc (wkr (lsL fun _=>(lsI _ _))) (cKc (wkr (lsL fun _=>(lsI _ _))) (cKc wkI (cKc (wkr (lsL fun _=>(lo_TOrdinary _))) cKn))))))⟩ (aLc ⟨some _,rfl,bRc rfl (cKc (wkr (lsB _)) (cKc (wkr (lsL fun _=>(lsI _ _))) (cKc wkI cKn)))⟩ aLn)))
   replace h:=W_blaw33_ReserveSuffices_b2 (W_bd h)
   refine HT_seq ?_
   refine HT_fr dCo rfl fun K hK=>?_;conv=>whnf
   refine nlA rfl ?_;conv=>whnf
   refine bKo rfl ?_;conv=>whnf
   refine gKo rfl ?_;conv=>whnf
   refine hK _ _ _ ?_;clear hK K
   refine HT_if fun K1 K2 hK1 hK2=>?_;conv=>whnf
   refine cLk h (fun _ h=>?_) (fun _ h=>?_)
   · refine hK1 ?_;clear hK1 hK2 K1 K2
     refine HT_skip ?_
     refine tHn ?_
     refine HT_seq ?_
     refine HT_block ?_
     refine HT_fr dCo rfl fun K hK=>?_;conv=>whnf
     refine nlA rfl ?_;conv=>whnf
     refine bKo rfl ?_;conv=>whnf
     refine gKo rfl ?_;conv=>whnf
     refine ix_lk h fun _ h=>?_;conv=>whnf
     refine gKo rfl ?_;conv=>whnf
     refine hK _ _ _ ?_;clear hK K
     refine HT_seq ?_
     refine HT_fr dCo rfl fun K hK=>?_;conv=>whnf
     refine hK _ _ _ ?_;clear hK K
     refine HT_block ?_
     replace h:=W_bd h
     refine HT_lpK (body:=law33_ReserveSuffices_b3 _ _ _) rfl h [7,8,15,17,18,21] [7,15] [] (fun kl kh ids b s=>⟨ofL ([(22,eI s.1),(23,eI s.2)]++kl),ofH ([]++kh),b+64⟩) ?_;(conv=>whnf);refine And.intro ?_ (fun s m h=>HT_st ?_)
     · refine weak_k ?_;conv=>whnf
       exact And.intro rfl (And.intro (aLc wkI (aLc wkI (aLc (WkR.ptr (fun _=>rfl)) (aLc wkI (aLc (WkR.ptr (fun _=>rfl)) (aLc wkI (aLc wkI (aLc wkI aLn)))))))) (aLc ⟨some _,rfl,bRc rfl (cKc wkI (cKc (wkr (lsL fun _=>(lo_TEdge _))) (cKc (wkr (lsL fun _=>(lsI _ _))) (cKc (wkr (lsL fun _=>(lsI _ _))) (cKc wkI (cKc (wkr (lsL fun _=>(lo_TOrdinary _))) cKn))))))⟩ (aLc ⟨some _,rfl,bRc rfl (cKc (wkr (lsB _)) (cKc (wkr (lsL fun _=>(lsI _ _))) (cKc wkI cKn)))⟩ aLn)))
     replace h:=W_blaw33_ReserveSuffices_b3 (W_bd h)
     refine HT_seq ?_
     refine HT_fr dCo rfl fun K hK=>?_;conv=>whnf
     refine nlA rfl ?_;conv=>whnf
     refine bKo rfl ?_;conv=>whnf
     refine gKo rfl ?_;conv=>whnf
     refine hK _ _ _ ?_;clear hK K
     refine HT_if fun K1 K2 hK1 hK2=>?_;conv=>whnf
     refine cLk h (fun _ h=>?_) (fun _ h=>?_)
     · refine hK1 ?_;clear hK1 hK2 K1 K2
       refine HT_skip ?_
       refine tHn ?_
       refine HT_seq ?_
       refine HT_block ?_
       refine HT_fr dCo rfl fun K hK=>?_;conv=>whnf
       refine hK _ _ _ ?_;clear hK K
       refine HT_block ?_
       replace h:=W_bd h
       refine HT_lpK (body:=law33_ReserveSuffices_b4 _ _ _ _) rfl h [7,8,15,17,18,21,23] [7,15] [] (fun kl kh ids b s=>⟨ofL ([(22,eI s.1),(24,eI s.2)]++kl),ofH ([]++kh),b+64⟩) ?_;(conv=>whnf);refine And.intro ?_ (fun s m h=>HT_st ?_)
       · refine weak_k ?_;conv=>whnf
         exact And.intro rfl (And.intro (aLc wkI (aLc wkI (aLc (WkR.ptr (fun _=>rfl)) (aLc wkI (aLc (WkR.ptr (fun _=>rfl)) (aLc wkI (aLc wkI (aLc wkI (aLc wkI aLn))))))))) (aLc ⟨some _,rfl,bRc rfl (cKc wkI (cKc (wkr (lsL fun _=>(lo_TEdge _))) (cKc (wkr (lsL fun _=>(lsI _ _))) (cKc (wkr (lsL fun _=>(lsI _ _))) (cKc wkI (cKc (wkr (lsL fun _=>(lo_TOrdinary _))) cKn))))))⟩ (aLc ⟨some _,rfl,bRc rfl (cKc (wkr (lsB _)) (cKc (wkr (lsL fun _=>(lsI _ _))) (cKc wkI cKn)))⟩ aLn)))
       replace h:=W_blaw33_ReserveSuffices_b4 (W_bd h)
       refine HT_seq ?_
       refine HT_fr dCo rfl fun K hK=>?_;conv=>whnf
       refine nlA rfl ?_;conv=>whnf
       refine bKo rfl ?_;conv=>whnf
       refine gKo rfl ?_;conv=>whnf
       refine ix_lk h fun _ h=>?_;conv=>whnf
       refine gKo rfl ?_;conv=>whnf
       refine hK _ _ _ ?_;clear hK K
       refine HT_if fun K1 K2 hK1 hK2=>?_;conv=>whnf
       refine cLk h (fun _ h=>?_) (fun _ h=>?_)
       · refine hK1 ?_;clear hK1 hK2 K1 K2
         refine HT_skip ?_
         refine tHn ?_
         refine HT_seq ?_
         refine HT_block ?_
         refine HT_fr dCo rfl fun K hK=>?_;conv=>whnf
         replace h:=W_jn h
         refine gd_lk h fun _ h=>?_;conv=>whnf
         refine And.intro (by decide) ?_;conv=>whnf
         refine cLk h (fun _ h=>?_) (fun _ h=>?_)<;>(conv=>whnf)
         · refine nlA rfl ?_;conv=>whnf
           refine bKo rfl ?_;conv=>whnf
           refine gKo rfl ?_;conv=>whnf
           refine ix_lk h fun _ h=>?_;conv=>whnf
           refine gKo rfl ?_;conv=>whnf
           refine ix_lk h fun _ h=>?_;conv=>whnf
           refine gKo rfl ?_;conv=>whnf
           refine hK _ _ _ ?_;clear hK K
           replace h:=W_jn h
           refine HT_if fun K1 K2 hK1 hK2=>?_;conv=>whnf
           refine cLk h (fun _ h=>?_) (fun _ h=>?_)
           · refine hK1 ?_;clear hK1 hK2 K1 K2
             refine HT_f dCo rfl fun K hK=>?_;conv=>whnf
             refine nlA rfl ?_;conv=>whnf
             refine bKo rfl ?_;conv=>whnf
             refine gKo rfl ?_;conv=>whnf
             refine ix_lk h fun _ h=>?_;conv=>whnf
             refine gKo rfl ?_;conv=>whnf
             refine hK _ _ _ ?_;clear hK K
             refine iBn ?_
             refine tHn ?_
             refine HT_f dCo rfl fun K hK=>?_;conv=>whnf
             refine hK _ _ _ ?_;clear hK K
             refine tHn ?_
             replace h:=W_xnx h
             refine ⟨_,h,?_⟩
             refine weak_k ?_;conv=>whnf
             exact And.intro rfl (And.intro (aLc wkI (aLc wkI (aLc (WkR.ptr (fun _=>rfl)) (aLc wkI (aLc (WkR.ptr (fun _=>rfl)) (aLc wkI (aLc wkI (aLc wkI (aLc wkI aLn))))))))) (aLc ⟨some _,rfl,bRc rfl (cKc wkI (cKc (wkr (lsL fun _=>(lo_TEdge _))) (cKc (wkr (lsL fun _=>(lsI _ _))) (cKc (wkr (lsL fun _=>(lsI _ _))) (cKc wkI (cKc (wkr (lsL fun _=>(lo_TOrdinary _))) cKn))))))⟩ (aLc ⟨some _,rfl,bRc rfl (cKc (wkr (lsB _)) (cKc (wkr (lsL fun _=>(lsI _ _))) (cKc wkI cKn)))⟩ aLn)))
           refine hK2 ?_;clear hK1 hK2 K1 K2
           refine HT_skip ?_
           refine iBn ?_
           refine tHn ?_
           refine HT_f dCo rfl fun K hK=>?_;conv=>whnf
           refine hK _ _ _ ?_;clear hK K
           refine tHn ?_
           replace h:=W_xnx h
           refine ⟨_,h,?_⟩
           refine weak_k ?_;conv=>whnf
           exact And.intro rfl (And.intro (aLc wkI (aLc wkI (aLc (WkR.ptr (fun _=>rfl)) (aLc wkI (aLc (WkR.ptr (fun _=>rfl)) (aLc wkI (aLc wkI (aLc wkI (aLc wkI aLn))))))))) (aLc ⟨some _,rfl,bRc rfl (cKc wkI (cKc (wkr (lsL fun _=>(lo_TEdge _))) (cKc (wkr (lsL fun _=>(lsI _ _))) (cKc (wkr (lsL fun _=>(lsI _ _))) (cKc wkI (cKc (wkr (lsL fun _=>(lo_TOrdinary _))) cKn))))))⟩ (aLc ⟨some _,rfl,bRc rfl (cKc (wkr (lsB _)) (cKc (wkr (lsL fun _=>(lsI _ _))) (cKc wkI cKn)))⟩ aLn)))
         refine hK _ _ _ ?_;clear hK K
         replace h:=W_jn h
         refine HT_if fun K1 K2 hK1 hK2=>?_;conv=>whnf
         refine hK2 ?_;clear hK1 hK2 K1 K2
         replace h:=W_cnF h
         refine HT_skip ?_
         refine iBn ?_
         refine tHn ?_
         refine HT_f dCo rfl fun K hK=>?_;conv=>whnf
         refine hK _ _ _ ?_;clear hK K
         refine tHn ?_
         replace h:=W_xnx h
         refine ⟨_,h,?_⟩
         refine weak_k ?_;conv=>whnf
         exact And.intro rfl (And.intro (aLc wkI (aLc wkI (aLc (WkR.ptr (fun _=>rfl)) (aLc wkI (aLc (WkR.ptr (fun _=>rfl)) (aLc wkI (aLc wkI (aLc wkI (aLc wkI aLn))))))))) (aLc ⟨some _,rfl,bRc rfl (cKc wkI (cKc (wkr (lsL fun _=>(lo_TEdge _))) (cKc (wkr (lsL fun _=>(lsI _ _))) (cKc (wkr (lsL fun _=>(lsI _ _))) (cKc wkI (cKc (wkr (lsL fun _=>(lo_TOrdinary _))) cKn))))))⟩ (aLc ⟨some _,rfl,bRc rfl (cKc (wkr (lsB _)) (cKc (wkr (lsL fun _=>(lsI _ _))) (cKc wkI cKn)))⟩ aLn)))
       refine hK2 ?_;clear hK1 hK2 K1 K2
       refine HT_exit ?_
       refine Then_e ?_
       refine Then_e ?_
       refine InBlock_e ?_
       replace h:=W_xbk h
       replace h:=W_inl h
       refine iBn ?_
       refine tHn ?_
       refine HT_f dCo rfl fun K hK=>?_;conv=>whnf
       refine hK _ _ _ ?_;clear hK K
       refine tHn ?_
       replace h:=W_xnx h
       refine ⟨_,h,?_⟩
       refine weak_k ?_;conv=>whnf
       exact And.intro rfl (And.intro (aLc wkI (aLc wkI (aLc (WkR.ptr (fun _=>rfl)) (aLc wkI (aLc (WkR.ptr (fun _=>rfl)) (aLc wkI (aLc wkI (aLc wkI aLn)))))))) (aLc ⟨some _,rfl,bRc rfl (cKc wkI (cKc (wkr (lsL fun _=>(lo_TEdge _))) (cKc (wkr (lsL fun _=>(lsI _ _))) (cKc (wkr (lsL fun _=>(lsI _ _))) (cKc wkI (cKc (wkr (lsL fun _=>(lo_TOrdinary _))) cKn))))))⟩ (aLc ⟨some _,rfl,bRc rfl (cKc (wkr (lsB _)) (cKc (wkr (lsL fun _=>(lsI _ _))) (cKc wkI cKn)))⟩ aLn)))
     refine hK2 ?_;clear hK1 hK2 K1 K2
     refine HT_exit ?_
     refine Then_e ?_
     refine Then_e ?_
     refine InBlock_e ?_
     replace h:=W_xbk h
     replace h:=W_inl h
     refine tHn ?_
     refine HT_fr dCo rfl fun K hK=>?_;conv=>whnf
     refine nlA rfl ?_;conv=>whnf
     refine bKo rfl ?_;conv=>whnf
     refine gKo rfl ?_;conv=>whnf
     refine ix_lk h fun _ h=>?_;conv=>whnf
     refine gKo rfl ?_;conv=>whnf
     refine hK _ _ _ ?_;clear hK K
     refine HT_if fun K1 K2 hK1 hK2=>?_;conv=>whnf
     refine cLk h (fun _ h=>?_) (fun _ h=>?_)
     · refine hK1 ?_;clear hK1 hK2 K1 K2
       refine HT_fr dCo rfl fun K hK=>?_;conv=>whnf
       refine hK _ _ _ ?_;clear hK K
       refine HT_ret ?_
       refine InBlock_r ?_
       refine Then_r ?_
       refine Then_r ?_
       refine InBlock_r ?_
       refine Then_r ?_
       replace h:=W_xrt h
       replace h:=W_inr h
       replace h:=W_some h
       refine PostP_r dCo fun K hK=>?_;conv=>whnf
       refine hK _ ?_;clear hK K
       cases h
       exact Wk.refl _
     refine hK2 ?_;clear hK1 hK2 K1 K2
     refine HT_skip ?_
     refine iBn ?_
     refine tHn ?_
     refine HT_f dCo rfl fun K hK=>?_;conv=>whnf
     refine hK _ _ _ ?_;clear hK K
     refine tHn ?_
     replace h:=W_xnx h
     refine ⟨_,h,?_⟩
     refine weak_k ?_;conv=>whnf
     exact And.intro rfl (And.intro (aLc wkI (aLc (WkR.ptr (fun _=>rfl)) (aLc wkI (aLc (WkR.ptr (fun _=>rfl)) (aLc wkI (aLc wkI aLn)))))) (aLc ⟨some _,rfl,bRc rfl (cKc wkI (cKc (wkr (lsL fun _=>(lo_TEdge _))) (cKc (wkr (lsL fun _=>(lsI _ _))) (cKc (wkr (lsL fun _=>(lsI _ _))) (cKc wkI (cKc (wkr (lsL fun _=>(lo_TOrdinary _))) cKn))))))⟩ (aLc ⟨some _,rfl,bRc rfl (cKc (wkr (lsB _)) (cKc (wkr (lsL fun _=>(lsI _ _))) (cKc wkI cKn)))⟩ aLn)))
   refine hK2 ?_;clear hK1 hK2 K1 K2
   refine HT_exit ?_
   refine Then_e ?_
   refine Then_e ?_
   refine InBlock_e ?_
   replace h:=W_xbk h
   replace h:=W_inl h
   refine tHn ?_
   refine HT_fr dCo rfl fun K hK=>?_;conv=>whnf
   refine hK _ _ _ ?_;clear hK K
   refine HT_ret ?_
   replace h:=W_some h
   refine PostP_r dCo fun K hK=>?_;conv=>whnf
   refine hK _ ?_;clear hK K
   cases h
   exact Wk.refl _
 refine HT_f dCo rfl fun K hK=>?_;conv=>whnf
 refine cLk h (fun _ h=>?_) (fun _ h=>?_)<;>(conv=>whnf)
 · refine hK _ _ _ ?_;clear hK K
   refine tHn ?_
   refine ⟨_,h,?_⟩
   refine weak_k ?_;conv=>whnf
   exact And.intro rfl (And.intro (aLc (wkr (lsB _)) (aLc (WkR.ptr (fun _=>rfl)) (aLc wkI (aLc wkI (aLc (WkR.ptr (fun _=>rfl)) aLn))))) (aLc ⟨some _,rfl,bRc rfl (cKc wkI (cKc (wkr (lsL fun _=>(lo_TEdge _))) (cKc (wkr (lsL fun _=>(lsI _ _))) (cKc (wkr (lsL fun _=>(lsI _ _))) (cKc wkI (cKc (wkr (lsL fun _=>(lo_TOrdinary _))) cKn))))))⟩ (aLc ⟨some _,rfl,bRc rfl (cKc (wkr (lsB _)) (cKc (wkr (lsL fun _=>(lsI _ _))) (cKc wkI cKn)))⟩ aLn)))
 refine cLk h (fun _ h=>?_) (fun _ h=>?_)<;>(conv=>whnf)
 · refine hK _ _ _ ?_;clear hK K
   refine tHn ?_
   refine ⟨_,h,?_⟩
   refine weak_k ?_;conv=>whnf
   exact And.intro rfl (And.intro (aLc (wkr (lsB _)) (aLc (WkR.ptr (fun _=>rfl)) (aLc wkI (aLc wkI (aLc (WkR.ptr (fun _=>rfl)) aLn))))) (aLc ⟨some _,rfl,bRc rfl (cKc wkI (cKc (wkr (lsL fun _=>(lo_TEdge _))) (cKc (wkr (lsL fun _=>(lsI _ _))) (cKc (wkr (lsL fun _=>(lsI _ _))) (cKc wkI (cKc (wkr (lsL fun _=>(lo_TOrdinary _))) cKn))))))⟩ (aLc ⟨some _,rfl,bRc rfl (cKc (wkr (lsB _)) (cKc (wkr (lsL fun _=>(lsI _ _))) (cKc wkI cKn)))⟩ aLn)))
 refine cLk h (fun _ h=>?_) (fun _ h=>?_)<;>(conv=>whnf)
 · refine hK _ _ _ ?_;clear hK K
   refine tHn ?_
   refine ⟨_,h,?_⟩
   refine weak_k ?_;conv=>whnf
   exact And.intro rfl (And.intro (aLc (wkr (lsB _)) (aLc (WkR.ptr (fun _=>rfl)) (aLc wkI (aLc wkI (aLc (WkR.ptr (fun _=>rfl)) aLn))))) (aLc ⟨some _,rfl,bRc rfl (cKc wkI (cKc (wkr (lsL fun _=>(lo_TEdge _))) (cKc (wkr (lsL fun _=>(lsI _ _))) (cKc (wkr (lsL fun _=>(lsI _ _))) (cKc wkI (cKc (wkr (lsL fun _=>(lo_TOrdinary _))) cKn))))))⟩ (aLc ⟨some _,rfl,bRc rfl (cKc (wkr (lsB _)) (cKc (wkr (lsL fun _=>(lsI _ _))) (cKc wkI cKn)))⟩ aLn)))
 refine nlA rfl ?_;conv=>whnf
 refine bKo rfl ?_;conv=>whnf
 refine gKo rfl ?_;conv=>whnf
 refine cLk h (fun _ h=>?_) (fun _ h=>?_)<;>(conv=>whnf)
 · refine hK _ _ _ ?_;clear hK K
   refine tHn ?_
   refine ⟨_,h,?_⟩
   refine weak_k ?_;conv=>whnf
   exact And.intro rfl (And.intro (aLc (wkr (lsB _)) (aLc (WkR.ptr (fun _=>rfl)) (aLc wkI (aLc wkI (aLc (WkR.ptr (fun _=>rfl)) aLn))))) (aLc ⟨some _,rfl,bRc rfl (cKc wkI (cKc (wkr (lsL fun _=>(lo_TEdge _))) (cKc (wkr (lsL fun _=>(lsI _ _))) (cKc (wkr (lsL fun _=>(lsI _ _))) (cKc wkI (cKc (wkr (lsL fun _=>(lo_TOrdinary _))) cKn))))))⟩ (aLc ⟨some _,rfl,bRc rfl (cKc (wkr (lsB _)) (cKc (wkr (lsL fun _=>(lsI _ _))) (cKc wkI cKn)))⟩ aLn)))
 refine nlA rfl ?_;conv=>whnf
 refine bKo rfl ?_;conv=>whnf
 refine nlA rfl ?_;conv=>whnf
 refine nlA rfl ?_;conv=>whnf
 refine bKo rfl ?_;conv=>whnf
 refine nlA rfl ?_;conv=>whnf
 replace h:=W_bd h
 refine flow_CheckMeet_call h27 h (WkL.refl _) (fun _ h=>?_);conv=>whnf
 refine cLk h (fun _ h=>?_) (fun _ h=>?_)<;>(conv=>whnf)
 · refine hK _ _ _ ?_;clear hK K
   refine tHn ?_
   refine ⟨_,h,?_⟩
   refine weak_k ?_;conv=>whnf
   exact And.intro rfl (And.intro (aLc (wkr (lsB _)) (aLc (WkR.ptr (fun _=>rfl)) (aLc wkI (aLc wkI (aLc (WkR.ptr (fun _=>rfl)) aLn))))) (aLc ⟨some _,rfl,bRc rfl (cKc wkI (cKc (wkr (lsL fun _=>(lo_TEdge _))) (cKc (wkr (lsL fun _=>(lsI _ _))) (cKc (wkr (lsL fun _=>(lsI _ _))) (cKc wkI (cKc (wkr (lsL fun _=>(lo_TOrdinary _))) cKn))))))⟩ (aLc ⟨some _,rfl,bRc rfl (cKc (wkr (lsB _)) (cKc (wkr (lsL fun _=>(lsI _ _))) (cKc wkI cKn)))⟩ aLn)))
 refine nlA rfl ?_;conv=>whnf
 refine bKo rfl ?_;conv=>whnf
 refine gKo rfl ?_;conv=>whnf
 refine nlA rfl ?_;conv=>whnf
 refine bKo rfl ?_;conv=>whnf
 refine gKo rfl ?_;conv=>whnf
 refine nlA rfl ?_;conv=>whnf
 refine bKo rfl ?_;conv=>whnf
 refine gKo rfl ?_;conv=>whnf
 refine hK _ _ _ ?_;clear hK K
 refine tHn ?_
 refine ⟨_,h,?_⟩
 refine weak_k ?_;conv=>whnf
 exact And.intro rfl (And.intro (aLc (wkr (lsB _)) (aLc (WkR.ptr (fun _=>rfl)) (aLc wkI (aLc wkI (aLc (WkR.ptr (fun _=>rfl)) aLn))))) (aLc ⟨some _,rfl,bRc rfl (cKc wkI (cKc (wkr (lsL fun _=>(lo_TEdge _))) (cKc (wkr (lsL fun _=>(lsI _ _))) (cKc (wkr (lsL fun _=>(lsI _ _))) (cKc wkI (cKc (wkr (lsL fun _=>(lo_TOrdinary _))) cKn))))))⟩ (aLc ⟨some _,rfl,bRc rfl (cKc (wkr (lsB _)) (cKc (wkr (lsL fun _=>(lsI _ _))) (cKc wkI cKn)))⟩ aLn)))
end Go.Proofs.Ytkjccabdpeldhaa
namespace Go.Proofs.Ytkjccabdpeldhaa
open Go Go.Eng
set_option maxRecDepth 100000
theorem tmb {s i:Nat} (hi:i≤60):(Int.tmod (bshr .i64 (s:Int) (i:Int)) 2==1)=s.testBit i:=by
 rw [bshr_nat (by omega) hi,Int.toNat_natCast,Int.tmod_eq_emod_of_nonneg (Int.natCast_nonneg _),Nat.shiftRight_eq_div_pow,Nat.testBit_eq_decide_div_mod_eq]
 rw [Bool.eq_iff_iff,beq_iff_eq,decide_eq_true_iff]
 generalize s / 2 ^ i=q
 omega
section
variable {r:TReserve} (h:RV r)
include h
theorem suf_b4 {s i c:Nat} (hc:c<r.Calls.length) {u:Int} (hu:0≤u∧u≤1000000) (g:Int) :
   ∃ x,lp (law33_ReserveSuffices_b4 (i:Int) (g,(c:Int)) r (s:Int)) FU (u,0)=some (.inl (u+(if s.testBit c=true∧(i:Int)∈(r.Calls.getD c default).Edges then (r.Calls.getD c default).Amount else 0),x)):=by
 have hk8:=h.kl
 obtain ⟨⟨a1,a2⟩,w⟩:=h.kv _ (getD_mem hc)
 have hl:=w.len
 obtain ⟨z,e,h1,h2⟩:=lp_fold (body:=law33_ReserveSuffices_b4 (i:Int) (g,(c:Int)) r (s:Int)) (fun k z=>z.2=(k:Int)∧z.1=u+(if s.testBit c=true∧(i:Int)∈(r.Calls.getD c default).Edges.take k then (r.Calls.getD c default).Amount else 0)) (r.Calls.getD c default).Edges.length (by omega) (fun k z hk ⟨h1,h2⟩=>by
   obtain ⟨v,j⟩:=z
   simp only at h1 h2
   subst h1 h2
   unfold law33_ReserveSuffices_b4
   simp only [jn_d]
   rw [ix_n hc,cn_dec,if_pos (by omega),gd_p _ (by omega),tmb (by omega)]
   have hnd:(i:Int)=(r.Calls.getD c default).Edges.getD k default→(i:Int) ∉ (r.Calls.getD c default).Edges.take k:=fun hz hm=>by
     obtain ⟨j,hj,e⟩:=List.getElem_of_mem hm
     rw [List.length_take] at hj
     rw [List.getElem_take,hz,getD_lt hk] at e
     exact List.pairwise_iff_getElem.1 w.nd j k (by omega) hk (by omega) e
   have htk:(r.Calls.getD c default).Edges.take (k+1)=(r.Calls.getD c default).Edges.take k++[(r.Calls.getD c default).Edges.getD k default]:=by
     rw [List.take_succ_eq_append_getElem hk,← getD_lt hk]
   rw [htk]
   simp only [List.mem_append,List.mem_singleton]
   cases hb:s.testBit c
   · rw [cn_f,cn_f,wr_id (x:=(k:Int)+1) (by omega) (by omega)]
     refine ⟨_,rfl,by simp only;omega,?_⟩
     simp
   · rw [cn_t,ix_n hc,ix_n hk,cn_beq,wr_id (x:=(k:Int)+1) (by omega) (by omega)]
     by_cases q:(r.Calls.getD c default).Edges.getD k default=(i:Int)
     · rw [if_pos q,ix_n hc]
       have hno:=hnd q.symm
       refine ⟨_,rfl,by simp only;omega,?_⟩
       simp only [hno,q,and_false,if_false,true_and,or_true,if_true,Int.add_zero]
       rw [wr_id (by omega) (by omega)]
     · rw [if_neg q]
       refine ⟨_,rfl,by simp only;omega,?_⟩
       have:¬ (i:Int)=(r.Calls.getD c default).Edges.getD k default:=fun e=>q e.symm
       simp only [this,or_false]) (fun z ⟨h1,h2⟩=>by
   unfold law33_ReserveSuffices_b4
   simp only [jn_d]
   rw [ix_n hc,cn_dec,if_neg (by omega)]) (u,0) ⟨rfl,by simp⟩
 rw [List.take_length] at h2
 exact ⟨z.2,by rw [e,← h2]⟩
theorem suf_b3 {s i:Nat} {u:Int} (hu:0≤u∧u≤10000):∃ x,lp (law33_ReserveSuffices_b3 (i:Int) r (s:Int)) FU (u,0)=some (.inl (u+useN r.Calls s i r.Calls.length,x)):=by
 have hk8:=h.kl
 obtain ⟨z,e,h1,h2⟩:=lp_fold (body:=law33_ReserveSuffices_b3 (i:Int) r (s:Int)) (fun k z=>z.2=(k:Int)∧z.1=u+useN r.Calls s i k) r.Calls.length (by omega) (fun k z hk ⟨h1,h2⟩=>by
   obtain ⟨v,j⟩:=z
   simp only at h1 h2
   subst h1 h2
   have hb:=use_bd h s i k (by omega)
   unfold law33_ReserveSuffices_b3
   obtain ⟨x,e⟩:=suf_b4 h (s:=s) (i:=i) hk (u:=u+useN r.Calls s i k) (by omega) (u+useN r.Calls s i k)
   rw [cn_dec,if_pos (by omega),e,bd_s,smK_l,wr_id (x:=(k:Int)+1) (by omega) (by omega)]
   refine ⟨_,rfl,by simp only;omega,?_⟩
   simp only [useN];omega) (fun z ⟨h1,h2⟩=>by
   unfold law33_ReserveSuffices_b3
   rw [cn_dec,if_neg (by omega)]) (u,0) ⟨rfl,by simp [useN]⟩
 exact ⟨z.2,by rw [e,← h2]⟩
theorem suf_b2 {s F:Nat} {A:List Int} (hA:Fl.IsMet (Fl.wo (netL r s) F) (lsu r) A) (hc:Car r s) (x:Int):∃ z,lp (law33_ReserveSuffices_b2 r (s:Int) (⟨true,A,0⟩,x)) FU 0=some (.inl z):=by
 have hel:=h.el
 have hl:A.length=r.Net.Edges.length+r.Centres.length:=by
   rw [hA.ok.1,Fl.wo_len];exact lv_len r s
 obtain ⟨z,e,_⟩:=lp_fold (body:=law33_ReserveSuffices_b2 r (s:Int) (⟨true,A,0⟩,x)) (fun k z=>z=(k:Int)) r.Net.Edges.length (by omega) (fun k z hk hz=>by
   subst hz
   have h1:=met_edge hA hk
   have h2:=hc k hk
   have h3:=capN_le h (s:=s) hk
   have h4:capN r s k=(r.Net.Edges.getD k default).Capacity-useN r.Calls s k r.Calls.length:=rfl
   unfold law33_ReserveSuffices_b2
   obtain ⟨y,e⟩:=suf_b3 h (s:=s) (i:=k) (u:=A.getD k default) (by omega)
   rw [cn_dec,if_pos (by omega)]
   simp only
   rw [ix_n (by omega),e,bd_s,smK_l,ix_n hk,cn_dec,if_neg (by simp only;omega),wr_id (by omega) (by omega)]
   exact ⟨_,rfl,by omega⟩) (fun z hz=>by
   unfold law33_ReserveSuffices_b2
   rw [cn_dec,if_neg (by omega)]) 0 rfl
 exact ⟨z,e⟩
theorem suf_b1 {s F:Nat} {A:List Int} (hA:Fl.IsMet (Fl.wo (netL r s) F) (lsu r) A) (x:Int):∃ z,lp (law33_ReserveSuffices_b1 r (F:Int) (⟨true,A,0⟩,x)) FU (0,0,0)=some (.inl (sumK r.Urgent r.Urgent.length,sm r.Centres.length (fun i=>A.getD (r.Net.Edges.length+i) default),z)):=by
 have hel:=h.el;have hn:=h.n;have hul:=h.ul;have hcl:=h.cl
 have hl:A.length=r.Net.Edges.length+r.Centres.length:=by
   rw [hA.ok.1,Fl.wo_len];exact lv_len r s
 have hcu:r.Centres.length=r.Urgent.length:=by omega
 have hAb:∀ k,k<r.Centres.length→0≤A.getD (r.Net.Edges.length+k) default∧A.getD (r.Net.Edges.length+k) default≤10000:=fun k hk=>by
   have h1:=met_cen hA hk
   have h2:=h.cv _ (getD_mem hk)
   split at h1<;>omega
 obtain ⟨z,e,h1,h2,h3⟩:=lp_fold (body:=law33_ReserveSuffices_b1 r (F:Int) (⟨true,A,0⟩,x)) (fun k z=>z.2.2=(k:Int)∧z.1=sumK r.Urgent k∧z.2.1=sm k (fun i=>A.getD (r.Net.Edges.length+i) default)) r.Centres.length (by omega) (fun k z hk ⟨h1,h2,h3⟩=>by
   obtain ⟨a,b,j⟩:=z
   simp only at h1 h2 h3
   subst h1 h2 h3
   have hb1:=sumK_bd h k (by omega)
   have hb2:=Fl.sm_abs (f:=fun i=>A.getD (r.Net.Edges.length+i) default) (B:=10000) (k:=k) fun i hi=>by have:=hAb i (by omega);omega
   have hu:=h.uv _ (getD_mem (l:=r.Urgent) (k:=k) (by omega))
   have hc1:=met_cen hA hk
   have hc2:=hAb k hk
   have hc3:=h.cv _ (getD_mem hk)
   unfold law33_ReserveSuffices_b1
   simp only [jn_d]
   rw [cn_dec,if_pos (by omega),wr_id (x:=(r.Net.Edges.length:Int)+(k:Int)) (by omega) (by omega),show (r.Net.Edges.length:Int)+(k:Int)=((r.Net.Edges.length+k:Nat):Int) by omega,ix_n (by omega),ix_n hk]
   have hno:(if A.getD (r.Net.Edges.length+k) default>0 then F.testBit (r.Net.Edges.length+k) else false)=false:=by
     cases hb:F.testBit (r.Net.Edges.length+k)
     · split<;>rfl
     · rw [hb] at hc1
       simp only [if_true] at hc1
       rw [if_neg (by omega)]
   rw [cn_dec,if_neg (by split at hc1<;>omega),gd_p _ (by omega),tmb (by omega),cn_dec,ix_n (by omega),wr_id (x:=(k:Int)+1) (by omega) (by omega),wr_id (x:=sumK r.Urgent k+_) (by omega) (by omega),wr_id (x:=sm k _+_) (by omega) (by omega)]
   have fin:((cn false (some (.rt false)) (some (.nx (sumK r.Urgent k+r.Urgent.getD k default,sm k (fun i=>A.getD (r.Net.Edges.length+i) default)+A.getD (r.Net.Edges.length+k) default,(k:Int)+1)))):Option (Ct (Int×Int×Int) Bool))=some (.nx (sumK r.Urgent k+r.Urgent.getD k default,sm k (fun i=>A.getD (r.Net.Edges.length+i) default)+A.getD (r.Net.Edges.length+k) default,(k:Int)+1)):=cn_f _ _
   refine ⟨(sumK r.Urgent k+r.Urgent.getD k default,sm k (fun i=>A.getD (r.Net.Edges.length+i) default)+A.getD (r.Net.Edges.length+k) default,(k:Int)+1),?_,by simp only;omega,by simp only [sumK],by simp only [sm]⟩
   by_cases q:A.getD (r.Net.Edges.length+k) default>0
   · rw [if_pos q] at hno ⊢
     rw [hno];exact fin
   · rw [if_neg q];exact fin) (fun z ⟨h1,h2,h3⟩=>by
   unfold law33_ReserveSuffices_b1
   rw [cn_dec,if_neg (by omega)]) (0,0,0) ⟨rfl,rfl,rfl⟩
 exact ⟨z.2.2,by rw [e,← hcu,← h2,← h3]⟩
end
theorem plain9 (a0:TNumbers) (a1:Int) (a2:Int×Int) (o0:okTNumbers a0) (o1:okI a1) (o2:okA65 a2):law33_ReserveSuffices_F a0 a1 a2=some true:=by
 unfold law33_ReserveSuffices_F
 rw [sane_ok,bd_s]
 simp only [Bool.not_true,cn_f,jn_d]
 obtain ⟨r,e,hr⟩:=made_ok a0 o0
 have h:=hr.toRV
 obtain ⟨s,hs,e2⟩:=set_of h o1
 have hn:=h.n;have hul:=h.ul;have hcl:=h.cl;have hft:=h.ft;have hel:=h.el
 rw [e,bd_s,gd_p _ (by omega),e2,bd_s]
 obtain ⟨b,e3,hb⟩:=Safe_ok h hs
 rw [e3,bd_s]
 cases b
 · rw [Bool.not_false,cn_t,valid_ok h,bd_s]
 have hsafe:=hb.1 rfl
 rw [Bool.not_true,cn_f]
 rcases Left_ok h hs with ⟨k1,_⟩ | ⟨_,k2⟩
 · exact absurd hsafe.1 k1
 rw [k2,bd_s]
 simp only
 have hl28:=net_len h s
 obtain ⟨F,eF,hF,hpF⟩:=failures_ok (n:=netL r s) (by omega) (f:=r.Faults) o2
 have hF':(F:Int)<2 ^ (netL r s).Edges.length:=by exact_mod_cast hF
 obtain ⟨A,eA,hA⟩:=safe_met h hsafe hpF
 have hlA:A.length=r.Net.Edges.length+r.Centres.length:=by
   rw [hA.ok.1,Fl.wo_len];exact lv_len r s
 obtain ⟨c,ec,hc⟩:=Fl.checkMeet_iff (Fl.wo (netL r s) F) (lsu r) ⟨true,A,0⟩ (by simp only;omega)
 have hct:c=true:=hc.2 ⟨net_sup h hsafe.1 F,by rw [if_pos rfl];exact ⟨hA,rfl⟩⟩
 rw [hct] at ec
 rw [eF,bd_s,Fl.Without_ok (net_nv h hsafe.1) hF',bd_s]
 simp only
 rw [eA,bd_s]
 simp only
 rw [cn_bne,if_pos rfl,cn_bne,if_pos rfl,cn_bne,if_pos rfl]
 simp only [Bool.not_true,cn_f]
 rw [ec,bd_s]
 simp only [Bool.not_true,cn_f]
 rw [cn_bne,wr_id (by omega) (by omega),if_pos (by omega)]
 obtain ⟨z1,w1⟩:=suf_b1 h hA 0
 obtain ⟨z2,w2⟩:=suf_b2 h hA hsafe.1 0
 rw [w1,bd_s,smK_l,w2,bd_s,smK_l]
 simp only
 rw [met_top h hsafe.1 hA]
 simp
end Go.Proofs.Ytkjccabdpeldhaa
