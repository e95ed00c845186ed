import Derived.Test.YtkjccabdpeldhaaM6
import Derived.Test.YtkjccabdpeldhaaM7
import Derived.Test.YtkjccabdpeldhaaM5
import Derived.Test.YtkjccabdpeldhaaM8
set_option linter.unusedVariables false
set_option linter.unusedSimpArgs false
set_option linter.unusedSectionVars false
namespace Go.Proofs.Ytkjccabdpeldhaa
open Go Go.Eng
set_option maxHeartbeats 0
set_option maxRecDepth 100000

   def law33_ReserveReasons_b3 (l36:List TDenied) (y2:TReserve) (y26:TAdmission×Int) (s37:Int):Option (Ct Int Bool):=cn (decide (s37<(l36.length:Int))) (jn (fun p38:Unit=>
   some (.nx (wr (s37+1)))) fun k39=>ix l36 default s37 fun e40=>jn (fun p41:Bool=>
   cn p41 (k39 ()) (gd (0≤e40.Call) (let v43:=(band .i64 y26.1.Admitted (wr ((bshl .i64 1 e40.Call)-1)));jn (fun p44:Bool=>cn p44 (some (.rt false)) (k39 ())) fun k45=>
   bd (reserve_CheckDenied_F y2 v43 e40) fun y46=>cn y46 (gd (0≤e40.Call) (bd (reserve_Safe_F y2 (bor .i64 v43 (bshl .i64 1 e40.Call))) fun y47=>
   k45 y47)) (k45 false)))) fun k42=>cn (decide (e40.Call<0)) (k42 true) (k42 (decide (e40.Call≥(y2.Calls.length:Int))))) (some (.bk s37))
theorem W_blaw33_ReserveReasons_b3 {l36:List TDenied} {y2:TReserve} {y26:TAdmission×Int} {s37:Int} {Φ:Ct Int Bool→Prop} (h:W (law33_ReserveReasons_b3 l36 y2 y26 s37) Φ):W (cn (decide (s37<(l36.length:Int))) (jn (fun p38:Unit=>some (.nx (wr (s37+1)))) fun k39=>ix l36 default s37 fun e40=>jn (fun p41:Bool=>
   cn p41 (k39 ()) (gd (0≤e40.Call) (let v43:=(band .i64 y26.1.Admitted (wr ((bshl .i64 1 e40.Call)-1)));jn (fun p44:Bool=>cn p44 (some (.rt false)) (k39 ())) fun k45=>
   bd (reserve_CheckDenied_F y2 v43 e40) fun y46=>cn y46 (gd (0≤e40.Call) (bd (reserve_Safe_F y2 (bor .i64 v43 (bshl .i64 1 e40.Call))) fun y47=>
   k45 y47)) (k45 false)))) fun k42=>cn (decide (e40.Call<0)) (k42 true) (k42 (decide (e40.Call≥(y2.Calls.length:Int))))) (some (.bk s37))) Φ:=h

   def law33_ReserveReasons_b2 (a2:Int) (a3:Int) (y2:TReserve) (y26:TAdmission×Int) (s32:Int):Option (Ct Int Bool):=cn (decide (s32<(y26.1.Denied.length:Int))) (ix y26.1.Denied default s32 fun e33=>
   ix y26.1.Denied default s32 fun e34=>bd (ref33_BentDenied_F e34 a2 a3) fun y35=>lt ([e33,y35]:List TDenied) fun l36=>
   bd (lp (law33_ReserveReasons_b3 l36 y2 y26) FU 0) fun c48=>smK c48 (fun s49=>some (.nx (wr (s32+1)))) (fun r50=>some (.rt r50))) (some (.bk s32))
theorem W_blaw33_ReserveReasons_b2 {a2:Int} {a3:Int} {y2:TReserve} {y26:TAdmission×Int} {s32:Int} {Φ:Ct Int Bool→Prop} (h:W (law33_ReserveReasons_b2 a2 a3 y2 y26 s32) Φ):W (cn (decide (s32<(y26.1.Denied.length:Int))) (ix y26.1.Denied default s32 fun e33=>ix y26.1.Denied default s32 fun e34=>bd (ref33_BentDenied_F e34 a2 a3) fun y35=>
   lt ([e33,y35]:List TDenied) fun l36=>bd (lp (law33_ReserveReasons_b3 l36 y2 y26) FU 0) fun c48=>smK c48 (fun s49=>some (.nx (wr (s32+1)))) (fun r50=>
   some (.rt r50))) (some (.bk s32))) Φ:=h
def law33_ReserveReasons_b1 (y5:TNet×(List Int)×Int) (s8:Int×TReserve):Option (Ct (Int×TReserve) Bool):=jn (fun p9:Bool=>
   cn p9 (ix y5.1.Edges default s8.1 fun e11=>
   gd ((0:Int)≤s8.1∧s8.1<(s8.2.Net.Edges.length:Int)) (st s8.2.Net.Edges (s8.1) (⟨(s8.2.Net.Edges.getD (s8.1).toNat default).From,(s8.2.Net.Edges.getD (s8.1).toNat default).To,e11.Capacity⟩:TEdge) fun l12=>
   some (.nx ((wr (s8.1+1)),(⟨(⟨s8.2.Net.N,l12⟩:TNet),s8.2.Urgent,s8.2.Centres,s8.2.Faults,s8.2.Calls⟩:TReserve))))) (some (.bk (s8.1,s8.2)))) fun k10=>
   cn (decide (s8.1<(s8.2.Net.Edges.length:Int))) (k10 (decide (s8.1<(y5.1.Edges.length:Int)))) (k10 false)
theorem W_blaw33_ReserveReasons_b1 {y5:TNet×(List Int)×Int} {s8:Int×TReserve} {Φ:Ct (Int×TReserve) Bool→Prop} (h:W (law33_ReserveReasons_b1 y5 s8) Φ):W (jn (fun p9:Bool=>cn p9 (ix y5.1.Edges default s8.1 fun e11=>
   gd ((0:Int)≤s8.1∧s8.1<(s8.2.Net.Edges.length:Int)) (st s8.2.Net.Edges (s8.1) (⟨(s8.2.Net.Edges.getD (s8.1).toNat default).From,(s8.2.Net.Edges.getD (s8.1).toNat default).To,e11.Capacity⟩:TEdge) fun l12=>
   some (.nx ((wr (s8.1+1)),(⟨(⟨s8.2.Net.N,l12⟩:TNet),s8.2.Urgent,s8.2.Centres,s8.2.Faults,s8.2.Calls⟩:TReserve))))) (some (.bk (s8.1,s8.2)))) fun k10=>
   cn (decide (s8.1<(s8.2.Net.Edges.length:Int))) (k10 (decide (s8.1<(y5.1.Edges.length:Int)))) (k10 false)) Φ:=h
def law33_ReserveReasons_F (a0:TNumbers) (a1:Int) (a2:Int) (a3:Int):Option Bool:=bd (law33_sane_F ) fun y1=>cn (!y1) (some false) (bd (ref33_Made_F a0) fun y2=>
   gd (0≤(y2.Calls.length:Int)) (bd (law33_pick_F a1 (bshl .i64 1 (y2.Calls.length:Int))) fun y3=>bd (ref33_Copy_F y2) fun y4=>bd (reserve_Left_F y2 y3) fun y5=>
   jn (fun p6:TReserve=>bd (reserve_Admit_F y2) fun y26=>cn (y26.2 != 0) (bd (reserve_Lack_F y2) fun y27=>jn (fun p28:Bool=>some p28) fun k29=>
   cn y27.2 (bd (reserve_CheckDenied_F y2 0 y27.1) fun y30=>cn y30 (bd (reserve_Safe_F y2 0) fun y31=>
   k29 (!y31)) (k29 false)) (k29 false)) (bd (lp (law33_ReserveReasons_b2 a2 a3 y2 y26) FU 0) fun c51=>smK c51 (fun s52=>some true) (fun r53=>some r53))) fun k7=>
   cn (y5.2.2==0) (bd (lp (law33_ReserveReasons_b1 y5) FU (0,(⟨(⟨y4.Net.N,y4.Net.Edges⟩:TNet),y4.Urgent,y4.Centres,y4.Faults,[]⟩:TReserve))) fun c13=>
   smK c13 (fun s14=>bd (reserve_Lack_F (⟨(⟨s14.2.Net.N,s14.2.Net.Edges⟩:TNet),s14.2.Urgent,s14.2.Centres,s14.2.Faults,s14.2.Calls⟩:TReserve)) fun y16=>
   bd (reserve_Safe_F y2 y3) fun y17=>cn (y16.2==y17) (some false) (jn (fun p18:Unit=>
   k7 (⟨(⟨s14.2.Net.N,s14.2.Net.Edges⟩:TNet),s14.2.Urgent,s14.2.Centres,s14.2.Faults,s14.2.Calls⟩:TReserve)) fun k19=>
   cn y16.2 (bd (flow_Without_F y5.1 y16.1.Failed) fun y20=>bd (flow_Meet_F y20.1 y5.2.1) fun y21=>jn (fun p22:Bool=>cn p22 (some false) (k19 ())) fun k23=>cn (y20.2 !=
   0) (k23 true) (cn (y21.2 != 0) (k23 true) (cn y21.1.Met (k23 true) (bd (ref27_Many_F y16.1.Failed) fun y24=>cn (decide (y24 >
   y2.Faults)) (k23 true) (bd (flow_CheckMeet_F y20.1 y5.2.1 (⟨false,[],y16.1.Set⟩:TSupply)) fun y25=>k23 (!y25)))))) (k19 ()))) (fun r15=>
   some r15)) (k7 (⟨(⟨y4.Net.N,y4.Net.Edges⟩:TNet),y4.Urgent,y4.Centres,y4.Faults,[]⟩:TReserve))))
def law33_ReserveReasons_S:List AV→AV→Prop:=fun args r=>∃ a0 a1 a2 a3,args=[eTNumbers a0,eI a1,eI a2,eI a3]∧W (law33_ReserveReasons_F a0 a1 a2 a3) fun y=>r=(eB y)
theorem law33_ReserveReasons_ok {T:Tbl} (hT:TOk Try.prog T) (hpf:PfOk T PF) (h11:T 11=pureR law33_sane_S) (h12:T 12=pureR ref33_Made_S) (h13:T 13=pureR reserve_Admit_S) (h14:T 14=pureR reserve_Safe_S) (h16:T 16=pureR law33_pick_S) (h17:T 17=pureR ref33_BentDenied_S) (h19:T 19=ownR ref33_Copy_res ref33_Copy_blk ref33_Copy_S) (h20:T 20=pureR reserve_Left_S) (h25:T 25=pureR flow_Without_S) (h26:T 26=pureR flow_Meet_S) (h27:T 27=pureR flow_CheckMeet_S) (h28:T 28=pureR reserve_Lack_S) (h29:T 29=pureR ref27_Many_S) (h30:T 30=pureR reserve_CheckDenied_S):FOk Try.prog 10 (pureR law33_ReserveReasons_S):=by
 refine FOk_pure hT hpf Try.func10 rfl Try.ntmps10 Try.results10 (by decide) ?_
 rintro args r ⟨a0,a1,a2,a3,rfl,h⟩
 refine ⟨nle rfl,?_,?_⟩
 · exact (lsC (lo_TNumbers _) (lsC (lsI _ _) (lsC (lsI _ _) (lsC (lsI _ _) lsN))))
 rw [law33_ReserveReasons_F.eq_1] at h
 refine HT_fr dCo rfl fun K hK=>?_;conv=>whnf
 refine hK _ _ _ ?_;clear hK K
 refine HT_seq ?_
 refine HT_fr dCo rfl fun K hK=>?_;conv=>whnf
 replace h:=W_bd h
 refine law33_sane_call h11 h (WkL.refl _) (fun _ h=>?_);conv=>whnf
 refine hK _ _ _ ?_;clear hK K
 refine HT_if fun K1 K2 hK1 hK2=>?_;conv=>whnf
 refine cLk h (fun _ h=>?_) (fun _ h=>?_)
 · refine hK1 ?_;clear hK1 hK2 K1 K2
   refine HT_fr dCo rfl fun K hK=>?_;conv=>whnf
   refine hK _ _ _ ?_;clear hK K
   refine HT_ret ?_
   refine Then_r ?_
   replace h:=W_some h
   refine PostP_r dCo fun K hK=>?_;conv=>whnf
   refine hK _ ?_;clear hK K
   cases h
   exact Wk.refl _
 refine hK2 ?_;clear hK1 hK2 K1 K2
 refine HT_skip ?_
 refine tHn ?_
 refine HT_fr dCo rfl fun K hK=>?_;conv=>whnf
 refine nlA rfl ?_;conv=>whnf
 refine bKo rfl ?_;conv=>whnf
 refine nlA rfl ?_;conv=>whnf
 replace h:=W_bd h
 refine ref33_Made_call h12 h (WkL.refl _) (fun _ h=>?_);conv=>whnf
 refine bKo rfl ?_;conv=>whnf
 refine And.intro rfl (And.intro (nle rfl) (And.intro rfl ?_));conv=>whnf
 refine hK _ _ _ ?_;clear hK K
 refine HT_fr dCo rfl fun K hK=>?_;conv=>whnf
 refine nlA rfl ?_;conv=>whnf
 refine bKo rfl ?_;conv=>whnf
 refine gKo rfl ?_;conv=>whnf
 refine gd_lk h fun _ h=>?_;conv=>whnf
 replace h:=W_bd h
 refine law33_pick_call h16 h (WkL.refl _) (fun _ h=>?_);conv=>whnf
 refine hK _ _ _ ?_;clear hK K
 refine HT_fr dCo rfl fun K hK=>?_;conv=>whnf
 refine nlA rfl ?_;conv=>whnf
 refine bKo rfl ?_;conv=>whnf
 refine nlA rfl ?_;conv=>whnf
 refine callsK_own h19 h (fun y e=>(⟨_,rfl,e⟩:ref33_Copy_S _ _)) (WkL.refl _) (fun _ h=>?_);conv=>whnf
 refine bKo rfl ?_;conv=>whnf
 refine And.intro rfl (And.intro (nle rfl) (And.intro rfl ?_));conv=>whnf
 refine hK _ _ _ ?_;clear hK K
 refine HT_fr dCo rfl fun K hK=>?_;conv=>whnf
 refine bKo rfl ?_;conv=>whnf
 refine And.intro rfl (And.intro (nle rfl) (And.intro rfl ?_));conv=>whnf
 refine hK _ _ _ ?_;clear hK K
 refine HT_fr dCo rfl fun K hK=>?_;conv=>whnf
 refine nlA rfl ?_;conv=>whnf
 refine bKo rfl ?_;conv=>whnf
 refine nlA rfl ?_;conv=>whnf
 replace h:=W_bd h
 refine reserve_Left_call h20 h (WkL.refl _) (fun _ h=>?_);conv=>whnf
 refine bKo rfl ?_;conv=>whnf
 refine And.intro rfl (And.intro (nle rfl) (And.intro rfl ?_));conv=>whnf
 refine hK _ _ _ ?_;clear hK K
 refine HT_seq ?_
 refine HT_fr dCo rfl fun K hK=>?_;conv=>whnf
 refine hK _ _ _ ?_;clear hK K
 replace h:=W_jn h
 refine HT_if fun K1 K2 hK1 hK2=>?_;conv=>whnf
 refine cLk h (fun _ h=>?_) (fun _ h=>?_)
 · refine hK1 ?_;clear hK1 hK2 K1 K2
   refine HT_seq ?_
   refine HT_fr dCo rfl fun K hK=>?_;conv=>whnf
   refine hK _ _ _ ?_;clear hK K
   refine HT_block ?_
   replace h:=W_bd h
   refine HT_lpR (body:=law33_ReserveReasons_b1 _) rfl h [2,3,9,10,11,12,13] [9,12] [] [11] (fun kl kh kr ids b s=>⟨ofL ([(15,eI s.1)]++kl),ofH (([(nthN ids 0,.cells [eI s.2.Net.N,.so (b+64) 0 s.2.Net.Edges.length 3,.so (b+128) 0 s.2.Urgent.length 1,.so (b+192) 0 s.2.Centres.length 1,eI s.2.Faults,.lst (.tok (b+0)) 2 s.2.Calls.length (fun j=>eTOrdinary (s.2.Calls.getD j default))]),(b+0,.cells [])]++kh)++([(b+64,.cells (flE (ceE eTEdge) s.2.Net.Edges)),(b+128,.cells (flE (ceE eI) s.2.Urgent)),(b+192,.cells (flE (ceE eI) s.2.Centres))]++kr)),b+320⟩) ?_;(conv=>whnf);refine And.intro ?_ (fun s m h=>HT_st ?_)
   · refine weak_r ?_;conv=>whnf
     exact And.intro rfl (And.intro (aLc wkI (aLc wkI (aLc wkI (aLc (WkR.ptr (fun _=>rfl)) (aLc wkI (aLc (WkR.ptr (fun _=>rfl)) (aLc (WkR.ptr (fun _=>rfl)) (aLc (wkr (lsL fun _=>(lsI _ _))) aLn)))))))) (aLc ⟨some _,rfl,bRc rfl (cKc wkI (cKc (WkR.so (fun _=>rfl)) (cKc (WkR.so (fun _=>rfl)) (cKc (WkR.so (fun _=>rfl)) (cKc wkI (cKc (WkR.nil (fun _=>rfl)) cKn))))))⟩ (aLc ⟨none,rfl,BkR_n⟩ (aLc ⟨some _,rfl,bRc rfl (cKc wkI (cKc (wkr (lsL fun _=>(lo_TEdge _))) (cKc (wkr (lsL fun _=>(lsI _ _))) (cKc (wkr (lsL fun _=>(lsI _ _))) (cKc wkI (cKc (wkr (lsL fun _=>(lo_TOrdinary _))) cKn))))))⟩ (aLc ⟨some _,rfl,bRc rfl (cKc wkI (cKc (wkr (lsL fun _=>(lo_TEdge _))) cKn))⟩ (aLc ⟨some _,rfl,BkR_r rfl (fun _=>(lsC (lsI _ _) (lsC (lsI _ _) (lsC (lsI _ _) lsN))))⟩ (aLc ⟨some _,rfl,BkR_r rfl (fun _=>(lsC (lsI _ _) lsN))⟩ (aLc ⟨some _,rfl,BkR_r rfl (fun _=>(lsC (lsI _ _) lsN))⟩ aLn))))))))
   replace h:=W_blaw33_ReserveReasons_b1 (W_bd h)
   refine HT_seq ?_
   refine HT_fr dCo rfl fun K hK=>?_;conv=>whnf
   replace h:=W_jn h
   refine nlA rfl ?_;conv=>whnf
   refine bKo rfl ?_;conv=>whnf
   refine gKo rfl ?_;conv=>whnf
   refine cLk h (fun _ h=>?_) (fun _ h=>?_)<;>(conv=>whnf)
   · refine nlA rfl ?_;conv=>whnf
     refine bKo rfl ?_;conv=>whnf
     refine gKo rfl ?_;conv=>whnf
     refine hK _ _ _ ?_;clear hK K
     refine HT_if fun K1 K2 hK1 hK2=>?_;conv=>whnf
     refine cLk h (fun _ h=>?_) (fun _ h=>?_)
     · refine hK1 ?_;clear hK1 hK2 K1 K2
       refine HT_skip ?_
       refine tHn ?_
       refine HT_seq ?_
       refine HT_block ?_
       refine HT_fD dCo mix_ok rfl (by kernel_rfl) fun K hK=>?_;conv=>whnf
       refine nlA rfl ?_;conv=>whnf
       refine bKo rfl ?_;conv=>whnf
       refine gKo rfl ?_;conv=>whnf
       refine nlA rfl ?_;conv=>whnf
       refine bKo rfl ?_;conv=>whnf
       refine gKo rfl ?_;conv=>whnf
       refine ix_lk h fun _ h=>?_;conv=>whnf
       refine gKo rfl ?_;conv=>whnf
       refine gd_lkN h (rfl) fun hx56 h=>?_;conv=>whnf
       refine bKo rfl ?_;conv=>whnf
       refine st_lk (enc:=eTEdge) (d:=default) (q:=2) h (fun _=>rfl) (rfl) hx56 rfl (nle rfl) rfl rfl (fun h=>?_);conv=>whnf
       refine hK _ _ _ ?_;clear hK K
       refine iBn ?_
       refine tHn ?_
       refine HT_f dCo rfl fun K hK=>?_;conv=>whnf
       refine hK _ _ _ ?_;clear hK K
       refine tHn ?_
       replace h:=W_xnx h
       refine ⟨_,h,?_⟩
       refine weak_r ?_;conv=>whnf
       exact And.intro rfl (And.intro (aLc wkI (aLc wkI (aLc wkI (aLc (WkR.ptr (fun _=>rfl)) (aLc wkI (aLc (WkR.ptr (fun _=>rfl)) (aLc (WkR.ptr (fun _=>rfl)) (aLc (wkr (lsL fun _=>(lsI _ _))) aLn)))))))) (aLc ⟨some _,rfl,bRc rfl (cKc wkI (cKc (WkR.soN (fun _=>rfl) (lenset rfl).symm) (cKc (WkR.so (fun _=>rfl)) (cKc (WkR.so (fun _=>rfl)) (cKc wkI (cKc (WkR.tok (fun _=>rfl) rfl (fun _ _=>Wk.refl _) (fun _=>(lo_TOrdinary _))) cKn))))))⟩ (aLc ⟨some _,rfl,bRc rfl cKn⟩ (aLc ⟨some _,rfl,bRc rfl (cKc wkI (cKc (wkr (lsL fun _=>(lo_TEdge _))) (cKc (wkr (lsL fun _=>(lsI _ _))) (cKc (wkr (lsL fun _=>(lsI _ _))) (cKc wkI (cKc (wkr (lsL fun _=>(lo_TOrdinary _))) cKn))))))⟩ (aLc ⟨some _,rfl,bRc rfl (cKc wkI (cKc (wkr (lsL fun _=>(lo_TEdge _))) cKn))⟩ (aLc ⟨some _,rfl,BkR_r rfl (fun _=>(lsC (lsI _ _) (lsC (lsI _ _) (lsC (lsI _ _) lsN))))⟩ (aLc ⟨some _,rfl,BkR_r rfl (fun _=>(lsC (lsI _ _) lsN))⟩ (aLc ⟨some _,rfl,BkR_r rfl (fun _=>(lsC (lsI _ _) lsN))⟩ aLn))))))))
     refine hK2 ?_;clear hK1 hK2 K1 K2
     refine HT_exit ?_
     refine Then_e ?_
     refine Then_e ?_
     refine InBlock_e ?_
     replace h:=W_xbk h
     replace h:=W_inl h
     refine tHn ?_
     refine HT_frzBK 11 1 (enc:=eTEdge) (e:=53) default (ElOk_agg dCo rfl rfl (fun _=>rfl) (fun _=>rfl)) ?_;(conv=>whnf);refine ⟨_,_,_,(Nat.ne_of_beq_eq_false rfl),rfl,rfl,rfl,rfl,?_⟩;conv=>whnf
     refine HT_frzBK 11 2 (enc:=eI) (e:=3) default (ElOk_one dCo rfl rfl rfl (fun _=>⟨rfl,rfl⟩)) ?_;(conv=>whnf);refine ⟨_,_,_,(Nat.ne_of_beq_eq_false rfl),rfl,rfl,rfl,rfl,?_⟩;conv=>whnf
     refine HT_frzBK 11 3 (enc:=eI) (e:=3) default (ElOk_one dCo rfl rfl rfl (fun _=>⟨rfl,rfl⟩)) ?_;(conv=>whnf);refine ⟨_,_,_,(Nat.ne_of_beq_eq_false rfl),rfl,rfl,rfl,rfl,?_⟩;conv=>whnf
     refine HT_fr dCo rfl fun K hK=>?_;conv=>whnf
     refine nlA rfl ?_;conv=>whnf
     refine bKo rfl ?_;conv=>whnf
     refine nlA rfl ?_;conv=>whnf
     replace h:=W_bd h
     refine reserve_Lack_call h28 h (WkL_cons (Wk_agg (WkL_cons (Wk.refl _) (WkL_cons (Wk.refl _) (WkL_cons (Wk.refl _) (WkL_cons (Wk.refl _) (WkL_cons (Wk.refl _) (WkL_cons Wk_free WkL_nil))))))) WkL_nil) (fun _ h=>?_);conv=>whnf
     refine bKo rfl ?_;conv=>whnf
     refine And.intro rfl (And.intro (nle rfl) (And.intro rfl ?_));conv=>whnf
     refine hK _ _ _ ?_;clear hK K
     refine HT_seq ?_
     refine HT_fr dCo rfl fun K hK=>?_;conv=>whnf
     refine nlA rfl ?_;conv=>whnf
     refine bKo rfl ?_;conv=>whnf
     refine nlA rfl ?_;conv=>whnf
     replace h:=W_bd h
     refine reserve_Safe_call h14 h (WkL.refl _) (fun _ h=>?_);conv=>whnf
     refine eqK_e (eqv_bool dCo rfl _ _) ?_;conv=>whnf
     refine hK _ _ _ ?_;clear hK K
     refine HT_if fun K1 K2 hK1 hK2=>?_;conv=>whnf
     refine cLk h (fun _ h=>?_) (fun _ h=>?_)
     · refine hK1 ?_;clear hK1 hK2 K1 K2
       refine HT_fr dCo rfl fun K hK=>?_;conv=>whnf
       refine hK _ _ _ ?_;clear hK K
       refine HT_ret ?_
       refine Then_r ?_
       refine Then_r ?_
       replace h:=W_some h
       refine PostP_r dCo fun K hK=>?_;conv=>whnf
       refine hK _ ?_;clear hK K
       cases h
       exact Wk.refl _
     refine hK2 ?_;clear hK1 hK2 K1 K2
     refine HT_skip ?_
     refine tHn ?_
     refine HT_fr dCo rfl fun K hK=>?_;conv=>whnf
     refine hK _ _ _ ?_;clear hK K
     replace h:=W_jn h
     refine HT_if fun K1 K2 hK1 hK2=>?_;conv=>whnf
     refine cLk h (fun _ h=>?_) (fun _ h=>?_)
     · refine hK1 ?_;clear hK1 hK2 K1 K2
       refine HT_fr dCo rfl fun K hK=>?_;conv=>whnf
       refine nlA rfl ?_;conv=>whnf
       refine bKo rfl ?_;conv=>whnf
       refine nlA rfl ?_;conv=>whnf
       refine nlA rfl ?_;conv=>whnf
       refine bKo rfl ?_;conv=>whnf
       refine gKo rfl ?_;conv=>whnf
       replace h:=W_bd h
       refine flow_Without_call h25 h (WkL.refl _) (fun _ h=>?_);conv=>whnf
       refine bKo rfl ?_;conv=>whnf
       refine And.intro rfl (And.intro (nle rfl) (And.intro rfl ?_));conv=>whnf
       refine hK _ _ _ ?_;clear hK K
       refine HT_fr dCo rfl fun K hK=>?_;conv=>whnf
       refine nlA rfl ?_;conv=>whnf
       refine bKo rfl ?_;conv=>whnf
       refine nlA rfl ?_;conv=>whnf
       replace h:=W_bd h
       refine flow_Meet_call h26 h (WkL.refl _) (fun _ h=>?_);conv=>whnf
       refine bKo rfl ?_;conv=>whnf
       refine And.intro rfl (And.intro (nle rfl) (And.intro rfl ?_));conv=>whnf
       refine hK _ _ _ ?_;clear hK K
       refine HT_jnK rfl h [2,3,9] [9] [] (fun kl kh ids b s=>⟨ofL ([(129,eB s)]++kl),ofH ([]++kh),b+64⟩) ?_;(conv=>whnf);refine And.intro (fun s h=>HT_st ?_) (fun k h=>?_)
       · refine HT_if fun K1 K2 hK1 hK2=>?_;conv=>whnf
         refine cLk h (fun _ h=>?_) (fun _ h=>?_)
         · refine hK1 ?_;clear hK1 hK2 K1 K2
           refine HT_fr dCo rfl fun K hK=>?_;conv=>whnf
           refine hK _ _ _ ?_;clear hK K
           refine HT_ret ?_
           refine Then_r ?_
           replace h:=W_some h
           refine PostP_r dCo fun K hK=>?_;conv=>whnf
           refine hK _ ?_;clear hK K
           cases h
           exact Wk.refl _
         refine hK2 ?_;clear hK1 hK2 K1 K2
         refine HT_skip ?_
         refine tHn ?_
         refine HT_fr dCo rfl fun K hK=>?_;conv=>whnf
         refine nlA rfl ?_;conv=>whnf
         refine bKo rfl ?_;conv=>whnf
         refine nlA rfl ?_;conv=>whnf
         replace h:=W_bd h
         refine reserve_Admit_call h13 h (WkL.refl _) (fun _ h=>?_);conv=>whnf
         refine bKo rfl ?_;conv=>whnf
         refine And.intro rfl (And.intro (nle rfl) (And.intro rfl ?_));conv=>whnf
         refine hK _ _ _ ?_;clear hK K
         refine HT_seq ?_
         refine HT_fr dCo rfl fun K hK=>?_;conv=>whnf
         refine hK _ _ _ ?_;clear hK K
         refine HT_if fun K1 K2 hK1 hK2=>?_;conv=>whnf
         refine cLk h (fun _ h=>?_) (fun _ h=>?_)
         · refine hK1 ?_;clear hK1 hK2 K1 K2
           refine HT_fr dCo rfl fun K hK=>?_;conv=>whnf
           refine nlA rfl ?_;conv=>whnf
           refine bKo rfl ?_;conv=>whnf
           refine nlA rfl ?_;conv=>whnf
           replace h:=W_bd h
           refine reserve_Lack_call h28 h (WkL.refl _) (fun _ h=>?_);conv=>whnf
           refine bKo rfl ?_;conv=>whnf
           refine And.intro rfl (And.intro (nle rfl) (And.intro rfl ?_));conv=>whnf
           refine hK _ _ _ ?_;clear hK K
           refine HT_fr dCo rfl fun K hK=>?_;conv=>whnf
           replace h:=W_jn h
           refine cLk h (fun _ h=>?_) (fun _ h=>?_)<;>(conv=>whnf)
           · refine nlA rfl ?_;conv=>whnf
             refine bKo rfl ?_;conv=>whnf
             refine nlA rfl ?_;conv=>whnf
             refine nlA rfl ?_;conv=>whnf
             refine bKo rfl ?_;conv=>whnf
             refine nlA rfl ?_;conv=>whnf
             replace h:=W_bd h
             refine reserve_CheckDenied_call h30 h (WkL.refl _) (fun _ h=>?_);conv=>whnf
             refine cLk h (fun _ h=>?_) (fun _ h=>?_)<;>(conv=>whnf)
             · refine nlA rfl ?_;conv=>whnf
               refine bKo rfl ?_;conv=>whnf
               refine nlA rfl ?_;conv=>whnf
               replace h:=W_bd h
               refine reserve_Safe_call h14 h (WkL.refl _) (fun _ h=>?_);conv=>whnf
               refine hK _ _ _ ?_;clear hK K
               refine HT_ret ?_
               refine Then_r ?_
               replace h:=W_some h
               refine PostP_r dCo fun K hK=>?_;conv=>whnf
               refine hK _ ?_;clear hK K
               cases h
               exact Wk.refl _
             refine hK _ _ _ ?_;clear hK K
             refine HT_ret ?_
             refine Then_r ?_
             replace h:=W_some h
             refine PostP_r dCo fun K hK=>?_;conv=>whnf
             refine hK _ ?_;clear hK K
             cases h
             exact Wk.refl _
           refine hK _ _ _ ?_;clear hK K
           refine HT_ret ?_
           refine Then_r ?_
           replace h:=W_some h
           refine PostP_r dCo fun K hK=>?_;conv=>whnf
           refine hK _ ?_;clear hK K
           cases h
           exact Wk.refl _
         refine hK2 ?_;clear hK1 hK2 K1 K2
         refine HT_skip ?_
         refine tHn ?_
         refine HT_seq ?_
         refine HT_fr dCo rfl fun K hK=>?_;conv=>whnf
         refine hK _ _ _ ?_;clear hK K
         refine HT_block ?_
         replace h:=W_bd h
         refine HT_lpK (body:=law33_ReserveReasons_b2 _ _ _ _) rfl h [2,3,9,22] [9,22] [] (fun kl kh ids b s=>⟨ofL ([(26,eI s)]++kl),ofH ([]++kh),b+64⟩) ?_;(conv=>whnf);refine And.intro ?_ (fun s m h=>HT_st ?_)
         · refine weak_k ?_;conv=>whnf
           exact And.intro rfl (And.intro (aLc wkI (aLc wkI (aLc wkI (aLc (WkR.ptr (fun _=>rfl)) (aLc (WkR.ptr (fun _=>rfl)) aLn))))) (aLc ⟨some _,rfl,bRc rfl (cKc wkI (cKc (wkr (lsL fun _=>(lo_TEdge _))) (cKc (wkr (lsL fun _=>(lsI _ _))) (cKc (wkr (lsL fun _=>(lsI _ _))) (cKc wkI (cKc (wkr (lsL fun _=>(lo_TOrdinary _))) cKn))))))⟩ (aLc ⟨some _,rfl,bRc rfl (cKc wkI (cKc (wkr (lsL fun _=>(lo_TDenied _))) cKn))⟩ aLn)))
         replace h:=W_blaw33_ReserveReasons_b2 (W_bd h)
         refine HT_seq ?_
         refine HT_fr dCo rfl fun K hK=>?_;conv=>whnf
         refine nlA rfl ?_;conv=>whnf
         refine bKo rfl ?_;conv=>whnf
         refine gKo rfl ?_;conv=>whnf
         refine hK _ _ _ ?_;clear hK K
         refine HT_if fun K1 K2 hK1 hK2=>?_;conv=>whnf
         refine cLk h (fun _ h=>?_) (fun _ h=>?_)
         · refine hK1 ?_;clear hK1 hK2 K1 K2
           refine HT_skip ?_
           refine tHn ?_
           refine HT_seq ?_
           refine HT_block ?_
           refine HT_fd dCo mix_ok rfl (by kernel_rfl) fun K hK=>?_;conv=>whnf
           refine nlA rfl ?_;conv=>whnf
           refine bKo rfl ?_;conv=>whnf
           refine gKo rfl ?_;conv=>whnf
           refine ix_lk h fun _ h=>?_;conv=>whnf
           refine nlA rfl ?_;conv=>whnf
           refine nlA rfl ?_;conv=>whnf
           refine bKo rfl ?_;conv=>whnf
           refine gKo rfl ?_;conv=>whnf
           refine ix_lk h fun _ h=>?_;conv=>whnf
           refine nlA rfl ?_;conv=>whnf
           replace h:=W_bd h
           refine ref33_BentDenied_call h17 h (WkL.refl _) (fun _ h=>?_);conv=>whnf
           refine lt_lk (enc:=eTDenied) (d:=default) dCo h rfl rfl rfl ⟨nle rfl,nle rfl,rfl⟩ rfl ⟨⟨rfl,nle rfl⟩,⟨⟨rfl,nle rfl⟩,trivial⟩⟩ (fun h=>?_);conv=>whnf
           refine hK _ _ _ ?_;clear hK K
           refine HT_block ?_
           replace h:=W_bd h
           refine HT_lpK (body:=law33_ReserveReasons_b3 _ _ _) rfl h [2,3,9,22,26,173,174] [9,22] [] (fun kl kh ids b s=>⟨ofL ([(175,eI s)]++kl),ofH ([]++kh),b+64⟩) ?_;(conv=>whnf);refine And.intro ?_ (fun s m h=>HT_st ?_)
           · refine weak_k ?_;conv=>whnf
             exact And.intro rfl (And.intro (aLc wkI (aLc wkI (aLc wkI (aLc (WkR.ptr (fun _=>rfl)) (aLc (WkR.ptr (fun _=>rfl)) (aLc wkI (aLc (wkr (loose_lstc fun _=>(lo_TDenied _))) (aLc wkI aLn)))))))) (aLc ⟨some _,rfl,bRc rfl (cKc wkI (cKc (wkr (lsL fun _=>(lo_TEdge _))) (cKc (wkr (lsL fun _=>(lsI _ _))) (cKc (wkr (lsL fun _=>(lsI _ _))) (cKc wkI (cKc (wkr (lsL fun _=>(lo_TOrdinary _))) cKn))))))⟩ (aLc ⟨some _,rfl,bRc rfl (cKc wkI (cKc (wkr (lsL fun _=>(lo_TDenied _))) cKn))⟩ aLn)))
           replace h:=W_blaw33_ReserveReasons_b3 (W_bd h)
           refine HT_fr dCo rfl fun K hK=>?_;conv=>whnf
           refine hK _ _ _ ?_;clear hK K
           refine HT_seq ?_
           refine HT_if fun K1 K2 hK1 hK2=>?_;conv=>whnf
           refine cLk h (fun _ h=>?_) (fun _ h=>?_)
           · refine hK1 ?_;clear hK1 hK2 K1 K2
             refine HT_skip ?_
             refine tHn ?_
             refine HT_seq ?_
             replace h:=W_jn h
             refine HT_block ?_
             refine HT_fr dCo rfl fun K hK=>?_;conv=>whnf
             refine ix_lk h fun _ h=>?_;conv=>whnf
             refine nlA rfl ?_;conv=>whnf
             refine bKo rfl ?_;conv=>whnf
             refine And.intro rfl (And.intro (nle rfl) (And.intro rfl ?_));conv=>whnf
             refine hK _ _ _ ?_;clear hK K
             refine HT_seq ?_
             refine HT_fr dCo rfl fun K hK=>?_;conv=>whnf
             replace h:=W_jn h
             refine nlA rfl ?_;conv=>whnf
             refine bKo rfl ?_;conv=>whnf
             refine gKo rfl ?_;conv=>whnf
             refine cLk h (fun _ h=>?_) (fun _ h=>?_)<;>(conv=>whnf)
             · refine hK _ _ _ ?_;clear hK K
               refine HT_if fun K1 K2 hK1 hK2=>?_;conv=>whnf
               refine hK1 ?_;clear hK1 hK2 K1 K2
               replace h:=W_cnT h
               refine HT_exit ?_
               refine Then_e ?_
               refine InBlock_e ?_
               refine tHn ?_
               refine HT_f dCo rfl fun K hK=>?_;conv=>whnf
               refine hK _ _ _ ?_;clear hK K
               refine tHn ?_
               replace h:=W_xnx h
               refine ⟨_,h,?_⟩
               refine weak_k ?_;conv=>whnf
               exact And.intro rfl (And.intro (aLc wkI (aLc wkI (aLc wkI (aLc (WkR.ptr (fun _=>rfl)) (aLc (WkR.ptr (fun _=>rfl)) (aLc wkI (aLc (wkr (loose_lstc fun _=>(lo_TDenied _))) (aLc wkI aLn)))))))) (aLc ⟨some _,rfl,bRc rfl (cKc wkI (cKc (wkr (lsL fun _=>(lo_TEdge _))) (cKc (wkr (lsL fun _=>(lsI _ _))) (cKc (wkr (lsL fun _=>(lsI _ _))) (cKc wkI (cKc (wkr (lsL fun _=>(lo_TOrdinary _))) cKn))))))⟩ (aLc ⟨some _,rfl,bRc rfl (cKc wkI (cKc (wkr (lsL fun _=>(lo_TDenied _))) cKn))⟩ aLn)))
             refine nlA rfl ?_;conv=>whnf
             refine bKo rfl ?_;conv=>whnf
             refine gKo rfl ?_;conv=>whnf
             refine nlA rfl ?_;conv=>whnf
             refine bKo rfl ?_;conv=>whnf
             refine gKo rfl ?_;conv=>whnf
             refine hK _ _ _ ?_;clear hK K
             refine HT_if fun K1 K2 hK1 hK2=>?_;conv=>whnf
             refine cLk h (fun _ h=>?_) (fun _ h=>?_)
             · refine hK1 ?_;clear hK1 hK2 K1 K2
               refine HT_exit ?_
               refine Then_e ?_
               refine InBlock_e ?_
               refine tHn ?_
               refine HT_f dCo rfl fun K hK=>?_;conv=>whnf
               refine hK _ _ _ ?_;clear hK K
               refine tHn ?_
               replace h:=W_xnx h
               refine ⟨_,h,?_⟩
               refine weak_k ?_;conv=>whnf
               exact And.intro rfl (And.intro (aLc wkI (aLc wkI (aLc wkI (aLc (WkR.ptr (fun _=>rfl)) (aLc (WkR.ptr (fun _=>rfl)) (aLc wkI (aLc (wkr (loose_lstc fun _=>(lo_TDenied _))) (aLc wkI aLn)))))))) (aLc ⟨some _,rfl,bRc rfl (cKc wkI (cKc (wkr (lsL fun _=>(lo_TEdge _))) (cKc (wkr (lsL fun _=>(lsI _ _))) (cKc (wkr (lsL fun _=>(lsI _ _))) (cKc wkI (cKc (wkr (lsL fun _=>(lo_TOrdinary _))) cKn))))))⟩ (aLc ⟨some _,rfl,bRc rfl (cKc wkI (cKc (wkr (lsL fun _=>(lo_TDenied _))) cKn))⟩ aLn)))
             refine hK2 ?_;clear hK1 hK2 K1 K2
             refine HT_skip ?_
             refine tHn ?_
             refine HT_fd dCo mix_ok rfl (by kernel_rfl) fun K hK=>?_;conv=>whnf
             refine nlA rfl ?_;conv=>whnf
             refine bKo rfl ?_;conv=>whnf
             refine gKo rfl ?_;conv=>whnf
             refine nlA rfl ?_;conv=>whnf
             refine bKo rfl ?_;conv=>whnf
             refine gKo rfl ?_;conv=>whnf
             refine gd_lk h fun _ h=>?_;conv=>whnf
             refine hK _ _ _ ?_;clear hK K
             refine HT_fd dCo mix_ok rfl (by kernel_rfl) fun K hK=>?_;conv=>whnf
             replace h:=W_jn h
             refine nlA rfl ?_;conv=>whnf
             refine bKo rfl ?_;conv=>whnf
             refine nlA rfl ?_;conv=>whnf
             refine nlA rfl ?_;conv=>whnf
             refine bKo rfl ?_;conv=>whnf
             refine nlA rfl ?_;conv=>whnf
             replace h:=W_bd h
             refine reserve_CheckDenied_call h30 h (WkL.refl _) (fun _ h=>?_);conv=>whnf
             refine cLk h (fun _ h=>?_) (fun _ h=>?_)<;>(conv=>whnf)
             · refine nlA rfl ?_;conv=>whnf
               refine bKo rfl ?_;conv=>whnf
               refine nlA rfl ?_;conv=>whnf
               refine nlA rfl ?_;conv=>whnf
               refine bKo rfl ?_;conv=>whnf
               refine gKo rfl ?_;conv=>whnf
               refine gd_lk h fun _ h=>?_;conv=>whnf
               replace h:=W_bd h
               refine reserve_Safe_call h14 h (WkL.refl _) (fun _ h=>?_);conv=>whnf
               refine hK _ _ _ ?_;clear hK K
               refine HT_if fun K1 K2 hK1 hK2=>?_;conv=>whnf
               refine cLk h (fun _ h=>?_) (fun _ h=>?_)
               · refine hK1 ?_;clear hK1 hK2 K1 K2
                 refine HT_fr dCo rfl fun K hK=>?_;conv=>whnf
                 refine hK _ _ _ ?_;clear hK K
                 refine HT_ret ?_
                 refine InBlock_r ?_
                 refine Then_r ?_
                 refine Then_r ?_
                 refine InBlock_r ?_
                 refine InBlock_r ?_
                 refine Then_r ?_
                 refine Then_r ?_
                 refine InBlock_r ?_
                 refine Then_r ?_
                 replace h:=W_xrt h
                 replace h:=W_inr h
                 replace h:=W_xrt h
                 replace h:=W_inr h
                 replace h:=W_some h
                 refine PostP_r dCo fun K hK=>?_;conv=>whnf
                 refine hK _ ?_;clear hK K
                 cases h
                 exact Wk.refl _
               refine hK2 ?_;clear hK1 hK2 K1 K2
               refine HT_skip ?_
               refine iBn ?_
               refine tHn ?_
               refine HT_f dCo rfl fun K hK=>?_;conv=>whnf
               refine hK _ _ _ ?_;clear hK K
               refine tHn ?_
               replace h:=W_xnx h
               refine ⟨_,h,?_⟩
               refine weak_k ?_;conv=>whnf
               exact And.intro rfl (And.intro (aLc wkI (aLc wkI (aLc wkI (aLc (WkR.ptr (fun _=>rfl)) (aLc (WkR.ptr (fun _=>rfl)) (aLc wkI (aLc (wkr (loose_lstc fun _=>(lo_TDenied _))) (aLc wkI aLn)))))))) (aLc ⟨some _,rfl,bRc rfl (cKc wkI (cKc (wkr (lsL fun _=>(lo_TEdge _))) (cKc (wkr (lsL fun _=>(lsI _ _))) (cKc (wkr (lsL fun _=>(lsI _ _))) (cKc wkI (cKc (wkr (lsL fun _=>(lo_TOrdinary _))) cKn))))))⟩ (aLc ⟨some _,rfl,bRc rfl (cKc wkI (cKc (wkr (lsL fun _=>(lo_TDenied _))) cKn))⟩ aLn)))
             refine hK _ _ _ ?_;clear hK K
             refine HT_if fun K1 K2 hK1 hK2=>?_;conv=>whnf
             refine hK2 ?_;clear hK1 hK2 K1 K2
             replace h:=W_cnF h
             refine HT_skip ?_
             refine iBn ?_
             refine tHn ?_
             refine HT_f dCo rfl fun K hK=>?_;conv=>whnf
             refine hK _ _ _ ?_;clear hK K
             refine tHn ?_
             replace h:=W_xnx h
             refine ⟨_,h,?_⟩
             refine weak_k ?_;conv=>whnf
             exact And.intro rfl (And.intro (aLc wkI (aLc wkI (aLc wkI (aLc (WkR.ptr (fun _=>rfl)) (aLc (WkR.ptr (fun _=>rfl)) (aLc wkI (aLc (wkr (loose_lstc fun _=>(lo_TDenied _))) (aLc wkI aLn)))))))) (aLc ⟨some _,rfl,bRc rfl (cKc wkI (cKc (wkr (lsL fun _=>(lo_TEdge _))) (cKc (wkr (lsL fun _=>(lsI _ _))) (cKc (wkr (lsL fun _=>(lsI _ _))) (cKc wkI (cKc (wkr (lsL fun _=>(lo_TOrdinary _))) cKn))))))⟩ (aLc ⟨some _,rfl,bRc rfl (cKc wkI (cKc (wkr (lsL fun _=>(lo_TDenied _))) cKn))⟩ aLn)))
           refine hK2 ?_;clear hK1 hK2 K1 K2
           refine HT_exit ?_
           refine Then_e ?_
           refine Then_e ?_
           refine InBlock_e ?_
           replace h:=W_xbk h
           replace h:=W_inl h
           refine iBn ?_
           refine tHn ?_
           refine HT_f dCo rfl fun K hK=>?_;conv=>whnf
           refine hK _ _ _ ?_;clear hK K
           refine tHn ?_
           replace h:=W_xnx h
           refine ⟨_,h,?_⟩
           refine weak_k ?_;conv=>whnf
           exact And.intro rfl (And.intro (aLc wkI (aLc wkI (aLc wkI (aLc (WkR.ptr (fun _=>rfl)) (aLc (WkR.ptr (fun _=>rfl)) aLn))))) (aLc ⟨some _,rfl,bRc rfl (cKc wkI (cKc (wkr (lsL fun _=>(lo_TEdge _))) (cKc (wkr (lsL fun _=>(lsI _ _))) (cKc (wkr (lsL fun _=>(lsI _ _))) (cKc wkI (cKc (wkr (lsL fun _=>(lo_TOrdinary _))) cKn))))))⟩ (aLc ⟨some _,rfl,bRc rfl (cKc wkI (cKc (wkr (lsL fun _=>(lo_TDenied _))) cKn))⟩ aLn)))
         refine hK2 ?_;clear hK1 hK2 K1 K2
         refine HT_exit ?_
         refine Then_e ?_
         refine Then_e ?_
         refine InBlock_e ?_
         replace h:=W_xbk h
         replace h:=W_inl h
         refine tHn ?_
         refine HT_fr dCo rfl fun K hK=>?_;conv=>whnf
         refine hK _ _ _ ?_;clear hK K
         refine HT_ret ?_
         replace h:=W_some h
         refine PostP_r dCo fun K hK=>?_;conv=>whnf
         refine hK _ ?_;clear hK K
         cases h
         exact Wk.refl _
       refine HT_fD dCo mix_ok rfl (by kernel_rfl) fun K hK=>?_;conv=>whnf
       refine cLk h (fun _ h=>?_) (fun _ h=>?_)<;>(conv=>whnf)
       · refine hK _ _ _ ?_;clear hK K
         refine tHn ?_
         refine ⟨_,h,?_⟩
         refine weak_k ?_;conv=>whnf
         exact And.intro rfl (And.intro (aLc (wkr (lsB _)) (aLc wkI (aLc wkI (aLc (WkR.ptr (fun _=>rfl)) aLn)))) (aLc ⟨some _,rfl,bRc rfl (cKc wkI (cKc (wkr (lsL fun _=>(lo_TEdge _))) (cKc (wkr (lsL fun _=>(lsI _ _))) (cKc (wkr (lsL fun _=>(lsI _ _))) (cKc wkI (cKc (wkr (lsL fun _=>(lo_TOrdinary _))) cKn))))))⟩ aLn))
       refine cLk h (fun _ h=>?_) (fun _ h=>?_)<;>(conv=>whnf)
       · refine hK _ _ _ ?_;clear hK K
         refine tHn ?_
         refine ⟨_,h,?_⟩
         refine weak_k ?_;conv=>whnf
         exact And.intro rfl (And.intro (aLc (wkr (lsB _)) (aLc wkI (aLc wkI (aLc (WkR.ptr (fun _=>rfl)) aLn)))) (aLc ⟨some _,rfl,bRc rfl (cKc wkI (cKc (wkr (lsL fun _=>(lo_TEdge _))) (cKc (wkr (lsL fun _=>(lsI _ _))) (cKc (wkr (lsL fun _=>(lsI _ _))) (cKc wkI (cKc (wkr (lsL fun _=>(lo_TOrdinary _))) cKn))))))⟩ aLn))
       refine nlA rfl ?_;conv=>whnf
       refine bKo rfl ?_;conv=>whnf
       refine gKo rfl ?_;conv=>whnf
       refine cLk h (fun _ h=>?_) (fun _ h=>?_)<;>(conv=>whnf)
       · refine hK _ _ _ ?_;clear hK K
         refine tHn ?_
         refine ⟨_,h,?_⟩
         refine weak_k ?_;conv=>whnf
         exact And.intro rfl (And.intro (aLc (wkr (lsB _)) (aLc wkI (aLc wkI (aLc (WkR.ptr (fun _=>rfl)) aLn)))) (aLc ⟨some _,rfl,bRc rfl (cKc wkI (cKc (wkr (lsL fun _=>(lo_TEdge _))) (cKc (wkr (lsL fun _=>(lsI _ _))) (cKc (wkr (lsL fun _=>(lsI _ _))) (cKc wkI (cKc (wkr (lsL fun _=>(lo_TOrdinary _))) cKn))))))⟩ aLn))
       refine nlA rfl ?_;conv=>whnf
       refine bKo rfl ?_;conv=>whnf
       refine gKo rfl ?_;conv=>whnf
       replace h:=W_bd h
       refine ref27_Many_call h29 h (WkL.refl _) (fun _ h=>?_);conv=>whnf
       refine nlA rfl ?_;conv=>whnf
       refine bKo rfl ?_;conv=>whnf
       refine gKo rfl ?_;conv=>whnf
       refine cLk h (fun _ h=>?_) (fun _ h=>?_)<;>(conv=>whnf)
       · refine hK _ _ _ ?_;clear hK K
         refine tHn ?_
         refine ⟨_,h,?_⟩
         refine weak_k ?_;conv=>whnf
         exact And.intro rfl (And.intro (aLc (wkr (lsB _)) (aLc wkI (aLc wkI (aLc (WkR.ptr (fun _=>rfl)) aLn)))) (aLc ⟨some _,rfl,bRc rfl (cKc wkI (cKc (wkr (lsL fun _=>(lo_TEdge _))) (cKc (wkr (lsL fun _=>(lsI _ _))) (cKc (wkr (lsL fun _=>(lsI _ _))) (cKc wkI (cKc (wkr (lsL fun _=>(lo_TOrdinary _))) cKn))))))⟩ aLn))
       refine nlA rfl ?_;conv=>whnf
       refine bKo rfl ?_;conv=>whnf
       refine nlA rfl ?_;conv=>whnf
       refine nlA rfl ?_;conv=>whnf
       refine bKo rfl ?_;conv=>whnf
       refine gKo rfl ?_;conv=>whnf
       replace h:=W_bd h
       refine flow_CheckMeet_call h27 h (WkL_cons (Wk.refl _) (WkL_cons (Wk.refl _) (WkL_cons (Wk_agg (WkL_cons (Wk.refl _) (WkL_cons Wk_nil (WkL_cons (Wk.refl _) WkL_nil)))) WkL_nil))) (fun _ h=>?_);conv=>whnf
       refine hK _ _ _ ?_;clear hK K
       refine tHn ?_
       refine ⟨_,h,?_⟩
       refine weak_k ?_;conv=>whnf
       exact And.intro rfl (And.intro (aLc (wkr (lsB _)) (aLc wkI (aLc wkI (aLc (WkR.ptr (fun _=>rfl)) aLn)))) (aLc ⟨some _,rfl,bRc rfl (cKc wkI (cKc (wkr (lsL fun _=>(lo_TEdge _))) (cKc (wkr (lsL fun _=>(lsI _ _))) (cKc (wkr (lsL fun _=>(lsI _ _))) (cKc wkI (cKc (wkr (lsL fun _=>(lo_TOrdinary _))) cKn))))))⟩ aLn))
     refine hK2 ?_;clear hK1 hK2 K1 K2
     refine HT_skip ?_
     refine tHn ?_
     refine HT_fr dCo rfl fun K hK=>?_;conv=>whnf
     refine nlA rfl ?_;conv=>whnf
     refine bKo rfl ?_;conv=>whnf
     refine nlA rfl ?_;conv=>whnf
     replace h:=W_bd h
     refine reserve_Admit_call h13 h (WkL.refl _) (fun _ h=>?_);conv=>whnf
     refine bKo rfl ?_;conv=>whnf
     refine And.intro rfl (And.intro (nle rfl) (And.intro rfl ?_));conv=>whnf
     refine hK _ _ _ ?_;clear hK K
     refine HT_seq ?_
     refine HT_fr dCo rfl fun K hK=>?_;conv=>whnf
     refine hK _ _ _ ?_;clear hK K
     refine HT_if fun K1 K2 hK1 hK2=>?_;conv=>whnf
     refine cLk h (fun _ h=>?_) (fun _ h=>?_)
     · refine hK1 ?_;clear hK1 hK2 K1 K2
       refine HT_fr dCo rfl fun K hK=>?_;conv=>whnf
       refine nlA rfl ?_;conv=>whnf
       refine bKo rfl ?_;conv=>whnf
       refine nlA rfl ?_;conv=>whnf
       replace h:=W_bd h
       refine reserve_Lack_call h28 h (WkL.refl _) (fun _ h=>?_);conv=>whnf
       refine bKo rfl ?_;conv=>whnf
       refine And.intro rfl (And.intro (nle rfl) (And.intro rfl ?_));conv=>whnf
       refine hK _ _ _ ?_;clear hK K
       refine HT_fr dCo rfl fun K hK=>?_;conv=>whnf
       replace h:=W_jn h
       refine cLk h (fun _ h=>?_) (fun _ h=>?_)<;>(conv=>whnf)
       · refine nlA rfl ?_;conv=>whnf
         refine bKo rfl ?_;conv=>whnf
         refine nlA rfl ?_;conv=>whnf
         refine nlA rfl ?_;conv=>whnf
         refine bKo rfl ?_;conv=>whnf
         refine nlA rfl ?_;conv=>whnf
         replace h:=W_bd h
         refine reserve_CheckDenied_call h30 h (WkL.refl _) (fun _ h=>?_);conv=>whnf
         refine cLk h (fun _ h=>?_) (fun _ h=>?_)<;>(conv=>whnf)
         · refine nlA rfl ?_;conv=>whnf
           refine bKo rfl ?_;conv=>whnf
           refine nlA rfl ?_;conv=>whnf
           replace h:=W_bd h
           refine reserve_Safe_call h14 h (WkL.refl _) (fun _ h=>?_);conv=>whnf
           refine hK _ _ _ ?_;clear hK K
           refine HT_ret ?_
           refine Then_r ?_
           replace h:=W_some h
           refine PostP_r dCo fun K hK=>?_;conv=>whnf
           refine hK _ ?_;clear hK K
           cases h
           exact Wk.refl _
         refine hK _ _ _ ?_;clear hK K
         refine HT_ret ?_
         refine Then_r ?_
         replace h:=W_some h
         refine PostP_r dCo fun K hK=>?_;conv=>whnf
         refine hK _ ?_;clear hK K
         cases h
         exact Wk.refl _
       refine hK _ _ _ ?_;clear hK K
       refine HT_ret ?_
       refine Then_r ?_
       replace h:=W_some h
       refine PostP_r dCo fun K hK=>?_;conv=>whnf
       refine hK _ ?_;clear hK K
       cases h
       exact Wk.refl _
     refine hK2 ?_;clear hK1 hK2 K1 K2
     refine HT_skip ?_
     refine tHn ?_
     refine HT_seq ?_
     refine HT_fr dCo rfl fun K hK=>?_;conv=>whnf
     refine hK _ _ _ ?_;clear hK K
     refine HT_block ?_
     replace h:=W_bd h
     refine HT_lpK (body:=law33_ReserveReasons_b2 _ _ _ _) rfl h [2,3,9,22] [9,22] [] (fun kl kh ids b s=>⟨ofL ([(26,eI s)]++kl),ofH ([]++kh),b+64⟩) ?_;(conv=>whnf);refine And.intro ?_ (fun s m h=>HT_st ?_)
     · refine weak_k ?_;conv=>whnf
       exact And.intro rfl (And.intro (aLc wkI (aLc wkI (aLc wkI (aLc (WkR.ptr (fun _=>rfl)) (aLc (WkR.ptr (fun _=>rfl)) aLn))))) (aLc ⟨some _,rfl,bRc rfl (cKc wkI (cKc (wkr (lsL fun _=>(lo_TEdge _))) (cKc (wkr (lsL fun _=>(lsI _ _))) (cKc (wkr (lsL fun _=>(lsI _ _))) (cKc wkI (cKc (wkr (lsL fun _=>(lo_TOrdinary _))) cKn))))))⟩ (aLc ⟨some _,rfl,bRc rfl (cKc wkI (cKc (wkr (lsL fun _=>(lo_TDenied _))) cKn))⟩ aLn)))
     replace h:=W_blaw33_ReserveReasons_b2 (W_bd h)
     refine HT_seq ?_
     refine HT_fr dCo rfl fun K hK=>?_;conv=>whnf
     refine nlA rfl ?_;conv=>whnf
     refine bKo rfl ?_;conv=>whnf
     refine gKo rfl ?_;conv=>whnf
     refine hK _ _ _ ?_;clear hK K
     refine HT_if fun K1 K2 hK1 hK2=>?_;conv=>whnf
     refine cLk h (fun _ h=>?_) (fun _ h=>?_)
     · refine hK1 ?_;clear hK1 hK2 K1 K2
       refine HT_skip ?_
       refine tHn ?_
       refine HT_seq ?_
       refine HT_block ?_
       refine HT_fd dCo mix_ok rfl (by kernel_rfl) fun K hK=>?_;conv=>whnf
       refine nlA rfl ?_;conv=>whnf
       refine bKo rfl ?_;conv=>whnf
       refine gKo rfl ?_;conv=>whnf
       refine ix_lk h fun _ h=>?_;conv=>whnf
       refine nlA rfl ?_;conv=>whnf
       refine nlA rfl ?_;conv=>whnf
       refine bKo rfl ?_;conv=>whnf
       refine gKo rfl ?_;conv=>whnf
       refine ix_lk h fun _ h=>?_;conv=>whnf
       refine nlA rfl ?_;conv=>whnf
       replace h:=W_bd h
       refine ref33_BentDenied_call h17 h (WkL.refl _) (fun _ h=>?_);conv=>whnf
       refine lt_lk (enc:=eTDenied) (d:=default) dCo h rfl rfl rfl ⟨nle rfl,nle rfl,rfl⟩ rfl ⟨⟨rfl,nle rfl⟩,⟨⟨rfl,nle rfl⟩,trivial⟩⟩ (fun h=>?_);conv=>whnf
       refine hK _ _ _ ?_;clear hK K
       refine HT_block ?_
       replace h:=W_bd h
       refine HT_lpK (body:=law33_ReserveReasons_b3 _ _ _) rfl h [2,3,9,22,26,173,174] [9,22] [] (fun kl kh ids b s=>⟨ofL ([(175,eI s)]++kl),ofH ([]++kh),b+64⟩) ?_;(conv=>whnf);refine And.intro ?_ (fun s m h=>HT_st ?_)
       · refine weak_k ?_;conv=>whnf
         exact And.intro rfl (And.intro (aLc wkI (aLc wkI (aLc wkI (aLc (WkR.ptr (fun _=>rfl)) (aLc (WkR.ptr (fun _=>rfl)) (aLc wkI (aLc (wkr (loose_lstc fun _=>(lo_TDenied _))) (aLc wkI aLn)))))))) (aLc ⟨some _,rfl,bRc rfl (cKc wkI (cKc (wkr (lsL fun _=>(lo_TEdge _))) (cKc (wkr (lsL fun _=>(lsI _ _))) (cKc (wkr (lsL fun _=>(lsI _ _))) (cKc wkI (cKc (wkr (lsL fun _=>(lo_TOrdinary _))) cKn))))))⟩ (aLc ⟨some _,rfl,bRc rfl (cKc wkI (cKc (wkr (lsL fun _=>(lo_TDenied _))) cKn))⟩ aLn)))
       replace h:=W_blaw33_ReserveReasons_b3 (W_bd h)
       refine HT_fr dCo rfl fun K hK=>?_;conv=>whnf
       refine hK _ _ _ ?_;clear hK K
       refine HT_seq ?_
       refine HT_if fun K1 K2 hK1 hK2=>?_;conv=>whnf
       refine cLk h (fun _ h=>?_) (fun _ h=>?_)
       · refine hK1 ?_;clear hK1 hK2 K1 K2
         refine HT_skip ?_
         refine tHn ?_
         refine HT_seq ?_
         replace h:=W_jn h
         refine HT_block ?_
         refine HT_fr dCo rfl fun K hK=>?_;conv=>whnf
         refine ix_lk h fun _ h=>?_;conv=>whnf
         refine nlA rfl ?_;conv=>whnf
         refine bKo rfl ?_;conv=>whnf
         refine And.intro rfl (And.intro (nle rfl) (And.intro rfl ?_));conv=>whnf
         refine hK _ _ _ ?_;clear hK K
         refine HT_seq ?_
         refine HT_fr dCo rfl fun K hK=>?_;conv=>whnf
         replace h:=W_jn h
         refine nlA rfl ?_;conv=>whnf
         refine bKo rfl ?_;conv=>whnf
         refine gKo rfl ?_;conv=>whnf
         refine cLk h (fun _ h=>?_) (fun _ h=>?_)<;>(conv=>whnf)
         · refine hK _ _ _ ?_;clear hK K
           refine HT_if fun K1 K2 hK1 hK2=>?_;conv=>whnf
           refine hK1 ?_;clear hK1 hK2 K1 K2
           replace h:=W_cnT h
           refine HT_exit ?_
           refine Then_e ?_
           refine InBlock_e ?_
           refine tHn ?_
           refine HT_f dCo rfl fun K hK=>?_;conv=>whnf
           refine hK _ _ _ ?_;clear hK K
           refine tHn ?_
           replace h:=W_xnx h
           refine ⟨_,h,?_⟩
           refine weak_k ?_;conv=>whnf
           exact And.intro rfl (And.intro (aLc wkI (aLc wkI (aLc wkI (aLc (WkR.ptr (fun _=>rfl)) (aLc (WkR.ptr (fun _=>rfl)) (aLc wkI (aLc (wkr (loose_lstc fun _=>(lo_TDenied _))) (aLc wkI aLn)))))))) (aLc ⟨some _,rfl,bRc rfl (cKc wkI (cKc (wkr (lsL fun _=>(lo_TEdge _))) (cKc (wkr (lsL fun _=>(lsI _ _))) (cKc (wkr (lsL fun _=>(lsI _ _))) (cKc wkI (cKc (wkr (lsL fun _=>(lo_TOrdinary _))) cKn))))))⟩ (aLc ⟨some _,rfl,bRc rfl (cKc wkI (cKc (wkr (lsL fun _=>(lo_TDenied _))) cKn))⟩ aLn)))
         refine nlA rfl ?_;conv=>whnf
         refine bKo rfl ?_;conv=>whnf
         refine gKo rfl ?_;conv=>whnf
         refine nlA rfl ?_;conv=>whnf
         refine bKo rfl ?_;conv=>whnf
         refine gKo rfl ?_;conv=>whnf
         refine hK _ _ _ ?_;clear hK K
         refine HT_if fun K1 K2 hK1 hK2=>?_;conv=>whnf
         refine cLk h (fun _ h=>?_) (fun _ h=>?_)
         · refine hK1 ?_;clear hK1 hK2 K1 K2
           refine HT_exit ?_
           refine Then_e ?_
           refine InBlock_e ?_
           refine tHn ?_
           refine HT_f dCo rfl fun K hK=>?_;conv=>whnf
           refine hK _ _ _ ?_;clear hK K
           refine tHn ?_
           replace h:=W_xnx h
           refine ⟨_,h,?_⟩
           refine weak_k ?_;conv=>whnf
           exact And.intro rfl (And.intro (aLc wkI (aLc wkI (aLc wkI (aLc (WkR.ptr (fun _=>rfl)) (aLc (WkR.ptr (fun _=>rfl)) (aLc wkI (aLc (wkr (loose_lstc fun _=>(lo_TDenied _))) (aLc wkI aLn)))))))) (aLc ⟨some _,rfl,bRc rfl (cKc wkI (cKc (wkr (lsL fun _=>(lo_TEdge _))) (cKc (wkr (lsL fun _=>(lsI _ _))) (cKc (wkr (lsL fun _=>(lsI _ _))) (cKc wkI (cKc (wkr (lsL fun _=>(lo_TOrdinary _))) cKn))))))⟩ (aLc ⟨some _,rfl,bRc rfl (cKc wkI (cKc (wkr (lsL fun _=>(lo_TDenied _))) cKn))⟩ aLn)))
         refine hK2 ?_;clear hK1 hK2 K1 K2
         refine HT_skip ?_
         refine tHn ?_
         refine HT_fd dCo mix_ok rfl (by kernel_rfl) fun K hK=>?_;conv=>whnf
         refine nlA rfl ?_;conv=>whnf
         refine bKo rfl ?_;conv=>whnf
         refine gKo rfl ?_;conv=>whnf
         refine nlA rfl ?_;conv=>whnf
         refine bKo rfl ?_;conv=>whnf
         refine gKo rfl ?_;conv=>whnf
         refine gd_lk h fun _ h=>?_;conv=>whnf
         refine hK _ _ _ ?_;clear hK K
         refine HT_fd dCo mix_ok rfl (by kernel_rfl) fun K hK=>?_;conv=>whnf
         replace h:=W_jn h
         refine nlA rfl ?_;conv=>whnf
         refine bKo rfl ?_;conv=>whnf
         refine nlA rfl ?_;conv=>whnf
         refine nlA rfl ?_;conv=>whnf
         refine bKo rfl ?_;conv=>whnf
         refine nlA rfl ?_;conv=>whnf
         replace h:=W_bd h
         refine reserve_CheckDenied_call h30 h (WkL.refl _) (fun _ h=>?_);conv=>whnf
         refine cLk h (fun _ h=>?_) (fun _ h=>?_)<;>(conv=>whnf)
         · refine nlA rfl ?_;conv=>whnf
           refine bKo rfl ?_;conv=>whnf
           refine nlA rfl ?_;conv=>whnf
           refine nlA rfl ?_;conv=>whnf
           refine bKo rfl ?_;conv=>whnf
           refine gKo rfl ?_;conv=>whnf
           refine gd_lk h fun _ h=>?_;conv=>whnf
           replace h:=W_bd h
           refine reserve_Safe_call h14 h (WkL.refl _) (fun _ h=>?_);conv=>whnf
           refine hK _ _ _ ?_;clear hK K
           refine HT_if fun K1 K2 hK1 hK2=>?_;conv=>whnf
           refine cLk h (fun _ h=>?_) (fun _ h=>?_)
           · refine hK1 ?_;clear hK1 hK2 K1 K2
             refine HT_fr dCo rfl fun K hK=>?_;conv=>whnf
             refine hK _ _ _ ?_;clear hK K
             refine HT_ret ?_
             refine InBlock_r ?_
             refine Then_r ?_
             refine Then_r ?_
             refine InBlock_r ?_
             refine InBlock_r ?_
             refine Then_r ?_
             refine Then_r ?_
             refine InBlock_r ?_
             refine Then_r ?_
             replace h:=W_xrt h
             replace h:=W_inr h
             replace h:=W_xrt h
             replace h:=W_inr h
             replace h:=W_some h
             refine PostP_r dCo fun K hK=>?_;conv=>whnf
             refine hK _ ?_;clear hK K
             cases h
             exact Wk.refl _
           refine hK2 ?_;clear hK1 hK2 K1 K2
           refine HT_skip ?_
           refine iBn ?_
           refine tHn ?_
           refine HT_f dCo rfl fun K hK=>?_;conv=>whnf
           refine hK _ _ _ ?_;clear hK K
           refine tHn ?_
           replace h:=W_xnx h
           refine ⟨_,h,?_⟩
           refine weak_k ?_;conv=>whnf
           exact And.intro rfl (And.intro (aLc wkI (aLc wkI (aLc wkI (aLc (WkR.ptr (fun _=>rfl)) (aLc (WkR.ptr (fun _=>rfl)) (aLc wkI (aLc (wkr (loose_lstc fun _=>(lo_TDenied _))) (aLc wkI aLn)))))))) (aLc ⟨some _,rfl,bRc rfl (cKc wkI (cKc (wkr (lsL fun _=>(lo_TEdge _))) (cKc (wkr (lsL fun _=>(lsI _ _))) (cKc (wkr (lsL fun _=>(lsI _ _))) (cKc wkI (cKc (wkr (lsL fun _=>(lo_TOrdinary _))) cKn))))))⟩ (aLc ⟨some _,rfl,bRc rfl (cKc wkI (cKc (wkr (lsL fun _=>(lo_TDenied _))) cKn))⟩ aLn)))
         refine hK _ _ _ ?_;clear hK K
         refine HT_if fun K1 K2 hK1 hK2=>?_;conv=>whnf
         refine hK2 ?_;clear hK1 hK2 K1 K2
         replace h:=W_cnF h
         refine HT_skip ?_
         refine iBn ?_
         refine tHn ?_
         refine HT_f dCo rfl fun K hK=>?_;conv=>whnf
         refine hK _ _ _ ?_;clear hK K
         refine tHn ?_
         replace h:=W_xnx h
         refine ⟨_,h,?_⟩
         refine weak_k ?_;conv=>whnf
         exact And.intro rfl (And.intro (aLc wkI (aLc wkI (aLc wkI (aLc (WkR.ptr (fun _=>rfl)) (aLc (WkR.ptr (fun _=>rfl)) (aLc wkI (aLc (wkr (loose_lstc fun _=>(lo_TDenied _))) (aLc wkI aLn)))))))) (aLc ⟨some _,rfl,bRc rfl (cKc wkI (cKc (wkr (lsL fun _=>(lo_TEdge _))) (cKc (wkr (lsL fun _=>(lsI _ _))) (cKc (wkr (lsL fun _=>(lsI _ _))) (cKc wkI (cKc (wkr (lsL fun _=>(lo_TOrdinary _))) cKn))))))⟩ (aLc ⟨some _,rfl,bRc rfl (cKc wkI (cKc (wkr (lsL fun _=>(lo_TDenied _))) cKn))⟩ aLn)))
       refine hK2 ?_;clear hK1 hK2 K1 K2
       refine HT_exit ?_
       refine Then_e ?_
       refine Then_e ?_
       refine InBlock_e ?_
       replace h:=W_xbk h
       replace h:=W_inl h
       refine iBn ?_
       refine tHn ?_
       refine HT_f dCo rfl fun K hK=>?_;conv=>whnf
       refine hK _ _ _ ?_;clear hK K
       refine tHn ?_
       replace h:=W_xnx h
       refine ⟨_,h,?_⟩
       refine weak_k ?_;conv=>whnf
       exact And.intro rfl (And.intro (aLc wkI (aLc wkI (aLc wkI (aLc (WkR.ptr (fun _=>rfl)) (aLc (WkR.ptr (fun _=>rfl)) aLn))))) (aLc ⟨some _,rfl,bRc rfl (cKc wkI (cKc (wkr (lsL fun _=>(lo_TEdge _))) (cKc (wkr (lsL fun _=>(lsI _ _))) (cKc (wkr (lsL fun _=>(lsI _ _))) (cKc wkI (cKc (wkr (lsL fun _=>(lo_TOrdinary _))) cKn))))))⟩ (aLc ⟨some _,rfl,bRc rfl (cKc wkI (cKc (wkr (lsL fun _=>(lo_TDenied _))) cKn))⟩ aLn)))
     refine hK2 ?_;clear hK1 hK2 K1 K2
     refine HT_exit ?_
     refine Then_e ?_
     refine Then_e ?_
     refine InBlock_e ?_
     replace h:=W_xbk h
     replace h:=W_inl h
     refine tHn ?_
     refine HT_fr dCo rfl fun K hK=>?_;conv=>whnf
     refine hK _ _ _ ?_;clear hK K
     refine HT_ret ?_
     replace h:=W_some h
     refine PostP_r dCo fun K hK=>?_;conv=>whnf
     refine hK _ ?_;clear hK K
     cases h
     exact Wk.refl _
   refine hK _ _ _ ?_;clear hK K
   refine HT_if fun K1 K2 hK1 hK2=>?_;conv=>whnf
   refine hK2 ?_;clear hK1 hK2 K1 K2
   replace h:=W_cnF h
   refine HT_exit ?_
   refine Then_e ?_
   refine Then_e ?_
   refine InBlock_e ?_
   replace h:=W_xbk h
   replace h:=W_inl h
   refine tHn ?_
   refine HT_frzBK 11 1 (enc:=eTEdge) (e:=53) default (ElOk_agg dCo rfl rfl (fun _=>rfl) (fun _=>rfl)) ?_;(conv=>whnf);refine ⟨_,_,_,(Nat.ne_of_beq_eq_false rfl),rfl,rfl,rfl,rfl,?_⟩;conv=>whnf
   refine HT_frzBK 11 2 (enc:=eI) (e:=3) default (ElOk_one dCo rfl rfl rfl (fun _=>⟨rfl,rfl⟩)) ?_;(conv=>whnf);refine ⟨_,_,_,(Nat.ne_of_beq_eq_false rfl),rfl,rfl,rfl,rfl,?_⟩;conv=>whnf
   refine HT_frzBK 11 3 (enc:=eI) (e:=3) default (ElOk_one dCo rfl rfl rfl (fun _=>⟨rfl,rfl⟩)) ?_;(conv=>whnf);refine ⟨_,_,_,(Nat.ne_of_beq_eq_false rfl),rfl,rfl,rfl,rfl,?_⟩;conv=>whnf
   refine HT_fr dCo rfl fun K hK=>?_;conv=>whnf
   refine nlA rfl ?_;conv=>whnf
   refine bKo rfl ?_;conv=>whnf
   refine nlA rfl ?_;conv=>whnf
   replace h:=W_bd h
   refine reserve_Lack_call h28 h (WkL_cons (Wk_agg (WkL_cons (Wk.refl _) (WkL_cons (Wk.refl _) (WkL_cons (Wk.refl _) (WkL_cons (Wk.refl _) (WkL_cons (Wk.refl _) (WkL_cons Wk_free WkL_nil))))))) WkL_nil) (fun _ h=>?_);conv=>whnf
   refine bKo rfl ?_;conv=>whnf
   refine And.intro rfl (And.intro (nle rfl) (And.intro rfl ?_));conv=>whnf
   refine hK _ _ _ ?_;clear hK K
   refine HT_seq ?_
   refine HT_fr dCo rfl fun K hK=>?_;conv=>whnf
   refine nlA rfl ?_;conv=>whnf
   refine bKo rfl ?_;conv=>whnf
   refine nlA rfl ?_;conv=>whnf
   replace h:=W_bd h
   refine reserve_Safe_call h14 h (WkL.refl _) (fun _ h=>?_);conv=>whnf
   refine eqK_e (eqv_bool dCo rfl _ _) ?_;conv=>whnf
   refine hK _ _ _ ?_;clear hK K
   refine HT_if fun K1 K2 hK1 hK2=>?_;conv=>whnf
   refine cLk h (fun _ h=>?_) (fun _ h=>?_)
   · refine hK1 ?_;clear hK1 hK2 K1 K2
     refine HT_fr dCo rfl fun K hK=>?_;conv=>whnf
     refine hK _ _ _ ?_;clear hK K
     refine HT_ret ?_
     refine Then_r ?_
     refine Then_r ?_
     replace h:=W_some h
     refine PostP_r dCo fun K hK=>?_;conv=>whnf
     refine hK _ ?_;clear hK K
     cases h
     exact Wk.refl _
   refine hK2 ?_;clear hK1 hK2 K1 K2
   refine HT_skip ?_
   refine tHn ?_
   refine HT_fr dCo rfl fun K hK=>?_;conv=>whnf
   refine hK _ _ _ ?_;clear hK K
   replace h:=W_jn h
   refine HT_if fun K1 K2 hK1 hK2=>?_;conv=>whnf
   refine cLk h (fun _ h=>?_) (fun _ h=>?_)
   · refine hK1 ?_;clear hK1 hK2 K1 K2
     refine HT_fr dCo rfl fun K hK=>?_;conv=>whnf
     refine nlA rfl ?_;conv=>whnf
     refine bKo rfl ?_;conv=>whnf
     refine nlA rfl ?_;conv=>whnf
     refine nlA rfl ?_;conv=>whnf
     refine bKo rfl ?_;conv=>whnf
     refine gKo rfl ?_;conv=>whnf
     replace h:=W_bd h
     refine flow_Without_call h25 h (WkL.refl _) (fun _ h=>?_);conv=>whnf
     refine bKo rfl ?_;conv=>whnf
     refine And.intro rfl (And.intro (nle rfl) (And.intro rfl ?_));conv=>whnf
     refine hK _ _ _ ?_;clear hK K
     refine HT_fr dCo rfl fun K hK=>?_;conv=>whnf
     refine nlA rfl ?_;conv=>whnf
     refine bKo rfl ?_;conv=>whnf
     refine nlA rfl ?_;conv=>whnf
     replace h:=W_bd h
     refine flow_Meet_call h26 h (WkL.refl _) (fun _ h=>?_);conv=>whnf
     refine bKo rfl ?_;conv=>whnf
     refine And.intro rfl (And.intro (nle rfl) (And.intro rfl ?_));conv=>whnf
     refine hK _ _ _ ?_;clear hK K
     refine HT_jnK rfl h [2,3,9] [9] [] (fun kl kh ids b s=>⟨ofL ([(129,eB s)]++kl),ofH ([]++kh),b+64⟩) ?_;(conv=>whnf);refine And.intro (fun s h=>HT_st ?_) (fun k h=>?_)
     · refine HT_if fun K1 K2 hK1 hK2=>?_;conv=>whnf
       refine cLk h (fun _ h=>?_) (fun _ h=>?_)
       · refine hK1 ?_;clear hK1 hK2 K1 K2
         refine HT_fr dCo rfl fun K hK=>?_;conv=>whnf
         refine hK _ _ _ ?_;clear hK K
         refine HT_ret ?_
         refine Then_r ?_
         replace h:=W_some h
         refine PostP_r dCo fun K hK=>?_;conv=>whnf
         refine hK _ ?_;clear hK K
         cases h
         exact Wk.refl _
       refine hK2 ?_;clear hK1 hK2 K1 K2
       refine HT_skip ?_
       refine tHn ?_
       refine HT_fr dCo rfl fun K hK=>?_;conv=>whnf
       refine nlA rfl ?_;conv=>whnf
       refine bKo rfl ?_;conv=>whnf
       refine nlA rfl ?_;conv=>whnf
       replace h:=W_bd h
       refine reserve_Admit_call h13 h (WkL.refl _) (fun _ h=>?_);conv=>whnf
       refine bKo rfl ?_;conv=>whnf
       refine And.intro rfl (And.intro (nle rfl) (And.intro rfl ?_));conv=>whnf
       refine hK _ _ _ ?_;clear hK K
       refine HT_seq ?_
       refine HT_fr dCo rfl fun K hK=>?_;conv=>whnf
       refine hK _ _ _ ?_;clear hK K
       refine HT_if fun K1 K2 hK1 hK2=>?_;conv=>whnf
       refine cLk h (fun _ h=>?_) (fun _ h=>?_)
       · refine hK1 ?_;clear hK1 hK2 K1 K2
         refine HT_fr dCo rfl fun K hK=>?_;conv=>whnf
         refine nlA rfl ?_;conv=>whnf
         refine bKo rfl ?_;conv=>whnf
         refine nlA rfl ?_;conv=>whnf
         replace h:=W_bd h
         refine reserve_Lack_call h28 h (WkL.refl _) (fun _ h=>?_);conv=>whnf
         refine bKo rfl ?_;conv=>whnf
         refine And.intro rfl (And.intro (nle rfl) (And.intro rfl ?_));conv=>whnf
         refine hK _ _ _ ?_;clear hK K
         refine HT_fr dCo rfl fun K hK=>?_;conv=>whnf
         replace h:=W_jn h
         refine cLk h (fun _ h=>?_) (fun _ h=>?_)<;>(conv=>whnf)
         · refine nlA rfl ?_;conv=>whnf
           refine bKo rfl ?_;conv=>whnf
           refine nlA rfl ?_;conv=>whnf
           refine nlA rfl ?_;conv=>whnf
           refine bKo rfl ?_;conv=>whnf
           refine nlA rfl ?_;conv=>whnf
           replace h:=W_bd h
           refine reserve_CheckDenied_call h30 h (WkL.refl _) (fun _ h=>?_);conv=>whnf
           refine cLk h (fun _ h=>?_) (fun _ h=>?_)<;>(conv=>whnf)
           · refine nlA rfl ?_;conv=>whnf
             refine bKo rfl ?_;conv=>whnf
             refine nlA rfl ?_;conv=>whnf
             replace h:=W_bd h
             refine reserve_Safe_call h14 h (WkL.refl _) (fun _ h=>?_);conv=>whnf
             refine hK _ _ _ ?_;clear hK K
             refine HT_ret ?_
             refine Then_r ?_
             replace h:=W_some h
             refine PostP_r dCo fun K hK=>?_;conv=>whnf
             refine hK _ ?_;clear hK K
             cases h
             exact Wk.refl _
           refine hK _ _ _ ?_;clear hK K
           refine HT_ret ?_
           refine Then_r ?_
           replace h:=W_some h
           refine PostP_r dCo fun K hK=>?_;conv=>whnf
           refine hK _ ?_;clear hK K
           cases h
           exact Wk.refl _
         refine hK _ _ _ ?_;clear hK K
         refine HT_ret ?_
         refine Then_r ?_
         replace h:=W_some h
         refine PostP_r dCo fun K hK=>?_;conv=>whnf
         refine hK _ ?_;clear hK K
         cases h
         exact Wk.refl _
       refine hK2 ?_;clear hK1 hK2 K1 K2
       refine HT_skip ?_
       refine tHn ?_
       refine HT_seq ?_
       refine HT_fr dCo rfl fun K hK=>?_;conv=>whnf
       refine hK _ _ _ ?_;clear hK K
       refine HT_block ?_
       replace h:=W_bd h
       refine HT_lpK (body:=law33_ReserveReasons_b2 _ _ _ _) rfl h [2,3,9,22] [9,22] [] (fun kl kh ids b s=>⟨ofL ([(26,eI s)]++kl),ofH ([]++kh),b+64⟩) ?_;(conv=>whnf);refine And.intro ?_ (fun s m h=>HT_st ?_)
       · refine weak_k ?_;conv=>whnf
         exact And.intro rfl (And.intro (aLc wkI (aLc wkI (aLc wkI (aLc (WkR.ptr (fun _=>rfl)) (aLc (WkR.ptr (fun _=>rfl)) aLn))))) (aLc ⟨some _,rfl,bRc rfl (cKc wkI (cKc (wkr (lsL fun _=>(lo_TEdge _))) (cKc (wkr (lsL fun _=>(lsI _ _))) (cKc (wkr (lsL fun _=>(lsI _ _))) (cKc wkI (cKc (wkr (lsL fun _=>(lo_TOrdinary _))) cKn))))))⟩ (aLc ⟨some _,rfl,bRc rfl (cKc wkI (cKc (wkr (lsL fun _=>(lo_TDenied _))) cKn))⟩ aLn)))
       replace h:=W_blaw33_ReserveReasons_b2 (W_bd h)
       refine HT_seq ?_
       refine HT_fr dCo rfl fun K hK=>?_;conv=>whnf
       refine nlA rfl ?_;conv=>whnf
       refine bKo rfl ?_;conv=>whnf
       refine gKo rfl ?_;conv=>whnf
       refine hK _ _ _ ?_;clear hK K
       refine HT_if fun K1 K2 hK1 hK2=>?_;conv=>whnf
       refine cLk h (fun _ h=>?_) (fun _ h=>?_)
       · refine hK1 ?_;clear hK1 hK2 K1 K2
         refine HT_skip ?_
         refine tHn ?_
         refine HT_seq ?_
         refine HT_block ?_
         refine HT_fd dCo mix_ok rfl (by kernel_rfl) fun K hK=>?_;conv=>whnf
         refine nlA rfl ?_;conv=>whnf
         refine bKo rfl ?_;conv=>whnf
         refine gKo rfl ?_;conv=>whnf
         refine ix_lk h fun _ h=>?_;conv=>whnf
         refine nlA rfl ?_;conv=>whnf
         refine nlA rfl ?_;conv=>whnf
         refine bKo rfl ?_;conv=>whnf
         refine gKo rfl ?_;conv=>whnf
         refine ix_lk h fun _ h=>?_;conv=>whnf
         refine nlA rfl ?_;conv=>whnf
         replace h:=W_bd h
         refine ref33_BentDenied_call h17 h (WkL.refl _) (fun _ h=>?_);conv=>whnf
         refine lt_lk (enc:=eTDenied) (d:=default) dCo h rfl rfl rfl ⟨nle rfl,nle rfl,rfl⟩ rfl ⟨⟨rfl,nle rfl⟩,⟨⟨rfl,nle rfl⟩,trivial⟩⟩ (fun h=>?_);conv=>whnf
         refine hK _ _ _ ?_;clear hK K
         refine HT_block ?_
         replace h:=W_bd h
         refine HT_lpK (body:=law33_ReserveReasons_b3 _ _ _) rfl h [2,3,9,22,26,173,174] [9,22] [] (fun kl kh ids b s=>⟨ofL ([(175,eI s)]++kl),ofH ([]++kh),b+64⟩) ?_;(conv=>whnf);refine And.intro ?_ (fun s m h=>HT_st ?_)
         · refine weak_k ?_;conv=>whnf
           exact And.intro rfl (And.intro (aLc wkI (aLc wkI (aLc wkI (aLc (WkR.ptr (fun _=>rfl)) (aLc (WkR.ptr (fun _=>rfl)) (aLc wkI (aLc (wkr (loose_lstc fun _=>(lo_TDenied _))) (aLc wkI aLn)))))))) (aLc ⟨some _,rfl,bRc rfl (cKc wkI (cKc (wkr (lsL fun _=>(lo_TEdge _))) (cKc (wkr (lsL fun _=>(lsI _ _))) (cKc (wkr (lsL fun _=>(lsI _ _))) (cKc wkI (cKc (wkr (lsL fun _=>(lo_TOrdinary _))) cKn))))))⟩ (aLc ⟨some _,rfl,bRc rfl (cKc wkI (cKc (wkr (lsL fun _=>(lo_TDenied _))) cKn))⟩ aLn)))
         replace h:=W_blaw33_ReserveReasons_b3 (W_bd h)
         refine HT_fr dCo rfl fun K hK=>?_;conv=>whnf
         refine hK _ _ _ ?_;clear hK K
         refine HT_seq ?_
         refine HT_if fun K1 K2 hK1 hK2=>?_;conv=>whnf
         refine cLk h (fun _ h=>?_) (fun _ h=>?_)
         · refine hK1 ?_;clear hK1 hK2 K1 K2
           refine HT_skip ?_
           refine tHn ?_
           refine HT_seq ?_
           replace h:=W_jn h
           refine HT_block ?_
           refine HT_fr dCo rfl fun K hK=>?_;conv=>whnf
           refine ix_lk h fun _ h=>?_;conv=>whnf
           refine nlA rfl ?_;conv=>whnf
           refine bKo rfl ?_;conv=>whnf
           refine And.intro rfl (And.intro (nle rfl) (And.intro rfl ?_));conv=>whnf
           refine hK _ _ _ ?_;clear hK K
           refine HT_seq ?_
           refine HT_fr dCo rfl fun K hK=>?_;conv=>whnf
           replace h:=W_jn h
           refine nlA rfl ?_;conv=>whnf
           refine bKo rfl ?_;conv=>whnf
           refine gKo rfl ?_;conv=>whnf
           refine cLk h (fun _ h=>?_) (fun _ h=>?_)<;>(conv=>whnf)
           · refine hK _ _ _ ?_;clear hK K
             refine HT_if fun K1 K2 hK1 hK2=>?_;conv=>whnf
             refine hK1 ?_;clear hK1 hK2 K1 K2
             replace h:=W_cnT h
             refine HT_exit ?_
             refine Then_e ?_
             refine InBlock_e ?_
             refine tHn ?_
             refine HT_f dCo rfl fun K hK=>?_;conv=>whnf
             refine hK _ _ _ ?_;clear hK K
             refine tHn ?_
             replace h:=W_xnx h
             refine ⟨_,h,?_⟩
             refine weak_k ?_;conv=>whnf
             exact And.intro rfl (And.intro (aLc wkI (aLc wkI (aLc wkI (aLc (WkR.ptr (fun _=>rfl)) (aLc (WkR.ptr (fun _=>rfl)) (aLc wkI (aLc (wkr (loose_lstc fun _=>(lo_TDenied _))) (aLc wkI aLn)))))))) (aLc ⟨some _,rfl,bRc rfl (cKc wkI (cKc (wkr (lsL fun _=>(lo_TEdge _))) (cKc (wkr (lsL fun _=>(lsI _ _))) (cKc (wkr (lsL fun _=>(lsI _ _))) (cKc wkI (cKc (wkr (lsL fun _=>(lo_TOrdinary _))) cKn))))))⟩ (aLc ⟨some _,rfl,bRc rfl (cKc wkI (cKc (wkr (lsL fun _=>(lo_TDenied _))) cKn))⟩ aLn)))
           refine nlA rfl ?_;conv=>whnf
           refine bKo rfl ?_;conv=>whnf
           refine gKo rfl ?_;conv=>whnf
           refine nlA rfl ?_;conv=>whnf
           refine bKo rfl ?_;conv=>whnf
           refine gKo rfl ?_;conv=>whnf
           refine hK _ _ _ ?_;clear hK K
           refine HT_if fun K1 K2 hK1 hK2=>?_;conv=>whnf
           refine cLk h (fun _ h=>?_) (fun _ h=>?_)
           · refine hK1 ?_;clear hK1 hK2 K1 K2
             refine HT_exit ?_
             refine Then_e ?_
             refine InBlock_e ?_
             refine tHn ?_
             refine HT_f dCo rfl fun K hK=>?_;conv=>whnf
             refine hK _ _ _ ?_;clear hK K
             refine tHn ?_
             replace h:=W_xnx h
             refine ⟨_,h,?_⟩
             refine weak_k ?_;conv=>whnf
             exact And.intro rfl (And.intro (aLc wkI (aLc wkI (aLc wkI (aLc (WkR.ptr (fun _=>rfl)) (aLc (WkR.ptr (fun _=>rfl)) (aLc wkI (aLc (wkr (loose_lstc fun _=>(lo_TDenied _))) (aLc wkI aLn)))))))) (aLc ⟨some _,rfl,bRc rfl (cKc wkI (cKc (wkr (lsL fun _=>(lo_TEdge _))) (cKc (wkr (lsL fun _=>(lsI _ _))) (cKc (wkr (lsL fun _=>(lsI _ _))) (cKc wkI (cKc (wkr (lsL fun _=>(lo_TOrdinary _))) cKn))))))⟩ (aLc ⟨some _,rfl,bRc rfl (cKc wkI (cKc (wkr (lsL fun _=>(lo_TDenied _))) cKn))⟩ aLn)))
           refine hK2 ?_;clear hK1 hK2 K1 K2
           refine HT_skip ?_
           refine tHn ?_
           refine HT_fd dCo mix_ok rfl (by kernel_rfl) fun K hK=>?_;conv=>whnf
           refine nlA rfl ?_;conv=>whnf
           refine bKo rfl ?_;conv=>whnf
           refine gKo rfl ?_;conv=>whnf
           refine nlA rfl ?_;conv=>whnf
           refine bKo rfl ?_;conv=>whnf
           refine gKo rfl ?_;conv=>whnf
           refine gd_lk h fun _ h=>?_;conv=>whnf
           refine hK _ _ _ ?_;clear hK K
           refine HT_fd dCo mix_ok rfl (by kernel_rfl) fun K hK=>?_;conv=>whnf
           replace h:=W_jn h
           refine nlA rfl ?_;conv=>whnf
           refine bKo rfl ?_;conv=>whnf
           refine nlA rfl ?_;conv=>whnf
           refine nlA rfl ?_;conv=>whnf
           refine bKo rfl ?_;conv=>whnf
           refine nlA rfl ?_;conv=>whnf
           replace h:=W_bd h
           refine reserve_CheckDenied_call h30 h (WkL.refl _) (fun _ h=>?_);conv=>whnf
           refine cLk h (fun _ h=>?_) (fun _ h=>?_)<;>(conv=>whnf)
           · refine nlA rfl ?_;conv=>whnf
             refine bKo rfl ?_;conv=>whnf
             refine nlA rfl ?_;conv=>whnf
             refine nlA rfl ?_;conv=>whnf
             refine bKo rfl ?_;conv=>whnf
             refine gKo rfl ?_;conv=>whnf
             refine gd_lk h fun _ h=>?_;conv=>whnf
             replace h:=W_bd h
             refine reserve_Safe_call h14 h (WkL.refl _) (fun _ h=>?_);conv=>whnf
             refine hK _ _ _ ?_;clear hK K
             refine HT_if fun K1 K2 hK1 hK2=>?_;conv=>whnf
             refine cLk h (fun _ h=>?_) (fun _ h=>?_)
             · refine hK1 ?_;clear hK1 hK2 K1 K2
               refine HT_fr dCo rfl fun K hK=>?_;conv=>whnf
               refine hK _ _ _ ?_;clear hK K
               refine HT_ret ?_
               refine InBlock_r ?_
               refine Then_r ?_
               refine Then_r ?_
               refine InBlock_r ?_
               refine InBlock_r ?_
               refine Then_r ?_
               refine Then_r ?_
               refine InBlock_r ?_
               refine Then_r ?_
               replace h:=W_xrt h
               replace h:=W_inr h
               replace h:=W_xrt h
               replace h:=W_inr h
               replace h:=W_some h
               refine PostP_r dCo fun K hK=>?_;conv=>whnf
               refine hK _ ?_;clear hK K
               cases h
               exact Wk.refl _
             refine hK2 ?_;clear hK1 hK2 K1 K2
             refine HT_skip ?_
             refine iBn ?_
             refine tHn ?_
             refine HT_f dCo rfl fun K hK=>?_;conv=>whnf
             refine hK _ _ _ ?_;clear hK K
             refine tHn ?_
             replace h:=W_xnx h
             refine ⟨_,h,?_⟩
             refine weak_k ?_;conv=>whnf
             exact And.intro rfl (And.intro (aLc wkI (aLc wkI (aLc wkI (aLc (WkR.ptr (fun _=>rfl)) (aLc (WkR.ptr (fun _=>rfl)) (aLc wkI (aLc (wkr (loose_lstc fun _=>(lo_TDenied _))) (aLc wkI aLn)))))))) (aLc ⟨some _,rfl,bRc rfl (cKc wkI (cKc (wkr (lsL fun _=>(lo_TEdge _))) (cKc (wkr (lsL fun _=>(lsI _ _))) (cKc (wkr (lsL fun _=>(lsI _ _))) (cKc wkI (cKc (wkr (lsL fun _=>(lo_TOrdinary _))) cKn))))))⟩ (aLc ⟨some _,rfl,bRc rfl (cKc wkI (cKc (wkr (lsL fun _=>(lo_TDenied _))) cKn))⟩ aLn)))
           refine hK _ _ _ ?_;clear hK K
           refine HT_if fun K1 K2 hK1 hK2=>?_;conv=>whnf
           refine hK2 ?_;clear hK1 hK2 K1 K2
           replace h:=W_cnF h
           refine HT_skip ?_
           refine iBn ?_
           refine tHn ?_
           refine HT_f dCo rfl fun K hK=>?_;conv=>whnf
           refine hK _ _ _ ?_;clear hK K
           refine tHn ?_
           replace h:=W_xnx h
           refine ⟨_,h,?_⟩
           refine weak_k ?_;conv=>whnf
           exact And.intro rfl (And.intro (aLc wkI (aLc wkI (aLc wkI (aLc (WkR.ptr (fun _=>rfl)) (aLc (WkR.ptr (fun _=>rfl)) (aLc wkI (aLc (wkr (loose_lstc fun _=>(lo_TDenied _))) (aLc wkI aLn)))))))) (aLc ⟨some _,rfl,bRc rfl (cKc wkI (cKc (wkr (lsL fun _=>(lo_TEdge _))) (cKc (wkr (lsL fun _=>(lsI _ _))) (cKc (wkr (lsL fun _=>(lsI _ _))) (cKc wkI (cKc (wkr (lsL fun _=>(lo_TOrdinary _))) cKn))))))⟩ (aLc ⟨some _,rfl,bRc rfl (cKc wkI (cKc (wkr (lsL fun _=>(lo_TDenied _))) cKn))⟩ aLn)))
         refine hK2 ?_;clear hK1 hK2 K1 K2
         refine HT_exit ?_
         refine Then_e ?_
         refine Then_e ?_
         refine InBlock_e ?_
         replace h:=W_xbk h
         replace h:=W_inl h
         refine iBn ?_
         refine tHn ?_
         refine HT_f dCo rfl fun K hK=>?_;conv=>whnf
         refine hK _ _ _ ?_;clear hK K
         refine tHn ?_
         replace h:=W_xnx h
         refine ⟨_,h,?_⟩
         refine weak_k ?_;conv=>whnf
         exact And.intro rfl (And.intro (aLc wkI (aLc wkI (aLc wkI (aLc (WkR.ptr (fun _=>rfl)) (aLc (WkR.ptr (fun _=>rfl)) aLn))))) (aLc ⟨some _,rfl,bRc rfl (cKc wkI (cKc (wkr (lsL fun _=>(lo_TEdge _))) (cKc (wkr (lsL fun _=>(lsI _ _))) (cKc (wkr (lsL fun _=>(lsI _ _))) (cKc wkI (cKc (wkr (lsL fun _=>(lo_TOrdinary _))) cKn))))))⟩ (aLc ⟨some _,rfl,bRc rfl (cKc wkI (cKc (wkr (lsL fun _=>(lo_TDenied _))) cKn))⟩ aLn)))
       refine hK2 ?_;clear hK1 hK2 K1 K2
       refine HT_exit ?_
       refine Then_e ?_
       refine Then_e ?_
       refine InBlock_e ?_
       replace h:=W_xbk h
       replace h:=W_inl h
       refine tHn ?_
       refine HT_fr dCo rfl fun K hK=>?_;conv=>whnf
       refine hK _ _ _ ?_;clear hK K
       refine HT_ret ?_
       replace h:=W_some h
       refine PostP_r dCo fun K hK=>?_;conv=>whnf
       refine hK _ ?_;clear hK K
       cases h
       exact Wk.refl _
     refine HT_fD dCo mix_ok rfl (by kernel_rfl) fun K hK=>?_;conv=>whnf
     refine cLk h (fun _ h=>?_) (fun _ h=>?_)<;>(conv=>whnf)
     · refine hK _ _ _ ?_;clear hK K
       refine tHn ?_
       refine ⟨_,h,?_⟩
       refine weak_k ?_;conv=>whnf
       exact And.intro rfl (And.intro (aLc (wkr (lsB _)) (aLc wkI (aLc wkI (aLc (WkR.ptr (fun _=>rfl)) aLn)))) (aLc ⟨some _,rfl,bRc rfl (cKc wkI (cKc (wkr (lsL fun _=>(lo_TEdge _))) (cKc (wkr (lsL fun _=>(lsI _ _))) (cKc (wkr (lsL fun _=>(lsI _ _))) (cKc wkI (cKc (wkr (lsL fun _=>(lo_TOrdinary _))) cKn))))))⟩ aLn))
     refine cLk h (fun _ h=>?_) (fun _ h=>?_)<;>(conv=>whnf)
     · refine hK _ _ _ ?_;clear hK K
       refine tHn ?_
       refine ⟨_,h,?_⟩
       refine weak_k ?_;conv=>whnf
       exact And.intro rfl (And.intro (aLc (wkr (lsB _)) (aLc wkI (aLc wkI (aLc (WkR.ptr (fun _=>rfl)) aLn)))) (aLc ⟨some _,rfl,bRc rfl (cKc wkI (cKc (wkr (lsL fun _=>(lo_TEdge _))) (cKc (wkr (lsL fun _=>(lsI _ _))) (cKc (wkr (lsL fun _=>(lsI _ _))) (cKc wkI (cKc (wkr (lsL fun _=>(lo_TOrdinary _))) cKn))))))⟩ aLn))
     refine nlA rfl ?_;conv=>whnf
     refine bKo rfl ?_;conv=>whnf
     refine gKo rfl ?_;conv=>whnf
     refine cLk h (fun _ h=>?_) (fun _ h=>?_)<;>(conv=>whnf)
     · refine hK _ _ _ ?_;clear hK K
       refine tHn ?_
       refine ⟨_,h,?_⟩
       refine weak_k ?_;conv=>whnf
       exact And.intro rfl (And.intro (aLc (wkr (lsB _)) (aLc wkI (aLc wkI (aLc (WkR.ptr (fun _=>rfl)) aLn)))) (aLc ⟨some _,rfl,bRc rfl (cKc wkI (cKc (wkr (lsL fun _=>(lo_TEdge _))) (cKc (wkr (lsL fun _=>(lsI _ _))) (cKc (wkr (lsL fun _=>(lsI _ _))) (cKc wkI (cKc (wkr (lsL fun _=>(lo_TOrdinary _))) cKn))))))⟩ aLn))
     refine nlA rfl ?_;conv=>whnf
     refine bKo rfl ?_;conv=>whnf
     refine gKo rfl ?_;conv=>whnf
     replace h:=W_bd h
     refine ref27_Many_call h29 h (WkL.refl _) (fun _ h=>?_);conv=>whnf
     refine nlA rfl ?_;conv=>whnf
     refine bKo rfl ?_;conv=>whnf
     refine gKo rfl ?_;conv=>whnf
     refine cLk h (fun _ h=>?_) (fun _ h=>?_)<;>(conv=>whnf)
     · refine hK _ _ _ ?_;clear hK K
       refine tHn ?_
       refine ⟨_,h,?_⟩
       refine weak_k ?_;conv=>whnf
       exact And.intro rfl (And.intro (aLc (wkr (lsB _)) (aLc wkI (aLc wkI (aLc (WkR.ptr (fun _=>rfl)) aLn)))) (aLc ⟨some _,rfl,bRc rfl (cKc wkI (cKc (wkr (lsL fun _=>(lo_TEdge _))) (cKc (wkr (lsL fun _=>(lsI _ _))) (cKc (wkr (lsL fun _=>(lsI _ _))) (cKc wkI (cKc (wkr (lsL fun _=>(lo_TOrdinary _))) cKn))))))⟩ aLn))
     refine nlA rfl ?_;conv=>whnf
     refine bKo rfl ?_;conv=>whnf
     refine nlA rfl ?_;conv=>whnf
     refine nlA rfl ?_;conv=>whnf
     refine bKo rfl ?_;conv=>whnf
     refine gKo rfl ?_;conv=>whnf
     replace h:=W_bd h
     refine flow_CheckMeet_call h27 h (WkL_cons (Wk.refl _) (WkL_cons (Wk.refl _) (WkL_cons (Wk_agg (WkL_cons (Wk.refl _) (WkL_cons Wk_nil (WkL_cons (Wk.refl _) WkL_nil)))) WkL_nil))) (fun _ h=>?_);conv=>whnf
     refine hK _ _ _ ?_;clear hK K
     refine tHn ?_
     refine ⟨_,h,?_⟩
     refine weak_k ?_;conv=>whnf
     exact And.intro rfl (And.intro (aLc (wkr (lsB _)) (aLc wkI (aLc wkI (aLc (WkR.ptr (fun _=>rfl)) aLn)))) (aLc ⟨some _,rfl,bRc rfl (cKc wkI (cKc (wkr (lsL fun _=>(lo_TEdge _))) (cKc (wkr (lsL fun _=>(lsI _ _))) (cKc (wkr (lsL fun _=>(lsI _ _))) (cKc wkI (cKc (wkr (lsL fun _=>(lo_TOrdinary _))) cKn))))))⟩ aLn))
   refine hK2 ?_;clear hK1 hK2 K1 K2
   refine HT_skip ?_
   refine tHn ?_
   refine HT_fr dCo rfl fun K hK=>?_;conv=>whnf
   refine nlA rfl ?_;conv=>whnf
   refine bKo rfl ?_;conv=>whnf
   refine nlA rfl ?_;conv=>whnf
   replace h:=W_bd h
   refine reserve_Admit_call h13 h (WkL.refl _) (fun _ h=>?_);conv=>whnf
   refine bKo rfl ?_;conv=>whnf
   refine And.intro rfl (And.intro (nle rfl) (And.intro rfl ?_));conv=>whnf
   refine hK _ _ _ ?_;clear hK K
   refine HT_seq ?_
   refine HT_fr dCo rfl fun K hK=>?_;conv=>whnf
   refine hK _ _ _ ?_;clear hK K
   refine HT_if fun K1 K2 hK1 hK2=>?_;conv=>whnf
   refine cLk h (fun _ h=>?_) (fun _ h=>?_)
   · refine hK1 ?_;clear hK1 hK2 K1 K2
     refine HT_fr dCo rfl fun K hK=>?_;conv=>whnf
     refine nlA rfl ?_;conv=>whnf
     refine bKo rfl ?_;conv=>whnf
     refine nlA rfl ?_;conv=>whnf
     replace h:=W_bd h
     refine reserve_Lack_call h28 h (WkL.refl _) (fun _ h=>?_);conv=>whnf
     refine bKo rfl ?_;conv=>whnf
     refine And.intro rfl (And.intro (nle rfl) (And.intro rfl ?_));conv=>whnf
     refine hK _ _ _ ?_;clear hK K
     refine HT_fr dCo rfl fun K hK=>?_;conv=>whnf
     replace h:=W_jn h
     refine cLk h (fun _ h=>?_) (fun _ h=>?_)<;>(conv=>whnf)
     · refine nlA rfl ?_;conv=>whnf
       refine bKo rfl ?_;conv=>whnf
       refine nlA rfl ?_;conv=>whnf
       refine nlA rfl ?_;conv=>whnf
       refine bKo rfl ?_;conv=>whnf
       refine nlA rfl ?_;conv=>whnf
       replace h:=W_bd h
       refine reserve_CheckDenied_call h30 h (WkL.refl _) (fun _ h=>?_);conv=>whnf
       refine cLk h (fun _ h=>?_) (fun _ h=>?_)<;>(conv=>whnf)
       · refine nlA rfl ?_;conv=>whnf
         refine bKo rfl ?_;conv=>whnf
         refine nlA rfl ?_;conv=>whnf
         replace h:=W_bd h
         refine reserve_Safe_call h14 h (WkL.refl _) (fun _ h=>?_);conv=>whnf
         refine hK _ _ _ ?_;clear hK K
         refine HT_ret ?_
         refine Then_r ?_
         replace h:=W_some h
         refine PostP_r dCo fun K hK=>?_;conv=>whnf
         refine hK _ ?_;clear hK K
         cases h
         exact Wk.refl _
       refine hK _ _ _ ?_;clear hK K
       refine HT_ret ?_
       refine Then_r ?_
       replace h:=W_some h
       refine PostP_r dCo fun K hK=>?_;conv=>whnf
       refine hK _ ?_;clear hK K
       cases h
       exact Wk.refl _
     refine hK _ _ _ ?_;clear hK K
     refine HT_ret ?_
     refine Then_r ?_
     replace h:=W_some h
     refine PostP_r dCo fun K hK=>?_;conv=>whnf
     refine hK _ ?_;clear hK K
     cases h
     exact Wk.refl _
   refine hK2 ?_;clear hK1 hK2 K1 K2
   refine HT_skip ?_
   refine tHn ?_
   refine HT_seq ?_
   refine HT_fr dCo rfl fun K hK=>?_;conv=>whnf
   refine hK _ _ _ ?_;clear hK K
   refine HT_block ?_
   replace h:=W_bd h
   refine HT_lpK (body:=law33_ReserveReasons_b2 _ _ _ _) rfl h [2,3,9,22] [9,22] [] (fun kl kh ids b s=>⟨ofL ([(26,eI s)]++kl),ofH ([]++kh),b+64⟩) ?_;(conv=>whnf);refine And.intro ?_ (fun s m h=>HT_st ?_)
   · refine weak_k ?_;conv=>whnf
     exact And.intro rfl (And.intro (aLc wkI (aLc wkI (aLc wkI (aLc (WkR.ptr (fun _=>rfl)) (aLc (WkR.ptr (fun _=>rfl)) aLn))))) (aLc ⟨some _,rfl,bRc rfl (cKc wkI (cKc (wkr (lsL fun _=>(lo_TEdge _))) (cKc (wkr (lsL fun _=>(lsI _ _))) (cKc (wkr (lsL fun _=>(lsI _ _))) (cKc wkI (cKc (wkr (lsL fun _=>(lo_TOrdinary _))) cKn))))))⟩ (aLc ⟨some _,rfl,bRc rfl (cKc wkI (cKc (wkr (lsL fun _=>(lo_TDenied _))) cKn))⟩ aLn)))
   replace h:=W_blaw33_ReserveReasons_b2 (W_bd h)
   refine HT_seq ?_
   refine HT_fr dCo rfl fun K hK=>?_;conv=>whnf
   refine nlA rfl ?_;conv=>whnf
   refine bKo rfl ?_;conv=>whnf
   refine gKo rfl ?_;conv=>whnf
   refine hK _ _ _ ?_;clear hK K
   refine HT_if fun K1 K2 hK1 hK2=>?_;conv=>whnf
   refine cLk h (fun _ h=>?_) (fun _ h=>?_)
   · refine hK1 ?_;clear hK1 hK2 K1 K2
     refine HT_skip ?_
     refine tHn ?_
     refine HT_seq ?_
     refine HT_block ?_
     refine HT_fd dCo mix_ok rfl (by kernel_rfl) fun K hK=>?_;conv=>whnf
     refine nlA rfl ?_;conv=>whnf
     refine bKo rfl ?_;conv=>whnf
     refine gKo rfl ?_;conv=>whnf
     refine ix_lk h fun _ h=>?_;conv=>whnf
     refine nlA rfl ?_;conv=>whnf
     refine nlA rfl ?_;conv=>whnf
     refine bKo rfl ?_;conv=>whnf
     refine gKo rfl ?_;conv=>whnf
     refine ix_lk h fun _ h=>?_;conv=>whnf
     refine nlA rfl ?_;conv=>whnf
     replace h:=W_bd h
     refine ref33_BentDenied_call h17 h (WkL.refl _) (fun _ h=>?_);conv=>whnf
     refine lt_lk (enc:=eTDenied) (d:=default) dCo h rfl rfl rfl ⟨nle rfl,nle rfl,rfl⟩ rfl ⟨⟨rfl,nle rfl⟩,⟨⟨rfl,nle rfl⟩,trivial⟩⟩ (fun h=>?_);conv=>whnf
     refine hK _ _ _ ?_;clear hK K
     refine HT_block ?_
     replace h:=W_bd h
     refine HT_lpK (body:=law33_ReserveReasons_b3 _ _ _) rfl h [2,3,9,22,26,173,174] [9,22] [] (fun kl kh ids b s=>⟨ofL ([(175,eI s)]++kl),ofH ([]++kh),b+64⟩) ?_;(conv=>whnf);refine And.intro ?_ (fun s m h=>HT_st ?_)
     · refine weak_k ?_;conv=>whnf
       exact And.intro rfl (And.intro (aLc wkI (aLc wkI (aLc wkI (aLc (WkR.ptr (fun _=>rfl)) (aLc (WkR.ptr (fun _=>rfl)) (aLc wkI (aLc (wkr (loose_lstc fun _=>(lo_TDenied _))) (aLc wkI aLn)))))))) (aLc ⟨some _,rfl,bRc rfl (cKc wkI (cKc (wkr (lsL fun _=>(lo_TEdge _))) (cKc (wkr (lsL fun _=>(lsI _ _))) (cKc (wkr (lsL fun _=>(lsI _ _))) (cKc wkI (cKc (wkr (lsL fun _=>(lo_TOrdinary _))) cKn))))))⟩ (aLc ⟨some _,rfl,bRc rfl (cKc wkI (cKc (wkr (lsL fun _=>(lo_TDenied _))) cKn))⟩ aLn)))
     replace h:=W_blaw33_ReserveReasons_b3 (W_bd h)
     refine HT_fr dCo rfl fun K hK=>?_;conv=>whnf
     refine hK _ _ _ ?_;clear hK K
     refine HT_seq ?_
     refine HT_if fun K1 K2 hK1 hK2=>?_;conv=>whnf
     refine cLk h (fun _ h=>?_) (fun _ h=>?_)
     · refine hK1 ?_;clear hK1 hK2 K1 K2
       refine HT_skip ?_
       refine tHn ?_
       refine HT_seq ?_
       replace h:=W_jn h
       refine HT_block ?_
       refine HT_fr dCo rfl fun K hK=>?_;conv=>whnf
       refine ix_lk h fun _ h=>?_;conv=>whnf
       refine nlA rfl ?_;conv=>whnf
       refine bKo rfl ?_;conv=>whnf
       refine And.intro rfl (And.intro (nle rfl) (And.intro rfl ?_));conv=>whnf
       refine hK _ _ _ ?_;clear hK K
       refine HT_seq ?_
       refine HT_fr dCo rfl fun K hK=>?_;conv=>whnf
       replace h:=W_jn h
       refine nlA rfl ?_;conv=>whnf
       refine bKo rfl ?_;conv=>whnf
       refine gKo rfl ?_;conv=>whnf
       refine cLk h (fun _ h=>?_) (fun _ h=>?_)<;>(conv=>whnf)
       · refine hK _ _ _ ?_;clear hK K
         refine HT_if fun K1 K2 hK1 hK2=>?_;conv=>whnf
         refine hK1 ?_;clear hK1 hK2 K1 K2
         replace h:=W_cnT h
         refine HT_exit ?_
         refine Then_e ?_
         refine InBlock_e ?_
         refine tHn ?_
         refine HT_f dCo rfl fun K hK=>?_;conv=>whnf
         refine hK _ _ _ ?_;clear hK K
         refine tHn ?_
         replace h:=W_xnx h
         refine ⟨_,h,?_⟩
         refine weak_k ?_;conv=>whnf
         exact And.intro rfl (And.intro (aLc wkI (aLc wkI (aLc wkI (aLc (WkR.ptr (fun _=>rfl)) (aLc (WkR.ptr (fun _=>rfl)) (aLc wkI (aLc (wkr (loose_lstc fun _=>(lo_TDenied _))) (aLc wkI aLn)))))))) (aLc ⟨some _,rfl,bRc rfl (cKc wkI (cKc (wkr (lsL fun _=>(lo_TEdge _))) (cKc (wkr (lsL fun _=>(lsI _ _))) (cKc (wkr (lsL fun _=>(lsI _ _))) (cKc wkI (cKc (wkr (lsL fun _=>(lo_TOrdinary _))) cKn))))))⟩ (aLc ⟨some _,rfl,bRc rfl (cKc wkI (cKc (wkr (lsL fun _=>(lo_TDenied _))) cKn))⟩ aLn)))
       refine nlA rfl ?_;conv=>whnf
       refine bKo rfl ?_;conv=>whnf
       refine gKo rfl ?_;conv=>whnf
       refine nlA rfl ?_;conv=>whnf
       refine bKo rfl ?_;conv=>whnf
       refine gKo rfl ?_;conv=>whnf
       refine hK _ _ _ ?_;clear hK K
       refine HT_if fun K1 K2 hK1 hK2=>?_;conv=>whnf
       refine cLk h (fun _ h=>?_) (fun _ h=>?_)
       · refine hK1 ?_;clear hK1 hK2 K1 K2
         refine HT_exit ?_
         refine Then_e ?_
         refine InBlock_e ?_
         refine tHn ?_
         refine HT_f dCo rfl fun K hK=>?_;conv=>whnf
         refine hK _ _ _ ?_;clear hK K
         refine tHn ?_
         replace h:=W_xnx h
         refine ⟨_,h,?_⟩
         refine weak_k ?_;conv=>whnf
         exact And.intro rfl (And.intro (aLc wkI (aLc wkI (aLc wkI (aLc (WkR.ptr (fun _=>rfl)) (aLc (WkR.ptr (fun _=>rfl)) (aLc wkI (aLc (wkr (loose_lstc fun _=>(lo_TDenied _))) (aLc wkI aLn)))))))) (aLc ⟨some _,rfl,bRc rfl (cKc wkI (cKc (wkr (lsL fun _=>(lo_TEdge _))) (cKc (wkr (lsL fun _=>(lsI _ _))) (cKc (wkr (lsL fun _=>(lsI _ _))) (cKc wkI (cKc (wkr (lsL fun _=>(lo_TOrdinary _))) cKn))))))⟩ (aLc ⟨some _,rfl,bRc rfl (cKc wkI (cKc (wkr (lsL fun _=>(lo_TDenied _))) cKn))⟩ aLn)))
       refine hK2 ?_;clear hK1 hK2 K1 K2
       refine HT_skip ?_
       refine tHn ?_
       refine HT_fd dCo mix_ok rfl (by kernel_rfl) fun K hK=>?_;conv=>whnf
       refine nlA rfl ?_;conv=>whnf
       refine bKo rfl ?_;conv=>whnf
       refine gKo rfl ?_;conv=>whnf
       refine nlA rfl ?_;conv=>whnf
       refine bKo rfl ?_;conv=>whnf
       refine gKo rfl ?_;conv=>whnf
       refine gd_lk h fun _ h=>?_;conv=>whnf
       refine hK _ _ _ ?_;clear hK K
       refine HT_fd dCo mix_ok rfl (by kernel_rfl) fun K hK=>?_;conv=>whnf
       replace h:=W_jn h
       refine nlA rfl ?_;conv=>whnf
       refine bKo rfl ?_;conv=>whnf
       refine nlA rfl ?_;conv=>whnf
       refine nlA rfl ?_;conv=>whnf
       refine bKo rfl ?_;conv=>whnf
       refine nlA rfl ?_;conv=>whnf
       replace h:=W_bd h
       refine reserve_CheckDenied_call h30 h (WkL.refl _) (fun _ h=>?_);conv=>whnf
       refine cLk h (fun _ h=>?_) (fun _ h=>?_)<;>(conv=>whnf)
       · refine nlA rfl ?_;conv=>whnf
         refine bKo rfl ?_;conv=>whnf
         refine nlA rfl ?_;conv=>whnf
         refine nlA rfl ?_;conv=>whnf
         refine bKo rfl ?_;conv=>whnf
         refine gKo rfl ?_;conv=>whnf
         refine gd_lk h fun _ h=>?_;conv=>whnf
         replace h:=W_bd h
         refine reserve_Safe_call h14 h (WkL.refl _) (fun _ h=>?_);conv=>whnf
         refine hK _ _ _ ?_;clear hK K
         refine HT_if fun K1 K2 hK1 hK2=>?_;conv=>whnf
         refine cLk h (fun _ h=>?_) (fun _ h=>?_)
         · refine hK1 ?_;clear hK1 hK2 K1 K2
           refine HT_fr dCo rfl fun K hK=>?_;conv=>whnf
           refine hK _ _ _ ?_;clear hK K
           refine HT_ret ?_
           refine InBlock_r ?_
           refine Then_r ?_
           refine Then_r ?_
           refine InBlock_r ?_
           refine InBlock_r ?_
           refine Then_r ?_
           refine Then_r ?_
           refine InBlock_r ?_
           refine Then_r ?_
           replace h:=W_xrt h
           replace h:=W_inr h
           replace h:=W_xrt h
           replace h:=W_inr h
           replace h:=W_some h
           refine PostP_r dCo fun K hK=>?_;conv=>whnf
           refine hK _ ?_;clear hK K
           cases h
           exact Wk.refl _
         refine hK2 ?_;clear hK1 hK2 K1 K2
         refine HT_skip ?_
         refine iBn ?_
         refine tHn ?_
         refine HT_f dCo rfl fun K hK=>?_;conv=>whnf
         refine hK _ _ _ ?_;clear hK K
         refine tHn ?_
         replace h:=W_xnx h
         refine ⟨_,h,?_⟩
         refine weak_k ?_;conv=>whnf
         exact And.intro rfl (And.intro (aLc wkI (aLc wkI (aLc wkI (aLc (WkR.ptr (fun _=>rfl)) (aLc (WkR.ptr (fun _=>rfl)) (aLc wkI (aLc (wkr (loose_lstc fun _=>(lo_TDenied _))) (aLc wkI aLn)))))))) (aLc ⟨some _,rfl,bRc rfl (cKc wkI (cKc (wkr (lsL fun _=>(lo_TEdge _))) (cKc (wkr (lsL fun _=>(lsI _ _))) (cKc (wkr (lsL fun _=>(lsI _ _))) (cKc wkI (cKc (wkr (lsL fun _=>(lo_TOrdinary _))) cKn))))))⟩ (aLc ⟨some _,rfl,bRc rfl (cKc wkI (cKc (wkr (lsL fun _=>(lo_TDenied _))) cKn))⟩ aLn)))
       refine hK _ _ _ ?_;clear hK K
       refine HT_if fun K1 K2 hK1 hK2=>?_;conv=>whnf
       refine hK2 ?_;clear hK1 hK2 K1 K2
       replace h:=W_cnF h
       refine HT_skip ?_
       refine iBn ?_
       refine tHn ?_
       refine HT_f dCo rfl fun K hK=>?_;conv=>whnf
       refine hK _ _ _ ?_;clear hK K
       refine tHn ?_
       replace h:=W_xnx h
       refine ⟨_,h,?_⟩
       refine weak_k ?_;conv=>whnf
       exact And.intro rfl (And.intro (aLc wkI (aLc wkI (aLc wkI (aLc (WkR.ptr (fun _=>rfl)) (aLc (WkR.ptr (fun _=>rfl)) (aLc wkI (aLc (wkr (loose_lstc fun _=>(lo_TDenied _))) (aLc wkI aLn)))))))) (aLc ⟨some _,rfl,bRc rfl (cKc wkI (cKc (wkr (lsL fun _=>(lo_TEdge _))) (cKc (wkr (lsL fun _=>(lsI _ _))) (cKc (wkr (lsL fun _=>(lsI _ _))) (cKc wkI (cKc (wkr (lsL fun _=>(lo_TOrdinary _))) cKn))))))⟩ (aLc ⟨some _,rfl,bRc rfl (cKc wkI (cKc (wkr (lsL fun _=>(lo_TDenied _))) cKn))⟩ aLn)))
     refine hK2 ?_;clear hK1 hK2 K1 K2
     refine HT_exit ?_
     refine Then_e ?_
     refine Then_e ?_
     refine InBlock_e ?_
     replace h:=W_xbk h
     replace h:=W_inl h
     refine iBn ?_
     refine tHn ?_
     refine HT_f dCo rfl fun K hK=>?_;conv=>whnf
     refine hK _ _ _ ?_;clear hK K
     refine tHn ?_
     replace h:=W_xnx h
     refine ⟨_,h,?_⟩
     refine weak_k ?_;conv=>whnf
     exact And.intro rfl (And.intro (aLc wkI (aLc wkI (aLc wkI (aLc (WkR.ptr (fun _=>rfl)) (aLc (WkR.ptr (fun _=>rfl)) aLn))))) (aLc ⟨some _,rfl,bRc rfl (cKc wkI (cKc (wkr (lsL fun _=>(lo_TEdge _))) (cKc (wkr (lsL fun _=>(lsI _ _))) (cKc (wkr (lsL fun _=>(lsI _ _))) (cKc wkI (cKc (wkr (lsL fun _=>(lo_TOrdinary _))) cKn))))))⟩ (aLc ⟨some _,rfl,bRc rfl (cKc wkI (cKc (wkr (lsL fun _=>(lo_TDenied _))) cKn))⟩ aLn)))
   refine hK2 ?_;clear hK1 hK2 K1 K2
   refine HT_exit ?_
   refine Then_e ?_
   refine Then_e ?_
   refine InBlock_e ?_
   replace h:=W_xbk h
   replace h:=W_inl h
   refine tHn ?_
   refine HT_fr dCo rfl fun K hK=>?_;conv=>whnf
   refine hK _ _ _ ?_;clear hK K
   refine HT_ret ?_
   replace h:=W_some h
   refine PostP_r dCo fun K hK=>?_;conv=>whnf
   refine hK _ ?_;clear hK K
   cases h
   exact Wk.refl _
 refine hK2 ?_;clear hK1 hK2 K1 K2
 refine HT_skip ?_
 refine tHn ?_
 refine HT_fr dCo rfl fun K hK=>?_;conv=>whnf
 refine nlA rfl ?_;conv=>whnf
 refine bKo rfl ?_;conv=>whnf
 refine nlA rfl ?_;conv=>whnf
 replace h:=W_bd h
 refine reserve_Admit_call h13 h (WkL.refl _) (fun _ h=>?_);conv=>whnf
 refine bKo rfl ?_;conv=>whnf
 refine And.intro rfl (And.intro (nle rfl) (And.intro rfl ?_));conv=>whnf
 refine hK _ _ _ ?_;clear hK K
 refine HT_seq ?_
 refine HT_fr dCo rfl fun K hK=>?_;conv=>whnf
 refine hK _ _ _ ?_;clear hK K
 refine HT_if fun K1 K2 hK1 hK2=>?_;conv=>whnf
 refine cLk h (fun _ h=>?_) (fun _ h=>?_)
 · refine hK1 ?_;clear hK1 hK2 K1 K2
   refine HT_fr dCo rfl fun K hK=>?_;conv=>whnf
   refine nlA rfl ?_;conv=>whnf
   refine bKo rfl ?_;conv=>whnf
   refine nlA rfl ?_;conv=>whnf
   replace h:=W_bd h
   refine reserve_Lack_call h28 h (WkL.refl _) (fun _ h=>?_);conv=>whnf
   refine bKo rfl ?_;conv=>whnf
   refine And.intro rfl (And.intro (nle rfl) (And.intro rfl ?_));conv=>whnf
   refine hK _ _ _ ?_;clear hK K
   refine HT_fr dCo rfl fun K hK=>?_;conv=>whnf
   replace h:=W_jn h
   refine cLk h (fun _ h=>?_) (fun _ h=>?_)<;>(conv=>whnf)
   · refine nlA rfl ?_;conv=>whnf
     refine bKo rfl ?_;conv=>whnf
     refine nlA rfl ?_;conv=>whnf
     refine nlA rfl ?_;conv=>whnf
     refine bKo rfl ?_;conv=>whnf
     refine nlA rfl ?_;conv=>whnf
     replace h:=W_bd h
     refine reserve_CheckDenied_call h30 h (WkL.refl _) (fun _ h=>?_);conv=>whnf
     refine cLk h (fun _ h=>?_) (fun _ h=>?_)<;>(conv=>whnf)
     · refine nlA rfl ?_;conv=>whnf
       refine bKo rfl ?_;conv=>whnf
       refine nlA rfl ?_;conv=>whnf
       replace h:=W_bd h
       refine reserve_Safe_call h14 h (WkL.refl _) (fun _ h=>?_);conv=>whnf
       refine hK _ _ _ ?_;clear hK K
       refine HT_ret ?_
       refine Then_r ?_
       replace h:=W_some h
       refine PostP_r dCo fun K hK=>?_;conv=>whnf
       refine hK _ ?_;clear hK K
       cases h
       exact Wk.refl _
     refine hK _ _ _ ?_;clear hK K
     refine HT_ret ?_
     refine Then_r ?_
     replace h:=W_some h
     refine PostP_r dCo fun K hK=>?_;conv=>whnf
     refine hK _ ?_;clear hK K
     cases h
     exact Wk.refl _
   refine hK _ _ _ ?_;clear hK K
   refine HT_ret ?_
   refine Then_r ?_
   replace h:=W_some h
   refine PostP_r dCo fun K hK=>?_;conv=>whnf
   refine hK _ ?_;clear hK K
   cases h
   exact Wk.refl _
 refine hK2 ?_;clear hK1 hK2 K1 K2
 refine HT_skip ?_
 refine tHn ?_
 refine HT_seq ?_
 refine HT_fr dCo rfl fun K hK=>?_;conv=>whnf
 refine hK _ _ _ ?_;clear hK K
 refine HT_block ?_
 replace h:=W_bd h
 refine HT_lpK (body:=law33_ReserveReasons_b2 _ _ _ _) rfl h [2,3,9,22] [9,22] [] (fun kl kh ids b s=>⟨ofL ([(26,eI s)]++kl),ofH ([]++kh),b+64⟩) ?_;(conv=>whnf);refine And.intro ?_ (fun s m h=>HT_st ?_)
 · refine weak_k ?_;conv=>whnf
   exact And.intro rfl (And.intro (aLc wkI (aLc wkI (aLc wkI (aLc (WkR.ptr (fun _=>rfl)) (aLc (WkR.ptr (fun _=>rfl)) aLn))))) (aLc ⟨some _,rfl,bRc rfl (cKc wkI (cKc (wkr (lsL fun _=>(lo_TEdge _))) (cKc (wkr (lsL fun _=>(lsI _ _))) (cKc (wkr (lsL fun _=>(lsI _ _))) (cKc wkI (cKc (wkr (lsL fun _=>(lo_TOrdinary _))) cKn))))))⟩ (aLc ⟨some _,rfl,bRc rfl (cKc wkI (cKc (wkr (lsL fun _=>(lo_TDenied _))) cKn))⟩ aLn)))
 replace h:=W_blaw33_ReserveReasons_b2 (W_bd h)
 refine HT_seq ?_
 refine HT_fr dCo rfl fun K hK=>?_;conv=>whnf
 refine nlA rfl ?_;conv=>whnf
 refine bKo rfl ?_;conv=>whnf
 refine gKo rfl ?_;conv=>whnf
 refine hK _ _ _ ?_;clear hK K
 refine HT_if fun K1 K2 hK1 hK2=>?_;conv=>whnf
 refine cLk h (fun _ h=>?_) (fun _ h=>?_)
 · refine hK1 ?_;clear hK1 hK2 K1 K2
   refine HT_skip ?_
   refine tHn ?_
   refine HT_seq ?_
   refine HT_block ?_
   refine HT_fd dCo mix_ok rfl (by kernel_rfl) fun K hK=>?_;conv=>whnf
   refine nlA rfl ?_;conv=>whnf
   refine bKo rfl ?_;conv=>whnf
   refine gKo rfl ?_;conv=>whnf
   refine ix_lk h fun _ h=>?_;conv=>whnf
   refine nlA rfl ?_;conv=>whnf
   refine nlA rfl ?_;conv=>whnf
   refine bKo rfl ?_;conv=>whnf
   refine gKo rfl ?_;conv=>whnf
   refine ix_lk h fun _ h=>?_;conv=>whnf
   refine nlA rfl ?_;conv=>whnf
   replace h:=W_bd h
   refine ref33_BentDenied_call h17 h (WkL.refl _) (fun _ h=>?_);conv=>whnf
   refine lt_lk (enc:=eTDenied) (d:=default) dCo h rfl rfl rfl ⟨nle rfl,nle rfl,rfl⟩ rfl ⟨⟨rfl,nle rfl⟩,⟨⟨rfl,nle rfl⟩,trivial⟩⟩ (fun h=>?_);conv=>whnf
   refine hK _ _ _ ?_;clear hK K
   refine HT_block ?_
   replace h:=W_bd h
   refine HT_lpK (body:=law33_ReserveReasons_b3 _ _ _) rfl h [2,3,9,22,26,173,174] [9,22] [] (fun kl kh ids b s=>⟨ofL ([(175,eI s)]++kl),ofH ([]++kh),b+64⟩) ?_;(conv=>whnf);refine And.intro ?_ (fun s m h=>HT_st ?_)
   · refine weak_k ?_;conv=>whnf
     exact And.intro rfl (And.intro (aLc wkI (aLc wkI (aLc wkI (aLc (WkR.ptr (fun _=>rfl)) (aLc (WkR.ptr (fun _=>rfl)) (aLc wkI (aLc (wkr (loose_lstc fun _=>(lo_TDenied _))) (aLc wkI aLn)))))))) (aLc ⟨some _,rfl,bRc rfl (cKc wkI (cKc (wkr (lsL fun _=>(lo_TEdge _))) (cKc (wkr (lsL fun _=>(lsI _ _))) (cKc (wkr (lsL fun _=>(lsI _ _))) (cKc wkI (cKc (wkr (lsL fun _=>(lo_TOrdinary _))) cKn))))))⟩ (aLc ⟨some _,rfl,bRc rfl (cKc wkI (cKc (wkr (lsL fun _=>(lo_TDenied _))) cKn))⟩ aLn)))
   replace h:=W_blaw33_ReserveReasons_b3 (W_bd h)
   refine HT_fr dCo rfl fun K hK=>?_;conv=>whnf
   refine hK _ _ _ ?_;clear hK K
   refine HT_seq ?_
   refine HT_if fun K1 K2 hK1 hK2=>?_;conv=>whnf
   refine cLk h (fun _ h=>?_) (fun _ h=>?_)
   · refine hK1 ?_;clear hK1 hK2 K1 K2
     refine HT_skip ?_
     refine tHn ?_
     refine HT_seq ?_
     replace h:=W_jn h
     refine HT_block ?_
     refine HT_fr dCo rfl fun K hK=>?_;conv=>whnf
     refine ix_lk h fun _ h=>?_;conv=>whnf
     refine nlA rfl ?_;conv=>whnf
     refine bKo rfl ?_;conv=>whnf
     refine And.intro rfl (And.intro (nle rfl) (And.intro rfl ?_));conv=>whnf
     refine hK _ _ _ ?_;clear hK K
     refine HT_seq ?_
     refine HT_fr dCo rfl fun K hK=>?_;conv=>whnf
     replace h:=W_jn h
     refine nlA rfl ?_;conv=>whnf
     refine bKo rfl ?_;conv=>whnf
     refine gKo rfl ?_;conv=>whnf
     refine cLk h (fun _ h=>?_) (fun _ h=>?_)<;>(conv=>whnf)
     · refine hK _ _ _ ?_;clear hK K
       refine HT_if fun K1 K2 hK1 hK2=>?_;conv=>whnf
       refine hK1 ?_;clear hK1 hK2 K1 K2
       replace h:=W_cnT h
       refine HT_exit ?_
       refine Then_e ?_
       refine InBlock_e ?_
       refine tHn ?_
       refine HT_f dCo rfl fun K hK=>?_;conv=>whnf
       refine hK _ _ _ ?_;clear hK K
       refine tHn ?_
       replace h:=W_xnx h
       refine ⟨_,h,?_⟩
       refine weak_k ?_;conv=>whnf
       exact And.intro rfl (And.intro (aLc wkI (aLc wkI (aLc wkI (aLc (WkR.ptr (fun _=>rfl)) (aLc (WkR.ptr (fun _=>rfl)) (aLc wkI (aLc (wkr (loose_lstc fun _=>(lo_TDenied _))) (aLc wkI aLn)))))))) (aLc ⟨some _,rfl,bRc rfl (cKc wkI (cKc (wkr (lsL fun _=>(lo_TEdge _))) (cKc (wkr (lsL fun _=>(lsI _ _))) (cKc (wkr (lsL fun _=>(lsI _ _))) (cKc wkI (cKc (wkr (lsL fun _=>(lo_TOrdinary _))) cKn))))))⟩ (aLc ⟨some _,rfl,bRc rfl (cKc wkI (cKc (wkr (lsL fun _=>(lo_TDenied _))) cKn))⟩ aLn)))
     refine nlA rfl ?_;conv=>whnf
     refine bKo rfl ?_;conv=>whnf
     refine gKo rfl ?_;conv=>whnf
     refine nlA rfl ?_;conv=>whnf
     refine bKo rfl ?_;conv=>whnf
     refine gKo rfl ?_;conv=>whnf
     refine hK _ _ _ ?_;clear hK K
     refine HT_if fun K1 K2 hK1 hK2=>?_;conv=>whnf
     refine cLk h (fun _ h=>?_) (fun _ h=>?_)
     · refine hK1 ?_;clear hK1 hK2 K1 K2
       refine HT_exit ?_
       refine Then_e ?_
       refine InBlock_e ?_
       refine tHn ?_
       refine HT_f dCo rfl fun K hK=>?_;conv=>whnf
       refine hK _ _ _ ?_;clear hK K
       refine tHn ?_
       replace h:=W_xnx h
       refine ⟨_,h,?_⟩
       refine weak_k ?_;conv=>whnf
       exact And.intro rfl (And.intro (aLc wkI (aLc wkI (aLc wkI (aLc (WkR.ptr (fun _=>rfl)) (aLc (WkR.ptr (fun _=>rfl)) (aLc wkI (aLc (wkr (loose_lstc fun _=>(lo_TDenied _))) (aLc wkI aLn)))))))) (aLc ⟨some _,rfl,bRc rfl (cKc wkI (cKc (wkr (lsL fun _=>(lo_TEdge _))) (cKc (wkr (lsL fun _=>(lsI _ _))) (cKc (wkr (lsL fun _=>(lsI _ _))) (cKc wkI (cKc (wkr (lsL fun _=>(lo_TOrdinary _))) cKn))))))⟩ (aLc ⟨some _,rfl,bRc rfl (cKc wkI (cKc (wkr (lsL fun _=>(lo_TDenied _))) cKn))⟩ aLn)))
     refine hK2 ?_;clear hK1 hK2 K1 K2
     refine HT_skip ?_
     refine tHn ?_
     refine HT_fd dCo mix_ok rfl (by kernel_rfl) fun K hK=>?_;conv=>whnf
     refine nlA rfl ?_;conv=>whnf
     refine bKo rfl ?_;conv=>whnf
     refine gKo rfl ?_;conv=>whnf
     refine nlA rfl ?_;conv=>whnf
     refine bKo rfl ?_;conv=>whnf
     refine gKo rfl ?_;conv=>whnf
     refine gd_lk h fun _ h=>?_;conv=>whnf
     refine hK _ _ _ ?_;clear hK K
     refine HT_fd dCo mix_ok rfl (by kernel_rfl) fun K hK=>?_;conv=>whnf
     replace h:=W_jn h
     refine nlA rfl ?_;conv=>whnf
     refine bKo rfl ?_;conv=>whnf
     refine nlA rfl ?_;conv=>whnf
     refine nlA rfl ?_;conv=>whnf
     refine bKo rfl ?_;conv=>whnf
     refine nlA rfl ?_;conv=>whnf
     replace h:=W_bd h
     refine reserve_CheckDenied_call h30 h (WkL.refl _) (fun _ h=>?_);conv=>whnf
     refine cLk h (fun _ h=>?_) (fun _ h=>?_)<;>(conv=>whnf)
     · refine nlA rfl ?_;conv=>whnf
       refine bKo rfl ?_;conv=>whnf
       refine nlA rfl ?_;conv=>whnf
       refine nlA rfl ?_;conv=>whnf
       refine bKo rfl ?_;conv=>whnf
       refine gKo rfl ?_;conv=>whnf
       refine gd_lk h fun _ h=>?_;conv=>whnf
       replace h:=W_bd h
       refine reserve_Safe_call h14 h (WkL.refl _) (fun _ h=>?_);conv=>whnf
       refine hK _ _ _ ?_;clear hK K
       refine HT_if fun K1 K2 hK1 hK2=>?_;conv=>whnf
       refine cLk h (fun _ h=>?_) (fun _ h=>?_)
       · refine hK1 ?_;clear hK1 hK2 K1 K2
         refine HT_fr dCo rfl fun K hK=>?_;conv=>whnf
         refine hK _ _ _ ?_;clear hK K
         refine HT_ret ?_
         refine InBlock_r ?_
         refine Then_r ?_
         refine Then_r ?_
         refine InBlock_r ?_
         refine InBlock_r ?_
         refine Then_r ?_
         refine Then_r ?_
         refine InBlock_r ?_
         refine Then_r ?_
         replace h:=W_xrt h
         replace h:=W_inr h
         replace h:=W_xrt h
         replace h:=W_inr h
         replace h:=W_some h
         refine PostP_r dCo fun K hK=>?_;conv=>whnf
         refine hK _ ?_;clear hK K
         cases h
         exact Wk.refl _
       refine hK2 ?_;clear hK1 hK2 K1 K2
       refine HT_skip ?_
       refine iBn ?_
       refine tHn ?_
       refine HT_f dCo rfl fun K hK=>?_;conv=>whnf
       refine hK _ _ _ ?_;clear hK K
       refine tHn ?_
       replace h:=W_xnx h
       refine ⟨_,h,?_⟩
       refine weak_k ?_;conv=>whnf
       exact And.intro rfl (And.intro (aLc wkI (aLc wkI (aLc wkI (aLc (WkR.ptr (fun _=>rfl)) (aLc (WkR.ptr (fun _=>rfl)) (aLc wkI (aLc (wkr (loose_lstc fun _=>(lo_TDenied _))) (aLc wkI aLn)))))))) (aLc ⟨some _,rfl,bRc rfl (cKc wkI (cKc (wkr (lsL fun _=>(lo_TEdge _))) (cKc (wkr (lsL fun _=>(lsI _ _))) (cKc (wkr (lsL fun _=>(lsI _ _))) (cKc wkI (cKc (wkr (lsL fun _=>(lo_TOrdinary _))) cKn))))))⟩ (aLc ⟨some _,rfl,bRc rfl (cKc wkI (cKc (wkr (lsL fun _=>(lo_TDenied _))) cKn))⟩ aLn)))
     refine hK _ _ _ ?_;clear hK K
     refine HT_if fun K1 K2 hK1 hK2=>?_;conv=>whnf
     refine hK2 ?_;clear hK1 hK2 K1 K2
     replace h:=W_cnF h
     refine HT_skip ?_
     refine iBn ?_
     refine tHn ?_
     refine HT_f dCo rfl fun K hK=>?_;conv=>whnf
     refine hK _ _ _ ?_;clear hK K
     refine tHn ?_
     replace h:=W_xnx h
     refine ⟨_,h,?_⟩
     refine weak_k ?_;conv=>whnf
     exact And.intro rfl (And.intro (aLc wkI (aLc wkI (aLc wkI (aLc (WkR.ptr (fun _=>rfl)) (aLc (WkR.ptr (fun _=>rfl)) (aLc wkI (aLc (wkr (loose_lstc fun _=>(lo_TDenied _))) (aLc wkI aLn)))))))) (aLc ⟨some _,rfl,bRc rfl (cKc wkI (cKc (wkr (lsL fun _=>(lo_TEdge _))) (cKc (wkr (lsL fun _=>(lsI _ _))) (cKc (wkr (lsL fun _=>(lsI _ _))) (cKc wkI (cKc (wkr (lsL fun _=>(lo_TOrdinary _))) cKn))))))⟩ (aLc ⟨some _,rfl,bRc rfl (cKc wkI (cKc (wkr (lsL fun _=>(lo_TDenied _))) cKn))⟩ aLn)))
   refine hK2 ?_;clear hK1 hK2 K1 K2
   refine HT_exit ?_
   refine Then_e ?_
   refine Then_e ?_
   refine InBlock_e ?_
   replace h:=W_xbk h
   replace h:=W_inl h
   refine iBn ?_
   refine tHn ?_
   refine HT_f dCo rfl fun K hK=>?_;conv=>whnf
   refine hK _ _ _ ?_;clear hK K
   refine tHn ?_
   replace h:=W_xnx h
   refine ⟨_,h,?_⟩
   refine weak_k ?_;conv=>whnf
   exact And.intro rfl (And.intro (aLc wkI (aLc wkI (aLc wkI (aLc (WkR.ptr (fun _=>rfl)) (aLc (WkR.ptr (fun _=>rfl)) aLn))))) (aLc ⟨some _,rfl,bRc rfl (cKc wkI (cKc (wkr (lsL fun _=>(lo_TEdge _))) (cKc (wkr (lsL fun _=>(lsI _ _))) (cKc (wkr (lsL fun _=>(lsI _ _))) (cKc wkI (cKc (wkr (lsL fun _=>(lo_TOrdinary _))) cKn))))))⟩ (aLc ⟨some _,rfl,bRc rfl (cKc wkI (cKc (wkr (lsL fun _=>(lo_TDenied _))) cKn))⟩ aLn)))
 refine hK2 ?_;clear hK1 hK2 K1 K2
 refine HT_exit ?_
 refine Then_e ?_
 refine Then_e ?_
 refine InBlock_e ?_
 replace h:=W_xbk h
 replace h:=W_inl h
 refine tHn ?_
 refine HT_fr dCo rfl fun K hK=>?_;conv=>whnf
 refine hK _ _ _ ?_;clear hK K
 refine HT_ret ?_
 replace h:=W_some h
 refine PostP_r dCo fun K hK=>?_;conv=>whnf
 refine hK _ ?_;clear hK K
 cases h
 exact Wk.refl _
end Go.Proofs.Ytkjccabdpeldhaa
namespace Go.Proofs.Ytkjccabdpeldhaa
open Go Go.Eng
set_option maxRecDepth 100000
def alR (r:TReserve) (s:Nat):TReserve:=⟨⟨r.Net.N,adj r.Net.Edges fun e=>useN r.Calls s e r.Calls.length⟩,r.Urgent,r.Centres,r.Faults,[]⟩
section
variable {r:TReserve} (h:RV r)
include h
theorem al_rv {s:Nat} (hc:Car r s):RV (alR r s) where
 n:=h.n
 el:=by show (adj _ _).length≤20;rw [adj_len];exact h.el
 eg e he:=by
   obtain ⟨i,hi,rfl⟩:=List.getElem_of_mem he
   have hi':i<r.Net.Edges.length:=by
     have:i<(adj r.Net.Edges fun e=>useN r.Calls s e r.Calls.length).length:=hi
     rwa [adj_len] at this
   have e1:(alR r s).Net.Edges[i]=_:=(getD_lt hi).symm.trans (adj_get hi')
   rw [e1]
   have:=h.eg _ (getD_mem hi')
   exact ⟨this.1,this.2.1,this.2.2.1,hc i hi',capN_le h hi'⟩
 ul:=h.ul
 uv:=h.uv
 cl:=h.cl
 cv:=h.cv
 ft:=h.ft
 kl:=by show 0≤8;omega
 kv o ho:=by cases (show o∈([]:List TOrdinary) from ho)
omit h in
theorem al_net (r:TReserve) (s:Nat):netL (alR r s) 0=netL r s:=by
 have:lvE (alR r s) 0=lvE r s:=by
   show adj (adj r.Net.Edges fun e=>useN r.Calls s e r.Calls.length) (fun _=>0)++cenE r r.Centres.length=_
   rw [adj_zero];rfl
 unfold netL
 rw [this];rfl
omit h in
theorem al_mg (r:TReserve) (s nd:Nat):mgR (alR r s) 0 nd=mgR r s nd:=by
 unfold mgR
 rw [al_net];rfl
theorem al_loop {s:Nat}:∃ x,lp (law33_ReserveReasons_b1 (netL r s,lsu r,0)) FU (0,(⟨(⟨r.Net.N,r.Net.Edges⟩:TNet),r.Urgent,r.Centres,r.Faults,[]⟩:TReserve))=some (.inl (x,alR r s)):=by
 have hel:=h.el
 obtain ⟨z,e,h1,h2⟩:=lp_fold (body:=law33_ReserveReasons_b1 (netL r s,lsu r,0)) (fun k z=>z.1=(k:Int)∧z.2=(⟨⟨r.Net.N,adj r.Net.Edges fun e=>if e<k then useN r.Calls s e r.Calls.length else 0⟩,r.Urgent,r.Centres,r.Faults,[]⟩:TReserve)) r.Net.Edges.length (by omega) (fun k z hk ⟨h1,h2⟩=>by
   obtain ⟨i,R⟩:=z
   simp only at h1 h2
   subst h1 h2
   have hlv:k<(netL r s).Edges.length:=by show k<(lvE r s).length;rw [lv_len];omega
   have hg:(netL r s).Edges.getD k default=_:=lv_get1 (s:=s) hk
   unfold law33_ReserveReasons_b1
   simp only [jn_d,adj_len]
   rw [decide_eq_true (show (k:Int)<(r.Net.Edges.length:Int) by omega),decide_eq_true (show (k:Int)<((netL r s).Edges.length:Int) by omega)]
   simp only [cn_t]
   rw [ix_n hlv,gd_p _ (by omega),st_d,hg,Int.toNat_natCast,wr_id (x:=(k:Int)+1) (by omega) (by omega)]
   refine ⟨_,rfl,by simp only;omega,?_⟩
   simp only
   have:=adj_set (es:=r.Net.Edges) (u:=fun e=>if e<k then useN r.Calls s e r.Calls.length else 0) (u':=fun e=>if e<k+1 then useN r.Calls s e r.Calls.length else 0) (e:=k) (a:=useN r.Calls s k r.Calls.length) hk (by
     simp only [Nat.lt_irrefl,if_false,Nat.lt_succ_self,if_true];omega) (fun x hx=>by
     by_cases q:x<k
     · rw [if_pos q,if_pos (by omega)]
     · rw [if_neg q,if_neg (by omega)])
   rw [adj_get hk] at this ⊢
   simp only [Nat.lt_irrefl,if_false,Int.sub_zero] at this ⊢
   have hcap:capN r s k=(r.Net.Edges.getD k default).Capacity-useN r.Calls s k r.Calls.length:=rfl
   rw [hcap,this]) (fun z ⟨h1,h2⟩=>by
   obtain ⟨i,R⟩:=z
   simp only at h1 h2
   subst h1 h2
   unfold law33_ReserveReasons_b1
   simp only [jn_d,adj_len]
   rw [decide_eq_false (show ¬ (r.Net.Edges.length:Int)<(r.Net.Edges.length:Int) by omega)]
   simp only [cn_f]) (0,_) ⟨rfl,by
     simp only
     rw [show (fun e=>if e<0 then useN r.Calls s e r.Calls.length else 0)=fun _=>0 from funext fun e=>if_neg (by omega),adj_zero]⟩
 refine ⟨z.1,?_⟩
 rw [e]
 have:z.2=alR r s:=by
   rw [h2]
   unfold alR
   congr 2
   exact adj_congr fun x hx=>(if_pos hx).symm
 rw [← this]
omit h in
theorem bent_ok (d:TDenied) {a n:Int} (oa:okI a):∃ d',ref33_BentDenied_F d a n=some d'∧(d'.Call=d.Call∨d'.Call=n)∧(d'.Failed=d.Failed∨d'.Failed=n):=by
 unfold ref33_BentDenied_F
 simp only [jn_d]
 rw [pick_r33 _ _ oa (by omega),bd_s]
 simp only [cn_beq]
 by_cases q0:pickZ a 4=0
 · rw [if_pos q0];exact ⟨_,rfl,.inr rfl,.inl rfl⟩
 rw [if_neg q0]
 by_cases q1:pickZ a 4=1
 · rw [if_pos q1];exact ⟨_,rfl,.inl rfl,.inl rfl⟩
 rw [if_neg q1]
 by_cases q2:pickZ a 4=2
 · rw [if_pos q2];exact ⟨_,rfl,.inl rfl,.inr rfl⟩
 rw [if_neg q2]
 exact ⟨_,rfl,.inl rfl,.inl rfl⟩
theorem rea_b3 {s:Nat} (hs:s<2 ^ r.Calls.length) (D:List TDenied) (x:Int) {L:List TDenied} (hL:∀ d∈L,okD d) (hl:L.length≤10):∃ z,lp (law33_ReserveReasons_b3 L r (⟨(s:Int),D⟩,x)) FU 0=some (.inl z):=by
 have hkl:=h.kl
 obtain ⟨z,e,_⟩:=lp_fold (body:=law33_ReserveReasons_b3 L r (⟨(s:Int),D⟩,x)) (fun k z=>z=(k:Int)) L.length (by omega) (fun k z hk hz=>by
   subst hz
   unfold law33_ReserveReasons_b3
   simp only [jn_d]
   rw [cn_dec,if_pos (by omega),ix_n hk,wr_id (x:=(k:Int)+1) (by omega) (by omega)]
   refine ⟨(k:Int)+1,?_,by omega⟩
   obtain ⟨oC,oF⟩:=hL _ (getD_mem hk)
   generalize L.getD k default=d at oC oF
   rw [cn_dec]
   by_cases q:d.Call<0
   · rw [if_pos q,cn_t]
   rw [if_neg q]
   by_cases q2:d.Call≥(r.Calls.length:Int)
   · rw [decide_eq_true q2,cn_t]
   rw [decide_eq_false q2,cn_f,gd_p _ (by omega)]
   obtain ⟨i,hi⟩:∃ i:Nat,d.Call=(i:Int):=⟨_,(Int.toNat_of_nonneg (by omega)).symm⟩
   rw [hi]
   have hik:i<r.Calls.length:=by omega
   have hmask:=mask_ok h hs hik
   have hs2:s&&&(2 ^ i-1)<2 ^ r.Calls.length:=Nat.lt_of_le_of_lt Nat.and_le_left hs
   rw [hmask]
   obtain ⟨b,e1,e2,_⟩:=cd_ok h hs2 (d:=d) oF oC
   rw [e1,bd_s]
   cases b
   · rw [cn_f,cn_f]
   · have hns:=e2 i hi rfl
     have hor:bor .i64 ((s&&&(2 ^ i-1):Nat):Int) (bshl .i64 1 (i:Int))=(((s&&&(2 ^ i-1))|||2 ^ i:Nat):Int):=by
       have hs8:2 ^ r.Calls.length≤2 ^ 8:=Nat.pow_le_pow_right (by omega) hkl
       have hp:(2:Int) ^ i=((2 ^ i:Nat):Int):=by norm_cast
       have hi8:2 ^ i≤2 ^ 8:=Nat.pow_le_pow_right (by omega) (by omega)
       have hip:=Nat.two_pow_pos i
       rw [bshl_one (by omega),hp,bor_nat (by omega) (by omega) (by omega) (by omega),Int.toNat_natCast,Int.toNat_natCast]
     have hlt:(s&&&(2 ^ i-1))|||2 ^ i<2 ^ r.Calls.length:=Nat.or_lt_two_pow hs2 (Nat.pow_lt_pow_right (by omega) hik)
     obtain ⟨c,e3,hc⟩:=Safe_ok h hlt
     rw [cn_t,gd_p _ (by omega),hor,e3,bd_s]
     cases c
     · rw [cn_f]
     · exact absurd (hc.1 rfl) hns) (fun z hz=>by
   unfold law33_ReserveReasons_b3
   rw [cn_dec,if_neg (by omega)]) 0 rfl
 exact ⟨z,e⟩
theorem rea_b2 {a2 a3:Int} (o2:okI a2) (o3:okI a3) {s:Nat} (hs:s<2 ^ r.Calls.length) {D:List TDenied} (hD:∀ d∈D,okD d) (hl:D.length≤8) (x:Int):∃ z,lp (law33_ReserveReasons_b2 a2 a3 r (⟨(s:Int),D⟩,x)) FU 0=some (.inl z):=by
 obtain ⟨z,e,_⟩:=lp_fold (body:=law33_ReserveReasons_b2 a2 a3 r (⟨(s:Int),D⟩,x)) (fun k z=>z=(k:Int)) D.length (by omega) (fun k z hk hz=>by
   subst hz
   unfold law33_ReserveReasons_b2
   simp only
   obtain ⟨d',e1,c1,c2⟩:=bent_ok (D.getD k default) (n:=a3) o2
   have hd:=hD _ (getD_mem hk)
   obtain ⟨z,e2⟩:=rea_b3 h hs D x (L:=[D.getD k default,d']) (fun d hd2=>by
     rcases List.mem_cons.1 hd2 with q | q
     · rw [q];exact hd
     · rw [List.mem_singleton.1 q]
       refine ⟨?_,?_⟩
       · rcases c1 with q | q<;>rw [q]
         · exact hd.1
         · exact o3
       · rcases c2 with q | q<;>rw [q]
         · exact hd.2
         · exact o3) (by simp)
   rw [cn_dec,if_pos (by omega),ix_n hk,ix_n hk,e1,bd_s,lt_d,e2,bd_s,smK_l,wr_id (by omega) (by omega)]
   exact ⟨_,rfl,by omega⟩) (fun z hz=>by
   unfold law33_ReserveReasons_b2
   rw [cn_dec,if_neg (by simp only;omega)]) 0 rfl
 exact ⟨z,e⟩
theorem lack_ok:∃ d b,reserve_Lack_F r=some (d,b)∧(b=true↔¬ SafeP r 0)∧(b=true→d.Call = -1∧∃ nd,nd<2 ^ r.Urgent.length∧mgR r 0 nd<0∧d=⟨-1,-1,((orL ((srt (netL r 0) nd).take r.Faults.toNat):Nat):Int),(nd:Int)⟩):=by
 unfold reserve_Lack_F
 rw [valid_ok h,bd_s,Bool.not_true,cn_f]
 rcases reason_ok h (s:=0) (by omega) (-1) with ⟨e,he,h1,_⟩ | ⟨h1,nd,n1,n2,h2,h3⟩
 · have:=car_0 h e he;omega
 · rw [show ((0:Nat):Int)=0 from rfl] at h2
   rw [h2,bd_s]
   simp only
   by_cases q:mgR r 0 nd<0
   · rw [decide_eq_true q,Bool.not_true,cn_f]
     exact ⟨_,_,rfl,⟨fun _ hs=>by have:=hs.2 nd n1 n2;omega,fun _=>rfl⟩,fun _=>⟨rfl,nd,n2,q,rfl⟩⟩
   · rw [decide_eq_false q,Bool.not_false,cn_t]
     exact ⟨_,_,rfl,⟨(fun hb=>by cases hb),fun hs=>absurd ⟨h1,fun nd' b1 b2=>(by have:=h3 nd' b1 b2;omega)⟩ hs⟩,(fun hb=>by cases hb)⟩
theorem fail_small {s nd:Nat} (hc:Car r s):orL ((srt (netL r s) nd).take r.Faults.toNat)<2 ^ (netL r s).Edges.length∧popc (orL ((srt (netL r s) nd).take r.Faults.toNat))≤r.Faults.toNat:=
 ⟨orL_lt fun e he=>by
   obtain ⟨a,rfl,ha,_⟩:=srt_mem (cn_ok h hc) (List.mem_of_mem_take he);omega,Nat.le_trans (orL_pop _) (by rw [List.length_take];omega)⟩
theorem rea_tail {a2 a3:Int} (o2:okI a2) (o3:okI a3):(bd (reserve_Admit_F r) fun y26=>cn (y26.2 != 0) (bd (reserve_Lack_F r) fun y27=>
   cn y27.2 (bd (reserve_CheckDenied_F r 0 y27.1) fun y30=>cn y30 (bd (reserve_Safe_F r 0) fun y31=>
   some (!y31)) (some false)) (some false)) (bd (lp (law33_ReserveReasons_b2 a2 a3 r y26) FU 0) fun c51=>smK c51 (fun _=>some true) (fun r53=>some r53)))=some true:=by
 have hkl:=h.kl
 rcases admit_ok h with ⟨h1,h2⟩ | ⟨h1,h2⟩
 · obtain ⟨d,b,e1,e2,e3⟩:=lack_ok h
   have hb:=e2.2 h1
   subst hb
   obtain ⟨hC,nd,n2,hm,hd⟩:=e3 rfl
   obtain ⟨f1,f2⟩:=fail_small h (s:=0) (nd:=nd) (car_0 h)
   have hl28:=net_len h 0
   have hp28:2 ^ (netL r 0).Edges.length≤2 ^ 28:=Nat.pow_le_pow_right (by omega) hl28
   have hoF:okI d.Failed:=by rw [hd];unfold okI;simp only;omega
   have e4:=cd_neg h (d:=d) hoF hC (.inr ⟨by rw [hd],car_0 h,nd,n2,hm,by rw [hd],by rw [hd]⟩)
   obtain ⟨c,e5,hc⟩:=Safe_ok h (s:=0) (Nat.two_pow_pos _)
   rw [show ((0:Nat):Int)=0 from rfl] at e5
   rw [h2,bd_s,cn_bne,if_neg (by simp only;omega),e1,bd_s,cn_t,e4,bd_s,cn_t,e5,bd_s]
   cases c
   · rfl
   · exact absurd (hc.1 rfl) h1
 · obtain ⟨z,e⟩:=rea_b2 h o2 o3 (s:=admN r r.Calls.length) (adm_lt r _) (den_ok h).1 (den_ok h).2 0
   rw [h2,bd_s,cn_bne,if_pos rfl,e,bd_s,smK_l]
end
theorem plain10 (a0:TNumbers) (a1 a2 a3:Int) (o0:okTNumbers a0) (o1:okI a1) (o2:okI a2) (o3:okI a3):law33_ReserveReasons_F a0 a1 a2 a3=some true:=by
 unfold law33_ReserveReasons_F
 rw [sane_ok,bd_s]
 simp only [Bool.not_true,cn_f,jn_d]
 obtain ⟨r,e,hr⟩:=made_ok a0 o0
 have h:=hr.toRV
 obtain ⟨s,hs,e2⟩:=set_of h o1
 have hn:=h.n;have hul:=h.ul;have hcl:=h.cl;have hft:=h.ft;have hel:=h.el
 have ht:=rea_tail h o2 o3
 rw [e,bd_s,gd_p _ (by omega),e2,bd_s,h.copy,bd_s]
 simp only [ht]
 rcases Left_ok h hs with ⟨_,k2⟩ | ⟨hc,k2⟩
 · rw [k2,bd_s,cn_beq,if_neg (by simp only;omega)]
 obtain ⟨x,el⟩:=al_loop h (s:=s)
 rw [k2,bd_s,cn_beq,if_pos rfl,el,bd_s,smK_l]
 simp only
 have ha:=al_rv h hc
 obtain ⟨d,b,e3,e4,e5⟩:=lack_ok ha
 obtain ⟨c,e6,hc6⟩:=Safe_ok h hs
 have e3':reserve_Lack_F (⟨(⟨(alR r s).Net.N,(alR r s).Net.Edges⟩:TNet),(alR r s).Urgent,(alR r s).Centres,(alR r s).Faults,(alR r s).Calls⟩:TReserve)=some (d,b):=e3
 rw [e3',bd_s,e6,bd_s]
 simp only
 have hsf:SafeP (alR r s) 0↔SafeP r s:=by
   constructor
   · intro q
     exact ⟨hc,fun nd n1 n2=>by have:=q.2 nd n1 n2;rwa [al_mg] at this⟩
   · intro q
     exact ⟨car_0 ha,fun nd n1 n2=>by rw [al_mg];exact q.2 nd n1 n2⟩
 cases b
 · have:c=true:=hc6.2 (hsf.1 (Classical.not_not.1 fun q=>by have:=e4.2 q;cases this))
   subst this
   simp only [cn_f,show (false==true)=false from rfl]
 · have hns:¬ SafeP r s:=fun q=>e4.1 rfl (hsf.2 q)
   have:c=false:=by
     cases c
     · rfl
     · exact absurd (hc6.1 rfl) hns
   subst this
   obtain ⟨_,nd,n2,hm,hd⟩:=e5 rfl
   rw [al_mg] at hm
   rw [al_net] at hd
   have hfl:(alR r s).Faults=r.Faults:=rfl
   rw [hfl] at hd
   obtain ⟨f1,f2⟩:=fail_small h (s:=s) (nd:=nd) hc
   have hl28:=net_len h s
   have hp28:2 ^ (netL r s).Edges.length≤2 ^ 28:=Nat.pow_le_pow_right (by omega) hl28
   have hx:=worst_refutes h hc n2 hm
   rw [hd]
   generalize orL ((srt (netL r s) nd).take r.Faults.toNat)=F at f1 f2 hx
   have hF':(F:Int)<2 ^ (netL r s).Edges.length:=by exact_mod_cast f1
   have hul2:(lsu r).length≤14:=by rw [lsu_len];omega
   rw [← ssum_us hul2,← cut_wo] at hx
   obtain ⟨S',eM⟩:=ref_not h hc (F:=F) hx
   obtain ⟨m,em,hm2⟩:=Fl.checkMeet_iff (Fl.wo (netL r s) F) (lsu r) ⟨false,[],(nd:Int)⟩ (by simp)
   have hmt:m=true:=hm2.2 ⟨net_sup h hc F,by
     rw [if_neg (by simp)]
     refine ⟨rfl,by simp only;omega,?_,by simp only [Int.toNat_natCast];exact hx⟩
     have:(Fl.wo (netL r s) F).N.toNat=r.Urgent.length+1:=net_N h s
     rw [this]
     simp only
     have n2':nd<2 ^ r.Urgent.length:=n2
     have h2:nd<2 ^ (r.Urgent.length+1):=by rw [Nat.pow_succ];omega
     exact_mod_cast h2⟩
   rw [hmt] at em
   simp only [cn_f,cn_t,show (true==false)=false from rfl]
   rw [Fl.Without_ok (net_nv h hc) hF',bd_s]
   simp only
   rw [eM,bd_s]
   simp only
   rw [cn_bne,if_pos rfl,cn_bne,if_pos rfl,cn_f,many_ok (by omega),bd_s,cn_dec,if_neg (by omega),em,bd_s,Bool.not_true,cn_f]
end Go.Proofs.Ytkjccabdpeldhaa
