import Derived.Test.YtgkmodjcoedonaaM5
set_option linter.unusedVariables false
set_option linter.unusedSimpArgs false
set_option linter.unusedSectionVars false
namespace Go.Proofs.Ytgkmodjcoedonaa
open Go Go.Eng
set_option maxHeartbeats 0
set_option maxRecDepth 100000

   def flow_Worst_b2 (a0 : TNet) (a3 : Int) (m11 : List Int) (y10 : List Int) (s12 : Int × TFailure) : Option (Ct (Int × TFailure) (TFailure × Int)) := cn (decide (s12.1 < (y10.length : Int))) (gd ((0 : Int) ≤ s12.1 ∧ s12.1 < (m11.length : Int)) (let v13 := (m11.getD (s12.1).toNat default);
   jn (fun p14 : TFailure => some (.nx ((wr (s12.1 + 1)), p14))) fun k15 =>
   cn (decide (s12.1 < a3)) (gd (0 ≤ v13) (k15 (⟨(bor .i64 s12.2.Failed (bshl .i64 1 v13)), s12.2.Value, s12.2.Cut⟩ : TFailure))) (ix a0.Edges default v13 fun e16 =>
   k15 (⟨s12.2.Failed, (wr (s12.2.Value + e16.Capacity)), s12.2.Cut⟩ : TFailure)))) (some (.bk (s12.1, s12.2)))
theorem W_bflow_Worst_b2 {a0 : TNet} {a3 : Int} {m11 : List Int} {y10 : List Int} {s12 : Int × TFailure} {Φ : Ct (Int × TFailure) (TFailure × Int) → Prop} (h : W (flow_Worst_b2 a0 a3 m11 y10 s12) Φ) : W (cn (decide (s12.1 < (y10.length : Int))) (gd ((0 : Int) ≤ s12.1 ∧ s12.1 < (m11.length : Int)) (let v13 := (m11.getD (s12.1).toNat default); jn (fun p14 : TFailure =>
   some (.nx ((wr (s12.1 + 1)), p14))) fun k15 =>
   cn (decide (s12.1 < a3)) (gd (0 ≤ v13) (k15 (⟨(bor .i64 s12.2.Failed (bshl .i64 1 v13)), s12.2.Value, s12.2.Cut⟩ : TFailure))) (ix a0.Edges default v13 fun e16 =>
   k15 (⟨s12.2.Failed, (wr (s12.2.Value + e16.Capacity)), s12.2.Cut⟩ : TFailure)))) (some (.bk (s12.1, s12.2)))) Φ := h

   def flow_Worst_b1 (a0 : TNet) (a1 : Int) (a2 : Int) (a3 : Int) (s5 : Int × TFailure) : Option (Ct (Int × TFailure) (TFailure × Int)) := cn (decide (s5.1 < (bshl .i64 1 a0.N))) (jn (fun p6 : TFailure =>
   some (.nx ((wr (s5.1 + 1)), p6))) fun k7 => jn (fun p8 : Bool => cn p8 (k7 s5.2) (bd (slices_Collect_int_F a0 s5.1) fun y10 => gd (sortG a0 y10 =
   true) (lt (sortN a0 y10) fun m11 => bd (lp (flow_Worst_b2 a0 a3 m11 y10) FU (0, (⟨0, 0, s5.1⟩ : TFailure))) fun c17 => smK c17 (fun s18 => jn (fun p20 : Bool =>
   jn (fun p22 : TFailure => k7 p22) fun k23 => cn p20 (k23 s18.2) (k23 s5.2)) fun k21 =>
   cn (decide (s5.2.Value < 0)) (k21 true) (k21 (decide (s18.2.Value < s5.2.Value)))) (fun r19 => some (.rt r19))))) fun k9 => gd (0 ≤ a1) (cn ((band .i64 (bshr .i64 s5.1 a1) 1) ==
   0) (k9 true) (gd (0 ≤ a2) (k9 ((band .i64 (bshr .i64 s5.1 a2) 1) == 1))))) (some (.bk (s5.1, s5.2)))
theorem W_bflow_Worst_b1 {a0 : TNet} {a1 : Int} {a2 : Int} {a3 : Int} {s5 : Int × TFailure} {Φ : Ct (Int × TFailure) (TFailure × Int) → Prop} (h : W (flow_Worst_b1 a0 a1 a2 a3 s5) Φ) : W (cn (decide (s5.1 < (bshl .i64 1 a0.N))) (jn (fun p6 : TFailure => some (.nx ((wr (s5.1 + 1)), p6))) fun k7 => jn (fun p8 : Bool =>
   cn p8 (k7 s5.2) (bd (slices_Collect_int_F a0 s5.1) fun y10 => gd (sortG a0 y10 = true) (lt (sortN a0 y10) fun m11 =>
   bd (lp (flow_Worst_b2 a0 a3 m11 y10) FU (0, (⟨0, 0, s5.1⟩ : TFailure))) fun c17 => smK c17 (fun s18 => jn (fun p20 : Bool => jn (fun p22 : TFailure => k7 p22) fun k23 =>
   cn p20 (k23 s18.2) (k23 s5.2)) fun k21 => cn (decide (s5.2.Value < 0)) (k21 true) (k21 (decide (s18.2.Value < s5.2.Value)))) (fun r19 => some (.rt r19))))) fun k9 =>
   gd (0 ≤ a1) (cn ((band .i64 (bshr .i64 s5.1 a1) 1) == 0) (k9 true) (gd (0 ≤ a2) (k9 ((band .i64 (bshr .i64 s5.1 a2) 1) == 1))))) (some (.bk (s5.1, s5.2)))) Φ := h
def flow_Worst_F (a0 : TNet) (a1 : Int) (a2 : Int) (a3 : Int) : Option (TFailure × Int) := jn (fun p1 : Bool =>
   cn p1 (some ((⟨0, 0, 0⟩ : TFailure), 270)) (gd (0 ≤ a0.N) (bd (lp (flow_Worst_b1 a0 a1 a2 a3) FU (0, (⟨0, (-1), 0⟩ : TFailure))) fun c24 => smK c24 (fun s25 =>
   some (s25.2, 0)) (fun r26 => some r26)))) fun k2 => bd (flow_isPair_F a0 a1 a2) fun y3 => cn (!y3) (k2 true) (bd (flow_isIn_F a3 0 3) fun y4 => k2 (!y4))
def flow_Worst_S : List AV → AV → Prop := fun args r => ∃ a0 a1 a2 a3, args = [eTNet a0, eI a1, eI a2, eI a3] ∧ W (flow_Worst_F a0 a1 a2 a3) fun y => r = (.tup [eTFailure y.1, eI y.2])
theorem flow_Worst_ok {T : Tbl} (hT : TOk Try.prog T) (hpf : PfOk T PF) (h46 : T 46 = pureR flow_isIn_S) (h50 : T 50 = pureR flow_isPair_S) (h61 : T 61 = ownR col_res col_blk slices_Collect_int_S) (h62 : T 62 = pureR flow_leaving_S) (h63 : T 63 = sortN_R) : FOk Try.prog 33 (pureR flow_Worst_S) := by
 refine FOk_pure hT hpf Try.func33 rfl Try.ntmps33 Try.results33 (by decide) ?_
 rintro args r ⟨a0, a1, a2, a3, rfl, h⟩
 refine ⟨nle rfl, ?_, ?_⟩
 · exact (lsC (lo_TNet _) (lsC (lsI _ _) (lsC (lsI _ _) (lsC (lsI _ _) loose_nil))))
 rw [flow_Worst_F.eq_1] at h
 refine HT_fr dCo rfl fun K hK => ?_; conv => whnf
 refine hK _ _ _ ?_; clear hK K
 refine HT_seq ?_
 refine HT_fr dCo rfl fun K hK => ?_; conv => whnf
 replace h := W_jn h
 refine nlA rfl ?_; conv => whnf
 refine bKo rfl ?_; conv => whnf
 refine nlA rfl ?_; conv => whnf
 replace h := W_bd h
 refine flow_isPair_call h50 h (WkL.refl _) (fun _ h => ?_); conv => whnf
 refine cond_lk h (fun _ h => ?_) (fun _ h => ?_) <;> (conv => whnf)
 · refine hK _ _ _ ?_; clear hK K
   refine HT_if fun K1 K2 hK1 hK2 => ?_; conv => whnf
   refine hK1 ?_; clear hK1 hK2 K1 K2
   replace h := W_cnT h
   refine HT_fr dCo rfl fun K hK => ?_; conv => whnf
   refine bKo rfl ?_; conv => whnf
   refine And.intro rfl (And.intro (nle rfl) (And.intro rfl ?_)); conv => whnf
   refine hK _ _ _ ?_; clear hK K
   refine HT_ret ?_
   refine Then_r ?_
   replace h := W_some h
   refine PostP_r dCo fun K hK => ?_; conv => whnf
   refine nlA rfl ?_; conv => whnf
   refine bKo rfl ?_; conv => whnf
   refine nlA rfl ?_; conv => whnf
   refine hK _ ?_; clear hK K
   cases h
   exact Wk.refl _
 replace h := W_bd h
 refine flow_isIn_call h46 h (WkL.refl _) (fun _ h => ?_); conv => whnf
 refine hK _ _ _ ?_; clear hK K
 refine HT_if fun K1 K2 hK1 hK2 => ?_; conv => whnf
 refine cond_lk h (fun _ h => ?_) (fun _ h => ?_)
 · refine hK1 ?_; clear hK1 hK2 K1 K2
   refine HT_fr dCo rfl fun K hK => ?_; conv => whnf
   refine bKo rfl ?_; conv => whnf
   refine And.intro rfl (And.intro (nle rfl) (And.intro rfl ?_)); conv => whnf
   refine hK _ _ _ ?_; clear hK K
   refine HT_ret ?_
   refine Then_r ?_
   replace h := W_some h
   refine PostP_r dCo fun K hK => ?_; conv => whnf
   refine nlA rfl ?_; conv => whnf
   refine bKo rfl ?_; conv => whnf
   refine nlA rfl ?_; conv => whnf
   refine hK _ ?_; clear hK K
   cases h
   exact Wk.refl _
 refine hK2 ?_; clear hK1 hK2 K1 K2
 refine HT_skip ?_
 refine Then_n ?_
 refine HT_fr dCo rfl fun K hK => ?_; conv => whnf
 refine bKo rfl ?_; conv => whnf
 refine And.intro rfl (And.intro (nle rfl) (And.intro rfl ?_)); conv => whnf
 refine hK _ _ _ ?_; clear hK K
 refine HT_seq ?_
 refine HT_fr dCo rfl fun K hK => ?_; conv => whnf
 refine nlA rfl ?_; conv => whnf
 refine bKo rfl ?_; conv => whnf
 refine getK_of rfl ?_; conv => whnf
 refine gd_lk h fun _ h => ?_; conv => whnf
 refine hK _ _ _ ?_; clear hK K
 refine HT_block ?_
 refine HT_frzK 4 ?_; (conv => whnf); refine ⟨_, rfl, ?_⟩
 replace h := W_bd h
 refine HT_lpK (body := flow_Worst_b1 _ _ _ _) rfl h [1, 2, 3, 4, 8, 10, 30] [8] [10] (fun kl kh ids b s => ⟨ofL ([(31, eI s.1)] ++ kl), ofH ([(nthN ids 0, .cells [eI s.2.Failed, eI s.2.Value, eI s.2.Cut])] ++ kh), b + 64⟩) ?_; (conv => whnf); refine And.intro ?_ (fun s m h => HT_st ?_)
 · refine weak_k ?_; conv => whnf
   exact And.intro rfl (And.intro (aLc wkI (aLc wkI (aLc wkI (aLc wkI (aLc (wkr (loose_ep (lsC (lsI _ _) (lsC (lsL fun _ => (lo_TEdge _)) loose_nil)))) (aLc (WkR.ptr (fun _ => rfl)) (aLc (WkR.ptr (fun _ => rfl)) (aLc wkI aLn)))))))) (aLc ⟨some _, rfl, BkR_c rfl (cKc wkI (cKc wkI (cKc wkI cKn)))⟩ (aLc ⟨some _, rfl, BkR_c rfl (cKc wkI (cKc wkI (cKc wkI cKn)))⟩ aLn)))
 replace h := W_bflow_Worst_b1 (W_bd h)
 refine HT_fr dCo rfl fun K hK => ?_; conv => whnf
 refine hK _ _ _ ?_; clear hK K
 refine HT_seq ?_
 refine HT_if fun K1 K2 hK1 hK2 => ?_; conv => whnf
 refine cond_lk h (fun _ h => ?_) (fun _ h => ?_)
 · refine hK1 ?_; clear hK1 hK2 K1 K2
   refine HT_skip ?_
   refine Then_n ?_
   refine HT_seq ?_
   replace h := W_jn h
   refine HT_block ?_
   refine HT_fr dCo rfl fun K hK => ?_; conv => whnf
   refine hK _ _ _ ?_; clear hK K
   refine HT_seq ?_
   refine HT_fr dCo rfl fun K hK => ?_; conv => whnf
   replace h := W_jn h
   refine gd_lk h fun _ h => ?_; conv => whnf
   refine cond_lk h (fun _ h => ?_) (fun _ h => ?_) <;> (conv => whnf)
   · refine hK _ _ _ ?_; clear hK K
     refine HT_if fun K1 K2 hK1 hK2 => ?_; conv => whnf
     refine hK1 ?_; clear hK1 hK2 K1 K2
     replace h := W_cnT h
     refine HT_exit ?_
     refine Then_e ?_
     refine InBlock_e ?_
     refine Then_n ?_
     refine HT_f dCo rfl fun K hK => ?_; conv => whnf
     refine hK _ _ _ ?_; clear hK K
     refine Then_n ?_
     replace h := W_xnx h
     refine ⟨_, h, ?_⟩
     refine weak_k ?_; conv => whnf
     exact And.intro rfl (And.intro (aLc wkI (aLc wkI (aLc wkI (aLc wkI (aLc (wkr (loose_ep (lsC (lsI _ _) (lsC (lsL fun _ => (lo_TEdge _)) loose_nil)))) (aLc (WkR.ptr (fun _ => rfl)) (aLc (WkR.ptr (fun _ => rfl)) (aLc wkI aLn)))))))) (aLc ⟨some _, rfl, BkR_c rfl (cKc wkI (cKc wkI (cKc wkI cKn)))⟩ (aLc ⟨some _, rfl, BkR_c rfl (cKc wkI (cKc wkI (cKc wkI cKn)))⟩ aLn)))
   refine gd_lk h fun _ h => ?_; conv => whnf
   refine hK _ _ _ ?_; clear hK K
   refine HT_if fun K1 K2 hK1 hK2 => ?_; conv => whnf
   refine cond_lk h (fun _ h => ?_) (fun _ h => ?_)
   · refine hK1 ?_; clear hK1 hK2 K1 K2
     refine HT_exit ?_
     refine Then_e ?_
     refine InBlock_e ?_
     refine Then_n ?_
     refine HT_f dCo rfl fun K hK => ?_; conv => whnf
     refine hK _ _ _ ?_; clear hK K
     refine Then_n ?_
     replace h := W_xnx h
     refine ⟨_, h, ?_⟩
     refine weak_k ?_; conv => whnf
     exact And.intro rfl (And.intro (aLc wkI (aLc wkI (aLc wkI (aLc wkI (aLc (wkr (loose_ep (lsC (lsI _ _) (lsC (lsL fun _ => (lo_TEdge _)) loose_nil)))) (aLc (WkR.ptr (fun _ => rfl)) (aLc (WkR.ptr (fun _ => rfl)) (aLc wkI aLn)))))))) (aLc ⟨some _, rfl, BkR_c rfl (cKc wkI (cKc wkI (cKc wkI cKn)))⟩ (aLc ⟨some _, rfl, BkR_c rfl (cKc wkI (cKc wkI (cKc wkI cKn)))⟩ aLn)))
   refine hK2 ?_; clear hK1 hK2 K1 K2
   refine HT_skip ?_
   refine Then_n ?_
   refine HT_fr dCo rfl fun K hK => ?_; conv => whnf
   refine nlA rfl ?_; conv => whnf
   refine callpK_pure h62 (S := flow_leaving_S) ⟨a0, _, rfl, rfl⟩ (loose_fn loose_nil (lsC (loose_ep (lsC (lsI _ _) (lsC (lsL fun _ => (lo_TEdge _)) loose_nil))) (lsC (loose_ep (lsC (lsI _ _) loose_nil)) loose_nil))) (WkL.refl _) ?_; conv => whnf
   refine callsK_own h61 h (fun y e => (⟨_, _, rfl, e⟩ : slices_Collect_int_S _ _)) (WkL.refl _) (fun _ h => ?_); conv => whnf
   refine hK _ _ _ ?_; clear hK K
   refine HT_fr dCo rfl fun K hK => ?_; conv => whnf
   refine gd_lk_u h fun hg h => ?_
   replace h := W_lt h
   refine callsK_blk h63 (WkL.refl _) rfl (sortN_S_mk64 hg) ?_; conv => whnf
   refine hK _ _ _ ?_; clear hK K
   refine HT_fr dCo rfl fun K hK => ?_; conv => whnf
   refine bKo rfl ?_; conv => whnf
   refine And.intro rfl (And.intro (nle rfl) (And.intro rfl ?_)); conv => whnf
   refine hK _ _ _ ?_; clear hK K
   refine HT_seq ?_
   refine HT_fr dCo rfl fun K hK => ?_; conv => whnf
   refine hK _ _ _ ?_; clear hK K
   refine HT_block ?_
   replace h := W_bd h
   refine HT_lpR (body := flow_Worst_b2 _ _ _ _) rfl h [1, 2, 3, 4, 8, 10, 13, 30, 31, 55, 56] [8, 10] [55] [13] (fun kl kh kr ids b s => ⟨ofL ([(57, eI s.1)] ++ kl), ofH (([(nthN ids 0, .cells [eI s.2.Failed, eI s.2.Value, eI s.2.Cut])] ++ kh) ++ ([] ++ kr)), b + 64⟩) ?_; (conv => whnf); refine And.intro ?_ (fun s m h => HT_st ?_)
   · refine weak_r ?_; conv => whnf
     exact And.intro rfl (And.intro (aLc wkI (aLc wkI (aLc wkI (aLc wkI (aLc (wkr (loose_ep (lsC (lsI _ _) (lsC (lsL fun _ => (lo_TEdge _)) loose_nil)))) (aLc (WkR.ptr (fun _ => rfl)) (aLc (WkR.ptr (fun _ => rfl)) (aLc (WkR.ptr (fun _ => rfl)) (aLc wkI (aLc wkI (aLc (WkR.so (fun _ => rfl)) (aLc wkI aLn)))))))))))) (aLc ⟨some _, rfl, BkR_c rfl (cKc wkI (cKc wkI (cKc wkI cKn)))⟩ (aLc ⟨some _, rfl, BkR_c rfl (cKc wkI (cKc wkI (cKc wkI cKn)))⟩ (aLc ⟨some _, rfl, BkR_c rfl (cKc wkI (cKc wkI (cKc wkI cKn)))⟩ (aLc ⟨some _, rfl, BkR_r rfl (fun _ => (lsC (lsI _ _) loose_nil))⟩ aLn)))))
   replace h := W_bflow_Worst_b2 (W_bd h)
   refine HT_fr dCo rfl fun K hK => ?_; conv => whnf
   refine hK _ _ _ ?_; clear hK K
   refine HT_seq ?_
   refine HT_if fun K1 K2 hK1 hK2 => ?_; conv => whnf
   refine cond_lk h (fun _ h => ?_) (fun _ h => ?_)
   · refine hK1 ?_; clear hK1 hK2 K1 K2
     refine HT_skip ?_
     refine Then_n ?_
     refine HT_seq ?_
     refine HT_block ?_
     refine HT_fr dCo rfl fun K hK => ?_; conv => whnf
     refine gd_lkN h (sortN_len _ _) fun hx63 h => ?_; conv => whnf
     refine nlA rfl ?_; conv => whnf
     refine bKo rfl ?_; conv => whnf
     refine get_flN (enc := eI) (d := default) (q := 0) (fun _ => rfl) (sortN_len _ _) hx63 (nle rfl) rfl ?_; conv => whnf
     refine hK _ _ _ ?_; clear hK K
     refine HT_fr dCo rfl fun K hK => ?_; conv => whnf
     refine hK _ _ _ ?_; clear hK K
     replace h := W_jn h
     refine HT_if fun K1 K2 hK1 hK2 => ?_; conv => whnf
     refine cond_lk h (fun _ h => ?_) (fun _ h => ?_)
     · refine hK1 ?_; clear hK1 hK2 K1 K2
       refine HT_fD dCo mix_ok rfl (by kernel_rfl) fun K hK => ?_; conv => whnf
       refine nlA rfl ?_; conv => whnf
       refine bKo rfl ?_; conv => whnf
       refine getK_of rfl ?_; conv => whnf
       refine gd_lk h fun _ h => ?_; conv => whnf
       refine bKo rfl ?_; conv => whnf
       refine And.intro rfl (And.intro (nle rfl) (And.intro rfl ?_)); conv => whnf
       refine hK _ _ _ ?_; clear hK K
       refine InBlock_n ?_
       refine Then_n ?_
       refine HT_f dCo rfl fun K hK => ?_; conv => whnf
       refine hK _ _ _ ?_; clear hK K
       refine Then_n ?_
       replace h := W_xnx h
       refine ⟨_, h, ?_⟩
       refine weak_r ?_; conv => whnf
       exact And.intro rfl (And.intro (aLc wkI (aLc wkI (aLc wkI (aLc wkI (aLc (wkr (loose_ep (lsC (lsI _ _) (lsC (lsL fun _ => (lo_TEdge _)) loose_nil)))) (aLc (WkR.ptr (fun _ => rfl)) (aLc (WkR.ptr (fun _ => rfl)) (aLc (WkR.ptr (fun _ => rfl)) (aLc wkI (aLc wkI (aLc (WkR.so (fun _ => rfl)) (aLc wkI aLn)))))))))))) (aLc ⟨some _, rfl, BkR_c rfl (cKc wkI (cKc wkI (cKc wkI cKn)))⟩ (aLc ⟨some _, rfl, BkR_c rfl (cKc wkI (cKc wkI (cKc wkI cKn)))⟩ (aLc ⟨some _, rfl, BkR_c rfl (cKc wkI (cKc wkI (cKc wkI cKn)))⟩ (aLc ⟨some _, rfl, BkR_r rfl (fun _ => (lsC (lsI _ _) loose_nil))⟩ aLn)))))
     refine hK2 ?_; clear hK1 hK2 K1 K2
     refine HT_fD dCo mix_ok rfl (by kernel_rfl) fun K hK => ?_; conv => whnf
     refine nlA rfl ?_; conv => whnf
     refine bKo rfl ?_; conv => whnf
     refine getK_of rfl ?_; conv => whnf
     refine getK_of rfl ?_; conv => whnf
     refine ix_lk h fun _ h => ?_; conv => whnf
     refine getK_of rfl ?_; conv => whnf
     refine bKo rfl ?_; conv => whnf
     refine And.intro rfl (And.intro (nle rfl) (And.intro rfl ?_)); conv => whnf
     refine hK _ _ _ ?_; clear hK K
     refine InBlock_n ?_
     refine Then_n ?_
     refine HT_f dCo rfl fun K hK => ?_; conv => whnf
     refine hK _ _ _ ?_; clear hK K
     refine Then_n ?_
     replace h := W_xnx h
     refine ⟨_, h, ?_⟩
     refine weak_r ?_; conv => whnf
     exact And.intro rfl (And.intro (aLc wkI (aLc wkI (aLc wkI (aLc wkI (aLc (wkr (loose_ep (lsC (lsI _ _) (lsC (lsL fun _ => (lo_TEdge _)) loose_nil)))) (aLc (WkR.ptr (fun _ => rfl)) (aLc (WkR.ptr (fun _ => rfl)) (aLc (WkR.ptr (fun _ => rfl)) (aLc wkI (aLc wkI (aLc (WkR.so (fun _ => rfl)) (aLc wkI aLn)))))))))))) (aLc ⟨some _, rfl, BkR_c rfl (cKc wkI (cKc wkI (cKc wkI cKn)))⟩ (aLc ⟨some _, rfl, BkR_c rfl (cKc wkI (cKc wkI (cKc wkI cKn)))⟩ (aLc ⟨some _, rfl, BkR_c rfl (cKc wkI (cKc wkI (cKc wkI cKn)))⟩ (aLc ⟨some _, rfl, BkR_r rfl (fun _ => (lsC (lsI _ _) loose_nil))⟩ aLn)))))
   refine hK2 ?_; clear hK1 hK2 K1 K2
   refine HT_exit ?_
   refine Then_e ?_
   refine Then_e ?_
   refine InBlock_e ?_
   replace h := W_xbk h
   replace h := W_inl h
   refine Then_n ?_
   refine HT_fr dCo rfl fun K hK => ?_; conv => whnf
   replace h := W_jn h
   refine nlA rfl ?_; conv => whnf
   refine bKo rfl ?_; conv => whnf
   refine getK_of rfl ?_; conv => whnf
   refine cond_lk h (fun _ h => ?_) (fun _ h => ?_) <;> (conv => whnf)
   · refine hK _ _ _ ?_; clear hK K
     replace h := W_jn h
     refine HT_if fun K1 K2 hK1 hK2 => ?_; conv => whnf
     refine hK1 ?_; clear hK1 hK2 K1 K2
     replace h := W_cnT h
     refine HT_f dCo rfl fun K hK => ?_; conv => whnf
     refine nlA rfl ?_; conv => whnf
     refine bKo rfl ?_; conv => whnf
     refine nlA rfl ?_; conv => whnf
     refine bKo rfl ?_; conv => whnf
     refine And.intro rfl (And.intro (nle rfl) (And.intro rfl ?_)); conv => whnf
     refine hK _ _ _ ?_; clear hK K
     refine InBlock_n ?_
     refine Then_n ?_
     refine HT_f dCo rfl fun K hK => ?_; conv => whnf
     refine hK _ _ _ ?_; clear hK K
     refine Then_n ?_
     replace h := W_xnx h
     refine ⟨_, h, ?_⟩
     refine weak_k ?_; conv => whnf
     exact And.intro rfl (And.intro (aLc wkI (aLc wkI (aLc wkI (aLc wkI (aLc (wkr (loose_ep (lsC (lsI _ _) (lsC (lsL fun _ => (lo_TEdge _)) loose_nil)))) (aLc (WkR.ptr (fun _ => rfl)) (aLc (WkR.ptr (fun _ => rfl)) (aLc wkI aLn)))))))) (aLc ⟨some _, rfl, BkR_c rfl (cKc wkI (cKc wkI (cKc wkI cKn)))⟩ (aLc ⟨some _, rfl, BkR_c rfl (cKc wkI (cKc wkI (cKc wkI cKn)))⟩ aLn)))
   refine nlA rfl ?_; conv => whnf
   refine bKo rfl ?_; conv => whnf
   refine getK_of rfl ?_; conv => whnf
   refine nlA rfl ?_; conv => whnf
   refine bKo rfl ?_; conv => whnf
   refine getK_of rfl ?_; conv => whnf
   refine hK _ _ _ ?_; clear hK K
   replace h := W_jn h
   refine HT_if fun K1 K2 hK1 hK2 => ?_; conv => whnf
   refine cond_lk h (fun _ h => ?_) (fun _ h => ?_)
   · refine hK1 ?_; clear hK1 hK2 K1 K2
     refine HT_f dCo rfl fun K hK => ?_; conv => whnf
     refine nlA rfl ?_; conv => whnf
     refine bKo rfl ?_; conv => whnf
     refine nlA rfl ?_; conv => whnf
     refine bKo rfl ?_; conv => whnf
     refine And.intro rfl (And.intro (nle rfl) (And.intro rfl ?_)); conv => whnf
     refine hK _ _ _ ?_; clear hK K
     refine InBlock_n ?_
     refine Then_n ?_
     refine HT_f dCo rfl fun K hK => ?_; conv => whnf
     refine hK _ _ _ ?_; clear hK K
     refine Then_n ?_
     replace h := W_xnx h
     refine ⟨_, h, ?_⟩
     refine weak_k ?_; conv => whnf
     exact And.intro rfl (And.intro (aLc wkI (aLc wkI (aLc wkI (aLc wkI (aLc (wkr (loose_ep (lsC (lsI _ _) (lsC (lsL fun _ => (lo_TEdge _)) loose_nil)))) (aLc (WkR.ptr (fun _ => rfl)) (aLc (WkR.ptr (fun _ => rfl)) (aLc wkI aLn)))))))) (aLc ⟨some _, rfl, BkR_c rfl (cKc wkI (cKc wkI (cKc wkI cKn)))⟩ (aLc ⟨some _, rfl, BkR_c rfl (cKc wkI (cKc wkI (cKc wkI cKn)))⟩ aLn)))
   refine hK2 ?_; clear hK1 hK2 K1 K2
   refine HT_skip ?_
   refine InBlock_n ?_
   refine Then_n ?_
   refine HT_f dCo rfl fun K hK => ?_; conv => whnf
   refine hK _ _ _ ?_; clear hK K
   refine Then_n ?_
   replace h := W_xnx h
   refine ⟨_, h, ?_⟩
   refine weak_k ?_; conv => whnf
   exact And.intro rfl (And.intro (aLc wkI (aLc wkI (aLc wkI (aLc wkI (aLc (wkr (loose_ep (lsC (lsI _ _) (lsC (lsL fun _ => (lo_TEdge _)) loose_nil)))) (aLc (WkR.ptr (fun _ => rfl)) (aLc (WkR.ptr (fun _ => rfl)) (aLc wkI aLn)))))))) (aLc ⟨some _, rfl, BkR_c rfl (cKc wkI (cKc wkI (cKc wkI cKn)))⟩ (aLc ⟨some _, rfl, BkR_c rfl (cKc wkI (cKc wkI (cKc wkI cKn)))⟩ aLn)))
 refine hK2 ?_; clear hK1 hK2 K1 K2
 refine HT_exit ?_
 refine Then_e ?_
 refine Then_e ?_
 refine InBlock_e ?_
 replace h := W_xbk h
 replace h := W_inl h
 refine Then_n ?_
 refine HT_fr dCo rfl fun K hK => ?_; conv => whnf
 refine nlA rfl ?_; conv => whnf
 refine bKo rfl ?_; conv => whnf
 refine nlA rfl ?_; conv => whnf
 refine bKo rfl ?_; conv => whnf
 refine And.intro rfl (And.intro (nle rfl) (And.intro rfl ?_)); conv => whnf
 refine hK _ _ _ ?_; clear hK K
 refine HT_ret ?_
 replace h := W_some h
 refine PostP_r dCo fun K hK => ?_; conv => whnf
 refine nlA rfl ?_; conv => whnf
 refine bKo rfl ?_; conv => whnf
 refine nlA rfl ?_; conv => whnf
 refine hK _ ?_; clear hK K
 cases h
 exact Wk.refl _
theorem flow_Worst_call {T : Tbl} (hT : T 33 = pureR flow_Worst_S) {args : List AV} {hp : Heap} {id : Nat} {k : AV → Prop} {a0 : TNet} {a1 : Int} {a2 : Int} {a3 : Int} {Φ : TFailure × Int → Prop} (h : W (flow_Worst_F a0 a1 a2 a3) Φ) (hw : WkL args [eTNet a0, eI a1, eI a2, eI a3]) (hk : ∀ y, Φ y → k (.tup [eTFailure y.1, eI y.2])) : callpK T 33 args hp id k := by
 obtain ⟨y, e, hy⟩ := W_inv h
 exact callpK_pure hT ⟨a0, a1, a2, a3, rfl, W_of e rfl⟩ (by exact loose_tup (lsC (lo_TFailure _) (lsC (lsI _ _) loose_nil))) hw (hk y hy)
end Go.Proofs.Ytgkmodjcoedonaa
namespace Go.Proofs.Ytgkmodjcoedonaa
open Go Go.Eng
set_option maxHeartbeats 0
set_option maxRecDepth 100000
def ref27_pick_F (a0 : Int) (a1 : Int) : Option Int := jn (fun p1 : Int => gd (a1 ≠ 0) (some (Int.tmod p1 a1))) fun k2 => cn (decide (a0 < 0)) (k2 (wr (0 - (wr (a0 + 1))))) (k2 a0)
def ref27_pick_S : List AV → AV → Prop := fun args r => ∃ a0 a1, args = [eI a0, eI a1] ∧ W (ref27_pick_F a0 a1) fun y => r = (eI y)
theorem ref27_pick_ok {T : Tbl} (hT : TOk Try.prog T) (hpf : PfOk T PF) : FOk Try.prog 45 (pureR ref27_pick_S) := by
 refine FOk_pure hT hpf Try.func45 rfl Try.ntmps45 Try.results45 (by decide) ?_
 rintro args r ⟨a0, a1, rfl, h⟩
 refine ⟨nle rfl, ?_, ?_⟩
 · exact (lsC (lsI _ _) (lsC (lsI _ _) loose_nil))
 rw [ref27_pick_F.eq_1] at h
 refine HT_fr dCo rfl fun K hK => ?_; conv => whnf
 refine hK _ _ _ ?_; clear hK K
 refine HT_seq ?_
 refine HT_fr dCo rfl fun K hK => ?_; conv => whnf
 refine hK _ _ _ ?_; clear hK K
 replace h := W_jn h
 refine HT_if fun K1 K2 hK1 hK2 => ?_; conv => whnf
 refine cond_lk h (fun _ h => ?_) (fun _ h => ?_)
 · refine hK1 ?_; clear hK1 hK2 K1 K2
   refine HT_f dCo rfl fun K hK => ?_; conv => whnf
   refine hK _ _ _ ?_; clear hK K
   refine Then_n ?_
   refine HT_fr dCo rfl fun K hK => ?_; conv => whnf
   refine gd_lk h fun _ h => ?_; conv => whnf
   refine hK _ _ _ ?_; clear hK K
   refine HT_ret ?_
   replace h := W_some h
   refine PostP_r dCo fun K hK => ?_; conv => whnf
   refine hK _ ?_; clear hK K
   cases h
   exact Wk.refl _
 refine hK2 ?_; clear hK1 hK2 K1 K2
 refine HT_skip ?_
 refine Then_n ?_
 refine HT_fr dCo rfl fun K hK => ?_; conv => whnf
 refine gd_lk h fun _ h => ?_; conv => whnf
 refine hK _ _ _ ?_; clear hK K
 refine HT_ret ?_
 replace h := W_some h
 refine PostP_r dCo fun K hK => ?_; conv => whnf
 refine hK _ ?_; clear hK K
 cases h
 exact Wk.refl _
theorem ref27_pick_call {T : Tbl} (hT : T 45 = pureR ref27_pick_S) {args : List AV} {hp : Heap} {id : Nat} {k : AV → Prop} {a0 : Int} {a1 : Int} {Φ : Int → Prop} (h : W (ref27_pick_F a0 a1) Φ) (hw : WkL args [eI a0, eI a1]) (hk : ∀ y, Φ y → k (eI y)) : callpK T 45 args hp id k := by
 obtain ⟨y, e, hy⟩ := W_inv h
 exact callpK_pure hT ⟨a0, a1, rfl, W_of e rfl⟩ (by exact (lsI _ _)) hw (hk y hy)
def ref27_Made_b1 (a1 : List (Int × Int × Int)) (s2 : Int × TNet) : Option (Ct (Int × TNet) TNet) := jn (fun p3 : Bool => cn p3 (ix a1 default s2.1 fun e5 =>
   bd (ref27_pick_F e5.1 s2.2.N) fun y6 => ix a1 default s2.1 fun e7 => bd (ref27_pick_F e7.2.1 (wr (s2.2.N - 1))) fun y8 =>
   gd (s2.2.N ≠ 0) (let v9 := (Int.tmod (wr ((wr (y6 + 1)) + y8)) s2.2.N); ix a1 default s2.1 fun e10 => bd (ref27_pick_F e10.2.2 20) fun y11 =>
   lt ([(⟨y6, v9, y11⟩ : TEdge)] : List TEdge) fun l12 => ap s2.2.Edges l12 fun l13 => some (.nx ((wr (s2.1 + 1)), (⟨s2.2.N, l13⟩ : TNet))))) (some (.bk (s2.1, s2.2)))) fun k4 =>
   cn (decide (s2.1 < (a1.length : Int))) (k4 (decide (s2.1 < 16))) (k4 false)
theorem W_bref27_Made_b1 {a1 : List (Int × Int × Int)} {s2 : Int × TNet} {Φ : Ct (Int × TNet) TNet → Prop} (h : W (ref27_Made_b1 a1 s2) Φ) : W (jn (fun p3 : Bool => cn p3 (ix a1 default s2.1 fun e5 => bd (ref27_pick_F e5.1 s2.2.N) fun y6 => ix a1 default s2.1 fun e7 => bd (ref27_pick_F e7.2.1 (wr (s2.2.N - 1))) fun y8 =>
   gd (s2.2.N ≠ 0) (let v9 := (Int.tmod (wr ((wr (y6 + 1)) + y8)) s2.2.N); ix a1 default s2.1 fun e10 => bd (ref27_pick_F e10.2.2 20) fun y11 =>
   lt ([(⟨y6, v9, y11⟩ : TEdge)] : List TEdge) fun l12 => ap s2.2.Edges l12 fun l13 => some (.nx ((wr (s2.1 + 1)), (⟨s2.2.N, l13⟩ : TNet))))) (some (.bk (s2.1, s2.2)))) fun k4 =>
   cn (decide (s2.1 < (a1.length : Int))) (k4 (decide (s2.1 < 16))) (k4 false)) Φ := h
def ref27_Made_F (a0 : Int) (a1 : List (Int × Int × Int)) : Option TNet := bd (ref27_pick_F a0 6) fun y1 =>
   bd (lp (ref27_Made_b1 a1) FU (0, (⟨(wr (2 + y1)), []⟩ : TNet))) fun c14 => smK c14 (fun s15 => some s15.2) (fun r16 => some r16)
def ref27_Made_S : List AV → AV → Prop := fun args r => ∃ a0 a1, args = [eI a0, (eL 3 eA23 default) a1] ∧ W (ref27_Made_F a0 a1) fun y => r = (eTNet y)
theorem ref27_Made_ok {T : Tbl} (hT : TOk Try.prog T) (hpf : PfOk T PF) (h45 : T 45 = pureR ref27_pick_S) : FOk Try.prog 15 (pureR ref27_Made_S) := by
 refine FOk_pure hT hpf Try.func15 rfl Try.ntmps15 Try.results15 (by decide) ?_
 rintro args r ⟨a0, a1, rfl, h⟩
 refine ⟨nle rfl, ?_, ?_⟩
 · exact (lsC (lsI _ _) (lsC (lsL fun _ => (lo_A23 _)) loose_nil))
 rw [ref27_Made_F.eq_1] at h
 refine HT_fr dCo rfl fun K hK => ?_; conv => whnf
 refine hK _ _ _ ?_; clear hK K
 refine HT_fr dCo rfl fun K hK => ?_; conv => whnf
 replace h := W_bd h
 refine ref27_pick_call h45 h (WkL.refl _) (fun _ h => ?_); conv => whnf
 refine bKo rfl ?_; conv => whnf
 refine And.intro rfl (And.intro (nle rfl) (And.intro rfl ?_)); conv => whnf
 refine hK _ _ _ ?_; clear hK K
 refine HT_seq ?_
 refine HT_fr dCo rfl fun K hK => ?_; conv => whnf
 refine hK _ _ _ ?_; clear hK K
 refine HT_block ?_
 replace h := W_bd h
 refine HT_lpK (body := ref27_Made_b1 _) rfl h [1, 4, 5] [4] [5] (fun kl kh ids b s => ⟨ofL ([(6, eI s.1)] ++ kl), ofH ([(nthN ids 0, .cells [eI s.2.N, .lst (.tok (b + 0)) 3 s.2.Edges.length (fun j => eTEdge (s.2.Edges.getD j default))]), (b + 0, .cells [])] ++ kh), b + 128⟩) ?_; (conv => whnf); refine And.intro ?_ (fun s m h => HT_st ?_)
 · refine weak_k ?_; conv => whnf
   exact And.intro rfl (And.intro (aLc wkI (aLc (wkr (lsL fun _ => (lo_A23 _))) (aLc (WkR.ptr (fun _ => rfl)) (aLc (WkR.ptr (fun _ => rfl)) aLn)))) (aLc ⟨some _, rfl, BkR_c rfl (cKc wkI (cKc (WkR.nil (fun _ => rfl)) cKn))⟩ (aLc ⟨none, rfl, BkR_n⟩ (aLc ⟨some _, rfl, BkR_c rfl (cKc wkI (cKc (wkr loose_nils) cKn))⟩ aLn))))
 replace h := W_bref27_Made_b1 (W_bd h)
 refine HT_seq ?_
 refine HT_fr dCo rfl fun K hK => ?_; conv => whnf
 replace h := W_jn h
 refine cond_lk h (fun _ h => ?_) (fun _ h => ?_) <;> (conv => whnf)
 · refine hK _ _ _ ?_; clear hK K
   refine HT_if fun K1 K2 hK1 hK2 => ?_; conv => whnf
   refine cond_lk h (fun _ h => ?_) (fun _ h => ?_)
   · refine hK1 ?_; clear hK1 hK2 K1 K2
     refine HT_skip ?_
     refine Then_n ?_
     refine HT_seq ?_
     refine HT_block ?_
     refine HT_fd dCo mix_ok rfl (by kernel_rfl) fun K hK => ?_; conv => whnf
     refine ix_lk h fun _ h => ?_; conv => whnf
     refine And.intro (by decide) ?_; conv => whnf
     refine getK_of rfl ?_; conv => whnf
     refine nlA rfl ?_; conv => whnf
     refine bKo rfl ?_; conv => whnf
     refine getK_of rfl ?_; conv => whnf
     replace h := W_bd h
     refine ref27_pick_call h45 h (WkL.refl _) (fun _ h => ?_); conv => whnf
     refine hK _ _ _ ?_; clear hK K
     refine HT_fd dCo mix_ok rfl (by kernel_rfl) fun K hK => ?_; conv => whnf
     refine ix_lk h fun _ h => ?_; conv => whnf
     refine And.intro (by decide) ?_; conv => whnf
     refine getK_of rfl ?_; conv => whnf
     refine nlA rfl ?_; conv => whnf
     refine bKo rfl ?_; conv => whnf
     refine getK_of rfl ?_; conv => whnf
     replace h := W_bd h
     refine ref27_pick_call h45 h (WkL.refl _) (fun _ h => ?_); conv => whnf
     refine nlA rfl ?_; conv => whnf
     refine bKo rfl ?_; conv => whnf
     refine getK_of rfl ?_; conv => whnf
     refine gd_lk h fun _ h => ?_; conv => whnf
     refine hK _ _ _ ?_; clear hK K
     refine HT_fD dCo mix_ok rfl (by kernel_rfl) fun K hK => ?_; conv => whnf
     refine nlA rfl ?_; conv => whnf
     refine bKo rfl ?_; conv => whnf
     refine getK_of rfl ?_; conv => whnf
     refine ix_lk h fun _ h => ?_; conv => whnf
     refine And.intro (by decide) ?_; conv => whnf
     refine getK_of rfl ?_; conv => whnf
     replace h := W_bd h
     refine ref27_pick_call h45 h (WkL.refl _) (fun _ h => ?_); conv => whnf
     refine lt_lk (enc := eTEdge) (d := default) dCo h rfl rfl rfl ⟨nle rfl, nle rfl, rfl⟩ rfl ⟨⟨rfl, nle rfl⟩, trivial⟩ (fun h => ?_); conv => whnf
     refine ap_lk (enc := eTEdge) (d := default) dCo h (.inl rfl) rfl rfl rfl ⟨rfl, nle rfl, nle rfl, nle rfl, rfl⟩ (fun _ => rfl) (.inr (.inr ⟨_, _, rfl, rfl, rfl⟩)) (fun h => ?_); conv => whnf
     refine bKo rfl ?_; conv => whnf
     refine And.intro rfl (And.intro (nle rfl) (And.intro rfl ?_)); conv => whnf
     refine hK _ _ _ ?_; clear hK K
     refine InBlock_n ?_
     refine Then_n ?_
     refine HT_f dCo rfl fun K hK => ?_; conv => whnf
     refine hK _ _ _ ?_; clear hK K
     refine Then_n ?_
     replace h := W_xnx h
     refine ⟨_, h, ?_⟩
     refine weak_k ?_; conv => whnf
     exact And.intro rfl (And.intro (aLc wkI (aLc (wkr (lsL fun _ => (lo_A23 _))) (aLc (WkR.ptr (fun _ => rfl)) (aLc (WkR.ptr (fun _ => rfl)) aLn)))) (aLc ⟨some _, rfl, BkR_c rfl (cKc wkI (cKc (WkR.tok (fun _ => rfl) rfl (fun _ _ => Wk.refl _) (fun _ => (lo_TEdge _))) cKn))⟩ (aLc ⟨some _, rfl, BkR_c rfl cKn⟩ (aLc ⟨some _, rfl, BkR_c rfl (cKc wkI (cKc (wkr loose_nils) cKn))⟩ aLn))))
   refine hK2 ?_; clear hK1 hK2 K1 K2
   refine HT_exit ?_
   refine Then_e ?_
   refine Then_e ?_
   refine InBlock_e ?_
   replace h := W_xbk h
   replace h := W_inl h
   refine Then_n ?_
   refine HT_fr dCo rfl fun K hK => ?_; conv => whnf
   refine nlA rfl ?_; conv => whnf
   refine bKo rfl ?_; conv => whnf
   refine nlA rfl ?_; conv => whnf
   refine bKo rfl ?_; conv => whnf
   refine And.intro rfl (And.intro (nle rfl) (And.intro rfl ?_)); conv => whnf
   refine hK _ _ _ ?_; clear hK K
   refine HT_ret ?_
   replace h := W_some h
   refine PostP_r dCo fun K hK => ?_; conv => whnf
   refine nlA rfl ?_; conv => whnf
   refine bKo rfl ?_; conv => whnf
   refine nlA rfl ?_; conv => whnf
   refine hK _ ?_; clear hK K
   cases h
   exact (Wk_agg (WkL_cons (Wk.refl _) (WkL_cons Wk_free WkL_nil)))
 refine hK _ _ _ ?_; clear hK K
 refine HT_if fun K1 K2 hK1 hK2 => ?_; conv => whnf
 refine hK2 ?_; clear hK1 hK2 K1 K2
 replace h := W_cnF h
 refine HT_exit ?_
 refine Then_e ?_
 refine Then_e ?_
 refine InBlock_e ?_
 replace h := W_xbk h
 replace h := W_inl h
 refine Then_n ?_
 refine HT_fr dCo rfl fun K hK => ?_; conv => whnf
 refine nlA rfl ?_; conv => whnf
 refine bKo rfl ?_; conv => whnf
 refine nlA rfl ?_; conv => whnf
 refine bKo rfl ?_; conv => whnf
 refine And.intro rfl (And.intro (nle rfl) (And.intro rfl ?_)); conv => whnf
 refine hK _ _ _ ?_; clear hK K
 refine HT_ret ?_
 replace h := W_some h
 refine PostP_r dCo fun K hK => ?_; conv => whnf
 refine nlA rfl ?_; conv => whnf
 refine bKo rfl ?_; conv => whnf
 refine nlA rfl ?_; conv => whnf
 refine hK _ ?_; clear hK K
 cases h
 exact (Wk_agg (WkL_cons (Wk.refl _) (WkL_cons Wk_free WkL_nil)))
theorem ref27_Made_call {T : Tbl} (hT : T 15 = pureR ref27_Made_S) {args : List AV} {hp : Heap} {id : Nat} {k : AV → Prop} {a0 : Int} {a1 : List (Int × Int × Int)} {Φ : TNet → Prop} (h : W (ref27_Made_F a0 a1) Φ) (hw : WkL args [eI a0, (eL 3 eA23 default) a1]) (hk : ∀ y, Φ y → k (eTNet y)) : callpK T 15 args hp id k := by
 obtain ⟨y, e, hy⟩ := W_inv h
 exact callpK_pure hT ⟨a0, a1, rfl, W_of e rfl⟩ (by exact (lo_TNet _)) hw (hk y hy)
def law27_pick_F (a0 : Int) (a1 : Int) : Option Int := jn (fun p1 : Int => gd (a1 ≠ 0) (some (Int.tmod p1 a1))) fun k2 => cn (decide (a0 < 0)) (k2 (wr (0 - (wr (a0 + 1))))) (k2 a0)
def law27_pick_S : List AV → AV → Prop := fun args r => ∃ a0 a1, args = [eI a0, eI a1] ∧ W (law27_pick_F a0 a1) fun y => r = (eI y)
theorem law27_pick_ok {T : Tbl} (hT : TOk Try.prog T) (hpf : PfOk T PF) : FOk Try.prog 27 (pureR law27_pick_S) := by
 refine FOk_pure hT hpf Try.func27 rfl Try.ntmps27 Try.results27 (by decide) ?_
 rintro args r ⟨a0, a1, rfl, h⟩
 refine ⟨nle rfl, ?_, ?_⟩
 · exact (lsC (lsI _ _) (lsC (lsI _ _) loose_nil))
 rw [law27_pick_F.eq_1] at h
 refine HT_fr dCo rfl fun K hK => ?_; conv => whnf
 refine hK _ _ _ ?_; clear hK K
 refine HT_seq ?_
 refine HT_fr dCo rfl fun K hK => ?_; conv => whnf
 refine hK _ _ _ ?_; clear hK K
 replace h := W_jn h
 refine HT_if fun K1 K2 hK1 hK2 => ?_; conv => whnf
 refine cond_lk h (fun _ h => ?_) (fun _ h => ?_)
 · refine hK1 ?_; clear hK1 hK2 K1 K2
   refine HT_f dCo rfl fun K hK => ?_; conv => whnf
   refine hK _ _ _ ?_; clear hK K
   refine Then_n ?_
   refine HT_fr dCo rfl fun K hK => ?_; conv => whnf
   refine gd_lk h fun _ h => ?_; conv => whnf
   refine hK _ _ _ ?_; clear hK K
   refine HT_ret ?_
   replace h := W_some h
   refine PostP_r dCo fun K hK => ?_; conv => whnf
   refine hK _ ?_; clear hK K
   cases h
   exact Wk.refl _
 refine hK2 ?_; clear hK1 hK2 K1 K2
 refine HT_skip ?_
 refine Then_n ?_
 refine HT_fr dCo rfl fun K hK => ?_; conv => whnf
 refine gd_lk h fun _ h => ?_; conv => whnf
 refine hK _ _ _ ?_; clear hK K
 refine HT_ret ?_
 replace h := W_some h
 refine PostP_r dCo fun K hK => ?_; conv => whnf
 refine hK _ ?_; clear hK K
 cases h
 exact Wk.refl _
theorem law27_pick_call {T : Tbl} (hT : T 27 = pureR law27_pick_S) {args : List AV} {hp : Heap} {id : Nat} {k : AV → Prop} {a0 : Int} {a1 : Int} {Φ : Int → Prop} (h : W (law27_pick_F a0 a1) Φ) (hw : WkL args [eI a0, eI a1]) (hk : ∀ y, Φ y → k (eI y)) : callpK T 27 args hp id k := by
 obtain ⟨y, e, hy⟩ := W_inv h
 exact callpK_pure hT ⟨a0, a1, rfl, W_of e rfl⟩ (by exact (lsI _ _)) hw (hk y hy)
def law27_ends_F (a0 : TNet) (a1 : Int) (a2 : Int) : Option (Int × Int) := bd (law27_pick_F a1 a0.N) fun y1 => bd (law27_pick_F a2 (wr (a0.N - 1))) fun y2 =>
   gd (a0.N ≠ 0) (let v3 := (Int.tmod (wr ((wr (y1 + 1)) + y2)) a0.N); some (y1, v3))
def law27_ends_S : List AV → AV → Prop := fun args r => ∃ a0 a1 a2, args = [eTNet a0, eI a1, eI a2] ∧ W (law27_ends_F a0 a1 a2) fun y => r = (.tup [eI y.1, eI y.2])
theorem law27_ends_ok {T : Tbl} (hT : TOk Try.prog T) (hpf : PfOk T PF) (h27 : T 27 = pureR law27_pick_S) : FOk Try.prog 16 (pureR law27_ends_S) := by
 refine FOk_pure hT hpf Try.func16 rfl Try.ntmps16 Try.results16 (by decide) ?_
 rintro args r ⟨a0, a1, a2, rfl, h⟩
 refine ⟨nle rfl, ?_, ?_⟩
 · exact (lsC (lo_TNet _) (lsC (lsI _ _) (lsC (lsI _ _) loose_nil)))
 rw [law27_ends_F.eq_1] at h
 refine HT_fr dCo rfl fun K hK => ?_; conv => whnf
 refine hK _ _ _ ?_; clear hK K
 refine HT_fr dCo rfl fun K hK => ?_; conv => whnf
 refine nlA rfl ?_; conv => whnf
 refine bKo rfl ?_; conv => whnf
 refine getK_of rfl ?_; conv => whnf
 replace h := W_bd h
 refine law27_pick_call h27 h (WkL.refl _) (fun _ h => ?_); conv => whnf
 refine hK _ _ _ ?_; clear hK K
 refine HT_fd dCo mix_ok rfl (by kernel_rfl) fun K hK => ?_; conv => whnf
 refine nlA rfl ?_; conv => whnf
 refine bKo rfl ?_; conv => whnf
 refine getK_of rfl ?_; conv => whnf
 replace h := W_bd h
 refine law27_pick_call h27 h (WkL.refl _) (fun _ h => ?_); conv => whnf
 refine nlA rfl ?_; conv => whnf
 refine bKo rfl ?_; conv => whnf
 refine getK_of rfl ?_; conv => whnf
 refine gd_lk h fun _ h => ?_; conv => whnf
 refine hK _ _ _ ?_; clear hK K
 refine HT_ret ?_
 replace h := W_some h
 refine PostP_r dCo fun K hK => ?_; conv => whnf
 refine hK _ ?_; clear hK K
 cases h
 exact Wk.refl _
theorem law27_ends_call {T : Tbl} (hT : T 16 = pureR law27_ends_S) {args : List AV} {hp : Heap} {id : Nat} {k : AV → Prop} {a0 : TNet} {a1 : Int} {a2 : Int} {Φ : Int × Int → Prop} (h : W (law27_ends_F a0 a1 a2) Φ) (hw : WkL args [eTNet a0, eI a1, eI a2]) (hk : ∀ y, Φ y → k (.tup [eI y.1, eI y.2])) : callpK T 16 args hp id k := by
 obtain ⟨y, e, hy⟩ := W_inv h
 exact callpK_pure hT ⟨a0, a1, a2, rfl, W_of e rfl⟩ (by exact loose_tup (lsC (lsI _ _) (lsC (lsI _ _) loose_nil))) hw (hk y hy)
def ref27_in_F (a0 : Int) (a1 : Int) (a2 : Int) : Option Bool := jn (fun p1 : Bool => some p1) fun k2 => cn (decide (a0 ≥ a1)) (k2 (decide (a0 ≤ a2))) (k2 false)
def ref27_in_S : List AV → AV → Prop := fun args r => ∃ a0 a1 a2, args = [eI a0, eI a1, eI a2] ∧ W (ref27_in_F a0 a1 a2) fun y => r = (eB y)
theorem ref27_in_ok {T : Tbl} (hT : TOk Try.prog T) (hpf : PfOk T PF) : FOk Try.prog 49 (pureR ref27_in_S) := by
 refine FOk_pure hT hpf Try.func49 rfl Try.ntmps49 Try.results49 (by decide) ?_
 rintro args r ⟨a0, a1, a2, rfl, h⟩
 refine ⟨nle rfl, ?_, ?_⟩
 · exact (lsC (lsI _ _) (lsC (lsI _ _) (lsC (lsI _ _) loose_nil)))
 rw [ref27_in_F.eq_1] at h
 refine HT_fr dCo rfl fun K hK => ?_; conv => whnf
 refine hK _ _ _ ?_; clear hK K
 refine HT_fr dCo rfl fun K hK => ?_; conv => whnf
 replace h := W_jn h
 refine cond_lk h (fun _ h => ?_) (fun _ h => ?_) <;> (conv => whnf)
 · refine hK _ _ _ ?_; clear hK K
   refine HT_ret ?_
   replace h := W_some h
   refine PostP_r dCo fun K hK => ?_; conv => whnf
   refine hK _ ?_; clear hK K
   cases h
   exact Wk.refl _
 refine hK _ _ _ ?_; clear hK K
 refine HT_ret ?_
 replace h := W_some h
 refine PostP_r dCo fun K hK => ?_; conv => whnf
 refine hK _ ?_; clear hK K
 cases h
 exact Wk.refl _
theorem ref27_in_call {T : Tbl} (hT : T 49 = pureR ref27_in_S) {args : List AV} {hp : Heap} {id : Nat} {k : AV → Prop} {a0 : Int} {a1 : Int} {a2 : Int} {Φ : Bool → Prop} (h : W (ref27_in_F a0 a1 a2) Φ) (hw : WkL args [eI a0, eI a1, eI a2]) (hk : ∀ y, Φ y → k (eB y)) : callpK T 49 args hp id k := by
 obtain ⟨y, e, hy⟩ := W_inv h
 exact callpK_pure hT ⟨a0, a1, a2, rfl, W_of e rfl⟩ (by exact (lsB _)) hw (hk y hy)
def ref27_Valid_b1 (a0 : TNet) (s4 : Int) : Option (Ct Int Bool) := cn (decide (s4 < (a0.Edges.length : Int))) (ix a0.Edges default s4 fun e5 => jn (fun p6 : Bool =>
   cn p6 (some (.rt false)) (some (.nx (wr (s4 + 1))))) fun k7 => bd (ref27_in_F e5.From 0 (wr (a0.N - 1))) fun y8 =>
   cn (!y8) (k7 true) (bd (ref27_in_F e5.To 0 (wr (a0.N - 1))) fun y9 => cn (!y9) (k7 true) (cn (e5.From == e5.To) (k7 true) (bd (ref27_in_F e5.Capacity 0 10000) fun y10 =>
   k7 (!y10))))) (some (.bk s4))
theorem W_bref27_Valid_b1 {a0 : TNet} {s4 : Int} {Φ : Ct Int Bool → Prop} (h : W (ref27_Valid_b1 a0 s4) Φ) : W (cn (decide (s4 < (a0.Edges.length : Int))) (ix a0.Edges default s4 fun e5 => jn (fun p6 : Bool => cn p6 (some (.rt false)) (some (.nx (wr (s4 + 1))))) fun k7 =>
   bd (ref27_in_F e5.From 0 (wr (a0.N - 1))) fun y8 => cn (!y8) (k7 true) (bd (ref27_in_F e5.To 0 (wr (a0.N - 1))) fun y9 => cn (!y9) (k7 true) (cn (e5.From ==
   e5.To) (k7 true) (bd (ref27_in_F e5.Capacity 0 10000) fun y10 => k7 (!y10))))) (some (.bk s4))) Φ := h
def ref27_Valid_F (a0 : TNet) : Option Bool := jn (fun p1 : Bool => cn p1 (some false) (bd (lp (ref27_Valid_b1 a0) FU 0) fun c11 => smK c11 (fun s12 => some true) (fun r13 =>
   some r13))) fun k2 => bd (ref27_in_F a0.N 0 12) fun y3 => cn (!y3) (k2 true) (k2 (decide ((a0.Edges.length : Int) > 40)))
def ref27_Valid_S : List AV → AV → Prop := fun args r => ∃ a0, args = [eTNet a0] ∧ W (ref27_Valid_F a0) fun y => r = (eB y)
theorem ref27_Valid_ok {T : Tbl} (hT : TOk Try.prog T) (hpf : PfOk T PF) (h49 : T 49 = pureR ref27_in_S) : FOk Try.prog 20 (pureR ref27_Valid_S) := by
 refine FOk_pure hT hpf Try.func20 rfl Try.ntmps20 Try.results20 (by decide) ?_
 rintro args r ⟨a0, rfl, h⟩
 refine ⟨nle rfl, ?_, ?_⟩
 · exact (lsC (lo_TNet _) loose_nil)
 rw [ref27_Valid_F.eq_1] at h
 refine HT_fr dCo rfl fun K hK => ?_; conv => whnf
 refine hK _ _ _ ?_; clear hK K
 refine HT_seq ?_
 refine HT_fr dCo rfl fun K hK => ?_; conv => whnf
 replace h := W_jn h
 refine nlA rfl ?_; conv => whnf
 refine bKo rfl ?_; conv => whnf
 refine getK_of rfl ?_; conv => whnf
 replace h := W_bd h
 refine ref27_in_call h49 h (WkL.refl _) (fun _ h => ?_); conv => whnf
 refine cond_lk h (fun _ h => ?_) (fun _ h => ?_) <;> (conv => whnf)
 · refine hK _ _ _ ?_; clear hK K
   refine HT_if fun K1 K2 hK1 hK2 => ?_; conv => whnf
   refine hK1 ?_; clear hK1 hK2 K1 K2
   replace h := W_cnT h
   refine HT_fr dCo rfl fun K hK => ?_; conv => whnf
   refine hK _ _ _ ?_; clear hK K
   refine HT_ret ?_
   refine Then_r ?_
   replace h := W_some h
   refine PostP_r dCo fun K hK => ?_; conv => whnf
   refine hK _ ?_; clear hK K
   cases h
   exact Wk.refl _
 refine nlA rfl ?_; conv => whnf
 refine bKo rfl ?_; conv => whnf
 refine getK_of rfl ?_; conv => whnf
 refine hK _ _ _ ?_; clear hK K
 refine HT_if fun K1 K2 hK1 hK2 => ?_; conv => whnf
 refine cond_lk h (fun _ h => ?_) (fun _ h => ?_)
 · refine hK1 ?_; clear hK1 hK2 K1 K2
   refine HT_fr dCo rfl fun K hK => ?_; conv => whnf
   refine hK _ _ _ ?_; clear hK K
   refine HT_ret ?_
   refine Then_r ?_
   replace h := W_some h
   refine PostP_r dCo fun K hK => ?_; conv => whnf
   refine hK _ ?_; clear hK K
   cases h
   exact Wk.refl _
 refine hK2 ?_; clear hK1 hK2 K1 K2
 refine HT_skip ?_
 refine Then_n ?_
 refine HT_seq ?_
 refine HT_fr dCo rfl fun K hK => ?_; conv => whnf
 refine hK _ _ _ ?_; clear hK K
 refine HT_block ?_
 replace h := W_bd h
 refine HT_lpK (body := ref27_Valid_b1 _) rfl h [1] [1] [] (fun kl kh ids b s => ⟨ofL ([(3, eI s)] ++ kl), ofH ([] ++ kh), b + 64⟩) ?_; (conv => whnf); refine And.intro ?_ (fun s m h => HT_st ?_)
 · refine weak_k ?_; conv => whnf
   exact And.intro rfl (And.intro (aLc wkI (aLc (WkR.ptr (fun _ => rfl)) aLn)) (aLc ⟨some _, rfl, BkR_c rfl (cKc wkI (cKc (wkr (lsL fun _ => (lo_TEdge _))) cKn))⟩ aLn))
 replace h := W_bref27_Valid_b1 (W_bd h)
 refine HT_seq ?_
 refine HT_fr dCo rfl fun K hK => ?_; conv => whnf
 refine nlA rfl ?_; conv => whnf
 refine bKo rfl ?_; conv => whnf
 refine getK_of rfl ?_; conv => whnf
 refine hK _ _ _ ?_; clear hK K
 refine HT_if fun K1 K2 hK1 hK2 => ?_; conv => whnf
 refine cond_lk h (fun _ h => ?_) (fun _ h => ?_)
 · refine hK1 ?_; clear hK1 hK2 K1 K2
   refine HT_skip ?_
   refine Then_n ?_
   refine HT_seq ?_
   refine HT_block ?_
   refine HT_fr dCo rfl fun K hK => ?_; conv => whnf
   refine nlA rfl ?_; conv => whnf
   refine bKo rfl ?_; conv => whnf
   refine getK_of rfl ?_; conv => whnf
   refine ix_lk h fun _ h => ?_; conv => whnf
   refine nlA rfl ?_; conv => whnf
   refine bKo rfl ?_; conv => whnf
   refine And.intro rfl (And.intro (nle rfl) (And.intro rfl ?_)); conv => whnf
   refine hK _ _ _ ?_; clear hK K
   refine HT_fr dCo rfl fun K hK => ?_; conv => whnf
   replace h := W_jn h
   refine nlA rfl ?_; conv => whnf
   refine bKo rfl ?_; conv => whnf
   refine getK_of rfl ?_; conv => whnf
   refine nlA rfl ?_; conv => whnf
   refine bKo rfl ?_; conv => whnf
   refine getK_of rfl ?_; conv => whnf
   replace h := W_bd h
   refine ref27_in_call h49 h (WkL.refl _) (fun _ h => ?_); conv => whnf
   refine cond_lk h (fun _ h => ?_) (fun _ h => ?_) <;> (conv => whnf)
   · refine hK _ _ _ ?_; clear hK K
     refine HT_if fun K1 K2 hK1 hK2 => ?_; conv => whnf
     refine hK1 ?_; clear hK1 hK2 K1 K2
     replace h := W_cnT h
     refine HT_fr dCo rfl fun K hK => ?_; conv => whnf
     refine hK _ _ _ ?_; clear hK K
     refine HT_ret ?_
     refine InBlock_r ?_
     refine Then_r ?_
     refine Then_r ?_
     refine InBlock_r ?_
     refine Then_r ?_
     replace h := W_xrt h
     replace h := W_inr h
     replace h := W_some h
     refine PostP_r dCo fun K hK => ?_; conv => whnf
     refine hK _ ?_; clear hK K
     cases h
     exact Wk.refl _
   refine nlA rfl ?_; conv => whnf
   refine bKo rfl ?_; conv => whnf
   refine getK_of rfl ?_; conv => whnf
   refine nlA rfl ?_; conv => whnf
   refine bKo rfl ?_; conv => whnf
   refine getK_of rfl ?_; conv => whnf
   replace h := W_bd h
   refine ref27_in_call h49 h (WkL.refl _) (fun _ h => ?_); conv => whnf
   refine cond_lk h (fun _ h => ?_) (fun _ h => ?_) <;> (conv => whnf)
   · refine hK _ _ _ ?_; clear hK K
     refine HT_if fun K1 K2 hK1 hK2 => ?_; conv => whnf
     refine hK1 ?_; clear hK1 hK2 K1 K2
     replace h := W_cnT h
     refine HT_fr dCo rfl fun K hK => ?_; conv => whnf
     refine hK _ _ _ ?_; clear hK K
     refine HT_ret ?_
     refine InBlock_r ?_
     refine Then_r ?_
     refine Then_r ?_
     refine InBlock_r ?_
     refine Then_r ?_
     replace h := W_xrt h
     replace h := W_inr h
     replace h := W_some h
     refine PostP_r dCo fun K hK => ?_; conv => whnf
     refine hK _ ?_; clear hK K
     cases h
     exact Wk.refl _
   refine nlA rfl ?_; conv => whnf
   refine bKo rfl ?_; conv => whnf
   refine getK_of rfl ?_; conv => whnf
   refine nlA rfl ?_; conv => whnf
   refine bKo rfl ?_; conv => whnf
   refine getK_of rfl ?_; conv => whnf
   refine cond_lk h (fun _ h => ?_) (fun _ h => ?_) <;> (conv => whnf)
   · refine hK _ _ _ ?_; clear hK K
     refine HT_if fun K1 K2 hK1 hK2 => ?_; conv => whnf
     refine hK1 ?_; clear hK1 hK2 K1 K2
     replace h := W_cnT h
     refine HT_fr dCo rfl fun K hK => ?_; conv => whnf
     refine hK _ _ _ ?_; clear hK K
     refine HT_ret ?_
     refine InBlock_r ?_
     refine Then_r ?_
     refine Then_r ?_
     refine InBlock_r ?_
     refine Then_r ?_
     replace h := W_xrt h
     replace h := W_inr h
     replace h := W_some h
     refine PostP_r dCo fun K hK => ?_; conv => whnf
     refine hK _ ?_; clear hK K
     cases h
     exact Wk.refl _
   refine nlA rfl ?_; conv => whnf
   refine bKo rfl ?_; conv => whnf
   refine getK_of rfl ?_; conv => whnf
   replace h := W_bd h
   refine ref27_in_call h49 h (WkL.refl _) (fun _ h => ?_); conv => whnf
   refine hK _ _ _ ?_; clear hK K
   refine HT_if fun K1 K2 hK1 hK2 => ?_; conv => whnf
   refine cond_lk h (fun _ h => ?_) (fun _ h => ?_)
   · refine hK1 ?_; clear hK1 hK2 K1 K2
     refine HT_fr dCo rfl fun K hK => ?_; conv => whnf
     refine hK _ _ _ ?_; clear hK K
     refine HT_ret ?_
     refine InBlock_r ?_
     refine Then_r ?_
     refine Then_r ?_
     refine InBlock_r ?_
     refine Then_r ?_
     replace h := W_xrt h
     replace h := W_inr h
     replace h := W_some h
     refine PostP_r dCo fun K hK => ?_; conv => whnf
     refine hK _ ?_; clear hK K
     cases h
     exact Wk.refl _
   refine hK2 ?_; clear hK1 hK2 K1 K2
   refine HT_skip ?_
   refine InBlock_n ?_
   refine Then_n ?_
   refine HT_f dCo rfl fun K hK => ?_; conv => whnf
   refine hK _ _ _ ?_; clear hK K
   refine Then_n ?_
   replace h := W_xnx h
   refine ⟨_, h, ?_⟩
   refine weak_k ?_; conv => whnf
   exact And.intro rfl (And.intro (aLc wkI (aLc (WkR.ptr (fun _ => rfl)) aLn)) (aLc ⟨some _, rfl, BkR_c rfl (cKc wkI (cKc (wkr (lsL fun _ => (lo_TEdge _))) cKn))⟩ aLn))
 refine hK2 ?_; clear hK1 hK2 K1 K2
 refine HT_exit ?_
 refine Then_e ?_
 refine Then_e ?_
 refine InBlock_e ?_
 replace h := W_xbk h
 replace h := W_inl h
 refine Then_n ?_
 refine HT_fr dCo rfl fun K hK => ?_; conv => whnf
 refine hK _ _ _ ?_; clear hK K
 refine HT_ret ?_
 replace h := W_some h
 refine PostP_r dCo fun K hK => ?_; conv => whnf
 refine hK _ ?_; clear hK K
 cases h
 exact Wk.refl _
theorem ref27_Valid_call {T : Tbl} (hT : T 20 = pureR ref27_Valid_S) {args : List AV} {hp : Heap} {id : Nat} {k : AV → Prop} {a0 : TNet} {Φ : Bool → Prop} (h : W (ref27_Valid_F a0) Φ) (hw : WkL args [eTNet a0]) (hk : ∀ y, Φ y → k (eB y)) : callpK T 20 args hp id k := by
 obtain ⟨y, e, hy⟩ := W_inv h
 exact callpK_pure hT ⟨a0, rfl, W_of e rfl⟩ (by exact (lsB _)) hw (hk y hy)
def ref27_Ends_F (a0 : TNet) (a1 : Int) (a2 : Int) : Option Bool := jn (fun p1 : Bool => some p1) fun k2 => bd (ref27_Valid_F a0) fun y3 =>
   cn y3 (bd (ref27_in_F a1 0 (wr (a0.N - 1))) fun y4 => cn y4 (bd (ref27_in_F a2 0 (wr (a0.N - 1))) fun y5 => cn y5 (k2 (a1 != a2)) (k2 false)) (k2 false)) (k2 false)
def ref27_Ends_S : List AV → AV → Prop := fun args r => ∃ a0 a1 a2, args = [eTNet a0, eI a1, eI a2] ∧ W (ref27_Ends_F a0 a1 a2) fun y => r = (eB y)
theorem ref27_Ends_ok {T : Tbl} (hT : TOk Try.prog T) (hpf : PfOk T PF) (h20 : T 20 = pureR ref27_Valid_S) (h49 : T 49 = pureR ref27_in_S) : FOk Try.prog 22 (pureR ref27_Ends_S) := by
 refine FOk_pure hT hpf Try.func22 rfl Try.ntmps22 Try.results22 (by decide) ?_
 rintro args r ⟨a0, a1, a2, rfl, h⟩
 refine ⟨nle rfl, ?_, ?_⟩
 · exact (lsC (lo_TNet _) (lsC (lsI _ _) (lsC (lsI _ _) loose_nil)))
 rw [ref27_Ends_F.eq_1] at h
 refine HT_fr dCo rfl fun K hK => ?_; conv => whnf
 refine hK _ _ _ ?_; clear hK K
 refine HT_fr dCo rfl fun K hK => ?_; conv => whnf
 replace h := W_jn h
 refine nlA rfl ?_; conv => whnf
 refine bKo rfl ?_; conv => whnf
 refine nlA rfl ?_; conv => whnf
 replace h := W_bd h
 refine ref27_Valid_call h20 h (WkL.refl _) (fun _ h => ?_); conv => whnf
 refine cond_lk h (fun _ h => ?_) (fun _ h => ?_) <;> (conv => whnf)
 · refine nlA rfl ?_; conv => whnf
   refine bKo rfl ?_; conv => whnf
   refine getK_of rfl ?_; conv => whnf
   replace h := W_bd h
   refine ref27_in_call h49 h (WkL.refl _) (fun _ h => ?_); conv => whnf
   refine cond_lk h (fun _ h => ?_) (fun _ h => ?_) <;> (conv => whnf)
   · refine nlA rfl ?_; conv => whnf
     refine bKo rfl ?_; conv => whnf
     refine getK_of rfl ?_; conv => whnf
     replace h := W_bd h
     refine ref27_in_call h49 h (WkL.refl _) (fun _ h => ?_); conv => whnf
     refine cond_lk h (fun _ h => ?_) (fun _ h => ?_) <;> (conv => whnf)
     · refine hK _ _ _ ?_; clear hK K
       refine HT_ret ?_
       replace h := W_some h
       refine PostP_r dCo fun K hK => ?_; conv => whnf
       refine hK _ ?_; clear hK K
       cases h
       exact Wk.refl _
     refine hK _ _ _ ?_; clear hK K
     refine HT_ret ?_
     replace h := W_some h
     refine PostP_r dCo fun K hK => ?_; conv => whnf
     refine hK _ ?_; clear hK K
     cases h
     exact Wk.refl _
   refine hK _ _ _ ?_; clear hK K
   refine HT_ret ?_
   replace h := W_some h
   refine PostP_r dCo fun K hK => ?_; conv => whnf
   refine hK _ ?_; clear hK K
   cases h
   exact Wk.refl _
 refine hK _ _ _ ?_; clear hK K
 refine HT_ret ?_
 replace h := W_some h
 refine PostP_r dCo fun K hK => ?_; conv => whnf
 refine hK _ ?_; clear hK K
 cases h
 exact Wk.refl _
theorem ref27_Ends_call {T : Tbl} (hT : T 22 = pureR ref27_Ends_S) {args : List AV} {hp : Heap} {id : Nat} {k : AV → Prop} {a0 : TNet} {a1 : Int} {a2 : Int} {Φ : Bool → Prop} (h : W (ref27_Ends_F a0 a1 a2) Φ) (hw : WkL args [eTNet a0, eI a1, eI a2]) (hk : ∀ y, Φ y → k (eB y)) : callpK T 22 args hp id k := by
 obtain ⟨y, e, hy⟩ := W_inv h
 exact callpK_pure hT ⟨a0, a1, a2, rfl, W_of e rfl⟩ (by exact (lsB _)) hw (hk y hy)
def ref27_amounts_b1 (a0 : TNet) (a1 : List Int) (s1 : Int) : Option (Ct Int Bool) := cn (decide (s1 < (a1.length : Int))) (ix a1 default s1 fun e2 =>
   ix a0.Edges default s1 fun e3 => bd (ref27_in_F e2 0 e3.Capacity) fun y4 => cn (!y4) (some (.rt false)) (some (.nx (wr (s1 + 1))))) (some (.bk s1))
theorem W_bref27_amounts_b1 {a0 : TNet} {a1 : List Int} {s1 : Int} {Φ : Ct Int Bool → Prop} (h : W (ref27_amounts_b1 a0 a1 s1) Φ) : W (cn (decide (s1 < (a1.length : Int))) (ix a1 default s1 fun e2 => ix a0.Edges default s1 fun e3 => bd (ref27_in_F e2 0 e3.Capacity) fun y4 =>
   cn (!y4) (some (.rt false)) (some (.nx (wr (s1 + 1))))) (some (.bk s1))) Φ := h
def ref27_amounts_F (a0 : TNet) (a1 : List Int) : Option Bool := cn ((a1.length : Int) != (a0.Edges.length : Int)) (some false) (bd (lp (ref27_amounts_b1 a0 a1) FU 0) fun c5 =>
   smK c5 (fun s6 => some true) (fun r7 => some r7))
def ref27_amounts_S : List AV → AV → Prop := fun args r => ∃ a0 a1, args = [eTNet a0, (eL 1 eI default) a1] ∧ W (ref27_amounts_F a0 a1) fun y => r = (eB y)
theorem ref27_amounts_ok {T : Tbl} (hT : TOk Try.prog T) (hpf : PfOk T PF) (h49 : T 49 = pureR ref27_in_S) : FOk Try.prog 54 (pureR ref27_amounts_S) := by
 refine FOk_pure hT hpf Try.func54 rfl Try.ntmps54 Try.results54 (by decide) ?_
 rintro args r ⟨a0, a1, rfl, h⟩
 refine ⟨nle rfl, ?_, ?_⟩
 · exact (lsC (lo_TNet _) (lsC (lsL fun _ => (lsI _ _)) loose_nil))
 rw [ref27_amounts_F.eq_1] at h
 refine HT_fr dCo rfl fun K hK => ?_; conv => whnf
 refine hK _ _ _ ?_; clear hK K
 refine HT_seq ?_
 refine HT_fr dCo rfl fun K hK => ?_; conv => whnf
 refine nlA rfl ?_; conv => whnf
 refine bKo rfl ?_; conv => whnf
 refine getK_of rfl ?_; conv => whnf
 refine hK _ _ _ ?_; clear hK K
 refine HT_if fun K1 K2 hK1 hK2 => ?_; conv => whnf
 refine cond_lk h (fun _ h => ?_) (fun _ h => ?_)
 · refine hK1 ?_; clear hK1 hK2 K1 K2
   refine HT_fr dCo rfl fun K hK => ?_; conv => whnf
   refine hK _ _ _ ?_; clear hK K
   refine HT_ret ?_
   refine Then_r ?_
   replace h := W_some h
   refine PostP_r dCo fun K hK => ?_; conv => whnf
   refine hK _ ?_; clear hK K
   cases h
   exact Wk.refl _
 refine hK2 ?_; clear hK1 hK2 K1 K2
 refine HT_skip ?_
 refine Then_n ?_
 refine HT_seq ?_
 refine HT_fr dCo rfl fun K hK => ?_; conv => whnf
 refine hK _ _ _ ?_; clear hK K
 refine HT_block ?_
 replace h := W_bd h
 refine HT_lpK (body := ref27_amounts_b1 _ _) rfl h [1, 2] [2] [] (fun kl kh ids b s => ⟨ofL ([(5, eI s)] ++ kl), ofH ([] ++ kh), b + 64⟩) ?_; (conv => whnf); refine And.intro ?_ (fun s m h => HT_st ?_)
 · refine weak_k ?_; conv => whnf
   exact And.intro rfl (And.intro (aLc wkI (aLc (wkr (lsL fun _ => (lsI _ _))) (aLc (WkR.ptr (fun _ => rfl)) aLn))) (aLc ⟨some _, rfl, BkR_c rfl (cKc wkI (cKc (wkr (lsL fun _ => (lo_TEdge _))) cKn))⟩ aLn))
 replace h := W_bref27_amounts_b1 (W_bd h)
 refine HT_seq ?_
 refine HT_fr dCo rfl fun K hK => ?_; conv => whnf
 refine hK _ _ _ ?_; clear hK K
 refine HT_if fun K1 K2 hK1 hK2 => ?_; conv => whnf
 refine cond_lk h (fun _ h => ?_) (fun _ h => ?_)
 · refine hK1 ?_; clear hK1 hK2 K1 K2
   refine HT_skip ?_
   refine Then_n ?_
   refine HT_seq ?_
   refine HT_block ?_
   refine HT_fd dCo mix_ok rfl (by kernel_rfl) fun K hK => ?_; conv => whnf
   refine ix_lk h fun _ h => ?_; conv => whnf
   refine getK_of rfl ?_; conv => whnf
   refine nlA rfl ?_; conv => whnf
   refine bKo rfl ?_; conv => whnf
   refine getK_of rfl ?_; conv => whnf
   refine ix_lk h fun _ h => ?_; conv => whnf
   refine getK_of rfl ?_; conv => whnf
   replace h := W_bd h
   refine ref27_in_call h49 h (WkL.refl _) (fun _ h => ?_); conv => whnf
   refine hK _ _ _ ?_; clear hK K
   refine HT_if fun K1 K2 hK1 hK2 => ?_; conv => whnf
   refine cond_lk h (fun _ h => ?_) (fun _ h => ?_)
   · refine hK1 ?_; clear hK1 hK2 K1 K2
     refine HT_fr dCo rfl fun K hK => ?_; conv => whnf
     refine hK _ _ _ ?_; clear hK K
     refine HT_ret ?_
     refine InBlock_r ?_
     refine Then_r ?_
     refine Then_r ?_
     refine InBlock_r ?_
     refine Then_r ?_
     replace h := W_xrt h
     replace h := W_inr h
     replace h := W_some h
     refine PostP_r dCo fun K hK => ?_; conv => whnf
     refine hK _ ?_; clear hK K
     cases h
     exact Wk.refl _
   refine hK2 ?_; clear hK1 hK2 K1 K2
   refine HT_skip ?_
   refine InBlock_n ?_
   refine Then_n ?_
   refine HT_f dCo rfl fun K hK => ?_; conv => whnf
   refine hK _ _ _ ?_; clear hK K
   refine Then_n ?_
   replace h := W_xnx h
   refine ⟨_, h, ?_⟩
   refine weak_k ?_; conv => whnf
   exact And.intro rfl (And.intro (aLc wkI (aLc (wkr (lsL fun _ => (lsI _ _))) (aLc (WkR.ptr (fun _ => rfl)) aLn))) (aLc ⟨some _, rfl, BkR_c rfl (cKc wkI (cKc (wkr (lsL fun _ => (lo_TEdge _))) cKn))⟩ aLn))
 refine hK2 ?_; clear hK1 hK2 K1 K2
 refine HT_exit ?_
 refine Then_e ?_
 refine Then_e ?_
 refine InBlock_e ?_
 replace h := W_xbk h
 replace h := W_inl h
 refine Then_n ?_
 refine HT_fr dCo rfl fun K hK => ?_; conv => whnf
 refine hK _ _ _ ?_; clear hK K
 refine HT_ret ?_
 replace h := W_some h
 refine PostP_r dCo fun K hK => ?_; conv => whnf
 refine hK _ ?_; clear hK K
 cases h
 exact Wk.refl _
theorem ref27_amounts_call {T : Tbl} (hT : T 54 = pureR ref27_amounts_S) {args : List AV} {hp : Heap} {id : Nat} {k : AV → Prop} {a0 : TNet} {a1 : List Int} {Φ : Bool → Prop} (h : W (ref27_amounts_F a0 a1) Φ) (hw : WkL args [eTNet a0, (eL 1 eI default) a1]) (hk : ∀ y, Φ y → k (eB y)) : callpK T 54 args hp id k := by
 obtain ⟨y, e, hy⟩ := W_inv h
 exact callpK_pure hT ⟨a0, a1, rfl, W_of e rfl⟩ (by exact (lsB _)) hw (hk y hy)

   def ref27_gives_b1 (a0 : TNet) (a1 : List Int) (a2 : Int) (s1 : Int × Int) : Option (Ct (Int × Int) Int) := cn (decide (s1.2 < (a1.length : Int))) (ix a0.Edges default s1.2 fun e2 =>
   jn (fun p3 : Int => ix a0.Edges default s1.2 fun e6 => jn (fun p7 : Int => some (.nx (p7, (wr (s1.2 + 1))))) fun k8 => cn (e6.To == a2) (ix a1 default s1.2 fun e9 =>
   k8 (wr (p3 - e9))) (k8 p3)) fun k4 => cn (e2.From == a2) (ix a1 default s1.2 fun e5 => k4 (wr (s1.1 + e5))) (k4 s1.1)) (some (.bk (s1.1, s1.2)))
theorem W_bref27_gives_b1 {a0 : TNet} {a1 : List Int} {a2 : Int} {s1 : Int × Int} {Φ : Ct (Int × Int) Int → Prop} (h : W (ref27_gives_b1 a0 a1 a2 s1) Φ) : W (cn (decide (s1.2 < (a1.length : Int))) (ix a0.Edges default s1.2 fun e2 => jn (fun p3 : Int => ix a0.Edges default s1.2 fun e6 => jn (fun p7 : Int =>
   some (.nx (p7, (wr (s1.2 + 1))))) fun k8 => cn (e6.To == a2) (ix a1 default s1.2 fun e9 => k8 (wr (p3 - e9))) (k8 p3)) fun k4 => cn (e2.From == a2) (ix a1 default s1.2 fun e5 =>
   k4 (wr (s1.1 + e5))) (k4 s1.1)) (some (.bk (s1.1, s1.2)))) Φ := h
def ref27_gives_F (a0 : TNet) (a1 : List Int) (a2 : Int) : Option Int := bd (lp (ref27_gives_b1 a0 a1 a2) FU (0, 0)) fun c10 => smK c10 (fun s11 => some s11.1) (fun r12 => some r12)
def ref27_gives_S : List AV → AV → Prop := fun args r => ∃ a0 a1 a2, args = [eTNet a0, (eL 1 eI default) a1, eI a2] ∧ W (ref27_gives_F a0 a1 a2) fun y => r = (eI y)
theorem ref27_gives_ok {T : Tbl} (hT : TOk Try.prog T) (hpf : PfOk T PF) : FOk Try.prog 55 (pureR ref27_gives_S) := by
 refine FOk_pure hT hpf Try.func55 rfl Try.ntmps55 Try.results55 (by decide) ?_
 rintro args r ⟨a0, a1, a2, rfl, h⟩
 refine ⟨nle rfl, ?_, ?_⟩
 · exact (lsC (lo_TNet _) (lsC (lsL fun _ => (lsI _ _)) (lsC (lsI _ _) loose_nil)))
 rw [ref27_gives_F.eq_1] at h
 refine HT_fr dCo rfl fun K hK => ?_; conv => whnf
 refine hK _ _ _ ?_; clear hK K
 refine HT_fr dCo rfl fun K hK => ?_; conv => whnf
 refine hK _ _ _ ?_; clear hK K
 refine HT_seq ?_
 refine HT_fr dCo rfl fun K hK => ?_; conv => whnf
 refine hK _ _ _ ?_; clear hK K
 refine HT_block ?_
 replace h := W_bd h
 refine HT_lpK (body := ref27_gives_b1 _ _ _) rfl h [1, 2, 3] [3] [] (fun kl kh ids b s => ⟨ofL ([(7, eI s.1), (8, eI s.2)] ++ kl), ofH ([] ++ kh), b + 64⟩) ?_; (conv => whnf); refine And.intro ?_ (fun s m h => HT_st ?_)
 · refine weak_k ?_; conv => whnf
   exact And.intro rfl (And.intro (aLc wkI (aLc wkI (aLc (wkr (lsL fun _ => (lsI _ _))) (aLc wkI (aLc (WkR.ptr (fun _ => rfl)) aLn))))) (aLc ⟨some _, rfl, BkR_c rfl (cKc wkI (cKc (wkr (lsL fun _ => (lo_TEdge _))) cKn))⟩ aLn))
 replace h := W_bref27_gives_b1 (W_bd h)
 refine HT_seq ?_
 refine HT_fr dCo rfl fun K hK => ?_; conv => whnf
 refine hK _ _ _ ?_; clear hK K
 refine HT_if fun K1 K2 hK1 hK2 => ?_; conv => whnf
 refine cond_lk h (fun _ h => ?_) (fun _ h => ?_)
 · refine hK1 ?_; clear hK1 hK2 K1 K2
   refine HT_skip ?_
   refine Then_n ?_
   refine HT_seq ?_
   refine HT_block ?_
   refine HT_seq ?_
   refine HT_fr dCo rfl fun K hK => ?_; conv => whnf
   refine nlA rfl ?_; conv => whnf
   refine bKo rfl ?_; conv => whnf
   refine getK_of rfl ?_; conv => whnf
   refine ix_lk h fun _ h => ?_; conv => whnf
   refine getK_of rfl ?_; conv => whnf
   refine hK _ _ _ ?_; clear hK K
   replace h := W_jn h
   refine HT_if fun K1 K2 hK1 hK2 => ?_; conv => whnf
   refine cond_lk h (fun _ h => ?_) (fun _ h => ?_)
   · refine hK1 ?_; clear hK1 hK2 K1 K2
     refine HT_f dCo rfl fun K hK => ?_; conv => whnf
     refine ix_lk h fun _ h => ?_; conv => whnf
     refine getK_of rfl ?_; conv => whnf
     refine hK _ _ _ ?_; clear hK K
     refine Then_n ?_
     refine HT_fr dCo rfl fun K hK => ?_; conv => whnf
     refine nlA rfl ?_; conv => whnf
     refine bKo rfl ?_; conv => whnf
     refine getK_of rfl ?_; conv => whnf
     refine ix_lk h fun _ h => ?_; conv => whnf
     refine getK_of rfl ?_; conv => whnf
     refine hK _ _ _ ?_; clear hK K
     replace h := W_jn h
     refine HT_if fun K1 K2 hK1 hK2 => ?_; conv => whnf
     refine cond_lk h (fun _ h => ?_) (fun _ h => ?_)
     · refine hK1 ?_; clear hK1 hK2 K1 K2
       refine HT_f dCo rfl fun K hK => ?_; conv => whnf
       refine ix_lk h fun _ h => ?_; conv => whnf
       refine getK_of rfl ?_; conv => whnf
       refine hK _ _ _ ?_; clear hK K
       refine InBlock_n ?_
       refine Then_n ?_
       refine HT_f dCo rfl fun K hK => ?_; conv => whnf
       refine hK _ _ _ ?_; clear hK K
       refine Then_n ?_
       replace h := W_xnx h
       refine ⟨_, h, ?_⟩
       refine weak_k ?_; conv => whnf
       exact And.intro rfl (And.intro (aLc wkI (aLc wkI (aLc (wkr (lsL fun _ => (lsI _ _))) (aLc wkI (aLc (WkR.ptr (fun _ => rfl)) aLn))))) (aLc ⟨some _, rfl, BkR_c rfl (cKc wkI (cKc (wkr (lsL fun _ => (lo_TEdge _))) cKn))⟩ aLn))
     refine hK2 ?_; clear hK1 hK2 K1 K2
     refine HT_skip ?_
     refine InBlock_n ?_
     refine Then_n ?_
     refine HT_f dCo rfl fun K hK => ?_; conv => whnf
     refine hK _ _ _ ?_; clear hK K
     refine Then_n ?_
     replace h := W_xnx h
     refine ⟨_, h, ?_⟩
     refine weak_k ?_; conv => whnf
     exact And.intro rfl (And.intro (aLc wkI (aLc wkI (aLc (wkr (lsL fun _ => (lsI _ _))) (aLc wkI (aLc (WkR.ptr (fun _ => rfl)) aLn))))) (aLc ⟨some _, rfl, BkR_c rfl (cKc wkI (cKc (wkr (lsL fun _ => (lo_TEdge _))) cKn))⟩ aLn))
   refine hK2 ?_; clear hK1 hK2 K1 K2
   refine HT_skip ?_
   refine Then_n ?_
   refine HT_fr dCo rfl fun K hK => ?_; conv => whnf
   refine nlA rfl ?_; conv => whnf
   refine bKo rfl ?_; conv => whnf
   refine getK_of rfl ?_; conv => whnf
   refine ix_lk h fun _ h => ?_; conv => whnf
   refine getK_of rfl ?_; conv => whnf
   refine hK _ _ _ ?_; clear hK K
   replace h := W_jn h
   refine HT_if fun K1 K2 hK1 hK2 => ?_; conv => whnf
   refine cond_lk h (fun _ h => ?_) (fun _ h => ?_)
   · refine hK1 ?_; clear hK1 hK2 K1 K2
     refine HT_f dCo rfl fun K hK => ?_; conv => whnf
     refine ix_lk h fun _ h => ?_; conv => whnf
     refine getK_of rfl ?_; conv => whnf
     refine hK _ _ _ ?_; clear hK K
     refine InBlock_n ?_
     refine Then_n ?_
     refine HT_f dCo rfl fun K hK => ?_; conv => whnf
     refine hK _ _ _ ?_; clear hK K
     refine Then_n ?_
     replace h := W_xnx h
     refine ⟨_, h, ?_⟩
     refine weak_k ?_; conv => whnf
     exact And.intro rfl (And.intro (aLc wkI (aLc wkI (aLc (wkr (lsL fun _ => (lsI _ _))) (aLc wkI (aLc (WkR.ptr (fun _ => rfl)) aLn))))) (aLc ⟨some _, rfl, BkR_c rfl (cKc wkI (cKc (wkr (lsL fun _ => (lo_TEdge _))) cKn))⟩ aLn))
   refine hK2 ?_; clear hK1 hK2 K1 K2
   refine HT_skip ?_
   refine InBlock_n ?_
   refine Then_n ?_
   refine HT_f dCo rfl fun K hK => ?_; conv => whnf
   refine hK _ _ _ ?_; clear hK K
   refine Then_n ?_
   replace h := W_xnx h
   refine ⟨_, h, ?_⟩
   refine weak_k ?_; conv => whnf
   exact And.intro rfl (And.intro (aLc wkI (aLc wkI (aLc (wkr (lsL fun _ => (lsI _ _))) (aLc wkI (aLc (WkR.ptr (fun _ => rfl)) aLn))))) (aLc ⟨some _, rfl, BkR_c rfl (cKc wkI (cKc (wkr (lsL fun _ => (lo_TEdge _))) cKn))⟩ aLn))
 refine hK2 ?_; clear hK1 hK2 K1 K2
 refine HT_exit ?_
 refine Then_e ?_
 refine Then_e ?_
 refine InBlock_e ?_
 replace h := W_xbk h
 replace h := W_inl h
 refine Then_n ?_
 refine HT_fr dCo rfl fun K hK => ?_; conv => whnf
 refine hK _ _ _ ?_; clear hK K
 refine HT_ret ?_
 replace h := W_some h
 refine PostP_r dCo fun K hK => ?_; conv => whnf
 refine hK _ ?_; clear hK K
 cases h
 exact Wk.refl _
theorem ref27_gives_call {T : Tbl} (hT : T 55 = pureR ref27_gives_S) {args : List AV} {hp : Heap} {id : Nat} {k : AV → Prop} {a0 : TNet} {a1 : List Int} {a2 : Int} {Φ : Int → Prop} (h : W (ref27_gives_F a0 a1 a2) Φ) (hw : WkL args [eTNet a0, (eL 1 eI default) a1, eI a2]) (hk : ∀ y, Φ y → k (eI y)) : callpK T 55 args hp id k := by
 obtain ⟨y, e, hy⟩ := W_inv h
 exact callpK_pure hT ⟨a0, a1, a2, rfl, W_of e rfl⟩ (by exact (lsI _ _)) hw (hk y hy)
def ref27_CheckFlow_b1 (a0 : TNet) (a1 : Int) (a2 : Int) (a3 : List Int) (s5 : Int) : Option (Ct Int (Int × Bool)) := cn (decide (s5 < a0.N)) (jn (fun p6 : Bool =>
   cn p6 (some (.rt (0, false))) (some (.nx (wr (s5 + 1))))) fun k7 => cn (s5 != a1) (cn (s5 != a2) (bd (ref27_gives_F a0 a3 s5) fun y8 => k7 (y8 !=
   0)) (k7 false)) (k7 false)) (some (.bk s5))
theorem W_bref27_CheckFlow_b1 {a0 : TNet} {a1 : Int} {a2 : Int} {a3 : List Int} {s5 : Int} {Φ : Ct Int (Int × Bool) → Prop} (h : W (ref27_CheckFlow_b1 a0 a1 a2 a3 s5) Φ) : W (cn (decide (s5 < a0.N)) (jn (fun p6 : Bool => cn p6 (some (.rt (0, false))) (some (.nx (wr (s5 + 1))))) fun k7 => cn (s5 != a1) (cn (s5 != a2) (bd (ref27_gives_F a0 a3 s5) fun y8 =>
   k7 (y8 != 0)) (k7 false)) (k7 false)) (some (.bk s5))) Φ := h
def ref27_CheckFlow_F (a0 : TNet) (a1 : Int) (a2 : Int) (a3 : List Int) : Option (Int × Bool) := jn (fun p1 : Bool =>
   cn p1 (some (0, false)) (bd (lp (ref27_CheckFlow_b1 a0 a1 a2 a3) FU 0) fun c9 => smK c9 (fun s10 => bd (ref27_gives_F a0 a3 a1) fun y12 =>
   cn (decide (y12 < 0)) (some (0, false)) (some (y12, true))) (fun r11 => some r11))) fun k2 => bd (ref27_Ends_F a0 a1 a2) fun y3 =>
   cn (!y3) (k2 true) (bd (ref27_amounts_F a0 a3) fun y4 => k2 (!y4))
def ref27_CheckFlow_S : List AV → AV → Prop := fun args r => ∃ a0 a1 a2 a3, args = [eTNet a0, eI a1, eI a2, (eL 1 eI default) a3] ∧ W (ref27_CheckFlow_F a0 a1 a2 a3) fun y => r = (.tup [eI y.1, eB y.2])
theorem ref27_CheckFlow_ok {T : Tbl} (hT : TOk Try.prog T) (hpf : PfOk T PF) (h22 : T 22 = pureR ref27_Ends_S) (h54 : T 54 = pureR ref27_amounts_S) (h55 : T 55 = pureR ref27_gives_S) : FOk Try.prog 23 (pureR ref27_CheckFlow_S) := by
 refine FOk_pure hT hpf Try.func23 rfl Try.ntmps23 Try.results23 (by decide) ?_
 rintro args r ⟨a0, a1, a2, a3, rfl, h⟩
 refine ⟨nle rfl, ?_, ?_⟩
 · exact (lsC (lo_TNet _) (lsC (lsI _ _) (lsC (lsI _ _) (lsC (lsL fun _ => (lsI _ _)) loose_nil))))
 rw [ref27_CheckFlow_F.eq_1] at h
 refine HT_fr dCo rfl fun K hK => ?_; conv => whnf
 refine hK _ _ _ ?_; clear hK K
 refine HT_seq ?_
 refine HT_fr dCo rfl fun K hK => ?_; conv => whnf
 replace h := W_jn h
 refine nlA rfl ?_; conv => whnf
 refine bKo rfl ?_; conv => whnf
 refine nlA rfl ?_; conv => whnf
 replace h := W_bd h
 refine ref27_Ends_call h22 h (WkL.refl _) (fun _ h => ?_); conv => whnf
 refine cond_lk h (fun _ h => ?_) (fun _ h => ?_) <;> (conv => whnf)
 · refine hK _ _ _ ?_; clear hK K
   refine HT_if fun K1 K2 hK1 hK2 => ?_; conv => whnf
   refine hK1 ?_; clear hK1 hK2 K1 K2
   replace h := W_cnT h
   refine HT_fr dCo rfl fun K hK => ?_; conv => whnf
   refine hK _ _ _ ?_; clear hK K
   refine HT_ret ?_
   refine Then_r ?_
   replace h := W_some h
   refine PostP_r dCo fun K hK => ?_; conv => whnf
   refine hK _ ?_; clear hK K
   cases h
   exact Wk.refl _
 refine nlA rfl ?_; conv => whnf
 refine bKo rfl ?_; conv => whnf
 refine nlA rfl ?_; conv => whnf
 replace h := W_bd h
 refine ref27_amounts_call h54 h (WkL.refl _) (fun _ h => ?_); conv => whnf
 refine hK _ _ _ ?_; clear hK K
 refine HT_if fun K1 K2 hK1 hK2 => ?_; conv => whnf
 refine cond_lk h (fun _ h => ?_) (fun _ h => ?_)
 · refine hK1 ?_; clear hK1 hK2 K1 K2
   refine HT_fr dCo rfl fun K hK => ?_; conv => whnf
   refine hK _ _ _ ?_; clear hK K
   refine HT_ret ?_
   refine Then_r ?_
   replace h := W_some h
   refine PostP_r dCo fun K hK => ?_; conv => whnf
   refine hK _ ?_; clear hK K
   cases h
   exact Wk.refl _
 refine hK2 ?_; clear hK1 hK2 K1 K2
 refine HT_skip ?_
 refine Then_n ?_
 refine HT_seq ?_
 refine HT_fr dCo rfl fun K hK => ?_; conv => whnf
 refine hK _ _ _ ?_; clear hK K
 refine HT_block ?_
 replace h := W_bd h
 refine HT_lpK (body := ref27_CheckFlow_b1 _ _ _ _) rfl h [1, 2, 3, 4] [4] [] (fun kl kh ids b s => ⟨ofL ([(10, eI s)] ++ kl), ofH ([] ++ kh), b + 64⟩) ?_; (conv => whnf); refine And.intro ?_ (fun s m h => HT_st ?_)
 · refine weak_k ?_; conv => whnf
   exact And.intro rfl (And.intro (aLc wkI (aLc wkI (aLc wkI (aLc (wkr (lsL fun _ => (lsI _ _))) (aLc (WkR.ptr (fun _ => rfl)) aLn))))) (aLc ⟨some _, rfl, BkR_c rfl (cKc wkI (cKc (wkr (lsL fun _ => (lo_TEdge _))) cKn))⟩ aLn))
 replace h := W_bref27_CheckFlow_b1 (W_bd h)
 refine HT_seq ?_
 refine HT_fr dCo rfl fun K hK => ?_; conv => whnf
 refine nlA rfl ?_; conv => whnf
 refine bKo rfl ?_; conv => whnf
 refine getK_of rfl ?_; conv => whnf
 refine hK _ _ _ ?_; clear hK K
 refine HT_if fun K1 K2 hK1 hK2 => ?_; conv => whnf
 refine cond_lk h (fun _ h => ?_) (fun _ h => ?_)
 · refine hK1 ?_; clear hK1 hK2 K1 K2
   refine HT_skip ?_
   refine Then_n ?_
   refine HT_seq ?_
   refine HT_block ?_
   refine HT_fr dCo rfl fun K hK => ?_; conv => whnf
   replace h := W_jn h
   refine cond_lk h (fun _ h => ?_) (fun _ h => ?_) <;> (conv => whnf)
   · refine cond_lk h (fun _ h => ?_) (fun _ h => ?_) <;> (conv => whnf)
     · refine nlA rfl ?_; conv => whnf
       refine bKo rfl ?_; conv => whnf
       refine nlA rfl ?_; conv => whnf
       replace h := W_bd h
       refine ref27_gives_call h55 h (WkL.refl _) (fun _ h => ?_); conv => whnf
       refine hK _ _ _ ?_; clear hK K
       refine HT_if fun K1 K2 hK1 hK2 => ?_; conv => whnf
       refine cond_lk h (fun _ h => ?_) (fun _ h => ?_)
       · refine hK1 ?_; clear hK1 hK2 K1 K2
         refine HT_fr dCo rfl fun K hK => ?_; conv => whnf
         refine hK _ _ _ ?_; clear hK K
         refine HT_ret ?_
         refine InBlock_r ?_
         refine Then_r ?_
         refine Then_r ?_
         refine InBlock_r ?_
         refine Then_r ?_
         replace h := W_xrt h
         replace h := W_inr h
         replace h := W_some h
         refine PostP_r dCo fun K hK => ?_; conv => whnf
         refine hK _ ?_; clear hK K
         cases h
         exact Wk.refl _
       refine hK2 ?_; clear hK1 hK2 K1 K2
       refine HT_skip ?_
       refine InBlock_n ?_
       refine Then_n ?_
       refine HT_f dCo rfl fun K hK => ?_; conv => whnf
       refine hK _ _ _ ?_; clear hK K
       refine Then_n ?_
       replace h := W_xnx h
       refine ⟨_, h, ?_⟩
       refine weak_k ?_; conv => whnf
       exact And.intro rfl (And.intro (aLc wkI (aLc wkI (aLc wkI (aLc (wkr (lsL fun _ => (lsI _ _))) (aLc (WkR.ptr (fun _ => rfl)) aLn))))) (aLc ⟨some _, rfl, BkR_c rfl (cKc wkI (cKc (wkr (lsL fun _ => (lo_TEdge _))) cKn))⟩ aLn))
     refine hK _ _ _ ?_; clear hK K
     refine HT_if fun K1 K2 hK1 hK2 => ?_; conv => whnf
     refine hK2 ?_; clear hK1 hK2 K1 K2
     replace h := W_cnF h
     refine HT_skip ?_
     refine InBlock_n ?_
     refine Then_n ?_
     refine HT_f dCo rfl fun K hK => ?_; conv => whnf
     refine hK _ _ _ ?_; clear hK K
     refine Then_n ?_
     replace h := W_xnx h
     refine ⟨_, h, ?_⟩
     refine weak_k ?_; conv => whnf
     exact And.intro rfl (And.intro (aLc wkI (aLc wkI (aLc wkI (aLc (wkr (lsL fun _ => (lsI _ _))) (aLc (WkR.ptr (fun _ => rfl)) aLn))))) (aLc ⟨some _, rfl, BkR_c rfl (cKc wkI (cKc (wkr (lsL fun _ => (lo_TEdge _))) cKn))⟩ aLn))
   refine hK _ _ _ ?_; clear hK K
   refine HT_if fun K1 K2 hK1 hK2 => ?_; conv => whnf
   refine hK2 ?_; clear hK1 hK2 K1 K2
   replace h := W_cnF h
   refine HT_skip ?_
   refine InBlock_n ?_
   refine Then_n ?_
   refine HT_f dCo rfl fun K hK => ?_; conv => whnf
   refine hK _ _ _ ?_; clear hK K
   refine Then_n ?_
   replace h := W_xnx h
   refine ⟨_, h, ?_⟩
   refine weak_k ?_; conv => whnf
   exact And.intro rfl (And.intro (aLc wkI (aLc wkI (aLc wkI (aLc (wkr (lsL fun _ => (lsI _ _))) (aLc (WkR.ptr (fun _ => rfl)) aLn))))) (aLc ⟨some _, rfl, BkR_c rfl (cKc wkI (cKc (wkr (lsL fun _ => (lo_TEdge _))) cKn))⟩ aLn))
 refine hK2 ?_; clear hK1 hK2 K1 K2
 refine HT_exit ?_
 refine Then_e ?_
 refine Then_e ?_
 refine InBlock_e ?_
 replace h := W_xbk h
 replace h := W_inl h
 refine Then_n ?_
 refine HT_fr dCo rfl fun K hK => ?_; conv => whnf
 refine nlA rfl ?_; conv => whnf
 refine bKo rfl ?_; conv => whnf
 refine nlA rfl ?_; conv => whnf
 replace h := W_bd h
 refine ref27_gives_call h55 h (WkL.refl _) (fun _ h => ?_); conv => whnf
 refine hK _ _ _ ?_; clear hK K
 refine HT_seq ?_
 refine HT_fr dCo rfl fun K hK => ?_; conv => whnf
 refine hK _ _ _ ?_; clear hK K
 refine HT_if fun K1 K2 hK1 hK2 => ?_; conv => whnf
 refine cond_lk h (fun _ h => ?_) (fun _ h => ?_)
 · refine hK1 ?_; clear hK1 hK2 K1 K2
   refine HT_fr dCo rfl fun K hK => ?_; conv => whnf
   refine hK _ _ _ ?_; clear hK K
   refine HT_ret ?_
   refine Then_r ?_
   replace h := W_some h
   refine PostP_r dCo fun K hK => ?_; conv => whnf
   refine hK _ ?_; clear hK K
   cases h
   exact Wk.refl _
 refine hK2 ?_; clear hK1 hK2 K1 K2
 refine HT_skip ?_
 refine Then_n ?_
 refine HT_fr dCo rfl fun K hK => ?_; conv => whnf
 refine hK _ _ _ ?_; clear hK K
 refine HT_ret ?_
 replace h := W_some h
 refine PostP_r dCo fun K hK => ?_; conv => whnf
 refine hK _ ?_; clear hK K
 cases h
 exact Wk.refl _
def ref27_has_F (a0 : Int) (a1 : Int) : Option Bool := gd (0 ≤ a1) (let v1 := ((Int.tmod (bshr .i64 a0 a1) 2) == 1); some v1)
def ref27_has_S : List AV → AV → Prop := fun args r => ∃ a0 a1, args = [eI a0, eI a1] ∧ W (ref27_has_F a0 a1) fun y => r = (eB y)
theorem ref27_has_ok {T : Tbl} (hT : TOk Try.prog T) (hpf : PfOk T PF) : FOk Try.prog 56 (pureR ref27_has_S) := by
 refine FOk_pure hT hpf Try.func56 rfl Try.ntmps56 Try.results56 (by decide) ?_
 rintro args r ⟨a0, a1, rfl, h⟩
 refine ⟨nle rfl, ?_, ?_⟩
 · exact (lsC (lsI _ _) (lsC (lsI _ _) loose_nil))
 rw [ref27_has_F.eq_1] at h
 refine HT_fr dCo rfl fun K hK => ?_; conv => whnf
 refine hK _ _ _ ?_; clear hK K
 refine HT_fr dCo rfl fun K hK => ?_; conv => whnf
 refine gd_lk h fun _ h => ?_; conv => whnf
 refine And.intro (by decide) ?_; conv => whnf
 refine hK _ _ _ ?_; clear hK K
 refine HT_ret ?_
 replace h := W_some h
 refine PostP_r dCo fun K hK => ?_; conv => whnf
 refine hK _ ?_; clear hK K
 cases h
 exact Wk.refl _
theorem ref27_has_call {T : Tbl} (hT : T 56 = pureR ref27_has_S) {args : List AV} {hp : Heap} {id : Nat} {k : AV → Prop} {a0 : Int} {a1 : Int} {Φ : Bool → Prop} (h : W (ref27_has_F a0 a1) Φ) (hw : WkL args [eI a0, eI a1]) (hk : ∀ y, Φ y → k (eB y)) : callpK T 56 args hp id k := by
 obtain ⟨y, e, hy⟩ := W_inv h
 exact callpK_pure hT ⟨a0, a1, rfl, W_of e rfl⟩ (by exact (lsB _)) hw (hk y hy)
def ref27_Leaves_b1 (a0 : TNet) (a1 : Int) (s1 : Int × Int) : Option (Ct (Int × Int) Int) := cn (decide (s1.2 < (a0.Edges.length : Int))) (jn (fun p2 : Bool => jn (fun p8 : Int =>
   some (.nx (p8, (wr (s1.2 + 1))))) fun k9 => cn p2 (ix a0.Edges default s1.2 fun e10 => let v11 := (wr (s1.1 + e10.Capacity)); k9 v11) (k9 s1.1)) fun k3 =>
   ix a0.Edges default s1.2 fun e4 => bd (ref27_has_F a1 e4.From) fun y5 => cn y5 (ix a0.Edges default s1.2 fun e6 => bd (ref27_has_F a1 e6.To) fun y7 =>
   k3 (!y7)) (k3 false)) (some (.bk (s1.1, s1.2)))
theorem W_bref27_Leaves_b1 {a0 : TNet} {a1 : Int} {s1 : Int × Int} {Φ : Ct (Int × Int) Int → Prop} (h : W (ref27_Leaves_b1 a0 a1 s1) Φ) : W (cn (decide (s1.2 < (a0.Edges.length : Int))) (jn (fun p2 : Bool => jn (fun p8 : Int => some (.nx (p8, (wr (s1.2 + 1))))) fun k9 => cn p2 (ix a0.Edges default s1.2 fun e10 =>
   let v11 := (wr (s1.1 + e10.Capacity)); k9 v11) (k9 s1.1)) fun k3 => ix a0.Edges default s1.2 fun e4 => bd (ref27_has_F a1 e4.From) fun y5 =>
   cn y5 (ix a0.Edges default s1.2 fun e6 => bd (ref27_has_F a1 e6.To) fun y7 => k3 (!y7)) (k3 false)) (some (.bk (s1.1, s1.2)))) Φ := h
def ref27_Leaves_F (a0 : TNet) (a1 : Int) : Option Int := bd (lp (ref27_Leaves_b1 a0 a1) FU (0, 0)) fun c12 => smK c12 (fun s13 => some s13.1) (fun r14 => some r14)
def ref27_Leaves_S : List AV → AV → Prop := fun args r => ∃ a0 a1, args = [eTNet a0, eI a1] ∧ W (ref27_Leaves_F a0 a1) fun y => r = (eI y)
theorem ref27_Leaves_ok {T : Tbl} (hT : TOk Try.prog T) (hpf : PfOk T PF) (h56 : T 56 = pureR ref27_has_S) : FOk Try.prog 57 (pureR ref27_Leaves_S) := by
 refine FOk_pure hT hpf Try.func57 rfl Try.ntmps57 Try.results57 (by decide) ?_
 rintro args r ⟨a0, a1, rfl, h⟩
 refine ⟨nle rfl, ?_, ?_⟩
 · exact (lsC (lo_TNet _) (lsC (lsI _ _) loose_nil))
 rw [ref27_Leaves_F.eq_1] at h
 refine HT_fr dCo rfl fun K hK => ?_; conv => whnf
 refine hK _ _ _ ?_; clear hK K
 refine HT_fr dCo rfl fun K hK => ?_; conv => whnf
 refine hK _ _ _ ?_; clear hK K
 refine HT_seq ?_
 refine HT_fr dCo rfl fun K hK => ?_; conv => whnf
 refine hK _ _ _ ?_; clear hK K
 refine HT_block ?_
 replace h := W_bd h
 refine HT_lpK (body := ref27_Leaves_b1 _ _) rfl h [1, 2] [2] [] (fun kl kh ids b s => ⟨ofL ([(5, eI s.1), (6, eI s.2)] ++ kl), ofH ([] ++ kh), b + 64⟩) ?_; (conv => whnf); refine And.intro ?_ (fun s m h => HT_st ?_)
 · refine weak_k ?_; conv => whnf
   exact And.intro rfl (And.intro (aLc wkI (aLc wkI (aLc wkI (aLc (WkR.ptr (fun _ => rfl)) aLn)))) (aLc ⟨some _, rfl, BkR_c rfl (cKc wkI (cKc (wkr (lsL fun _ => (lo_TEdge _))) cKn))⟩ aLn))
 replace h := W_bref27_Leaves_b1 (W_bd h)
 refine HT_seq ?_
 refine HT_fr dCo rfl fun K hK => ?_; conv => whnf
 refine nlA rfl ?_; conv => whnf
 refine bKo rfl ?_; conv => whnf
 refine getK_of rfl ?_; conv => whnf
 refine hK _ _ _ ?_; clear hK K
 refine HT_if fun K1 K2 hK1 hK2 => ?_; conv => whnf
 refine cond_lk h (fun _ h => ?_) (fun _ h => ?_)
 · refine hK1 ?_; clear hK1 hK2 K1 K2
   refine HT_skip ?_
   refine Then_n ?_
   refine HT_seq ?_
   refine HT_block ?_
   refine HT_fr dCo rfl fun K hK => ?_; conv => whnf
   replace h := W_jn h
   refine nlA rfl ?_; conv => whnf
   refine bKo rfl ?_; conv => whnf
   refine getK_of rfl ?_; conv => whnf
   refine ix_lk h fun _ h => ?_; conv => whnf
   refine getK_of rfl ?_; conv => whnf
   replace h := W_bd h
   refine ref27_has_call h56 h (WkL.refl _) (fun _ h => ?_); conv => whnf
   refine cond_lk h (fun _ h => ?_) (fun _ h => ?_) <;> (conv => whnf)
   · refine nlA rfl ?_; conv => whnf
     refine bKo rfl ?_; conv => whnf
     refine getK_of rfl ?_; conv => whnf
     refine ix_lk h fun _ h => ?_; conv => whnf
     refine getK_of rfl ?_; conv => whnf
     replace h := W_bd h
     refine ref27_has_call h56 h (WkL.refl _) (fun _ h => ?_); conv => whnf
     refine hK _ _ _ ?_; clear hK K
     replace h := W_jn h
     refine HT_if fun K1 K2 hK1 hK2 => ?_; conv => whnf
     refine cond_lk h (fun _ h => ?_) (fun _ h => ?_)
     · refine hK1 ?_; clear hK1 hK2 K1 K2
       refine HT_f dCo rfl fun K hK => ?_; conv => whnf
       refine nlA rfl ?_; conv => whnf
       refine bKo rfl ?_; conv => whnf
       refine getK_of rfl ?_; conv => whnf
       refine ix_lk h fun _ h => ?_; conv => whnf
       refine getK_of rfl ?_; conv => whnf
       refine hK _ _ _ ?_; clear hK K
       refine InBlock_n ?_
       refine Then_n ?_
       refine HT_f dCo rfl fun K hK => ?_; conv => whnf
       refine hK _ _ _ ?_; clear hK K
       refine Then_n ?_
       replace h := W_xnx h
       refine ⟨_, h, ?_⟩
       refine weak_k ?_; conv => whnf
       exact And.intro rfl (And.intro (aLc wkI (aLc wkI (aLc wkI (aLc (WkR.ptr (fun _ => rfl)) aLn)))) (aLc ⟨some _, rfl, BkR_c rfl (cKc wkI (cKc (wkr (lsL fun _ => (lo_TEdge _))) cKn))⟩ aLn))
     refine hK2 ?_; clear hK1 hK2 K1 K2
     refine HT_skip ?_
     refine InBlock_n ?_
     refine Then_n ?_
     refine HT_f dCo rfl fun K hK => ?_; conv => whnf
     refine hK _ _ _ ?_; clear hK K
     refine Then_n ?_
     replace h := W_xnx h
     refine ⟨_, h, ?_⟩
     refine weak_k ?_; conv => whnf
     exact And.intro rfl (And.intro (aLc wkI (aLc wkI (aLc wkI (aLc (WkR.ptr (fun _ => rfl)) aLn)))) (aLc ⟨some _, rfl, BkR_c rfl (cKc wkI (cKc (wkr (lsL fun _ => (lo_TEdge _))) cKn))⟩ aLn))
   refine hK _ _ _ ?_; clear hK K
   replace h := W_jn h
   refine HT_if fun K1 K2 hK1 hK2 => ?_; conv => whnf
   refine hK2 ?_; clear hK1 hK2 K1 K2
   replace h := W_cnF h
   refine HT_skip ?_
   refine InBlock_n ?_
   refine Then_n ?_
   refine HT_f dCo rfl fun K hK => ?_; conv => whnf
   refine hK _ _ _ ?_; clear hK K
   refine Then_n ?_
   replace h := W_xnx h
   refine ⟨_, h, ?_⟩
   refine weak_k ?_; conv => whnf
   exact And.intro rfl (And.intro (aLc wkI (aLc wkI (aLc wkI (aLc (WkR.ptr (fun _ => rfl)) aLn)))) (aLc ⟨some _, rfl, BkR_c rfl (cKc wkI (cKc (wkr (lsL fun _ => (lo_TEdge _))) cKn))⟩ aLn))
 refine hK2 ?_; clear hK1 hK2 K1 K2
 refine HT_exit ?_
 refine Then_e ?_
 refine Then_e ?_
 refine InBlock_e ?_
 replace h := W_xbk h
 replace h := W_inl h
 refine Then_n ?_
 refine HT_fr dCo rfl fun K hK => ?_; conv => whnf
 refine hK _ _ _ ?_; clear hK K
 refine HT_ret ?_
 replace h := W_some h
 refine PostP_r dCo fun K hK => ?_; conv => whnf
 refine hK _ ?_; clear hK K
 cases h
 exact Wk.refl _
theorem ref27_Leaves_call {T : Tbl} (hT : T 57 = pureR ref27_Leaves_S) {args : List AV} {hp : Heap} {id : Nat} {k : AV → Prop} {a0 : TNet} {a1 : Int} {Φ : Int → Prop} (h : W (ref27_Leaves_F a0 a1) Φ) (hw : WkL args [eTNet a0, eI a1]) (hk : ∀ y, Φ y → k (eI y)) : callpK T 57 args hp id k := by
 obtain ⟨y, e, hy⟩ := W_inv h
 exact callpK_pure hT ⟨a0, a1, rfl, W_of e rfl⟩ (by exact (lsI _ _)) hw (hk y hy)

   def ref27_Least_b1 (a0 : TNet) (a1 : Int) (a2 : Int) (s1 : Int × Int × Int) : Option (Ct (Int × Int × Int) (Int × Int)) := gd (0 ≤ a0.N) (cn (decide (s1.2.2 < (bshl .i64 1 a0.N))) (jn (fun p2 : Int × Int =>
   some (.nx (p2.1, p2.2, (wr (s1.2.2 + 1))))) fun k3 => jn (fun p4 : Bool => cn p4 (k3 (s1.1, s1.2.1)) (bd (ref27_Leaves_F a0 s1.2.2) fun y8 => jn (fun p9 : Bool =>
   jn (fun p11 : Int × Int => k3 (p11.1, p11.2)) fun k12 => cn p9 (k12 (y8, s1.2.2)) (jn (fun p13 : Int => k12 (s1.1, p13)) fun k14 => cn (y8 ==
   s1.1) (let v15 := (band .i64 s1.2.1 s1.2.2); k14 v15) (k14 s1.2.1))) fun k10 => cn (decide (s1.1 < 0)) (k10 true) (k10 (decide (y8 < s1.1))))) fun k5 =>
   bd (ref27_has_F s1.2.2 a1) fun y6 => cn (!y6) (k5 true) (bd (ref27_has_F s1.2.2 a2) fun y7 => k5 y7)) (some (.bk (s1.1, s1.2.1, s1.2.2))))
theorem W_bref27_Least_b1 {a0 : TNet} {a1 : Int} {a2 : Int} {s1 : Int × Int × Int} {Φ : Ct (Int × Int × Int) (Int × Int) → Prop} (h : W (ref27_Least_b1 a0 a1 a2 s1) Φ) : W (gd (0 ≤ a0.N) (cn (decide (s1.2.2 < (bshl .i64 1 a0.N))) (jn (fun p2 : Int × Int => some (.nx (p2.1, p2.2, (wr (s1.2.2 + 1))))) fun k3 => jn (fun p4 : Bool =>
   cn p4 (k3 (s1.1, s1.2.1)) (bd (ref27_Leaves_F a0 s1.2.2) fun y8 => jn (fun p9 : Bool => jn (fun p11 : Int × Int => k3 (p11.1, p11.2)) fun k12 =>
   cn p9 (k12 (y8, s1.2.2)) (jn (fun p13 : Int => k12 (s1.1, p13)) fun k14 => cn (y8 == s1.1) (let v15 := (band .i64 s1.2.1 s1.2.2); k14 v15) (k14 s1.2.1))) fun k10 =>
   cn (decide (s1.1 < 0)) (k10 true) (k10 (decide (y8 < s1.1))))) fun k5 => bd (ref27_has_F s1.2.2 a1) fun y6 => cn (!y6) (k5 true) (bd (ref27_has_F s1.2.2 a2) fun y7 =>
   k5 y7)) (some (.bk (s1.1, s1.2.1, s1.2.2))))) Φ := h
def ref27_Least_F (a0 : TNet) (a1 : Int) (a2 : Int) : Option (Int × Int) := bd (lp (ref27_Least_b1 a0 a1 a2) FU ((-1), 0, 0)) fun c16 => smK c16 (fun s17 =>
   some (s17.1, s17.2.1)) (fun r18 => some r18)
def ref27_Least_S : List AV → AV → Prop := fun args r => ∃ a0 a1 a2, args = [eTNet a0, eI a1, eI a2] ∧ W (ref27_Least_F a0 a1 a2) fun y => r = (.tup [eI y.1, eI y.2])
theorem ref27_Least_ok {T : Tbl} (hT : TOk Try.prog T) (hpf : PfOk T PF) (h56 : T 56 = pureR ref27_has_S) (h57 : T 57 = pureR ref27_Leaves_S) : FOk Try.prog 24 (pureR ref27_Least_S) := by
 refine FOk_pure hT hpf Try.func24 rfl Try.ntmps24 Try.results24 (by decide) ?_
 rintro args r ⟨a0, a1, a2, rfl, h⟩
 refine ⟨nle rfl, ?_, ?_⟩
 · exact (lsC (lo_TNet _) (lsC (lsI _ _) (lsC (lsI _ _) loose_nil)))
 rw [ref27_Least_F.eq_1] at h
 refine HT_fr dCo rfl fun K hK => ?_; conv => whnf
 refine hK _ _ _ ?_; clear hK K
 refine HT_fr dCo rfl fun K hK => ?_; conv => whnf
 refine hK _ _ _ ?_; clear hK K
 refine HT_fr dCo rfl fun K hK => ?_; conv => whnf
 refine hK _ _ _ ?_; clear hK K
 refine HT_seq ?_
 refine HT_fr dCo rfl fun K hK => ?_; conv => whnf
 refine hK _ _ _ ?_; clear hK K
 refine HT_block ?_
 replace h := W_bd h
 refine HT_lpK (body := ref27_Least_b1 _ _ _) rfl h [1, 2, 3] [3] [] (fun kl kh ids b s => ⟨ofL ([(8, eI s.1), (9, eI s.2.1), (10, eI s.2.2)] ++ kl), ofH ([] ++ kh), b + 64⟩) ?_; (conv => whnf); refine And.intro ?_ (fun s m h => HT_st ?_)
 · refine weak_k ?_; conv => whnf
   exact And.intro rfl (And.intro (aLc wkI (aLc wkI (aLc wkI (aLc wkI (aLc wkI (aLc (WkR.ptr (fun _ => rfl)) aLn)))))) (aLc ⟨some _, rfl, BkR_c rfl (cKc wkI (cKc (wkr (lsL fun _ => (lo_TEdge _))) cKn))⟩ aLn))
 replace h := W_bref27_Least_b1 (W_bd h)
 refine HT_seq ?_
 refine HT_fr dCo rfl fun K hK => ?_; conv => whnf
 refine nlA rfl ?_; conv => whnf
 refine bKo rfl ?_; conv => whnf
 refine getK_of rfl ?_; conv => whnf
 refine gd_lk h fun _ h => ?_; conv => whnf
 refine hK _ _ _ ?_; clear hK K
 refine HT_if fun K1 K2 hK1 hK2 => ?_; conv => whnf
 refine cond_lk h (fun _ h => ?_) (fun _ h => ?_)
 · refine hK1 ?_; clear hK1 hK2 K1 K2
   refine HT_skip ?_
   refine Then_n ?_
   refine HT_seq ?_
   replace h := W_jn h
   refine HT_block ?_
   refine HT_seq ?_
   refine HT_fr dCo rfl fun K hK => ?_; conv => whnf
   replace h := W_jn h
   replace h := W_bd h
   refine ref27_has_call h56 h (WkL.refl _) (fun _ h => ?_); conv => whnf
   refine cond_lk h (fun _ h => ?_) (fun _ h => ?_) <;> (conv => whnf)
   · refine hK _ _ _ ?_; clear hK K
     refine HT_if fun K1 K2 hK1 hK2 => ?_; conv => whnf
     refine hK1 ?_; clear hK1 hK2 K1 K2
     replace h := W_cnT h
     refine HT_exit ?_
     refine Then_e ?_
     refine InBlock_e ?_
     refine Then_n ?_
     refine HT_f dCo rfl fun K hK => ?_; conv => whnf
     refine hK _ _ _ ?_; clear hK K
     refine Then_n ?_
     replace h := W_xnx h
     refine ⟨_, h, ?_⟩
     refine weak_k ?_; conv => whnf
     exact And.intro rfl (And.intro (aLc wkI (aLc wkI (aLc wkI (aLc wkI (aLc wkI (aLc (WkR.ptr (fun _ => rfl)) aLn)))))) (aLc ⟨some _, rfl, BkR_c rfl (cKc wkI (cKc (wkr (lsL fun _ => (lo_TEdge _))) cKn))⟩ aLn))
   replace h := W_bd h
   refine ref27_has_call h56 h (WkL.refl _) (fun _ h => ?_); conv => whnf
   refine hK _ _ _ ?_; clear hK K
   refine HT_if fun K1 K2 hK1 hK2 => ?_; conv => whnf
   refine cond_lk h (fun _ h => ?_) (fun _ h => ?_)
   · refine hK1 ?_; clear hK1 hK2 K1 K2
     refine HT_exit ?_
     refine Then_e ?_
     refine InBlock_e ?_
     refine Then_n ?_
     refine HT_f dCo rfl fun K hK => ?_; conv => whnf
     refine hK _ _ _ ?_; clear hK K
     refine Then_n ?_
     replace h := W_xnx h
     refine ⟨_, h, ?_⟩
     refine weak_k ?_; conv => whnf
     exact And.intro rfl (And.intro (aLc wkI (aLc wkI (aLc wkI (aLc wkI (aLc wkI (aLc (WkR.ptr (fun _ => rfl)) aLn)))))) (aLc ⟨some _, rfl, BkR_c rfl (cKc wkI (cKc (wkr (lsL fun _ => (lo_TEdge _))) cKn))⟩ aLn))
   refine hK2 ?_; clear hK1 hK2 K1 K2
   refine HT_skip ?_
   refine Then_n ?_
   refine HT_fr dCo rfl fun K hK => ?_; conv => whnf
   refine nlA rfl ?_; conv => whnf
   refine bKo rfl ?_; conv => whnf
   refine nlA rfl ?_; conv => whnf
   replace h := W_bd h
   refine ref27_Leaves_call h57 h (WkL.refl _) (fun _ h => ?_); conv => whnf
   refine hK _ _ _ ?_; clear hK K
   refine HT_fr dCo rfl fun K hK => ?_; conv => whnf
   replace h := W_jn h
   refine cond_lk h (fun _ h => ?_) (fun _ h => ?_) <;> (conv => whnf)
   · refine hK _ _ _ ?_; clear hK K
     replace h := W_jn h
     refine HT_if fun K1 K2 hK1 hK2 => ?_; conv => whnf
     refine hK1 ?_; clear hK1 hK2 K1 K2
     replace h := W_cnT h
     refine HT_fr dCo rfl fun K hK => ?_; conv => whnf
     refine hK _ _ _ ?_; clear hK K
     refine HT_f dCo rfl fun K hK => ?_; conv => whnf
     refine hK _ _ _ ?_; clear hK K
     refine InBlock_n ?_
     refine Then_n ?_
     refine HT_f dCo rfl fun K hK => ?_; conv => whnf
     refine hK _ _ _ ?_; clear hK K
     refine Then_n ?_
     replace h := W_xnx h
     refine ⟨_, h, ?_⟩
     refine weak_k ?_; conv => whnf
     exact And.intro rfl (And.intro (aLc wkI (aLc wkI (aLc wkI (aLc wkI (aLc wkI (aLc (WkR.ptr (fun _ => rfl)) aLn)))))) (aLc ⟨some _, rfl, BkR_c rfl (cKc wkI (cKc (wkr (lsL fun _ => (lo_TEdge _))) cKn))⟩ aLn))
   refine hK _ _ _ ?_; clear hK K
   replace h := W_jn h
   refine HT_if fun K1 K2 hK1 hK2 => ?_; conv => whnf
   refine cond_lk h (fun _ h => ?_) (fun _ h => ?_)
   · refine hK1 ?_; clear hK1 hK2 K1 K2
     refine HT_fr dCo rfl fun K hK => ?_; conv => whnf
     refine hK _ _ _ ?_; clear hK K
     refine HT_f dCo rfl fun K hK => ?_; conv => whnf
     refine hK _ _ _ ?_; clear hK K
     refine InBlock_n ?_
     refine Then_n ?_
     refine HT_f dCo rfl fun K hK => ?_; conv => whnf
     refine hK _ _ _ ?_; clear hK K
     refine Then_n ?_
     replace h := W_xnx h
     refine ⟨_, h, ?_⟩
     refine weak_k ?_; conv => whnf
     exact And.intro rfl (And.intro (aLc wkI (aLc wkI (aLc wkI (aLc wkI (aLc wkI (aLc (WkR.ptr (fun _ => rfl)) aLn)))))) (aLc ⟨some _, rfl, BkR_c rfl (cKc wkI (cKc (wkr (lsL fun _ => (lo_TEdge _))) cKn))⟩ aLn))
   refine hK2 ?_; clear hK1 hK2 K1 K2
   refine HT_fr dCo rfl fun K hK => ?_; conv => whnf
   refine hK _ _ _ ?_; clear hK K
   replace h := W_jn h
   refine HT_if fun K1 K2 hK1 hK2 => ?_; conv => whnf
   refine cond_lk h (fun _ h => ?_) (fun _ h => ?_)
   · refine hK1 ?_; clear hK1 hK2 K1 K2
     refine HT_f dCo rfl fun K hK => ?_; conv => whnf
     refine hK _ _ _ ?_; clear hK K
     refine InBlock_n ?_
     refine Then_n ?_
     refine HT_f dCo rfl fun K hK => ?_; conv => whnf
     refine hK _ _ _ ?_; clear hK K
     refine Then_n ?_
     replace h := W_xnx h
     refine ⟨_, h, ?_⟩
     refine weak_k ?_; conv => whnf
     exact And.intro rfl (And.intro (aLc wkI (aLc wkI (aLc wkI (aLc wkI (aLc wkI (aLc (WkR.ptr (fun _ => rfl)) aLn)))))) (aLc ⟨some _, rfl, BkR_c rfl (cKc wkI (cKc (wkr (lsL fun _ => (lo_TEdge _))) cKn))⟩ aLn))
   refine hK2 ?_; clear hK1 hK2 K1 K2
   refine HT_skip ?_
   refine InBlock_n ?_
   refine Then_n ?_
   refine HT_f dCo rfl fun K hK => ?_; conv => whnf
   refine hK _ _ _ ?_; clear hK K
   refine Then_n ?_
   replace h := W_xnx h
   refine ⟨_, h, ?_⟩
   refine weak_k ?_; conv => whnf
   exact And.intro rfl (And.intro (aLc wkI (aLc wkI (aLc wkI (aLc wkI (aLc wkI (aLc (WkR.ptr (fun _ => rfl)) aLn)))))) (aLc ⟨some _, rfl, BkR_c rfl (cKc wkI (cKc (wkr (lsL fun _ => (lo_TEdge _))) cKn))⟩ aLn))
 refine hK2 ?_; clear hK1 hK2 K1 K2
 refine HT_exit ?_
 refine Then_e ?_
 refine Then_e ?_
 refine InBlock_e ?_
 replace h := W_xbk h
 replace h := W_inl h
 refine Then_n ?_
 refine HT_fr dCo rfl fun K hK => ?_; conv => whnf
 refine hK _ _ _ ?_; clear hK K
 refine HT_ret ?_
 replace h := W_some h
 refine PostP_r dCo fun K hK => ?_; conv => whnf
 refine hK _ ?_; clear hK K
 cases h
 exact Wk.refl _
end Go.Proofs.Ytgkmodjcoedonaa
namespace Go.Proofs.Ytgkmodjcoedonaa
open Go Go.Eng
set_option maxHeartbeats 0
set_option maxRecDepth 100000
def ref27_CheckCut_F (a0 : TNet) (a1 : Int) (a2 : Int) (a3 : Int) : Option (Int × Bool) := jn (fun p1 : Bool => cn p1 (some (0, false)) (jn (fun p5 : Bool =>
   cn p5 (some (0, false)) (bd (ref27_Leaves_F a0 a3) fun y9 => some (y9, true))) fun k6 => bd (ref27_has_F a3 a1) fun y7 => cn (!y7) (k6 true) (bd (ref27_has_F a3 a2) fun y8 =>
   k6 y8))) fun k2 => bd (ref27_Ends_F a0 a1 a2) fun y3 => cn (!y3) (k2 true) (gd (0 ≤ a0.N) (bd (ref27_in_F a3 0 (wr ((bshl .i64 1 a0.N) - 1))) fun y4 => k2 (!y4)))
def ref27_CheckCut_S : List AV → AV → Prop := fun args r => ∃ a0 a1 a2 a3, args = [eTNet a0, eI a1, eI a2, eI a3] ∧ W (ref27_CheckCut_F a0 a1 a2 a3) fun y => r = (.tup [eI y.1, eB y.2])
theorem ref27_CheckCut_ok {T : Tbl} (hT : TOk Try.prog T) (hpf : PfOk T PF) (h22 : T 22 = pureR ref27_Ends_S) (h49 : T 49 = pureR ref27_in_S) (h56 : T 56 = pureR ref27_has_S) (h57 : T 57 = pureR ref27_Leaves_S) : FOk Try.prog 29 (pureR ref27_CheckCut_S) := by
 refine FOk_pure hT hpf Try.func29 rfl Try.ntmps29 Try.results29 (by decide) ?_
 rintro args r ⟨a0, a1, a2, a3, rfl, h⟩
 refine ⟨nle rfl, ?_, ?_⟩
 · exact (lsC (lo_TNet _) (lsC (lsI _ _) (lsC (lsI _ _) (lsC (lsI _ _) loose_nil))))
 rw [ref27_CheckCut_F.eq_1] at h
 refine HT_fr dCo rfl fun K hK => ?_; conv => whnf
 refine hK _ _ _ ?_; clear hK K
 refine HT_seq ?_
 refine HT_fr dCo rfl fun K hK => ?_; conv => whnf
 replace h := W_jn h
 refine nlA rfl ?_; conv => whnf
 refine bKo rfl ?_; conv => whnf
 refine nlA rfl ?_; conv => whnf
 replace h := W_bd h
 refine ref27_Ends_call h22 h (WkL.refl _) (fun _ h => ?_); conv => whnf
 refine cond_lk h (fun _ h => ?_) (fun _ h => ?_) <;> (conv => whnf)
 · refine hK _ _ _ ?_; clear hK K
   refine HT_if fun K1 K2 hK1 hK2 => ?_; conv => whnf
   refine hK1 ?_; clear hK1 hK2 K1 K2
   replace h := W_cnT h
   refine HT_fr dCo rfl fun K hK => ?_; conv => whnf
   refine hK _ _ _ ?_; clear hK K
   refine HT_ret ?_
   refine Then_r ?_
   replace h := W_some h
   refine PostP_r dCo fun K hK => ?_; conv => whnf
   refine hK _ ?_; clear hK K
   cases h
   exact Wk.refl _
 refine nlA rfl ?_; conv => whnf
 refine bKo rfl ?_; conv => whnf
 refine getK_of rfl ?_; conv => whnf
 refine gd_lk h fun _ h => ?_; conv => whnf
 replace h := W_bd h
 refine ref27_in_call h49 h (WkL.refl _) (fun _ h => ?_); conv => whnf
 refine hK _ _ _ ?_; clear hK K
 refine HT_if fun K1 K2 hK1 hK2 => ?_; conv => whnf
 refine cond_lk h (fun _ h => ?_) (fun _ h => ?_)
 · refine hK1 ?_; clear hK1 hK2 K1 K2
   refine HT_fr dCo rfl fun K hK => ?_; conv => whnf
   refine hK _ _ _ ?_; clear hK K
   refine HT_ret ?_
   refine Then_r ?_
   replace h := W_some h
   refine PostP_r dCo fun K hK => ?_; conv => whnf
   refine hK _ ?_; clear hK K
   cases h
   exact Wk.refl _
 refine hK2 ?_; clear hK1 hK2 K1 K2
 refine HT_skip ?_
 refine Then_n ?_
 refine HT_seq ?_
 refine HT_fr dCo rfl fun K hK => ?_; conv => whnf
 replace h := W_jn h
 replace h := W_bd h
 refine ref27_has_call h56 h (WkL.refl _) (fun _ h => ?_); conv => whnf
 refine cond_lk h (fun _ h => ?_) (fun _ h => ?_) <;> (conv => whnf)
 · refine hK _ _ _ ?_; clear hK K
   refine HT_if fun K1 K2 hK1 hK2 => ?_; conv => whnf
   refine hK1 ?_; clear hK1 hK2 K1 K2
   replace h := W_cnT h
   refine HT_fr dCo rfl fun K hK => ?_; conv => whnf
   refine hK _ _ _ ?_; clear hK K
   refine HT_ret ?_
   refine Then_r ?_
   replace h := W_some h
   refine PostP_r dCo fun K hK => ?_; conv => whnf
   refine hK _ ?_; clear hK K
   cases h
   exact Wk.refl _
 replace h := W_bd h
 refine ref27_has_call h56 h (WkL.refl _) (fun _ h => ?_); conv => whnf
 refine hK _ _ _ ?_; clear hK K
 refine HT_if fun K1 K2 hK1 hK2 => ?_; conv => whnf
 refine cond_lk h (fun _ h => ?_) (fun _ h => ?_)
 · refine hK1 ?_; clear hK1 hK2 K1 K2
   refine HT_fr dCo rfl fun K hK => ?_; conv => whnf
   refine hK _ _ _ ?_; clear hK K
   refine HT_ret ?_
   refine Then_r ?_
   replace h := W_some h
   refine PostP_r dCo fun K hK => ?_; conv => whnf
   refine hK _ ?_; clear hK K
   cases h
   exact Wk.refl _
 refine hK2 ?_; clear hK1 hK2 K1 K2
 refine HT_skip ?_
 refine Then_n ?_
 refine HT_fr dCo rfl fun K hK => ?_; conv => whnf
 refine nlA rfl ?_; conv => whnf
 refine bKo rfl ?_; conv => whnf
 refine nlA rfl ?_; conv => whnf
 replace h := W_bd h
 refine ref27_Leaves_call h57 h (WkL.refl _) (fun _ h => ?_); conv => whnf
 refine hK _ _ _ ?_; clear hK K
 refine HT_ret ?_
 replace h := W_some h
 refine PostP_r dCo fun K hK => ?_; conv => whnf
 refine hK _ ?_; clear hK K
 cases h
 exact Wk.refl _
theorem ref27_CheckCut_call {T : Tbl} (hT : T 29 = pureR ref27_CheckCut_S) {args : List AV} {hp : Heap} {id : Nat} {k : AV → Prop} {a0 : TNet} {a1 : Int} {a2 : Int} {a3 : Int} {Φ : Int × Bool → Prop} (h : W (ref27_CheckCut_F a0 a1 a2 a3) Φ) (hw : WkL args [eTNet a0, eI a1, eI a2, eI a3]) (hk : ∀ y, Φ y → k (.tup [eI y.1, eB y.2])) : callpK T 29 args hp id k := by
 obtain ⟨y, e, hy⟩ := W_inv h
 exact callpK_pure hT ⟨a0, a1, a2, a3, rfl, W_of e rfl⟩ (by exact loose_tup (lsC (lsI _ _) (lsC (lsB _) loose_nil))) hw (hk y hy)
def ref27_Same_b1 (a0 : TNet) (a1 : TNet) (s3 : Int) : Option (Ct Int Bool) := cn (decide (s3 < (a0.Edges.length : Int))) (ix a0.Edges default s3 fun e4 =>
   ix a1.Edges default s3 fun e5 => cn (!((e4.From == e5.From) && ((e4.To == e5.To) && (e4.Capacity ==
   e5.Capacity)))) (some (.rt false)) (some (.nx (wr (s3 + 1))))) (some (.bk s3))
theorem W_bref27_Same_b1 {a0 : TNet} {a1 : TNet} {s3 : Int} {Φ : Ct Int Bool → Prop} (h : W (ref27_Same_b1 a0 a1 s3) Φ) : W (cn (decide (s3 < (a0.Edges.length : Int))) (ix a0.Edges default s3 fun e4 => ix a1.Edges default s3 fun e5 => cn (!((e4.From == e5.From) && ((e4.To == e5.To) && (e4.Capacity ==
   e5.Capacity)))) (some (.rt false)) (some (.nx (wr (s3 + 1))))) (some (.bk s3))) Φ := h
def ref27_Same_F (a0 : TNet) (a1 : TNet) : Option Bool := jn (fun p1 : Bool => cn p1 (some false) (bd (lp (ref27_Same_b1 a0 a1) FU 0) fun c6 => smK c6 (fun s7 =>
   some true) (fun r8 => some r8))) fun k2 => cn (a0.N != a1.N) (k2 true) (k2 ((a0.Edges.length : Int) != (a1.Edges.length : Int)))
def ref27_Same_S : List AV → AV → Prop := fun args r => ∃ a0 a1, args = [eTNet a0, eTNet a1] ∧ W (ref27_Same_F a0 a1) fun y => r = (eB y)
theorem ref27_Same_ok {T : Tbl} (hT : TOk Try.prog T) (hpf : PfOk T PF) : FOk Try.prog 32 (pureR ref27_Same_S) := by
 refine FOk_pure hT hpf Try.func32 rfl Try.ntmps32 Try.results32 (by decide) ?_
 rintro args r ⟨a0, a1, rfl, h⟩
 refine ⟨nle rfl, ?_, ?_⟩
 · exact (lsC (lo_TNet _) (lsC (lo_TNet _) loose_nil))
 rw [ref27_Same_F.eq_1] at h
 refine HT_fr dCo rfl fun K hK => ?_; conv => whnf
 refine hK _ _ _ ?_; clear hK K
 refine HT_seq ?_
 refine HT_fr dCo rfl fun K hK => ?_; conv => whnf
 replace h := W_jn h
 refine nlA rfl ?_; conv => whnf
 refine bKo rfl ?_; conv => whnf
 refine getK_of rfl ?_; conv => whnf
 refine nlA rfl ?_; conv => whnf
 refine bKo rfl ?_; conv => whnf
 refine getK_of rfl ?_; conv => whnf
 refine cond_lk h (fun _ h => ?_) (fun _ h => ?_) <;> (conv => whnf)
 · refine hK _ _ _ ?_; clear hK K
   refine HT_if fun K1 K2 hK1 hK2 => ?_; conv => whnf
   refine hK1 ?_; clear hK1 hK2 K1 K2
   replace h := W_cnT h
   refine HT_fr dCo rfl fun K hK => ?_; conv => whnf
   refine hK _ _ _ ?_; clear hK K
   refine HT_ret ?_
   refine Then_r ?_
   replace h := W_some h
   refine PostP_r dCo fun K hK => ?_; conv => whnf
   refine hK _ ?_; clear hK K
   cases h
   exact Wk.refl _
 refine nlA rfl ?_; conv => whnf
 refine bKo rfl ?_; conv => whnf
 refine getK_of rfl ?_; conv => whnf
 refine nlA rfl ?_; conv => whnf
 refine bKo rfl ?_; conv => whnf
 refine getK_of rfl ?_; conv => whnf
 refine hK _ _ _ ?_; clear hK K
 refine HT_if fun K1 K2 hK1 hK2 => ?_; conv => whnf
 refine cond_lk h (fun _ h => ?_) (fun _ h => ?_)
 · refine hK1 ?_; clear hK1 hK2 K1 K2
   refine HT_fr dCo rfl fun K hK => ?_; conv => whnf
   refine hK _ _ _ ?_; clear hK K
   refine HT_ret ?_
   refine Then_r ?_
   replace h := W_some h
   refine PostP_r dCo fun K hK => ?_; conv => whnf
   refine hK _ ?_; clear hK K
   cases h
   exact Wk.refl _
 refine hK2 ?_; clear hK1 hK2 K1 K2
 refine HT_skip ?_
 refine Then_n ?_
 refine HT_seq ?_
 refine HT_fr dCo rfl fun K hK => ?_; conv => whnf
 refine hK _ _ _ ?_; clear hK K
 refine HT_block ?_
 replace h := W_bd h
 refine HT_lpK (body := ref27_Same_b1 _ _) rfl h [2, 3] [2, 3] [] (fun kl kh ids b s => ⟨ofL ([(5, eI s)] ++ kl), ofH ([] ++ kh), b + 64⟩) ?_; (conv => whnf); refine And.intro ?_ (fun s m h => HT_st ?_)
 · refine weak_k ?_; conv => whnf
   exact And.intro rfl (And.intro (aLc wkI (aLc (WkR.ptr (fun _ => rfl)) (aLc (WkR.ptr (fun _ => rfl)) aLn))) (aLc ⟨some _, rfl, BkR_c rfl (cKc wkI (cKc (wkr (lsL fun _ => (lo_TEdge _))) cKn))⟩ (aLc ⟨some _, rfl, BkR_c rfl (cKc wkI (cKc (wkr (lsL fun _ => (lo_TEdge _))) cKn))⟩ aLn)))
 replace h := W_bref27_Same_b1 (W_bd h)
 refine HT_seq ?_
 refine HT_fr dCo rfl fun K hK => ?_; conv => whnf
 refine nlA rfl ?_; conv => whnf
 refine bKo rfl ?_; conv => whnf
 refine getK_of rfl ?_; conv => whnf
 refine hK _ _ _ ?_; clear hK K
 refine HT_if fun K1 K2 hK1 hK2 => ?_; conv => whnf
 refine cond_lk h (fun _ h => ?_) (fun _ h => ?_)
 · refine hK1 ?_; clear hK1 hK2 K1 K2
   refine HT_skip ?_
   refine Then_n ?_
   refine HT_seq ?_
   refine HT_block ?_
   refine HT_fd dCo mix_ok rfl (by kernel_rfl) fun K hK => ?_; conv => whnf
   refine nlA rfl ?_; conv => whnf
   refine bKo rfl ?_; conv => whnf
   refine getK_of rfl ?_; conv => whnf
   refine ix_lk h fun _ h => ?_; conv => whnf
   refine nlA rfl ?_; conv => whnf
   refine nlA rfl ?_; conv => whnf
   refine bKo rfl ?_; conv => whnf
   refine getK_of rfl ?_; conv => whnf
   refine ix_lk h fun _ h => ?_; conv => whnf
   refine nlA rfl ?_; conv => whnf
   refine eqK_n (eqv72 _ _ _ _ _ _) ?_; conv => whnf
   refine hK _ _ _ ?_; clear hK K
   refine HT_if fun K1 K2 hK1 hK2 => ?_; conv => whnf
   refine cond_lk h (fun _ h => ?_) (fun _ h => ?_)
   · refine hK1 ?_; clear hK1 hK2 K1 K2
     refine HT_fr dCo rfl fun K hK => ?_; conv => whnf
     refine hK _ _ _ ?_; clear hK K
     refine HT_ret ?_
     refine InBlock_r ?_
     refine Then_r ?_
     refine Then_r ?_
     refine InBlock_r ?_
     refine Then_r ?_
     replace h := W_xrt h
     replace h := W_inr h
     replace h := W_some h
     refine PostP_r dCo fun K hK => ?_; conv => whnf
     refine hK _ ?_; clear hK K
     cases h
     exact Wk.refl _
   refine hK2 ?_; clear hK1 hK2 K1 K2
   refine HT_skip ?_
   refine InBlock_n ?_
   refine Then_n ?_
   refine HT_f dCo rfl fun K hK => ?_; conv => whnf
   refine hK _ _ _ ?_; clear hK K
   refine Then_n ?_
   replace h := W_xnx h
   refine ⟨_, h, ?_⟩
   refine weak_k ?_; conv => whnf
   exact And.intro rfl (And.intro (aLc wkI (aLc (WkR.ptr (fun _ => rfl)) (aLc (WkR.ptr (fun _ => rfl)) aLn))) (aLc ⟨some _, rfl, BkR_c rfl (cKc wkI (cKc (wkr (lsL fun _ => (lo_TEdge _))) cKn))⟩ (aLc ⟨some _, rfl, BkR_c rfl (cKc wkI (cKc (wkr (lsL fun _ => (lo_TEdge _))) cKn))⟩ aLn)))
 refine hK2 ?_; clear hK1 hK2 K1 K2
 refine HT_exit ?_
 refine Then_e ?_
 refine Then_e ?_
 refine InBlock_e ?_
 replace h := W_xbk h
 replace h := W_inl h
 refine Then_n ?_
 refine HT_fr dCo rfl fun K hK => ?_; conv => whnf
 refine hK _ _ _ ?_; clear hK K
 refine HT_ret ?_
 replace h := W_some h
 refine PostP_r dCo fun K hK => ?_; conv => whnf
 refine hK _ ?_; clear hK K
 cases h
 exact Wk.refl _
   def ref27_greatest_b2 (a0 : TNet) (a1 : Int) (s2 : Int × Int × (List Bool)) (s3 : Int × Int) : Option (Ct (Int × Int) Int) := cn (decide (s3.2 < (a0.Edges.length : Int))) (ix a0.Edges default s3.2 fun e4 =>
   jn (fun p5 : Bool => jn (fun p10 : Int => some (.nx (p10, (wr (s3.2 + 1))))) fun k11 => cn p5 (k11 s3.2) (k11 s3.1)) fun k6 =>
   gd ((0 : Int) ≤ s3.2 ∧ s3.2 < (s2.2.2.length : Int)) (cn (!(s2.2.2.getD (s3.2).toNat default)) (bd (ref27_has_F a1 e4.From) fun y7 => cn y7 (bd (ref27_has_F a1 e4.To) fun y8 =>
   cn (!y8) (cn (decide (s3.1 < 0)) (k6 true) (ix a0.Edges default (imax s3.1 0) fun e9 => k6 (decide (e4.Capacity >
   e9.Capacity)))) (k6 false)) (k6 false)) (k6 false))) (some (.bk (s3.1, s3.2)))
theorem W_bref27_greatest_b2 {a0 : TNet} {a1 : Int} {s2 : Int × Int × (List Bool)} {s3 : Int × Int} {Φ : Ct (Int × Int) Int → Prop} (h : W (ref27_greatest_b2 a0 a1 s2 s3) Φ) : W (cn (decide (s3.2 < (a0.Edges.length : Int))) (ix a0.Edges default s3.2 fun e4 => jn (fun p5 : Bool => jn (fun p10 : Int => some (.nx (p10, (wr (s3.2 + 1))))) fun k11 =>
   cn p5 (k11 s3.2) (k11 s3.1)) fun k6 => gd ((0 : Int) ≤ s3.2 ∧ s3.2 < (s2.2.2.length : Int)) (cn (!(s2.2.2.getD (s3.2).toNat default)) (bd (ref27_has_F a1 e4.From) fun y7 =>
   cn y7 (bd (ref27_has_F a1 e4.To) fun y8 => cn (!y8) (cn (decide (s3.1 < 0)) (k6 true) (ix a0.Edges default (imax s3.1 0) fun e9 => k6 (decide (e4.Capacity >
   e9.Capacity)))) (k6 false)) (k6 false)) (k6 false))) (some (.bk (s3.1, s3.2)))) Φ := h
def ref27_greatest_b1 (a0 : TNet) (a1 : Int) (s2 : Int × Int × (List Bool)) : Option (Ct (Int × Int × (List Bool)) Int) := cn (decide (s2.1 >
   0)) (bd (lp (ref27_greatest_b2 a0 a1 s2) FU ((-1), 0)) fun c12 => smK c12 (fun s13 =>
   cn (decide (s13.1 < 0)) (some (.rt s2.2.1)) (gd ((0 : Int) ≤ s13.1 ∧ s13.1 < (s2.2.2.length : Int)) (st s2.2.2 (s13.1) true fun l15 => ix a0.Edges default s13.1 fun e16 =>
   let v17 := (wr (s2.2.1 + e16.Capacity)); some (.nx ((wr (s2.1 - 1)), v17, l15))))) (fun r14 => some (.rt r14))) (some (.bk (s2.1, s2.2.1, s2.2.2)))
theorem W_bref27_greatest_b1 {a0 : TNet} {a1 : Int} {s2 : Int × Int × (List Bool)} {Φ : Ct (Int × Int × (List Bool)) Int → Prop} (h : W (ref27_greatest_b1 a0 a1 s2) Φ) : W (cn (decide (s2.1 > 0)) (bd (lp (ref27_greatest_b2 a0 a1 s2) FU ((-1), 0)) fun c12 => smK c12 (fun s13 =>
   cn (decide (s13.1 < 0)) (some (.rt s2.2.1)) (gd ((0 : Int) ≤ s13.1 ∧ s13.1 < (s2.2.2.length : Int)) (st s2.2.2 (s13.1) true fun l15 => ix a0.Edges default s13.1 fun e16 =>
   let v17 := (wr (s2.2.1 + e16.Capacity)); some (.nx ((wr (s2.1 - 1)), v17, l15))))) (fun r14 => some (.rt r14))) (some (.bk (s2.1, s2.2.1, s2.2.2)))) Φ := h

   def ref27_greatest_F (a0 : TNet) (a1 : Int) (a2 : Int) : Option Int := gd ((0 : Int) ≤ (a0.Edges.length : Int) ∧ (a0.Edges.length : Int) ≤ (1048576 : Int)) (lt (List.replicate ((a0.Edges.length : Int)).toNat (false : Bool)) fun l1 =>
   bd (lp (ref27_greatest_b1 a0 a1) FU (a2, 0, l1)) fun c18 => smK c18 (fun s19 => some s19.2.1) (fun r20 => some r20))
def ref27_greatest_S : List AV → AV → Prop := fun args r => ∃ a0 a1 a2, args = [eTNet a0, eI a1, eI a2] ∧ W (ref27_greatest_F a0 a1 a2) fun y => r = (eI y)
theorem ref27_greatest_ok {T : Tbl} (hT : TOk Try.prog T) (hpf : PfOk T PF) (h56 : T 56 = pureR ref27_has_S) : FOk Try.prog 65 (pureR ref27_greatest_S) := by
 refine FOk_pure hT hpf Try.func65 rfl Try.ntmps65 Try.results65 (by decide) ?_
 rintro args r ⟨a0, a1, a2, rfl, h⟩
 refine ⟨nle rfl, ?_, ?_⟩
 · exact (lsC (lo_TNet _) (lsC (lsI _ _) (lsC (lsI _ _) loose_nil)))
 rw [ref27_greatest_F.eq_1] at h
 refine HT_fr dCo rfl fun K hK => ?_; conv => whnf
 refine hK _ _ _ ?_; clear hK K
 refine HT_fr dCo rfl fun K hK => ?_; conv => whnf
 refine nlA rfl ?_; conv => whnf
 refine bKo rfl ?_; conv => whnf
 refine getK_of rfl ?_; conv => whnf
 refine mks_lk (enc := eB) dCo (false : Bool) h rfl rfl ⟨nle rfl, nle rfl, rfl⟩ rfl (fun h => ?_); conv => whnf
 refine hK _ _ _ ?_; clear hK K
 refine HT_fr dCo rfl fun K hK => ?_; conv => whnf
 refine hK _ _ _ ?_; clear hK K
 refine HT_seq ?_
 refine HT_block ?_
 replace h := W_bd h
 refine HT_lpR (body := ref27_greatest_b1 _ _) rfl h [1, 3] [3] [] [] (fun kl kh kr ids b s => ⟨ofL ([(2, eI s.1), (8, eI s.2.1), (7, .so (b + 0) 0 s.2.2.length 1)] ++ kl), ofH (([] ++ kh) ++ ([(b + 0, .cells (flE (ceE eB) s.2.2))] ++ kr)), b + 128⟩) ?_; (conv => whnf); refine And.intro ?_ (fun s m h => HT_st ?_)
 · refine weak_r ?_; conv => whnf
   exact And.intro rfl (And.intro (aLc wkI (aLc wkI (aLc (WkR.so (fun _ => rfl)) (aLc wkI (aLc (WkR.ptr (fun _ => rfl)) aLn))))) (aLc ⟨some _, rfl, BkR_c rfl (cKc wkI (cKc (wkr (lsL fun _ => (lo_TEdge _))) cKn))⟩ (aLc ⟨some _, rfl, BkR_r rfl (fun _ => (lsC (lsB _) loose_nil))⟩ aLn)))
 replace h := W_bref27_greatest_b1 (W_bd h)
 refine HT_seq ?_
 refine HT_fr dCo rfl fun K hK => ?_; conv => whnf
 refine hK _ _ _ ?_; clear hK K
 refine HT_if fun K1 K2 hK1 hK2 => ?_; conv => whnf
 refine cond_lk h (fun _ h => ?_) (fun _ h => ?_)
 · refine hK1 ?_; clear hK1 hK2 K1 K2
   refine HT_skip ?_
   refine Then_n ?_
   refine HT_seq ?_
   refine HT_block ?_
   refine HT_fr dCo rfl fun K hK => ?_; conv => whnf
   refine hK _ _ _ ?_; clear hK K
   refine HT_seq ?_
   refine HT_fr dCo rfl fun K hK => ?_; conv => whnf
   refine hK _ _ _ ?_; clear hK K
   refine HT_block ?_
   replace h := W_bd h
   refine HT_lpR (body := ref27_greatest_b2 _ _ _) rfl h [1, 2, 3, 7, 8] [3] [7] [] (fun kl kh kr ids b s => ⟨ofL ([(9, eI s.1), (10, eI s.2)] ++ kl), ofH (([] ++ kh) ++ ([] ++ kr)), b + 64⟩) ?_; (conv => whnf); refine And.intro ?_ (fun s m h => HT_st ?_)
   · refine weak_r ?_; conv => whnf
     exact And.intro rfl (And.intro (aLc wkI (aLc wkI (aLc wkI (aLc wkI (aLc (WkR.ptr (fun _ => rfl)) (aLc (WkR.so (fun _ => rfl)) (aLc wkI aLn))))))) (aLc ⟨some _, rfl, BkR_c rfl (cKc wkI (cKc (wkr (lsL fun _ => (lo_TEdge _))) cKn))⟩ (aLc ⟨some _, rfl, BkR_r rfl (fun _ => (lsC (lsB _) loose_nil))⟩ aLn)))
   replace h := W_bref27_greatest_b2 (W_bd h)
   refine HT_seq ?_
   refine HT_fr dCo rfl fun K hK => ?_; conv => whnf
   refine nlA rfl ?_; conv => whnf
   refine bKo rfl ?_; conv => whnf
   refine getK_of rfl ?_; conv => whnf
   refine hK _ _ _ ?_; clear hK K
   refine HT_if fun K1 K2 hK1 hK2 => ?_; conv => whnf
   refine cond_lk h (fun _ h => ?_) (fun _ h => ?_)
   · refine hK1 ?_; clear hK1 hK2 K1 K2
     refine HT_skip ?_
     refine Then_n ?_
     refine HT_seq ?_
     refine HT_block ?_
     refine HT_fr dCo rfl fun K hK => ?_; conv => whnf
     refine nlA rfl ?_; conv => whnf
     refine bKo rfl ?_; conv => whnf
     refine getK_of rfl ?_; conv => whnf
     refine ix_lk h fun _ h => ?_; conv => whnf
     refine nlA rfl ?_; conv => whnf
     refine bKo rfl ?_; conv => whnf
     refine And.intro rfl (And.intro (nle rfl) (And.intro rfl ?_)); conv => whnf
     refine hK _ _ _ ?_; clear hK K
     refine HT_fd dCo mix_ok rfl (by kernel_rfl) fun K hK => ?_; conv => whnf
     replace h := W_jn h
     refine gd_lkN h (rfl) fun hx262 h => ?_; conv => whnf
     refine nlA rfl ?_; conv => whnf
     refine bKo rfl ?_; conv => whnf
     refine get_flN (enc := eB) (d := default) (q := 0) (fun _ => rfl) (rfl) hx262 (nle rfl) rfl ?_; conv => whnf
     refine cond_lk h (fun _ h => ?_) (fun _ h => ?_) <;> (conv => whnf)
     · refine nlA rfl ?_; conv => whnf
       refine bKo rfl ?_; conv => whnf
       refine getK_of rfl ?_; conv => whnf
       replace h := W_bd h
       refine ref27_has_call h56 h (WkL.refl _) (fun _ h => ?_); conv => whnf
       refine cond_lk h (fun _ h => ?_) (fun _ h => ?_) <;> (conv => whnf)
       · refine nlA rfl ?_; conv => whnf
         refine bKo rfl ?_; conv => whnf
         refine getK_of rfl ?_; conv => whnf
         replace h := W_bd h
         refine ref27_has_call h56 h (WkL.refl _) (fun _ h => ?_); conv => whnf
         refine cond_lk h (fun _ h => ?_) (fun _ h => ?_) <;> (conv => whnf)
         · refine cond_lk h (fun _ h => ?_) (fun _ h => ?_) <;> (conv => whnf)
           · refine hK _ _ _ ?_; clear hK K
             replace h := W_jn h
             refine HT_if fun K1 K2 hK1 hK2 => ?_; conv => whnf
             refine hK1 ?_; clear hK1 hK2 K1 K2
             replace h := W_cnT h
             refine HT_f dCo rfl fun K hK => ?_; conv => whnf
             refine hK _ _ _ ?_; clear hK K
             refine InBlock_n ?_
             refine Then_n ?_
             refine HT_f dCo rfl fun K hK => ?_; conv => whnf
             refine hK _ _ _ ?_; clear hK K
             refine Then_n ?_
             replace h := W_xnx h
             refine ⟨_, h, ?_⟩
             refine weak_r ?_; conv => whnf
             exact And.intro rfl (And.intro (aLc wkI (aLc wkI (aLc wkI (aLc wkI (aLc (WkR.ptr (fun _ => rfl)) (aLc (WkR.so (fun _ => rfl)) (aLc wkI aLn))))))) (aLc ⟨some _, rfl, BkR_c rfl (cKc wkI (cKc (wkr (lsL fun _ => (lo_TEdge _))) cKn))⟩ (aLc ⟨some _, rfl, BkR_r rfl (fun _ => (lsC (lsB _) loose_nil))⟩ aLn)))
           refine nlA rfl ?_; conv => whnf
           refine bKo rfl ?_; conv => whnf
           refine getK_of rfl ?_; conv => whnf
           refine nlA rfl ?_; conv => whnf
           refine bKo rfl ?_; conv => whnf
           refine getK_of rfl ?_; conv => whnf
           refine ix_lk h fun _ h => ?_; conv => whnf
           refine getK_of rfl ?_; conv => whnf
           refine hK _ _ _ ?_; clear hK K
           replace h := W_jn h
           refine HT_if fun K1 K2 hK1 hK2 => ?_; conv => whnf
           refine cond_lk h (fun _ h => ?_) (fun _ h => ?_)
           · refine hK1 ?_; clear hK1 hK2 K1 K2
             refine HT_f dCo rfl fun K hK => ?_; conv => whnf
             refine hK _ _ _ ?_; clear hK K
             refine InBlock_n ?_
             refine Then_n ?_
             refine HT_f dCo rfl fun K hK => ?_; conv => whnf
             refine hK _ _ _ ?_; clear hK K
             refine Then_n ?_
             replace h := W_xnx h
             refine ⟨_, h, ?_⟩
             refine weak_r ?_; conv => whnf
             exact And.intro rfl (And.intro (aLc wkI (aLc wkI (aLc wkI (aLc wkI (aLc (WkR.ptr (fun _ => rfl)) (aLc (WkR.so (fun _ => rfl)) (aLc wkI aLn))))))) (aLc ⟨some _, rfl, BkR_c rfl (cKc wkI (cKc (wkr (lsL fun _ => (lo_TEdge _))) cKn))⟩ (aLc ⟨some _, rfl, BkR_r rfl (fun _ => (lsC (lsB _) loose_nil))⟩ aLn)))
           refine hK2 ?_; clear hK1 hK2 K1 K2
           refine HT_skip ?_
           refine InBlock_n ?_
           refine Then_n ?_
           refine HT_f dCo rfl fun K hK => ?_; conv => whnf
           refine hK _ _ _ ?_; clear hK K
           refine Then_n ?_
           replace h := W_xnx h
           refine ⟨_, h, ?_⟩
           refine weak_r ?_; conv => whnf
           exact And.intro rfl (And.intro (aLc wkI (aLc wkI (aLc wkI (aLc wkI (aLc (WkR.ptr (fun _ => rfl)) (aLc (WkR.so (fun _ => rfl)) (aLc wkI aLn))))))) (aLc ⟨some _, rfl, BkR_c rfl (cKc wkI (cKc (wkr (lsL fun _ => (lo_TEdge _))) cKn))⟩ (aLc ⟨some _, rfl, BkR_r rfl (fun _ => (lsC (lsB _) loose_nil))⟩ aLn)))
         refine hK _ _ _ ?_; clear hK K
         replace h := W_jn h
         refine HT_if fun K1 K2 hK1 hK2 => ?_; conv => whnf
         refine hK2 ?_; clear hK1 hK2 K1 K2
         replace h := W_cnF h
         refine HT_skip ?_
         refine InBlock_n ?_
         refine Then_n ?_
         refine HT_f dCo rfl fun K hK => ?_; conv => whnf
         refine hK _ _ _ ?_; clear hK K
         refine Then_n ?_
         replace h := W_xnx h
         refine ⟨_, h, ?_⟩
         refine weak_r ?_; conv => whnf
         exact And.intro rfl (And.intro (aLc wkI (aLc wkI (aLc wkI (aLc wkI (aLc (WkR.ptr (fun _ => rfl)) (aLc (WkR.so (fun _ => rfl)) (aLc wkI aLn))))))) (aLc ⟨some _, rfl, BkR_c rfl (cKc wkI (cKc (wkr (lsL fun _ => (lo_TEdge _))) cKn))⟩ (aLc ⟨some _, rfl, BkR_r rfl (fun _ => (lsC (lsB _) loose_nil))⟩ aLn)))
       refine hK _ _ _ ?_; clear hK K
       replace h := W_jn h
       refine HT_if fun K1 K2 hK1 hK2 => ?_; conv => whnf
       refine hK2 ?_; clear hK1 hK2 K1 K2
       replace h := W_cnF h
       refine HT_skip ?_
       refine InBlock_n ?_
       refine Then_n ?_
       refine HT_f dCo rfl fun K hK => ?_; conv => whnf
       refine hK _ _ _ ?_; clear hK K
       refine Then_n ?_
       replace h := W_xnx h
       refine ⟨_, h, ?_⟩
       refine weak_r ?_; conv => whnf
       exact And.intro rfl (And.intro (aLc wkI (aLc wkI (aLc wkI (aLc wkI (aLc (WkR.ptr (fun _ => rfl)) (aLc (WkR.so (fun _ => rfl)) (aLc wkI aLn))))))) (aLc ⟨some _, rfl, BkR_c rfl (cKc wkI (cKc (wkr (lsL fun _ => (lo_TEdge _))) cKn))⟩ (aLc ⟨some _, rfl, BkR_r rfl (fun _ => (lsC (lsB _) loose_nil))⟩ aLn)))
     refine hK _ _ _ ?_; clear hK K
     replace h := W_jn h
     refine HT_if fun K1 K2 hK1 hK2 => ?_; conv => whnf
     refine hK2 ?_; clear hK1 hK2 K1 K2
     replace h := W_cnF h
     refine HT_skip ?_
     refine InBlock_n ?_
     refine Then_n ?_
     refine HT_f dCo rfl fun K hK => ?_; conv => whnf
     refine hK _ _ _ ?_; clear hK K
     refine Then_n ?_
     replace h := W_xnx h
     refine ⟨_, h, ?_⟩
     refine weak_r ?_; conv => whnf
     exact And.intro rfl (And.intro (aLc wkI (aLc wkI (aLc wkI (aLc wkI (aLc (WkR.ptr (fun _ => rfl)) (aLc (WkR.so (fun _ => rfl)) (aLc wkI aLn))))))) (aLc ⟨some _, rfl, BkR_c rfl (cKc wkI (cKc (wkr (lsL fun _ => (lo_TEdge _))) cKn))⟩ (aLc ⟨some _, rfl, BkR_r rfl (fun _ => (lsC (lsB _) loose_nil))⟩ aLn)))
   refine hK2 ?_; clear hK1 hK2 K1 K2
   refine HT_exit ?_
   refine Then_e ?_
   refine Then_e ?_
   refine InBlock_e ?_
   replace h := W_xbk h
   replace h := W_inl h
   refine Then_n ?_
   refine HT_seq ?_
   refine HT_fr dCo rfl fun K hK => ?_; conv => whnf
   refine hK _ _ _ ?_; clear hK K
   refine HT_if fun K1 K2 hK1 hK2 => ?_; conv => whnf
   refine cond_lk h (fun _ h => ?_) (fun _ h => ?_)
   · refine hK1 ?_; clear hK1 hK2 K1 K2
     refine HT_fr dCo rfl fun K hK => ?_; conv => whnf
     refine hK _ _ _ ?_; clear hK K
     refine HT_ret ?_
     refine Then_r ?_
     refine InBlock_r ?_
     refine Then_r ?_
     refine Then_r ?_
     refine InBlock_r ?_
     refine Then_r ?_
     replace h := W_xrt h
     replace h := W_inr h
     replace h := W_some h
     refine PostP_r dCo fun K hK => ?_; conv => whnf
     refine hK _ ?_; clear hK K
     cases h
     exact Wk.refl _
   refine hK2 ?_; clear hK1 hK2 K1 K2
   refine HT_skip ?_
   refine Then_n ?_
   refine HT_fr dCo rfl fun K hK => ?_; conv => whnf
   refine gd_lkN h (rfl) fun hx263 h => ?_; conv => whnf
   refine bKo rfl ?_; conv => whnf
   refine st_lk (enc := eB) (d := default) (q := 0) h (fun _ => rfl) (rfl) hx263 rfl (nle rfl) rfl rfl (fun h => ?_); conv => whnf
   refine hK _ _ _ ?_; clear hK K
   refine HT_f dCo rfl fun K hK => ?_; conv => whnf
   refine nlA rfl ?_; conv => whnf
   refine bKo rfl ?_; conv => whnf
   refine getK_of rfl ?_; conv => whnf
   refine ix_lk h fun _ h => ?_; conv => whnf
   refine getK_of rfl ?_; conv => whnf
   refine hK _ _ _ ?_; clear hK K
   refine InBlock_n ?_
   refine Then_n ?_
   refine HT_f dCo rfl fun K hK => ?_; conv => whnf
   refine hK _ _ _ ?_; clear hK K
   refine Then_n ?_
   replace h := W_xnx h
   refine ⟨_, h, ?_⟩
   refine weak_r ?_; conv => whnf
   exact And.intro rfl (And.intro (aLc wkI (aLc wkI (aLc (WkR.soN (fun _ => rfl) (lenset rfl).symm) (aLc wkI (aLc (WkR.ptr (fun _ => rfl)) aLn))))) (aLc ⟨some _, rfl, BkR_c rfl (cKc wkI (cKc (wkr (lsL fun _ => (lo_TEdge _))) cKn))⟩ (aLc ⟨some _, rfl, BkR_r rfl (fun _ => (lsC (lsB _) loose_nil))⟩ aLn)))
 refine hK2 ?_; clear hK1 hK2 K1 K2
 refine HT_exit ?_
 refine Then_e ?_
 refine Then_e ?_
 refine InBlock_e ?_
 replace h := W_xbk h
 replace h := W_inl h
 refine Then_n ?_
 refine HT_fr dCo rfl fun K hK => ?_; conv => whnf
 refine hK _ _ _ ?_; clear hK K
 refine HT_ret ?_
 replace h := W_some h
 refine PostP_r dCo fun K hK => ?_; conv => whnf
 refine hK _ ?_; clear hK K
 cases h
 exact Wk.refl _
theorem ref27_greatest_call {T : Tbl} (hT : T 65 = pureR ref27_greatest_S) {args : List AV} {hp : Heap} {id : Nat} {k : AV → Prop} {a0 : TNet} {a1 : Int} {a2 : Int} {Φ : Int → Prop} (h : W (ref27_greatest_F a0 a1 a2) Φ) (hw : WkL args [eTNet a0, eI a1, eI a2]) (hk : ∀ y, Φ y → k (eI y)) : callpK T 65 args hp id k := by
 obtain ⟨y, e, hy⟩ := W_inv h
 exact callpK_pure hT ⟨a0, a1, a2, rfl, W_of e rfl⟩ (by exact (lsI _ _)) hw (hk y hy)

   def ref27_Worst_b1 (a0 : TNet) (a1 : Int) (a2 : Int) (a3 : Int) (s1 : Int × Int) : Option (Ct (Int × Int) Int) := gd (0 ≤ a0.N) (cn (decide (s1.2 < (bshl .i64 1 a0.N))) (jn (fun p2 : Int =>
   some (.nx (p2, (wr (s1.2 + 1))))) fun k3 => jn (fun p4 : Bool => cn p4 (k3 s1.1) (bd (ref27_Leaves_F a0 s1.2) fun y8 => bd (ref27_greatest_F a0 s1.2 a3) fun y9 =>
   jn (fun p10 : Bool => jn (fun p12 : Int => k3 p12) fun k13 => cn p10 (k13 (wr (y8 - y9))) (k13 s1.1)) fun k11 =>
   cn (decide (s1.1 < 0)) (k11 true) (k11 (decide ((wr (y8 - y9)) < s1.1))))) fun k5 => bd (ref27_has_F s1.2 a1) fun y6 => cn (!y6) (k5 true) (bd (ref27_has_F s1.2 a2) fun y7 =>
   k5 y7)) (some (.bk (s1.1, s1.2))))
theorem W_bref27_Worst_b1 {a0 : TNet} {a1 : Int} {a2 : Int} {a3 : Int} {s1 : Int × Int} {Φ : Ct (Int × Int) Int → Prop} (h : W (ref27_Worst_b1 a0 a1 a2 a3 s1) Φ) : W (gd (0 ≤ a0.N) (cn (decide (s1.2 < (bshl .i64 1 a0.N))) (jn (fun p2 : Int => some (.nx (p2, (wr (s1.2 + 1))))) fun k3 => jn (fun p4 : Bool =>
   cn p4 (k3 s1.1) (bd (ref27_Leaves_F a0 s1.2) fun y8 => bd (ref27_greatest_F a0 s1.2 a3) fun y9 => jn (fun p10 : Bool => jn (fun p12 : Int => k3 p12) fun k13 =>
   cn p10 (k13 (wr (y8 - y9))) (k13 s1.1)) fun k11 => cn (decide (s1.1 < 0)) (k11 true) (k11 (decide ((wr (y8 - y9)) < s1.1))))) fun k5 => bd (ref27_has_F s1.2 a1) fun y6 =>
   cn (!y6) (k5 true) (bd (ref27_has_F s1.2 a2) fun y7 => k5 y7)) (some (.bk (s1.1, s1.2))))) Φ := h
def ref27_Worst_F (a0 : TNet) (a1 : Int) (a2 : Int) (a3 : Int) : Option Int := bd (lp (ref27_Worst_b1 a0 a1 a2 a3) FU ((-1), 0)) fun c14 => smK c14 (fun s15 =>
   some s15.1) (fun r16 => some r16)
def ref27_Worst_S : List AV → AV → Prop := fun args r => ∃ a0 a1 a2 a3, args = [eTNet a0, eI a1, eI a2, eI a3] ∧ W (ref27_Worst_F a0 a1 a2 a3) fun y => r = (eI y)
theorem ref27_Worst_ok {T : Tbl} (hT : TOk Try.prog T) (hpf : PfOk T PF) (h56 : T 56 = pureR ref27_has_S) (h57 : T 57 = pureR ref27_Leaves_S) (h65 : T 65 = pureR ref27_greatest_S) : FOk Try.prog 34 (pureR ref27_Worst_S) := by
 refine FOk_pure hT hpf Try.func34 rfl Try.ntmps34 Try.results34 (by decide) ?_
 rintro args r ⟨a0, a1, a2, a3, rfl, h⟩
 refine ⟨nle rfl, ?_, ?_⟩
 · exact (lsC (lo_TNet _) (lsC (lsI _ _) (lsC (lsI _ _) (lsC (lsI _ _) loose_nil))))
 rw [ref27_Worst_F.eq_1] at h
 refine HT_fr dCo rfl fun K hK => ?_; conv => whnf
 refine hK _ _ _ ?_; clear hK K
 refine HT_fr dCo rfl fun K hK => ?_; conv => whnf
 refine hK _ _ _ ?_; clear hK K
 refine HT_seq ?_
 refine HT_fr dCo rfl fun K hK => ?_; conv => whnf
 refine hK _ _ _ ?_; clear hK K
 refine HT_block ?_
 replace h := W_bd h
 refine HT_lpK (body := ref27_Worst_b1 _ _ _ _) rfl h [1, 2, 3, 4] [4] [] (fun kl kh ids b s => ⟨ofL ([(9, eI s.1), (10, eI s.2)] ++ kl), ofH ([] ++ kh), b + 64⟩) ?_; (conv => whnf); refine And.intro ?_ (fun s m h => HT_st ?_)
 · refine weak_k ?_; conv => whnf
   exact And.intro rfl (And.intro (aLc wkI (aLc wkI (aLc wkI (aLc wkI (aLc wkI (aLc (WkR.ptr (fun _ => rfl)) aLn)))))) (aLc ⟨some _, rfl, BkR_c rfl (cKc wkI (cKc (wkr (lsL fun _ => (lo_TEdge _))) cKn))⟩ aLn))
 replace h := W_bref27_Worst_b1 (W_bd h)
 refine HT_seq ?_
 refine HT_fr dCo rfl fun K hK => ?_; conv => whnf
 refine nlA rfl ?_; conv => whnf
 refine bKo rfl ?_; conv => whnf
 refine getK_of rfl ?_; conv => whnf
 refine gd_lk h fun _ h => ?_; conv => whnf
 refine hK _ _ _ ?_; clear hK K
 refine HT_if fun K1 K2 hK1 hK2 => ?_; conv => whnf
 refine cond_lk h (fun _ h => ?_) (fun _ h => ?_)
 · refine hK1 ?_; clear hK1 hK2 K1 K2
   refine HT_skip ?_
   refine Then_n ?_
   refine HT_seq ?_
   replace h := W_jn h
   refine HT_block ?_
   refine HT_seq ?_
   refine HT_fr dCo rfl fun K hK => ?_; conv => whnf
   replace h := W_jn h
   replace h := W_bd h
   refine ref27_has_call h56 h (WkL.refl _) (fun _ h => ?_); conv => whnf
   refine cond_lk h (fun _ h => ?_) (fun _ h => ?_) <;> (conv => whnf)
   · refine hK _ _ _ ?_; clear hK K
     refine HT_if fun K1 K2 hK1 hK2 => ?_; conv => whnf
     refine hK1 ?_; clear hK1 hK2 K1 K2
     replace h := W_cnT h
     refine HT_exit ?_
     refine Then_e ?_
     refine InBlock_e ?_
     refine Then_n ?_
     refine HT_f dCo rfl fun K hK => ?_; conv => whnf
     refine hK _ _ _ ?_; clear hK K
     refine Then_n ?_
     replace h := W_xnx h
     refine ⟨_, h, ?_⟩
     refine weak_k ?_; conv => whnf
     exact And.intro rfl (And.intro (aLc wkI (aLc wkI (aLc wkI (aLc wkI (aLc wkI (aLc (WkR.ptr (fun _ => rfl)) aLn)))))) (aLc ⟨some _, rfl, BkR_c rfl (cKc wkI (cKc (wkr (lsL fun _ => (lo_TEdge _))) cKn))⟩ aLn))
   replace h := W_bd h
   refine ref27_has_call h56 h (WkL.refl _) (fun _ h => ?_); conv => whnf
   refine hK _ _ _ ?_; clear hK K
   refine HT_if fun K1 K2 hK1 hK2 => ?_; conv => whnf
   refine cond_lk h (fun _ h => ?_) (fun _ h => ?_)
   · refine hK1 ?_; clear hK1 hK2 K1 K2
     refine HT_exit ?_
     refine Then_e ?_
     refine InBlock_e ?_
     refine Then_n ?_
     refine HT_f dCo rfl fun K hK => ?_; conv => whnf
     refine hK _ _ _ ?_; clear hK K
     refine Then_n ?_
     replace h := W_xnx h
     refine ⟨_, h, ?_⟩
     refine weak_k ?_; conv => whnf
     exact And.intro rfl (And.intro (aLc wkI (aLc wkI (aLc wkI (aLc wkI (aLc wkI (aLc (WkR.ptr (fun _ => rfl)) aLn)))))) (aLc ⟨some _, rfl, BkR_c rfl (cKc wkI (cKc (wkr (lsL fun _ => (lo_TEdge _))) cKn))⟩ aLn))
   refine hK2 ?_; clear hK1 hK2 K1 K2
   refine HT_skip ?_
   refine Then_n ?_
   refine HT_fd dCo mix_ok rfl (by kernel_rfl) fun K hK => ?_; conv => whnf
   refine nlA rfl ?_; conv => whnf
   refine bKo rfl ?_; conv => whnf
   refine nlA rfl ?_; conv => whnf
   replace h := W_bd h
   refine ref27_Leaves_call h57 h (WkL.refl _) (fun _ h => ?_); conv => whnf
   refine nlA rfl ?_; conv => whnf
   refine bKo rfl ?_; conv => whnf
   refine nlA rfl ?_; conv => whnf
   replace h := W_bd h
   refine ref27_greatest_call h65 h (WkL.refl _) (fun _ h => ?_); conv => whnf
   refine hK _ _ _ ?_; clear hK K
   refine HT_fr dCo rfl fun K hK => ?_; conv => whnf
   replace h := W_jn h
   refine cond_lk h (fun _ h => ?_) (fun _ h => ?_) <;> (conv => whnf)
   · refine hK _ _ _ ?_; clear hK K
     replace h := W_jn h
     refine HT_if fun K1 K2 hK1 hK2 => ?_; conv => whnf
     refine hK1 ?_; clear hK1 hK2 K1 K2
     replace h := W_cnT h
     refine HT_f dCo rfl fun K hK => ?_; conv => whnf
     refine hK _ _ _ ?_; clear hK K
     refine InBlock_n ?_
     refine Then_n ?_
     refine HT_f dCo rfl fun K hK => ?_; conv => whnf
     refine hK _ _ _ ?_; clear hK K
     refine Then_n ?_
     replace h := W_xnx h
     refine ⟨_, h, ?_⟩
     refine weak_k ?_; conv => whnf
     exact And.intro rfl (And.intro (aLc wkI (aLc wkI (aLc wkI (aLc wkI (aLc wkI (aLc (WkR.ptr (fun _ => rfl)) aLn)))))) (aLc ⟨some _, rfl, BkR_c rfl (cKc wkI (cKc (wkr (lsL fun _ => (lo_TEdge _))) cKn))⟩ aLn))
   refine hK _ _ _ ?_; clear hK K
   replace h := W_jn h
   refine HT_if fun K1 K2 hK1 hK2 => ?_; conv => whnf
   refine cond_lk h (fun _ h => ?_) (fun _ h => ?_)
   · refine hK1 ?_; clear hK1 hK2 K1 K2
     refine HT_f dCo rfl fun K hK => ?_; conv => whnf
     refine hK _ _ _ ?_; clear hK K
     refine InBlock_n ?_
     refine Then_n ?_
     refine HT_f dCo rfl fun K hK => ?_; conv => whnf
     refine hK _ _ _ ?_; clear hK K
     refine Then_n ?_
     replace h := W_xnx h
     refine ⟨_, h, ?_⟩
     refine weak_k ?_; conv => whnf
     exact And.intro rfl (And.intro (aLc wkI (aLc wkI (aLc wkI (aLc wkI (aLc wkI (aLc (WkR.ptr (fun _ => rfl)) aLn)))))) (aLc ⟨some _, rfl, BkR_c rfl (cKc wkI (cKc (wkr (lsL fun _ => (lo_TEdge _))) cKn))⟩ aLn))
   refine hK2 ?_; clear hK1 hK2 K1 K2
   refine HT_skip ?_
   refine InBlock_n ?_
   refine Then_n ?_
   refine HT_f dCo rfl fun K hK => ?_; conv => whnf
   refine hK _ _ _ ?_; clear hK K
   refine Then_n ?_
   replace h := W_xnx h
   refine ⟨_, h, ?_⟩
   refine weak_k ?_; conv => whnf
   exact And.intro rfl (And.intro (aLc wkI (aLc wkI (aLc wkI (aLc wkI (aLc wkI (aLc (WkR.ptr (fun _ => rfl)) aLn)))))) (aLc ⟨some _, rfl, BkR_c rfl (cKc wkI (cKc (wkr (lsL fun _ => (lo_TEdge _))) cKn))⟩ aLn))
 refine hK2 ?_; clear hK1 hK2 K1 K2
 refine HT_exit ?_
 refine Then_e ?_
 refine Then_e ?_
 refine InBlock_e ?_
 replace h := W_xbk h
 replace h := W_inl h
 refine Then_n ?_
 refine HT_fr dCo rfl fun K hK => ?_; conv => whnf
 refine hK _ _ _ ?_; clear hK K
 refine HT_ret ?_
 replace h := W_some h
 refine PostP_r dCo fun K hK => ?_; conv => whnf
 refine hK _ ?_; clear hK K
 cases h
 exact Wk.refl _
theorem ref27_Worst_call {T : Tbl} (hT : T 34 = pureR ref27_Worst_S) {args : List AV} {hp : Heap} {id : Nat} {k : AV → Prop} {a0 : TNet} {a1 : Int} {a2 : Int} {a3 : Int} {Φ : Int → Prop} (h : W (ref27_Worst_F a0 a1 a2 a3) Φ) (hw : WkL args [eTNet a0, eI a1, eI a2, eI a3]) (hk : ∀ y, Φ y → k (eI y)) : callpK T 34 args hp id k := by
 obtain ⟨y, e, hy⟩ := W_inv h
 exact callpK_pure hT ⟨a0, a1, a2, a3, rfl, W_of e rfl⟩ (by exact (lsI _ _)) hw (hk y hy)
def ref27_Many_b1 (s1 : Int × Int) : Option (Ct (Int × Int) Int) := cn (decide (s1.1 > 0)) (let v2 := (wr (s1.2 + (Int.tmod s1.1 2)));
   some (.nx ((wr (Int.tdiv s1.1 2)), v2))) (some (.bk (s1.1, s1.2)))
theorem W_bref27_Many_b1 {s1 : Int × Int} {Φ : Ct (Int × Int) Int → Prop} (h : W (ref27_Many_b1 s1) Φ) : W (cn (decide (s1.1 > 0)) (let v2 := (wr (s1.2 + (Int.tmod s1.1 2))); some (.nx ((wr (Int.tdiv s1.1 2)), v2))) (some (.bk (s1.1, s1.2)))) Φ := h
def ref27_Many_F (a0 : Int) : Option Int := bd (lp (ref27_Many_b1) FU (a0, 0)) fun c3 => smK c3 (fun s4 => some s4.2) (fun r5 => some r5)
def ref27_Many_S : List AV → AV → Prop := fun args r => ∃ a0, args = [eI a0] ∧ W (ref27_Many_F a0) fun y => r = (eI y)
theorem ref27_Many_ok {T : Tbl} (hT : TOk Try.prog T) (hpf : PfOk T PF) : FOk Try.prog 67 (pureR ref27_Many_S) := by
 refine FOk_pure hT hpf Try.func67 rfl Try.ntmps67 Try.results67 (by decide) ?_
 rintro args r ⟨a0, rfl, h⟩
 refine ⟨nle rfl, ?_, ?_⟩
 · exact (lsC (lsI _ _) loose_nil)
 rw [ref27_Many_F.eq_1] at h
 refine HT_fr dCo rfl fun K hK => ?_; conv => whnf
 refine hK _ _ _ ?_; clear hK K
 refine HT_fr dCo rfl fun K hK => ?_; conv => whnf
 refine hK _ _ _ ?_; clear hK K
 refine HT_seq ?_
 refine HT_block ?_
 replace h := W_bd h
 refine HT_lpK (body := ref27_Many_b1) rfl h [] [] [] (fun kl kh ids b s => ⟨ofL ([(0, eI s.1), (3, eI s.2)] ++ kl), ofH ([] ++ kh), b + 64⟩) ?_; (conv => whnf); refine And.intro ?_ (fun s m h => HT_st ?_)
 · refine weak_k ?_; conv => whnf
   exact And.intro rfl (And.intro (aLc wkI (aLc wkI aLn)) aLn)
 replace h := W_bref27_Many_b1 (W_bd h)
 refine HT_seq ?_
 refine HT_fr dCo rfl fun K hK => ?_; conv => whnf
 refine hK _ _ _ ?_; clear hK K
 refine HT_if fun K1 K2 hK1 hK2 => ?_; conv => whnf
 refine cond_lk h (fun _ h => ?_) (fun _ h => ?_)
 · refine hK1 ?_; clear hK1 hK2 K1 K2
   refine HT_skip ?_
   refine Then_n ?_
   refine HT_block ?_
   refine HT_fr dCo rfl fun K hK => ?_; conv => whnf
   refine And.intro (by decide) ?_; conv => whnf
   refine hK _ _ _ ?_; clear hK K
   refine HT_f dCo rfl fun K hK => ?_; conv => whnf
   refine And.intro (by decide) ?_; conv => whnf
   refine hK _ _ _ ?_; clear hK K
   refine InBlock_n ?_
   refine Then_n ?_
   replace h := W_xnx h
   refine ⟨_, h, ?_⟩
   refine weak_k ?_; conv => whnf
   exact And.intro rfl (And.intro (aLc wkI (aLc wkI aLn)) aLn)
 refine hK2 ?_; clear hK1 hK2 K1 K2
 refine HT_exit ?_
 refine Then_e ?_
 refine Then_e ?_
 refine InBlock_e ?_
 replace h := W_xbk h
 replace h := W_inl h
 refine Then_n ?_
 refine HT_fr dCo rfl fun K hK => ?_; conv => whnf
 refine hK _ _ _ ?_; clear hK K
 refine HT_ret ?_
 replace h := W_some h
 refine PostP_r dCo fun K hK => ?_; conv => whnf
 refine hK _ ?_; clear hK K
 cases h
 exact Wk.refl _
theorem ref27_Many_call {T : Tbl} (hT : T 67 = pureR ref27_Many_S) {args : List AV} {hp : Heap} {id : Nat} {k : AV → Prop} {a0 : Int} {Φ : Int → Prop} (h : W (ref27_Many_F a0) Φ) (hw : WkL args [eI a0]) (hk : ∀ y, Φ y → k (eI y)) : callpK T 67 args hp id k := by
 obtain ⟨y, e, hy⟩ := W_inv h
 exact callpK_pure hT ⟨a0, rfl, W_of e rfl⟩ (by exact (lsI _ _)) hw (hk y hy)

   def ref27_Without_b1 (a0 : TNet) (a1 : Int) (s5 : Int × TNet) : Option (Ct (Int × TNet) (TNet × Int)) := cn (decide (s5.1 < (a0.Edges.length : Int))) (ix a0.Edges default s5.1 fun e6 =>
   bd (ref27_has_F a1 s5.1) fun y7 => jn (fun p8 : TEdge => lt ([p8] : List TEdge) fun l10 => ap s5.2.Edges l10 fun l11 =>
   some (.nx ((wr (s5.1 + 1)), (⟨s5.2.N, l11⟩ : TNet)))) fun k9 => cn y7 (k9 (⟨e6.From, e6.To, 0⟩ : TEdge)) (k9 e6)) (some (.bk (s5.1, s5.2)))
theorem W_bref27_Without_b1 {a0 : TNet} {a1 : Int} {s5 : Int × TNet} {Φ : Ct (Int × TNet) (TNet × Int) → Prop} (h : W (ref27_Without_b1 a0 a1 s5) Φ) : W (cn (decide (s5.1 < (a0.Edges.length : Int))) (ix a0.Edges default s5.1 fun e6 => bd (ref27_has_F a1 s5.1) fun y7 => jn (fun p8 : TEdge => lt ([p8] : List TEdge) fun l10 =>
   ap s5.2.Edges l10 fun l11 => some (.nx ((wr (s5.1 + 1)), (⟨s5.2.N, l11⟩ : TNet)))) fun k9 => cn y7 (k9 (⟨e6.From, e6.To, 0⟩ : TEdge)) (k9 e6)) (some (.bk (s5.1, s5.2)))) Φ := h
def ref27_Without_F (a0 : TNet) (a1 : Int) : Option (TNet × Int) := jn (fun p1 : Bool =>
   cn p1 (some ((⟨0, []⟩ : TNet), 270)) (bd (lp (ref27_Without_b1 a0 a1) FU (0, (⟨a0.N, []⟩ : TNet))) fun c12 => smK c12 (fun s13 => some (s13.2, 0)) (fun r14 =>
   some r14))) fun k2 => bd (ref27_Valid_F a0) fun y3 =>
   cn (!y3) (k2 true) (gd (0 ≤ (a0.Edges.length : Int)) (bd (ref27_in_F a1 0 (wr ((bshl .i64 1 (a0.Edges.length : Int)) - 1))) fun y4 => k2 (!y4)))
def ref27_Without_S : List AV → AV → Prop := fun args r => ∃ a0 a1, args = [eTNet a0, eI a1] ∧ W (ref27_Without_F a0 a1) fun y => r = (.tup [eTNet y.1, eI y.2])
theorem ref27_Without_ok {T : Tbl} (hT : TOk Try.prog T) (hpf : PfOk T PF) (h20 : T 20 = pureR ref27_Valid_S) (h49 : T 49 = pureR ref27_in_S) (h56 : T 56 = pureR ref27_has_S) : FOk Try.prog 31 (pureR ref27_Without_S) := by
 refine FOk_pure hT hpf Try.func31 rfl Try.ntmps31 Try.results31 (by decide) ?_
 rintro args r ⟨a0, a1, rfl, h⟩
 refine ⟨nle rfl, ?_, ?_⟩
 · exact (lsC (lo_TNet _) (lsC (lsI _ _) loose_nil))
 rw [ref27_Without_F.eq_1] at h
 refine HT_fr dCo rfl fun K hK => ?_; conv => whnf
 refine hK _ _ _ ?_; clear hK K
 refine HT_seq ?_
 refine HT_fr dCo rfl fun K hK => ?_; conv => whnf
 replace h := W_jn h
 refine nlA rfl ?_; conv => whnf
 refine bKo rfl ?_; conv => whnf
 refine nlA rfl ?_; conv => whnf
 replace h := W_bd h
 refine ref27_Valid_call h20 h (WkL.refl _) (fun _ h => ?_); conv => whnf
 refine cond_lk h (fun _ h => ?_) (fun _ h => ?_) <;> (conv => whnf)
 · refine hK _ _ _ ?_; clear hK K
   refine HT_if fun K1 K2 hK1 hK2 => ?_; conv => whnf
   refine hK1 ?_; clear hK1 hK2 K1 K2
   replace h := W_cnT h
   refine HT_fr dCo rfl fun K hK => ?_; conv => whnf
   refine bKo rfl ?_; conv => whnf
   refine And.intro rfl (And.intro (nle rfl) (And.intro rfl ?_)); conv => whnf
   refine hK _ _ _ ?_; clear hK K
   refine HT_ret ?_
   refine Then_r ?_
   replace h := W_some h
   refine PostP_r dCo fun K hK => ?_; conv => whnf
   refine nlA rfl ?_; conv => whnf
   refine bKo rfl ?_; conv => whnf
   refine nlA rfl ?_; conv => whnf
   refine hK _ ?_; clear hK K
   cases h
   exact Wk_tup (WkL_cons (Wk_agg (WkL_cons (Wk.refl _) (WkL_cons Wk_nil WkL_nil))) (WkL_cons (Wk.refl _) WkL_nil))
 refine nlA rfl ?_; conv => whnf
 refine bKo rfl ?_; conv => whnf
 refine getK_of rfl ?_; conv => whnf
 refine gd_lk h fun _ h => ?_; conv => whnf
 replace h := W_bd h
 refine ref27_in_call h49 h (WkL.refl _) (fun _ h => ?_); conv => whnf
 refine hK _ _ _ ?_; clear hK K
 refine HT_if fun K1 K2 hK1 hK2 => ?_; conv => whnf
 refine cond_lk h (fun _ h => ?_) (fun _ h => ?_)
 · refine hK1 ?_; clear hK1 hK2 K1 K2
   refine HT_fr dCo rfl fun K hK => ?_; conv => whnf
   refine bKo rfl ?_; conv => whnf
   refine And.intro rfl (And.intro (nle rfl) (And.intro rfl ?_)); conv => whnf
   refine hK _ _ _ ?_; clear hK K
   refine HT_ret ?_
   refine Then_r ?_
   replace h := W_some h
   refine PostP_r dCo fun K hK => ?_; conv => whnf
   refine nlA rfl ?_; conv => whnf
   refine bKo rfl ?_; conv => whnf
   refine nlA rfl ?_; conv => whnf
   refine hK _ ?_; clear hK K
   cases h
   exact Wk_tup (WkL_cons (Wk_agg (WkL_cons (Wk.refl _) (WkL_cons Wk_nil WkL_nil))) (WkL_cons (Wk.refl _) WkL_nil))
 refine hK2 ?_; clear hK1 hK2 K1 K2
 refine HT_skip ?_
 refine Then_n ?_
 refine HT_fr dCo rfl fun K hK => ?_; conv => whnf
 refine nlA rfl ?_; conv => whnf
 refine bKo rfl ?_; conv => whnf
 refine getK_of rfl ?_; conv => whnf
 refine bKo rfl ?_; conv => whnf
 refine And.intro rfl (And.intro (nle rfl) (And.intro rfl ?_)); conv => whnf
 refine hK _ _ _ ?_; clear hK K
 refine HT_seq ?_
 refine HT_fr dCo rfl fun K hK => ?_; conv => whnf
 refine hK _ _ _ ?_; clear hK K
 refine HT_block ?_
 replace h := W_bd h
 refine HT_lpK (body := ref27_Without_b1 _ _) rfl h [1, 2, 4, 6] [2, 4] [6] (fun kl kh ids b s => ⟨ofL ([(7, eI s.1)] ++ kl), ofH ([(nthN ids 0, .cells [eI s.2.N, .lst (.tok (b + 0)) 3 s.2.Edges.length (fun j => eTEdge (s.2.Edges.getD j default))]), (b + 0, .cells [])] ++ kh), b + 128⟩) ?_; (conv => whnf); refine And.intro ?_ (fun s m h => HT_st ?_)
 · refine weak_k ?_; conv => whnf
   exact And.intro rfl (And.intro (aLc wkI (aLc wkI (aLc (WkR.ptr (fun _ => rfl)) (aLc (WkR.ptr (fun _ => rfl)) (aLc (WkR.ptr (fun _ => rfl)) aLn))))) (aLc ⟨some _, rfl, BkR_c rfl (cKc wkI (cKc (WkR.nil (fun _ => rfl)) cKn))⟩ (aLc ⟨none, rfl, BkR_n⟩ (aLc ⟨some _, rfl, BkR_c rfl (cKc wkI (cKc (wkr (lsL fun _ => (lo_TEdge _))) cKn))⟩ (aLc ⟨some _, rfl, BkR_c rfl (cKc wkI (cKc (wkr loose_nils) cKn))⟩ aLn)))))
 replace h := W_bref27_Without_b1 (W_bd h)
 refine HT_seq ?_
 refine HT_fr dCo rfl fun K hK => ?_; conv => whnf
 refine nlA rfl ?_; conv => whnf
 refine bKo rfl ?_; conv => whnf
 refine getK_of rfl ?_; conv => whnf
 refine hK _ _ _ ?_; clear hK K
 refine HT_if fun K1 K2 hK1 hK2 => ?_; conv => whnf
 refine cond_lk h (fun _ h => ?_) (fun _ h => ?_)
 · refine hK1 ?_; clear hK1 hK2 K1 K2
   refine HT_skip ?_
   refine Then_n ?_
   refine HT_seq ?_
   refine HT_block ?_
   refine HT_fr dCo rfl fun K hK => ?_; conv => whnf
   refine nlA rfl ?_; conv => whnf
   refine bKo rfl ?_; conv => whnf
   refine getK_of rfl ?_; conv => whnf
   refine ix_lk h fun _ h => ?_; conv => whnf
   refine nlA rfl ?_; conv => whnf
   refine bKo rfl ?_; conv => whnf
   refine And.intro rfl (And.intro (nle rfl) (And.intro rfl ?_)); conv => whnf
   refine hK _ _ _ ?_; clear hK K
   refine HT_seq ?_
   refine HT_fr dCo rfl fun K hK => ?_; conv => whnf
   replace h := W_bd h
   refine ref27_has_call h56 h (WkL.refl _) (fun _ h => ?_); conv => whnf
   refine hK _ _ _ ?_; clear hK K
   replace h := W_jn h
   refine HT_if fun K1 K2 hK1 hK2 => ?_; conv => whnf
   refine cond_lk h (fun _ h => ?_) (fun _ h => ?_)
   · refine hK1 ?_; clear hK1 hK2 K1 K2
     refine HT_f dCo rfl fun K hK => ?_; conv => whnf
     refine bKo rfl ?_; conv => whnf
     refine And.intro rfl (And.intro (nle rfl) (And.intro rfl ?_)); conv => whnf
     refine hK _ _ _ ?_; clear hK K
     refine Then_n ?_
     refine HT_f dCo rfl fun K hK => ?_; conv => whnf
     refine nlA rfl ?_; conv => whnf
     refine bKo rfl ?_; conv => whnf
     refine getK_of rfl ?_; conv => whnf
     refine nlA rfl ?_; conv => whnf
     refine bKo rfl ?_; conv => whnf
     refine nlA rfl ?_; conv => whnf
     refine lt_lk (enc := eTEdge) (d := default) dCo h rfl rfl rfl ⟨nle rfl, nle rfl, rfl⟩ rfl ⟨⟨rfl, nle rfl⟩, trivial⟩ (fun h => ?_); conv => whnf
     refine ap_lk (enc := eTEdge) (d := default) dCo h (.inl rfl) rfl rfl rfl ⟨rfl, nle rfl, nle rfl, nle rfl, rfl⟩ (fun _ => rfl) (.inr (.inr ⟨_, _, rfl, rfl, rfl⟩)) (fun h => ?_); conv => whnf
     refine bKo rfl ?_; conv => whnf
     refine And.intro rfl (And.intro (nle rfl) (And.intro rfl ?_)); conv => whnf
     refine hK _ _ _ ?_; clear hK K
     refine InBlock_n ?_
     refine Then_n ?_
     refine HT_f dCo rfl fun K hK => ?_; conv => whnf
     refine hK _ _ _ ?_; clear hK K
     refine Then_n ?_
     replace h := W_xnx h
     refine ⟨_, h, ?_⟩
     refine weak_k ?_; conv => whnf
     exact And.intro rfl (And.intro (aLc wkI (aLc wkI (aLc (WkR.ptr (fun _ => rfl)) (aLc (WkR.ptr (fun _ => rfl)) (aLc (WkR.ptr (fun _ => rfl)) aLn))))) (aLc ⟨some _, rfl, BkR_c rfl (cKc wkI (cKc (WkR.tok (fun _ => rfl) rfl (fun _ _ => Wk.refl _) (fun _ => (lo_TEdge _))) cKn))⟩ (aLc ⟨some _, rfl, BkR_c rfl cKn⟩ (aLc ⟨some _, rfl, BkR_c rfl (cKc wkI (cKc (wkr (lsL fun _ => (lo_TEdge _))) cKn))⟩ (aLc ⟨some _, rfl, BkR_c rfl (cKc wkI (cKc (wkr loose_nils) cKn))⟩ aLn)))))
   refine hK2 ?_; clear hK1 hK2 K1 K2
   refine HT_skip ?_
   refine Then_n ?_
   refine HT_f dCo rfl fun K hK => ?_; conv => whnf
   refine nlA rfl ?_; conv => whnf
   refine bKo rfl ?_; conv => whnf
   refine getK_of rfl ?_; conv => whnf
   refine nlA rfl ?_; conv => whnf
   refine bKo rfl ?_; conv => whnf
   refine nlA rfl ?_; conv => whnf
   refine lt_lk (enc := eTEdge) (d := default) dCo h rfl rfl rfl ⟨nle rfl, nle rfl, rfl⟩ rfl ⟨⟨rfl, nle rfl⟩, trivial⟩ (fun h => ?_); conv => whnf
   refine ap_lk (enc := eTEdge) (d := default) dCo h (.inl rfl) rfl rfl rfl ⟨rfl, nle rfl, nle rfl, nle rfl, rfl⟩ (fun _ => rfl) (.inr (.inr ⟨_, _, rfl, rfl, rfl⟩)) (fun h => ?_); conv => whnf
   refine bKo rfl ?_; conv => whnf
   refine And.intro rfl (And.intro (nle rfl) (And.intro rfl ?_)); conv => whnf
   refine hK _ _ _ ?_; clear hK K
   refine InBlock_n ?_
   refine Then_n ?_
   refine HT_f dCo rfl fun K hK => ?_; conv => whnf
   refine hK _ _ _ ?_; clear hK K
   refine Then_n ?_
   replace h := W_xnx h
   refine ⟨_, h, ?_⟩
   refine weak_k ?_; conv => whnf
   exact And.intro rfl (And.intro (aLc wkI (aLc wkI (aLc (WkR.ptr (fun _ => rfl)) (aLc (WkR.ptr (fun _ => rfl)) (aLc (WkR.ptr (fun _ => rfl)) aLn))))) (aLc ⟨some _, rfl, BkR_c rfl (cKc wkI (cKc (WkR.tok (fun _ => rfl) rfl (fun _ _ => Wk.refl _) (fun _ => (lo_TEdge _))) cKn))⟩ (aLc ⟨some _, rfl, BkR_c rfl cKn⟩ (aLc ⟨some _, rfl, BkR_c rfl (cKc wkI (cKc (wkr (lsL fun _ => (lo_TEdge _))) cKn))⟩ (aLc ⟨some _, rfl, BkR_c rfl (cKc wkI (cKc (wkr loose_nils) cKn))⟩ aLn)))))
 refine hK2 ?_; clear hK1 hK2 K1 K2
 refine HT_exit ?_
 refine Then_e ?_
 refine Then_e ?_
 refine InBlock_e ?_
 replace h := W_xbk h
 replace h := W_inl h
 refine Then_n ?_
 refine HT_fr dCo rfl fun K hK => ?_; conv => whnf
 refine nlA rfl ?_; conv => whnf
 refine bKo rfl ?_; conv => whnf
 refine nlA rfl ?_; conv => whnf
 refine bKo rfl ?_; conv => whnf
 refine And.intro rfl (And.intro (nle rfl) (And.intro rfl ?_)); conv => whnf
 refine hK _ _ _ ?_; clear hK K
 refine HT_ret ?_
 replace h := W_some h
 refine PostP_r dCo fun K hK => ?_; conv => whnf
 refine nlA rfl ?_; conv => whnf
 refine bKo rfl ?_; conv => whnf
 refine nlA rfl ?_; conv => whnf
 refine hK _ ?_; clear hK K
 cases h
 exact Wk_tup (WkL_cons (Wk_agg (WkL_cons (Wk.refl _) (WkL_cons Wk_free WkL_nil))) (WkL_cons (Wk.refl _) WkL_nil))
theorem ref27_Without_call {T : Tbl} (hT : T 31 = pureR ref27_Without_S) {args : List AV} {hp : Heap} {id : Nat} {k : AV → Prop} {a0 : TNet} {a1 : Int} {Φ : TNet × Int → Prop} (h : W (ref27_Without_F a0 a1) Φ) (hw : WkL args [eTNet a0, eI a1]) (hk : ∀ y, Φ y → k (.tup [eTNet y.1, eI y.2])) : callpK T 31 args hp id k := by
 obtain ⟨y, e, hy⟩ := W_inv h
 exact callpK_pure hT ⟨a0, a1, rfl, W_of e rfl⟩ (by exact loose_tup (lsC (lo_TNet _) (lsC (lsI _ _) loose_nil))) hw (hk y hy)
def ref27_CheckWorst_F (a0 : TNet) (a1 : Int) (a2 : Int) (a3 : Int) (a4 : TFailure) : Option Bool := jn (fun p1 : Bool =>
   cn p1 (some false) (bd (ref27_Without_F a0 a4.Failed) fun y5 => jn (fun p6 : Bool => cn p6 (some false) (bd (ref27_CheckCut_F y5.1 a1 a2 a4.Cut) fun y9 => jn (fun p10 : Bool =>
   some p10) fun k11 => cn y9.2 (k11 (y9.1 == a4.Value)) (k11 false))) fun k7 => cn (y5.2 != 0) (k7 true) (bd (ref27_Many_F a4.Failed) fun y8 => k7 (decide (y8 > a3))))) fun k2 =>
   bd (ref27_Ends_F a0 a1 a2) fun y3 => cn (!y3) (k2 true) (bd (ref27_in_F a3 0 3) fun y4 => k2 (!y4))
def ref27_CheckWorst_S : List AV → AV → Prop := fun args r => ∃ a0 a1 a2 a3 a4, args = [eTNet a0, eI a1, eI a2, eI a3, eTFailure a4] ∧ W (ref27_CheckWorst_F a0 a1 a2 a3 a4) fun y => r = (eB y)
theorem ref27_CheckWorst_ok {T : Tbl} (hT : TOk Try.prog T) (hpf : PfOk T PF) (h22 : T 22 = pureR ref27_Ends_S) (h29 : T 29 = pureR ref27_CheckCut_S) (h31 : T 31 = pureR ref27_Without_S) (h49 : T 49 = pureR ref27_in_S) (h67 : T 67 = pureR ref27_Many_S) : FOk Try.prog 36 (pureR ref27_CheckWorst_S) := by
 refine FOk_pure hT hpf Try.func36 rfl Try.ntmps36 Try.results36 (by decide) ?_
 rintro args r ⟨a0, a1, a2, a3, a4, rfl, h⟩
 refine ⟨nle rfl, ?_, ?_⟩
 · exact (lsC (lo_TNet _) (lsC (lsI _ _) (lsC (lsI _ _) (lsC (lsI _ _) (lsC (lo_TFailure _) loose_nil)))))
 rw [ref27_CheckWorst_F.eq_1] at h
 refine HT_fr dCo rfl fun K hK => ?_; conv => whnf
 refine hK _ _ _ ?_; clear hK K
 refine HT_seq ?_
 refine HT_fr dCo rfl fun K hK => ?_; conv => whnf
 replace h := W_jn h
 refine nlA rfl ?_; conv => whnf
 refine bKo rfl ?_; conv => whnf
 refine nlA rfl ?_; conv => whnf
 replace h := W_bd h
 refine ref27_Ends_call h22 h (WkL.refl _) (fun _ h => ?_); conv => whnf
 refine cond_lk h (fun _ h => ?_) (fun _ h => ?_) <;> (conv => whnf)
 · refine hK _ _ _ ?_; clear hK K
   refine HT_if fun K1 K2 hK1 hK2 => ?_; conv => whnf
   refine hK1 ?_; clear hK1 hK2 K1 K2
   replace h := W_cnT h
   refine HT_fr dCo rfl fun K hK => ?_; conv => whnf
   refine hK _ _ _ ?_; clear hK K
   refine HT_ret ?_
   refine Then_r ?_
   replace h := W_some h
   refine PostP_r dCo fun K hK => ?_; conv => whnf
   refine hK _ ?_; clear hK K
   cases h
   exact Wk.refl _
 replace h := W_bd h
 refine ref27_in_call h49 h (WkL.refl _) (fun _ h => ?_); conv => whnf
 refine hK _ _ _ ?_; clear hK K
 refine HT_if fun K1 K2 hK1 hK2 => ?_; conv => whnf
 refine cond_lk h (fun _ h => ?_) (fun _ h => ?_)
 · refine hK1 ?_; clear hK1 hK2 K1 K2
   refine HT_fr dCo rfl fun K hK => ?_; conv => whnf
   refine hK _ _ _ ?_; clear hK K
   refine HT_ret ?_
   refine Then_r ?_
   replace h := W_some h
   refine PostP_r dCo fun K hK => ?_; conv => whnf
   refine hK _ ?_; clear hK K
   cases h
   exact Wk.refl _
 refine hK2 ?_; clear hK1 hK2 K1 K2
 refine HT_skip ?_
 refine Then_n ?_
 refine HT_fr dCo rfl fun K hK => ?_; conv => whnf
 refine nlA rfl ?_; conv => whnf
 refine bKo rfl ?_; conv => whnf
 refine nlA rfl ?_; conv => whnf
 refine nlA rfl ?_; conv => whnf
 refine bKo rfl ?_; conv => whnf
 refine getK_of rfl ?_; conv => whnf
 replace h := W_bd h
 refine ref27_Without_call h31 h (WkL.refl _) (fun _ h => ?_); conv => whnf
 refine bKo rfl ?_; conv => whnf
 refine And.intro rfl (And.intro (nle rfl) (And.intro rfl ?_)); conv => whnf
 refine hK _ _ _ ?_; clear hK K
 refine HT_seq ?_
 refine HT_fr dCo rfl fun K hK => ?_; conv => whnf
 replace h := W_jn h
 refine cond_lk h (fun _ h => ?_) (fun _ h => ?_) <;> (conv => whnf)
 · refine hK _ _ _ ?_; clear hK K
   refine HT_if fun K1 K2 hK1 hK2 => ?_; conv => whnf
   refine hK1 ?_; clear hK1 hK2 K1 K2
   replace h := W_cnT h
   refine HT_fr dCo rfl fun K hK => ?_; conv => whnf
   refine hK _ _ _ ?_; clear hK K
   refine HT_ret ?_
   refine Then_r ?_
   replace h := W_some h
   refine PostP_r dCo fun K hK => ?_; conv => whnf
   refine hK _ ?_; clear hK K
   cases h
   exact Wk.refl _
 refine nlA rfl ?_; conv => whnf
 refine bKo rfl ?_; conv => whnf
 refine getK_of rfl ?_; conv => whnf
 replace h := W_bd h
 refine ref27_Many_call h67 h (WkL.refl _) (fun _ h => ?_); conv => whnf
 refine hK _ _ _ ?_; clear hK K
 refine HT_if fun K1 K2 hK1 hK2 => ?_; conv => whnf
 refine cond_lk h (fun _ h => ?_) (fun _ h => ?_)
 · refine hK1 ?_; clear hK1 hK2 K1 K2
   refine HT_fr dCo rfl fun K hK => ?_; conv => whnf
   refine hK _ _ _ ?_; clear hK K
   refine HT_ret ?_
   refine Then_r ?_
   replace h := W_some h
   refine PostP_r dCo fun K hK => ?_; conv => whnf
   refine hK _ ?_; clear hK K
   cases h
   exact Wk.refl _
 refine hK2 ?_; clear hK1 hK2 K1 K2
 refine HT_skip ?_
 refine Then_n ?_
 refine HT_fr dCo rfl fun K hK => ?_; conv => whnf
 refine nlA rfl ?_; conv => whnf
 refine bKo rfl ?_; conv => whnf
 refine nlA rfl ?_; conv => whnf
 refine nlA rfl ?_; conv => whnf
 refine bKo rfl ?_; conv => whnf
 refine getK_of rfl ?_; conv => whnf
 replace h := W_bd h
 refine ref27_CheckCut_call h29 h (WkL.refl _) (fun _ h => ?_); conv => whnf
 refine hK _ _ _ ?_; clear hK K
 refine HT_fr dCo rfl fun K hK => ?_; conv => whnf
 replace h := W_jn h
 refine cond_lk h (fun _ h => ?_) (fun _ h => ?_) <;> (conv => whnf)
 · refine nlA rfl ?_; conv => whnf
   refine bKo rfl ?_; conv => whnf
   refine getK_of rfl ?_; conv => whnf
   refine hK _ _ _ ?_; clear hK K
   refine HT_ret ?_
   replace h := W_some h
   refine PostP_r dCo fun K hK => ?_; conv => whnf
   refine hK _ ?_; clear hK K
   cases h
   exact Wk.refl _
 refine hK _ _ _ ?_; clear hK K
 refine HT_ret ?_
 replace h := W_some h
 refine PostP_r dCo fun K hK => ?_; conv => whnf
 refine hK _ ?_; clear hK K
 cases h
 exact Wk.refl _
theorem ref27_CheckWorst_call {T : Tbl} (hT : T 36 = pureR ref27_CheckWorst_S) {args : List AV} {hp : Heap} {id : Nat} {k : AV → Prop} {a0 : TNet} {a1 : Int} {a2 : Int} {a3 : Int} {a4 : TFailure} {Φ : Bool → Prop} (h : W (ref27_CheckWorst_F a0 a1 a2 a3 a4) Φ) (hw : WkL args [eTNet a0, eI a1, eI a2, eI a3, eTFailure a4]) (hk : ∀ y, Φ y → k (eB y)) : callpK T 36 args hp id k := by
 obtain ⟨y, e, hy⟩ := W_inv h
 exact callpK_pure hT ⟨a0, a1, a2, a3, a4, rfl, W_of e rfl⟩ (by exact (lsB _)) hw (hk y hy)

   def ref27_Supplied_b1 (a0 : TNet) (a1 : List Int) (s2 : Int × Int × (List Int)) : Option (Ct (Int × Int × (List Int)) (List Int)) := cn (decide ((wr (s2.2.1 + 1)) < a0.N)) (jn (fun p3 : (List Int) =>
   gd ((0 : Int) ≤ s2.2.1 ∧ s2.2.1 < (p3.length : Int)) (let v8 := (wr (s2.1 + (p3.getD (s2.2.1).toNat default))); some (.nx (v8, (wr (s2.2.1 + 1)), p3)))) fun k4 =>
   cn (decide (s2.2.1 < (a1.length : Int))) (ix a1 default s2.2.1 fun e5 => bd (ref27_pick_F e5 25) fun y6 =>
   gd ((0 : Int) ≤ s2.2.1 ∧ s2.2.1 < (s2.2.2.length : Int)) (st s2.2.2 (s2.2.1) (wr (y6 - 12)) fun l7 => k4 l7)) (k4 s2.2.2)) (some (.bk (s2.1, s2.2.1, s2.2.2)))
theorem W_bref27_Supplied_b1 {a0 : TNet} {a1 : List Int} {s2 : Int × Int × (List Int)} {Φ : Ct (Int × Int × (List Int)) (List Int) → Prop} (h : W (ref27_Supplied_b1 a0 a1 s2) Φ) : W (cn (decide ((wr (s2.2.1 + 1)) < a0.N)) (jn (fun p3 : (List Int) => gd ((0 : Int) ≤ s2.2.1 ∧ s2.2.1 < (p3.length : Int)) (let v8 := (wr (s2.1 + (p3.getD (s2.2.1).toNat default)));
   some (.nx (v8, (wr (s2.2.1 + 1)), p3)))) fun k4 => cn (decide (s2.2.1 < (a1.length : Int))) (ix a1 default s2.2.1 fun e5 => bd (ref27_pick_F e5 25) fun y6 =>
   gd ((0 : Int) ≤ s2.2.1 ∧ s2.2.1 < (s2.2.2.length : Int)) (st s2.2.2 (s2.2.1) (wr (y6 - 12)) fun l7 => k4 l7)) (k4 s2.2.2)) (some (.bk (s2.1, s2.2.1, s2.2.2)))) Φ := h
def ref27_Supplied_F (a0 : TNet) (a1 : List Int) : Option (List Int) := gd ((0 : Int) ≤ a0.N ∧ a0.N ≤ (1048576 : Int)) (lt (List.replicate (a0.N).toNat (0 : Int)) fun l1 =>
   bd (lp (ref27_Supplied_b1 a0 a1) FU (0, 0, l1)) fun c9 => smK c9 (fun s10 => jn (fun p12 : (List Int) => some p12) fun k13 => cn (decide (a0.N >
   0)) (gd ((0 : Int) ≤ (wr (a0.N - 1)) ∧ (wr (a0.N - 1)) < (s10.2.2.length : Int)) (st s10.2.2 ((wr (a0.N - 1))) (wr (0 - s10.1)) fun l14 => k13 l14)) (k13 s10.2.2)) (fun r11 =>
   some r11))
def ref27_Supplied_S : List AV → AV → Prop := fun args r => ∃ a0 a1, args = [eTNet a0, (eL 1 eI default) a1] ∧ W (ref27_Supplied_F a0 a1) fun y => r = ((eL 1 eI default) y)
theorem ref27_Supplied_ok {T : Tbl} (hT : TOk Try.prog T) (hpf : PfOk T PF) (h45 : T 45 = pureR ref27_pick_S) : FOk Try.prog 37 (pureR ref27_Supplied_S) := by
 refine FOk_pure hT hpf Try.func37 rfl Try.ntmps37 Try.results37 (by decide) ?_
 rintro args r ⟨a0, a1, rfl, h⟩
 refine ⟨nle rfl, ?_, ?_⟩
 · exact (lsC (lo_TNet _) (lsC (lsL fun _ => (lsI _ _)) loose_nil))
 rw [ref27_Supplied_F.eq_1] at h
 refine HT_fr dCo rfl fun K hK => ?_; conv => whnf
 refine hK _ _ _ ?_; clear hK K
 refine HT_fr dCo rfl fun K hK => ?_; conv => whnf
 refine nlA rfl ?_; conv => whnf
 refine bKo rfl ?_; conv => whnf
 refine getK_of rfl ?_; conv => whnf
 refine mks_lk (enc := eI) dCo (0 : Int) h rfl rfl ⟨nle rfl, nle rfl, rfl⟩ rfl (fun h => ?_); conv => whnf
 refine hK _ _ _ ?_; clear hK K
 refine HT_fr dCo rfl fun K hK => ?_; conv => whnf
 refine hK _ _ _ ?_; clear hK K
 refine HT_seq ?_
 refine HT_fr dCo rfl fun K hK => ?_; conv => whnf
 refine hK _ _ _ ?_; clear hK K
 refine HT_block ?_
 replace h := W_bd h
 refine HT_lpR (body := ref27_Supplied_b1 _ _) rfl h [1, 2] [2] [] [] (fun kl kh kr ids b s => ⟨ofL ([(6, eI s.1), (7, eI s.2.1), (5, .so (b + 0) 0 s.2.2.length 1)] ++ kl), ofH (([] ++ kh) ++ ([(b + 0, .cells (flE (ceE eI) s.2.2))] ++ kr)), b + 128⟩) ?_; (conv => whnf); refine And.intro ?_ (fun s m h => HT_st ?_)
 · refine weak_r ?_; conv => whnf
   exact And.intro rfl (And.intro (aLc wkI (aLc wkI (aLc (WkR.so (fun _ => rfl)) (aLc (wkr (lsL fun _ => (lsI _ _))) (aLc (WkR.ptr (fun _ => rfl)) aLn))))) (aLc ⟨some _, rfl, BkR_c rfl (cKc wkI (cKc (wkr (lsL fun _ => (lo_TEdge _))) cKn))⟩ (aLc ⟨some _, rfl, BkR_r rfl (fun _ => (lsC (lsI _ _) loose_nil))⟩ aLn)))
 replace h := W_bref27_Supplied_b1 (W_bd h)
 refine HT_seq ?_
 refine HT_fr dCo rfl fun K hK => ?_; conv => whnf
 refine nlA rfl ?_; conv => whnf
 refine bKo rfl ?_; conv => whnf
 refine getK_of rfl ?_; conv => whnf
 refine hK _ _ _ ?_; clear hK K
 refine HT_if fun K1 K2 hK1 hK2 => ?_; conv => whnf
 refine cond_lk h (fun _ h => ?_) (fun _ h => ?_)
 · refine hK1 ?_; clear hK1 hK2 K1 K2
   refine HT_skip ?_
   refine Then_n ?_
   refine HT_seq ?_
   refine HT_block ?_
   refine HT_seq ?_
   refine HT_fr dCo rfl fun K hK => ?_; conv => whnf
   refine hK _ _ _ ?_; clear hK K
   replace h := W_jn h
   refine HT_if fun K1 K2 hK1 hK2 => ?_; conv => whnf
   refine cond_lk h (fun _ h => ?_) (fun _ h => ?_)
   · refine hK1 ?_; clear hK1 hK2 K1 K2
     refine HT_f dCo rfl fun K hK => ?_; conv => whnf
     refine ix_lk h fun _ h => ?_; conv => whnf
     refine getK_of rfl ?_; conv => whnf
     replace h := W_bd h
     refine ref27_pick_call h45 h (WkL.refl _) (fun _ h => ?_); conv => whnf
     refine gd_lkN h (rfl) fun hx335 h => ?_; conv => whnf
     refine bKo rfl ?_; conv => whnf
     refine st_lk (enc := eI) (d := default) (q := 0) h (fun _ => rfl) (rfl) hx335 rfl (nle rfl) rfl rfl (fun h => ?_); conv => whnf
     refine hK _ _ _ ?_; clear hK K
     refine Then_n ?_
     refine HT_f dCo rfl fun K hK => ?_; conv => whnf
     refine gd_lkN h (lenset rfl) fun hx336 h => ?_; conv => whnf
     refine nlA rfl ?_; conv => whnf
     refine bKo rfl ?_; conv => whnf
     refine get_flN (enc := eI) (d := default) (q := 0) (fun _ => rfl) (lenset rfl) hx336 (nle rfl) rfl ?_; conv => whnf
     refine hK _ _ _ ?_; clear hK K
     refine InBlock_n ?_
     refine Then_n ?_
     refine HT_f dCo rfl fun K hK => ?_; conv => whnf
     refine hK _ _ _ ?_; clear hK K
     refine Then_n ?_
     replace h := W_xnx h
     refine ⟨_, h, ?_⟩
     refine weak_r ?_; conv => whnf
     exact And.intro rfl (And.intro (aLc wkI (aLc wkI (aLc (WkR.soN (fun _ => rfl) (lenset rfl).symm) (aLc (wkr (lsL fun _ => (lsI _ _))) (aLc (WkR.ptr (fun _ => rfl)) aLn))))) (aLc ⟨some _, rfl, BkR_c rfl (cKc wkI (cKc (wkr (lsL fun _ => (lo_TEdge _))) cKn))⟩ (aLc ⟨some _, rfl, BkR_r rfl (fun _ => (lsC (lsI _ _) loose_nil))⟩ aLn)))
   refine hK2 ?_; clear hK1 hK2 K1 K2
   refine HT_skip ?_
   refine Then_n ?_
   refine HT_f dCo rfl fun K hK => ?_; conv => whnf
   refine gd_lkN h (rfl) fun hx337 h => ?_; conv => whnf
   refine nlA rfl ?_; conv => whnf
   refine bKo rfl ?_; conv => whnf
   refine get_flN (enc := eI) (d := default) (q := 0) (fun _ => rfl) (rfl) hx337 (nle rfl) rfl ?_; conv => whnf
   refine hK _ _ _ ?_; clear hK K
   refine InBlock_n ?_
   refine Then_n ?_
   refine HT_f dCo rfl fun K hK => ?_; conv => whnf
   refine hK _ _ _ ?_; clear hK K
   refine Then_n ?_
   replace h := W_xnx h
   refine ⟨_, h, ?_⟩
   refine weak_r ?_; conv => whnf
   exact And.intro rfl (And.intro (aLc wkI (aLc wkI (aLc (WkR.so (fun _ => rfl)) (aLc (wkr (lsL fun _ => (lsI _ _))) (aLc (WkR.ptr (fun _ => rfl)) aLn))))) (aLc ⟨some _, rfl, BkR_c rfl (cKc wkI (cKc (wkr (lsL fun _ => (lo_TEdge _))) cKn))⟩ (aLc ⟨some _, rfl, BkR_r rfl (fun _ => (lsC (lsI _ _) loose_nil))⟩ aLn)))
 refine hK2 ?_; clear hK1 hK2 K1 K2
 refine HT_exit ?_
 refine Then_e ?_
 refine Then_e ?_
 refine InBlock_e ?_
 replace h := W_xbk h
 replace h := W_inl h
 refine Then_n ?_
 refine HT_seq ?_
 refine HT_fr dCo rfl fun K hK => ?_; conv => whnf
 refine nlA rfl ?_; conv => whnf
 refine bKo rfl ?_; conv => whnf
 refine getK_of rfl ?_; conv => whnf
 refine hK _ _ _ ?_; clear hK K
 replace h := W_jn h
 refine HT_if fun K1 K2 hK1 hK2 => ?_; conv => whnf
 refine cond_lk h (fun _ h => ?_) (fun _ h => ?_)
 · refine hK1 ?_; clear hK1 hK2 K1 K2
   refine HT_f dCo rfl fun K hK => ?_; conv => whnf
   refine nlA rfl ?_; conv => whnf
   refine bKo rfl ?_; conv => whnf
   refine getK_of rfl ?_; conv => whnf
   refine gd_lkN h (rfl) fun hx339 h => ?_; conv => whnf
   refine bKo rfl ?_; conv => whnf
   refine st_lk (enc := eI) (d := default) (q := 0) h (fun _ => rfl) (rfl) hx339 rfl (nle rfl) rfl rfl (fun h => ?_); conv => whnf
   refine hK _ _ _ ?_; clear hK K
   refine Then_n ?_
   refine HT_fr dCo rfl fun K hK => ?_; conv => whnf
   refine hK _ _ _ ?_; clear hK K
   refine HT_frzSK 4 (enc := eI) (e := 3) default (ElOk_one dCo rfl rfl rfl (fun _ => ⟨rfl, rfl⟩)) ?_; (conv => whnf); refine ⟨_, _, rfl, (lenset rfl).symm, rfl, ?_⟩
   refine HT_ret ?_
   replace h := W_some h
   refine PostP_r dCo fun K hK => ?_; conv => whnf
   refine hK _ ?_; clear hK K
   cases h
   exact Wk.refl _
 refine hK2 ?_; clear hK1 hK2 K1 K2
 refine HT_skip ?_
 refine Then_n ?_
 refine HT_fr dCo rfl fun K hK => ?_; conv => whnf
 refine hK _ _ _ ?_; clear hK K
 refine HT_frzSK 4 (enc := eI) (e := 3) default (ElOk_one dCo rfl rfl rfl (fun _ => ⟨rfl, rfl⟩)) ?_; (conv => whnf); refine ⟨_, _, rfl, rfl, rfl, ?_⟩
 refine HT_ret ?_
 replace h := W_some h
 refine PostP_r dCo fun K hK => ?_; conv => whnf
 refine hK _ ?_; clear hK K
 cases h
 exact Wk.refl _
theorem ref27_Supplied_call {T : Tbl} (hT : T 37 = pureR ref27_Supplied_S) {args : List AV} {hp : Heap} {id : Nat} {k : AV → Prop} {a0 : TNet} {a1 : List Int} {Φ : List Int → Prop} (h : W (ref27_Supplied_F a0 a1) Φ) (hw : WkL args [eTNet a0, (eL 1 eI default) a1]) (hk : ∀ y, Φ y → k ((eL 1 eI default) y)) : callpK T 37 args hp id k := by
 obtain ⟨y, e, hy⟩ := W_inv h
 exact callpK_pure hT ⟨a0, a1, rfl, W_of e rfl⟩ (by exact (lsL fun _ => (lsI _ _))) hw (hk y hy)
def ref27_Supplies_b1 (a1 : List Int) (s4 : Int × Int) : Option (Ct (Int × Int) Bool) := cn (decide (s4.2 < (a1.length : Int))) (ix a1 default s4.2 fun e5 =>
   bd (ref27_in_F e5 (-100000) 100000) fun y6 => cn (!y6) (some (.rt false)) (ix a1 default s4.2 fun e7 =>
   some (.nx ((wr (s4.1 + e7)), (wr (s4.2 + 1)))))) (some (.bk (s4.1, s4.2)))
theorem W_bref27_Supplies_b1 {a1 : List Int} {s4 : Int × Int} {Φ : Ct (Int × Int) Bool → Prop} (h : W (ref27_Supplies_b1 a1 s4) Φ) : W (cn (decide (s4.2 < (a1.length : Int))) (ix a1 default s4.2 fun e5 => bd (ref27_in_F e5 (-100000) 100000) fun y6 => cn (!y6) (some (.rt false)) (ix a1 default s4.2 fun e7 =>
   some (.nx ((wr (s4.1 + e7)), (wr (s4.2 + 1)))))) (some (.bk (s4.1, s4.2)))) Φ := h
def ref27_Supplies_F (a0 : TNet) (a1 : List Int) : Option Bool := jn (fun p1 : Bool => cn p1 (some false) (bd (lp (ref27_Supplies_b1 a1) FU (0, 0)) fun c8 => smK c8 (fun s9 =>
   some (s9.1 == 0)) (fun r10 => some r10))) fun k2 => bd (ref27_Valid_F a0) fun y3 => cn (!y3) (k2 true) (k2 ((a1.length : Int) != a0.N))
def ref27_Supplies_S : List AV → AV → Prop := fun args r => ∃ a0 a1, args = [eTNet a0, (eL 1 eI default) a1] ∧ W (ref27_Supplies_F a0 a1) fun y => r = (eB y)
theorem ref27_Supplies_ok {T : Tbl} (hT : TOk Try.prog T) (hpf : PfOk T PF) (h20 : T 20 = pureR ref27_Valid_S) (h49 : T 49 = pureR ref27_in_S) : FOk Try.prog 39 (pureR ref27_Supplies_S) := by
 refine FOk_pure hT hpf Try.func39 rfl Try.ntmps39 Try.results39 (by decide) ?_
 rintro args r ⟨a0, a1, rfl, h⟩
 refine ⟨nle rfl, ?_, ?_⟩
 · exact (lsC (lo_TNet _) (lsC (lsL fun _ => (lsI _ _)) loose_nil))
 rw [ref27_Supplies_F.eq_1] at h
 refine HT_fr dCo rfl fun K hK => ?_; conv => whnf
 refine hK _ _ _ ?_; clear hK K
 refine HT_seq ?_
 refine HT_fr dCo rfl fun K hK => ?_; conv => whnf
 replace h := W_jn h
 refine nlA rfl ?_; conv => whnf
 refine bKo rfl ?_; conv => whnf
 refine nlA rfl ?_; conv => whnf
 replace h := W_bd h
 refine ref27_Valid_call h20 h (WkL.refl _) (fun _ h => ?_); conv => whnf
 refine cond_lk h (fun _ h => ?_) (fun _ h => ?_) <;> (conv => whnf)
 · refine hK _ _ _ ?_; clear hK K
   refine HT_if fun K1 K2 hK1 hK2 => ?_; conv => whnf
   refine hK1 ?_; clear hK1 hK2 K1 K2
   replace h := W_cnT h
   refine HT_fr dCo rfl fun K hK => ?_; conv => whnf
   refine hK _ _ _ ?_; clear hK K
   refine HT_ret ?_
   refine Then_r ?_
   replace h := W_some h
   refine PostP_r dCo fun K hK => ?_; conv => whnf
   refine hK _ ?_; clear hK K
   cases h
   exact Wk.refl _
 refine nlA rfl ?_; conv => whnf
 refine bKo rfl ?_; conv => whnf
 refine getK_of rfl ?_; conv => whnf
 refine hK _ _ _ ?_; clear hK K
 refine HT_if fun K1 K2 hK1 hK2 => ?_; conv => whnf
 refine cond_lk h (fun _ h => ?_) (fun _ h => ?_)
 · refine hK1 ?_; clear hK1 hK2 K1 K2
   refine HT_fr dCo rfl fun K hK => ?_; conv => whnf
   refine hK _ _ _ ?_; clear hK K
   refine HT_ret ?_
   refine Then_r ?_
   replace h := W_some h
   refine PostP_r dCo fun K hK => ?_; conv => whnf
   refine hK _ ?_; clear hK K
   cases h
   exact Wk.refl _
 refine hK2 ?_; clear hK1 hK2 K1 K2
 refine HT_skip ?_
 refine Then_n ?_
 refine HT_fr dCo rfl fun K hK => ?_; conv => whnf
 refine hK _ _ _ ?_; clear hK K
 refine HT_seq ?_
 refine HT_fr dCo rfl fun K hK => ?_; conv => whnf
 refine hK _ _ _ ?_; clear hK K
 refine HT_block ?_
 replace h := W_bd h
 refine HT_lpK (body := ref27_Supplies_b1 _) rfl h [1] [] [] (fun kl kh ids b s => ⟨ofL ([(5, eI s.1), (6, eI s.2)] ++ kl), ofH ([] ++ kh), b + 64⟩) ?_; (conv => whnf); refine And.intro ?_ (fun s m h => HT_st ?_)
 · refine weak_k ?_; conv => whnf
   exact And.intro rfl (And.intro (aLc wkI (aLc wkI (aLc (wkr (lsL fun _ => (lsI _ _))) aLn))) aLn)
 replace h := W_bref27_Supplies_b1 (W_bd h)
 refine HT_seq ?_
 refine HT_fr dCo rfl fun K hK => ?_; conv => whnf
 refine hK _ _ _ ?_; clear hK K
 refine HT_if fun K1 K2 hK1 hK2 => ?_; conv => whnf
 refine cond_lk h (fun _ h => ?_) (fun _ h => ?_)
 · refine hK1 ?_; clear hK1 hK2 K1 K2
   refine HT_skip ?_
   refine Then_n ?_
   refine HT_seq ?_
   refine HT_block ?_
   refine HT_seq ?_
   refine HT_fr dCo rfl fun K hK => ?_; conv => whnf
   refine ix_lk h fun _ h => ?_; conv => whnf
   refine getK_of rfl ?_; conv => whnf
   replace h := W_bd h
   refine ref27_in_call h49 h (WkL.refl _) (fun _ h => ?_); conv => whnf
   refine hK _ _ _ ?_; clear hK K
   refine HT_if fun K1 K2 hK1 hK2 => ?_; conv => whnf
   refine cond_lk h (fun _ h => ?_) (fun _ h => ?_)
   · refine hK1 ?_; clear hK1 hK2 K1 K2
     refine HT_fr dCo rfl fun K hK => ?_; conv => whnf
     refine hK _ _ _ ?_; clear hK K
     refine HT_ret ?_
     refine Then_r ?_
     refine InBlock_r ?_
     refine Then_r ?_
     refine Then_r ?_
     refine InBlock_r ?_
     refine Then_r ?_
     replace h := W_xrt h
     replace h := W_inr h
     replace h := W_some h
     refine PostP_r dCo fun K hK => ?_; conv => whnf
     refine hK _ ?_; clear hK K
     cases h
     exact Wk.refl _
   refine hK2 ?_; clear hK1 hK2 K1 K2
   refine HT_skip ?_
   refine Then_n ?_
   refine HT_f dCo rfl fun K hK => ?_; conv => whnf
   refine ix_lk h fun _ h => ?_; conv => whnf
   refine getK_of rfl ?_; conv => whnf
   refine hK _ _ _ ?_; clear hK K
   refine InBlock_n ?_
   refine Then_n ?_
   refine HT_f dCo rfl fun K hK => ?_; conv => whnf
   refine hK _ _ _ ?_; clear hK K
   refine Then_n ?_
   replace h := W_xnx h
   refine ⟨_, h, ?_⟩
   refine weak_k ?_; conv => whnf
   exact And.intro rfl (And.intro (aLc wkI (aLc wkI (aLc (wkr (lsL fun _ => (lsI _ _))) aLn))) aLn)
 refine hK2 ?_; clear hK1 hK2 K1 K2
 refine HT_exit ?_
 refine Then_e ?_
 refine Then_e ?_
 refine InBlock_e ?_
 replace h := W_xbk h
 replace h := W_inl h
 refine Then_n ?_
 refine HT_fr dCo rfl fun K hK => ?_; conv => whnf
 refine hK _ _ _ ?_; clear hK K
 refine HT_ret ?_
 replace h := W_some h
 refine PostP_r dCo fun K hK => ?_; conv => whnf
 refine hK _ ?_; clear hK K
 cases h
 exact Wk.refl _
theorem ref27_Supplies_call {T : Tbl} (hT : T 39 = pureR ref27_Supplies_S) {args : List AV} {hp : Heap} {id : Nat} {k : AV → Prop} {a0 : TNet} {a1 : List Int} {Φ : Bool → Prop} (h : W (ref27_Supplies_F a0 a1) Φ) (hw : WkL args [eTNet a0, (eL 1 eI default) a1]) (hk : ∀ y, Φ y → k (eB y)) : callpK T 39 args hp id k := by
 obtain ⟨y, e, hy⟩ := W_inv h
 exact callpK_pure hT ⟨a0, a1, rfl, W_of e rfl⟩ (by exact (lsB _)) hw (hk y hy)
def ref27_Refutes_b1 (a0 : TNet) (a1 : List Int) (a2 : Int) (s1 : Int × Int) : Option (Ct (Int × Int) Bool) := cn (decide (s1.2 < a0.N)) (bd (ref27_has_F a2 s1.2) fun y2 =>
   jn (fun p3 : Int => some (.nx (p3, (wr (s1.2 + 1))))) fun k4 => cn y2 (ix a1 default s1.2 fun e5 => k4 (wr (s1.1 + e5))) (k4 s1.1)) (some (.bk (s1.1, s1.2)))
theorem W_bref27_Refutes_b1 {a0 : TNet} {a1 : List Int} {a2 : Int} {s1 : Int × Int} {Φ : Ct (Int × Int) Bool → Prop} (h : W (ref27_Refutes_b1 a0 a1 a2 s1) Φ) : W (cn (decide (s1.2 < a0.N)) (bd (ref27_has_F a2 s1.2) fun y2 => jn (fun p3 : Int => some (.nx (p3, (wr (s1.2 + 1))))) fun k4 => cn y2 (ix a1 default s1.2 fun e5 =>
   k4 (wr (s1.1 + e5))) (k4 s1.1)) (some (.bk (s1.1, s1.2)))) Φ := h
def ref27_Refutes_F (a0 : TNet) (a1 : List Int) (a2 : Int) : Option Bool := bd (lp (ref27_Refutes_b1 a0 a1 a2) FU (0, 0)) fun c6 => smK c6 (fun s7 =>
   bd (ref27_Leaves_F a0 a2) fun y9 => some (decide (s7.1 > y9))) (fun r8 => some r8)
def ref27_Refutes_S : List AV → AV → Prop := fun args r => ∃ a0 a1 a2, args = [eTNet a0, (eL 1 eI default) a1, eI a2] ∧ W (ref27_Refutes_F a0 a1 a2) fun y => r = (eB y)
theorem ref27_Refutes_ok {T : Tbl} (hT : TOk Try.prog T) (hpf : PfOk T PF) (h56 : T 56 = pureR ref27_has_S) (h57 : T 57 = pureR ref27_Leaves_S) : FOk Try.prog 69 (pureR ref27_Refutes_S) := by
 refine FOk_pure hT hpf Try.func69 rfl Try.ntmps69 Try.results69 (by decide) ?_
 rintro args r ⟨a0, a1, a2, rfl, h⟩
 refine ⟨nle rfl, ?_, ?_⟩
 · exact (lsC (lo_TNet _) (lsC (lsL fun _ => (lsI _ _)) (lsC (lsI _ _) loose_nil)))
 rw [ref27_Refutes_F.eq_1] at h
 refine HT_fr dCo rfl fun K hK => ?_; conv => whnf
 refine hK _ _ _ ?_; clear hK K
 refine HT_fr dCo rfl fun K hK => ?_; conv => whnf
 refine hK _ _ _ ?_; clear hK K
 refine HT_seq ?_
 refine HT_fr dCo rfl fun K hK => ?_; conv => whnf
 refine hK _ _ _ ?_; clear hK K
 refine HT_block ?_
 replace h := W_bd h
 refine HT_lpK (body := ref27_Refutes_b1 _ _ _) rfl h [1, 2, 3] [3] [] (fun kl kh ids b s => ⟨ofL ([(7, eI s.1), (8, eI s.2)] ++ kl), ofH ([] ++ kh), b + 64⟩) ?_; (conv => whnf); refine And.intro ?_ (fun s m h => HT_st ?_)
 · refine weak_k ?_; conv => whnf
   exact And.intro rfl (And.intro (aLc wkI (aLc wkI (aLc (wkr (lsL fun _ => (lsI _ _))) (aLc wkI (aLc (WkR.ptr (fun _ => rfl)) aLn))))) (aLc ⟨some _, rfl, BkR_c rfl (cKc wkI (cKc (wkr (lsL fun _ => (lo_TEdge _))) cKn))⟩ aLn))
 replace h := W_bref27_Refutes_b1 (W_bd h)
 refine HT_seq ?_
 refine HT_fr dCo rfl fun K hK => ?_; conv => whnf
 refine nlA rfl ?_; conv => whnf
 refine bKo rfl ?_; conv => whnf
 refine getK_of rfl ?_; conv => whnf
 refine hK _ _ _ ?_; clear hK K
 refine HT_if fun K1 K2 hK1 hK2 => ?_; conv => whnf
 refine cond_lk h (fun _ h => ?_) (fun _ h => ?_)
 · refine hK1 ?_; clear hK1 hK2 K1 K2
   refine HT_skip ?_
   refine Then_n ?_
   refine HT_seq ?_
   refine HT_block ?_
   refine HT_fr dCo rfl fun K hK => ?_; conv => whnf
   replace h := W_bd h
   refine ref27_has_call h56 h (WkL.refl _) (fun _ h => ?_); conv => whnf
   refine hK _ _ _ ?_; clear hK K
   replace h := W_jn h
   refine HT_if fun K1 K2 hK1 hK2 => ?_; conv => whnf
   refine cond_lk h (fun _ h => ?_) (fun _ h => ?_)
   · refine hK1 ?_; clear hK1 hK2 K1 K2
     refine HT_f dCo rfl fun K hK => ?_; conv => whnf
     refine ix_lk h fun _ h => ?_; conv => whnf
     refine getK_of rfl ?_; conv => whnf
     refine hK _ _ _ ?_; clear hK K
     refine InBlock_n ?_
     refine Then_n ?_
     refine HT_f dCo rfl fun K hK => ?_; conv => whnf
     refine hK _ _ _ ?_; clear hK K
     refine Then_n ?_
     replace h := W_xnx h
     refine ⟨_, h, ?_⟩
     refine weak_k ?_; conv => whnf
     exact And.intro rfl (And.intro (aLc wkI (aLc wkI (aLc (wkr (lsL fun _ => (lsI _ _))) (aLc wkI (aLc (WkR.ptr (fun _ => rfl)) aLn))))) (aLc ⟨some _, rfl, BkR_c rfl (cKc wkI (cKc (wkr (lsL fun _ => (lo_TEdge _))) cKn))⟩ aLn))
   refine hK2 ?_; clear hK1 hK2 K1 K2
   refine HT_skip ?_
   refine InBlock_n ?_
   refine Then_n ?_
   refine HT_f dCo rfl fun K hK => ?_; conv => whnf
   refine hK _ _ _ ?_; clear hK K
   refine Then_n ?_
   replace h := W_xnx h
   refine ⟨_, h, ?_⟩
   refine weak_k ?_; conv => whnf
   exact And.intro rfl (And.intro (aLc wkI (aLc wkI (aLc (wkr (lsL fun _ => (lsI _ _))) (aLc wkI (aLc (WkR.ptr (fun _ => rfl)) aLn))))) (aLc ⟨some _, rfl, BkR_c rfl (cKc wkI (cKc (wkr (lsL fun _ => (lo_TEdge _))) cKn))⟩ aLn))
 refine hK2 ?_; clear hK1 hK2 K1 K2
 refine HT_exit ?_
 refine Then_e ?_
 refine Then_e ?_
 refine InBlock_e ?_
 replace h := W_xbk h
 replace h := W_inl h
 refine Then_n ?_
 refine HT_fr dCo rfl fun K hK => ?_; conv => whnf
 refine nlA rfl ?_; conv => whnf
 refine bKo rfl ?_; conv => whnf
 refine nlA rfl ?_; conv => whnf
 replace h := W_bd h
 refine ref27_Leaves_call h57 h (WkL.refl _) (fun _ h => ?_); conv => whnf
 refine hK _ _ _ ?_; clear hK K
 refine HT_ret ?_
 replace h := W_some h
 refine PostP_r dCo fun K hK => ?_; conv => whnf
 refine hK _ ?_; clear hK K
 cases h
 exact Wk.refl _
theorem ref27_Refutes_call {T : Tbl} (hT : T 69 = pureR ref27_Refutes_S) {args : List AV} {hp : Heap} {id : Nat} {k : AV → Prop} {a0 : TNet} {a1 : List Int} {a2 : Int} {Φ : Bool → Prop} (h : W (ref27_Refutes_F a0 a1 a2) Φ) (hw : WkL args [eTNet a0, (eL 1 eI default) a1, eI a2]) (hk : ∀ y, Φ y → k (eB y)) : callpK T 69 args hp id k := by
 obtain ⟨y, e, hy⟩ := W_inv h
 exact callpK_pure hT ⟨a0, a1, a2, rfl, W_of e rfl⟩ (by exact (lsB _)) hw (hk y hy)
def ref27_Refuted_b1 (a0 : TNet) (a1 : List Int) (s1 : Int) : Option (Ct Int Bool) := gd (0 ≤ a0.N) (cn (decide (s1 < (bshl .i64 1 a0.N))) (bd (ref27_Refutes_F a0 a1 s1) fun y2 =>
   cn y2 (some (.rt true)) (some (.nx (wr (s1 + 1))))) (some (.bk s1)))
theorem W_bref27_Refuted_b1 {a0 : TNet} {a1 : List Int} {s1 : Int} {Φ : Ct Int Bool → Prop} (h : W (ref27_Refuted_b1 a0 a1 s1) Φ) : W (gd (0 ≤ a0.N) (cn (decide (s1 < (bshl .i64 1 a0.N))) (bd (ref27_Refutes_F a0 a1 s1) fun y2 => cn y2 (some (.rt true)) (some (.nx (wr (s1 + 1))))) (some (.bk s1)))) Φ := h
def ref27_Refuted_F (a0 : TNet) (a1 : List Int) : Option Bool := bd (lp (ref27_Refuted_b1 a0 a1) FU 0) fun c3 => smK c3 (fun s4 => some false) (fun r5 => some r5)
def ref27_Refuted_S : List AV → AV → Prop := fun args r => ∃ a0 a1, args = [eTNet a0, (eL 1 eI default) a1] ∧ W (ref27_Refuted_F a0 a1) fun y => r = (eB y)
theorem ref27_Refuted_ok {T : Tbl} (hT : TOk Try.prog T) (hpf : PfOk T PF) (h69 : T 69 = pureR ref27_Refutes_S) : FOk Try.prog 40 (pureR ref27_Refuted_S) := by
 refine FOk_pure hT hpf Try.func40 rfl Try.ntmps40 Try.results40 (by decide) ?_
 rintro args r ⟨a0, a1, rfl, h⟩
 refine ⟨nle rfl, ?_, ?_⟩
 · exact (lsC (lo_TNet _) (lsC (lsL fun _ => (lsI _ _)) loose_nil))
 rw [ref27_Refuted_F.eq_1] at h
 refine HT_fr dCo rfl fun K hK => ?_; conv => whnf
 refine hK _ _ _ ?_; clear hK K
 refine HT_seq ?_
 refine HT_fr dCo rfl fun K hK => ?_; conv => whnf
 refine hK _ _ _ ?_; clear hK K
 refine HT_block ?_
 replace h := W_bd h
 refine HT_lpK (body := ref27_Refuted_b1 _ _) rfl h [1, 2] [2] [] (fun kl kh ids b s => ⟨ofL ([(5, eI s)] ++ kl), ofH ([] ++ kh), b + 64⟩) ?_; (conv => whnf); refine And.intro ?_ (fun s m h => HT_st ?_)
 · refine weak_k ?_; conv => whnf
   exact And.intro rfl (And.intro (aLc wkI (aLc (wkr (lsL fun _ => (lsI _ _))) (aLc (WkR.ptr (fun _ => rfl)) aLn))) (aLc ⟨some _, rfl, BkR_c rfl (cKc wkI (cKc (wkr (lsL fun _ => (lo_TEdge _))) cKn))⟩ aLn))
 replace h := W_bref27_Refuted_b1 (W_bd h)
 refine HT_seq ?_
 refine HT_fr dCo rfl fun K hK => ?_; conv => whnf
 refine nlA rfl ?_; conv => whnf
 refine bKo rfl ?_; conv => whnf
 refine getK_of rfl ?_; conv => whnf
 refine gd_lk h fun _ h => ?_; conv => whnf
 refine hK _ _ _ ?_; clear hK K
 refine HT_if fun K1 K2 hK1 hK2 => ?_; conv => whnf
 refine cond_lk h (fun _ h => ?_) (fun _ h => ?_)
 · refine hK1 ?_; clear hK1 hK2 K1 K2
   refine HT_skip ?_
   refine Then_n ?_
   refine HT_seq ?_
   refine HT_block ?_
   refine HT_fr dCo rfl fun K hK => ?_; conv => whnf
   refine nlA rfl ?_; conv => whnf
   refine bKo rfl ?_; conv => whnf
   refine nlA rfl ?_; conv => whnf
   replace h := W_bd h
   refine ref27_Refutes_call h69 h (WkL.refl _) (fun _ h => ?_); conv => whnf
   refine hK _ _ _ ?_; clear hK K
   refine HT_if fun K1 K2 hK1 hK2 => ?_; conv => whnf
   refine cond_lk h (fun _ h => ?_) (fun _ h => ?_)
   · refine hK1 ?_; clear hK1 hK2 K1 K2
     refine HT_fr dCo rfl fun K hK => ?_; conv => whnf
     refine hK _ _ _ ?_; clear hK K
     refine HT_ret ?_
     refine InBlock_r ?_
     refine Then_r ?_
     refine Then_r ?_
     refine InBlock_r ?_
     refine Then_r ?_
     replace h := W_xrt h
     replace h := W_inr h
     replace h := W_some h
     refine PostP_r dCo fun K hK => ?_; conv => whnf
     refine hK _ ?_; clear hK K
     cases h
     exact Wk.refl _
   refine hK2 ?_; clear hK1 hK2 K1 K2
   refine HT_skip ?_
   refine InBlock_n ?_
   refine Then_n ?_
   refine HT_f dCo rfl fun K hK => ?_; conv => whnf
   refine hK _ _ _ ?_; clear hK K
   refine Then_n ?_
   replace h := W_xnx h
   refine ⟨_, h, ?_⟩
   refine weak_k ?_; conv => whnf
   exact And.intro rfl (And.intro (aLc wkI (aLc (wkr (lsL fun _ => (lsI _ _))) (aLc (WkR.ptr (fun _ => rfl)) aLn))) (aLc ⟨some _, rfl, BkR_c rfl (cKc wkI (cKc (wkr (lsL fun _ => (lo_TEdge _))) cKn))⟩ aLn))
 refine hK2 ?_; clear hK1 hK2 K1 K2
 refine HT_exit ?_
 refine Then_e ?_
 refine Then_e ?_
 refine InBlock_e ?_
 replace h := W_xbk h
 replace h := W_inl h
 refine Then_n ?_
 refine HT_fr dCo rfl fun K hK => ?_; conv => whnf
 refine hK _ _ _ ?_; clear hK K
 refine HT_ret ?_
 replace h := W_some h
 refine PostP_r dCo fun K hK => ?_; conv => whnf
 refine hK _ ?_; clear hK K
 cases h
 exact Wk.refl _
theorem ref27_Refuted_call {T : Tbl} (hT : T 40 = pureR ref27_Refuted_S) {args : List AV} {hp : Heap} {id : Nat} {k : AV → Prop} {a0 : TNet} {a1 : List Int} {Φ : Bool → Prop} (h : W (ref27_Refuted_F a0 a1) Φ) (hw : WkL args [eTNet a0, (eL 1 eI default) a1]) (hk : ∀ y, Φ y → k (eB y)) : callpK T 40 args hp id k := by
 obtain ⟨y, e, hy⟩ := W_inv h
 exact callpK_pure hT ⟨a0, a1, rfl, W_of e rfl⟩ (by exact (lsB _)) hw (hk y hy)
def ref27_CheckMeet_b1 (a0 : TNet) (a1 : List Int) (a2 : TSupply) (s9 : Int) : Option (Ct Int Bool) := cn (decide (s9 < a0.N)) (bd (ref27_gives_F a0 a2.Amounts s9) fun y10 =>
   ix a1 default s9 fun e11 => cn (y10 != e11) (some (.rt false)) (some (.nx (wr (s9 + 1))))) (some (.bk s9))
theorem W_bref27_CheckMeet_b1 {a0 : TNet} {a1 : List Int} {a2 : TSupply} {s9 : Int} {Φ : Ct Int Bool → Prop} (h : W (ref27_CheckMeet_b1 a0 a1 a2 s9) Φ) : W (cn (decide (s9 < a0.N)) (bd (ref27_gives_F a0 a2.Amounts s9) fun y10 => ix a1 default s9 fun e11 => cn (y10 != e11) (some (.rt false)) (some (.nx (wr (s9 + 1))))) (some (.bk s9))) Φ := h
def ref27_CheckMeet_F (a0 : TNet) (a1 : List Int) (a2 : TSupply) : Option Bool := bd (ref27_Supplies_F a0 a1) fun y1 => cn (!y1) (some false) (cn (!a2.Met) (jn (fun p2 : Bool =>
   some p2) fun k3 => cn ((a2.Amounts.length : Int) == 0) (gd (0 ≤ a0.N) (bd (ref27_in_F a2.Set 0 (wr ((bshl .i64 1 a0.N) - 1))) fun y4 =>
   cn y4 (bd (ref27_Refutes_F a0 a1 a2.Set) fun y5 => k3 y5) (k3 false))) (k3 false)) (jn (fun p6 : Bool =>
   cn p6 (some false) (bd (lp (ref27_CheckMeet_b1 a0 a1 a2) FU 0) fun c12 => smK c12 (fun s13 => some true) (fun r14 => some r14))) fun k7 => cn (a2.Set !=
   0) (k7 true) (bd (ref27_amounts_F a0 a2.Amounts) fun y8 => k7 (!y8))))
def ref27_CheckMeet_S : List AV → AV → Prop := fun args r => ∃ a0 a1 a2, args = [eTNet a0, (eL 1 eI default) a1, eTSupply a2] ∧ W (ref27_CheckMeet_F a0 a1 a2) fun y => r = (eB y)
theorem ref27_CheckMeet_ok {T : Tbl} (hT : TOk Try.prog T) (hpf : PfOk T PF) (h39 : T 39 = pureR ref27_Supplies_S) (h49 : T 49 = pureR ref27_in_S) (h54 : T 54 = pureR ref27_amounts_S) (h55 : T 55 = pureR ref27_gives_S) (h69 : T 69 = pureR ref27_Refutes_S) : FOk Try.prog 42 (pureR ref27_CheckMeet_S) := by
 refine FOk_pure hT hpf Try.func42 rfl Try.ntmps42 Try.results42 (by decide) ?_
 rintro args r ⟨a0, a1, a2, rfl, h⟩
 refine ⟨nle rfl, ?_, ?_⟩
 · exact (lsC (lo_TNet _) (lsC (lsL fun _ => (lsI _ _)) (lsC (lo_TSupply _) loose_nil)))
 rw [ref27_CheckMeet_F.eq_1] at h
 refine HT_fr dCo rfl fun K hK => ?_; conv => whnf
 refine hK _ _ _ ?_; clear hK K
 refine HT_seq ?_
 refine HT_fr dCo rfl fun K hK => ?_; conv => whnf
 refine nlA rfl ?_; conv => whnf
 refine bKo rfl ?_; conv => whnf
 refine nlA rfl ?_; conv => whnf
 replace h := W_bd h
 refine ref27_Supplies_call h39 h (WkL.refl _) (fun _ h => ?_); conv => whnf
 refine hK _ _ _ ?_; clear hK K
 refine HT_if fun K1 K2 hK1 hK2 => ?_; conv => whnf
 refine cond_lk h (fun _ h => ?_) (fun _ h => ?_)
 · refine hK1 ?_; clear hK1 hK2 K1 K2
   refine HT_fr dCo rfl fun K hK => ?_; conv => whnf
   refine hK _ _ _ ?_; clear hK K
   refine HT_ret ?_
   refine Then_r ?_
   replace h := W_some h
   refine PostP_r dCo fun K hK => ?_; conv => whnf
   refine hK _ ?_; clear hK K
   cases h
   exact Wk.refl _
 refine hK2 ?_; clear hK1 hK2 K1 K2
 refine HT_skip ?_
 refine Then_n ?_
 refine HT_seq ?_
 refine HT_fr dCo rfl fun K hK => ?_; conv => whnf
 refine nlA rfl ?_; conv => whnf
 refine bKo rfl ?_; conv => whnf
 refine getK_of rfl ?_; conv => whnf
 refine hK _ _ _ ?_; clear hK K
 refine HT_if fun K1 K2 hK1 hK2 => ?_; conv => whnf
 refine cond_lk h (fun _ h => ?_) (fun _ h => ?_)
 · refine hK1 ?_; clear hK1 hK2 K1 K2
   refine HT_fd dCo mix_ok rfl (by kernel_rfl) fun K hK => ?_; conv => whnf
   replace h := W_jn h
   refine nlA rfl ?_; conv => whnf
   refine bKo rfl ?_; conv => whnf
   refine getK_of rfl ?_; conv => whnf
   refine cond_lk h (fun _ h => ?_) (fun _ h => ?_) <;> (conv => whnf)
   · refine nlA rfl ?_; conv => whnf
     refine bKo rfl ?_; conv => whnf
     refine getK_of rfl ?_; conv => whnf
     refine nlA rfl ?_; conv => whnf
     refine bKo rfl ?_; conv => whnf
     refine getK_of rfl ?_; conv => whnf
     refine gd_lk h fun _ h => ?_; conv => whnf
     replace h := W_bd h
     refine ref27_in_call h49 h (WkL.refl _) (fun _ h => ?_); conv => whnf
     refine cond_lk h (fun _ h => ?_) (fun _ h => ?_) <;> (conv => whnf)
     · refine nlA rfl ?_; conv => whnf
       refine bKo rfl ?_; conv => whnf
       refine nlA rfl ?_; conv => whnf
       refine nlA rfl ?_; conv => whnf
       refine bKo rfl ?_; conv => whnf
       refine getK_of rfl ?_; conv => whnf
       replace h := W_bd h
       refine ref27_Refutes_call h69 h (WkL.refl _) (fun _ h => ?_); conv => whnf
       refine hK _ _ _ ?_; clear hK K
       refine HT_ret ?_
       refine Then_r ?_
       replace h := W_some h
       refine PostP_r dCo fun K hK => ?_; conv => whnf
       refine hK _ ?_; clear hK K
       cases h
       exact Wk.refl _
     refine hK _ _ _ ?_; clear hK K
     refine HT_ret ?_
     refine Then_r ?_
     replace h := W_some h
     refine PostP_r dCo fun K hK => ?_; conv => whnf
     refine hK _ ?_; clear hK K
     cases h
     exact Wk.refl _
   refine hK _ _ _ ?_; clear hK K
   refine HT_ret ?_
   refine Then_r ?_
   replace h := W_some h
   refine PostP_r dCo fun K hK => ?_; conv => whnf
   refine hK _ ?_; clear hK K
   cases h
   exact Wk.refl _
 refine hK2 ?_; clear hK1 hK2 K1 K2
 refine HT_skip ?_
 refine Then_n ?_
 refine HT_seq ?_
 refine HT_fr dCo rfl fun K hK => ?_; conv => whnf
 replace h := W_jn h
 refine nlA rfl ?_; conv => whnf
 refine bKo rfl ?_; conv => whnf
 refine getK_of rfl ?_; conv => whnf
 refine cond_lk h (fun _ h => ?_) (fun _ h => ?_) <;> (conv => whnf)
 · refine hK _ _ _ ?_; clear hK K
   refine HT_if fun K1 K2 hK1 hK2 => ?_; conv => whnf
   refine hK1 ?_; clear hK1 hK2 K1 K2
   replace h := W_cnT h
   refine HT_fr dCo rfl fun K hK => ?_; conv => whnf
   refine hK _ _ _ ?_; clear hK K
   refine HT_ret ?_
   refine Then_r ?_
   replace h := W_some h
   refine PostP_r dCo fun K hK => ?_; conv => whnf
   refine hK _ ?_; clear hK K
   cases h
   exact Wk.refl _
 refine nlA rfl ?_; conv => whnf
 refine bKo rfl ?_; conv => whnf
 refine nlA rfl ?_; conv => whnf
 refine nlA rfl ?_; conv => whnf
 refine bKo rfl ?_; conv => whnf
 refine getK_of rfl ?_; conv => whnf
 replace h := W_bd h
 refine ref27_amounts_call h54 h (WkL.refl _) (fun _ h => ?_); conv => whnf
 refine hK _ _ _ ?_; clear hK K
 refine HT_if fun K1 K2 hK1 hK2 => ?_; conv => whnf
 refine cond_lk h (fun _ h => ?_) (fun _ h => ?_)
 · refine hK1 ?_; clear hK1 hK2 K1 K2
   refine HT_fr dCo rfl fun K hK => ?_; conv => whnf
   refine hK _ _ _ ?_; clear hK K
   refine HT_ret ?_
   refine Then_r ?_
   replace h := W_some h
   refine PostP_r dCo fun K hK => ?_; conv => whnf
   refine hK _ ?_; clear hK K
   cases h
   exact Wk.refl _
 refine hK2 ?_; clear hK1 hK2 K1 K2
 refine HT_skip ?_
 refine Then_n ?_
 refine HT_seq ?_
 refine HT_fr dCo rfl fun K hK => ?_; conv => whnf
 refine hK _ _ _ ?_; clear hK K
 refine HT_block ?_
 replace h := W_bd h
 refine HT_lpK (body := ref27_CheckMeet_b1 _ _ _) rfl h [1, 3, 5] [3, 5] [] (fun kl kh ids b s => ⟨ofL ([(7, eI s)] ++ kl), ofH ([] ++ kh), b + 64⟩) ?_; (conv => whnf); refine And.intro ?_ (fun s m h => HT_st ?_)
 · refine weak_k ?_; conv => whnf
   exact And.intro rfl (And.intro (aLc wkI (aLc (wkr (lsL fun _ => (lsI _ _))) (aLc (WkR.ptr (fun _ => rfl)) (aLc (WkR.ptr (fun _ => rfl)) aLn)))) (aLc ⟨some _, rfl, BkR_c rfl (cKc wkI (cKc (wkr (lsL fun _ => (lo_TEdge _))) cKn))⟩ (aLc ⟨some _, rfl, BkR_c rfl (cKc (wkr (lsB _)) (cKc (wkr (lsL fun _ => (lsI _ _))) (cKc wkI cKn)))⟩ aLn)))
 replace h := W_bref27_CheckMeet_b1 (W_bd h)
 refine HT_seq ?_
 refine HT_fr dCo rfl fun K hK => ?_; conv => whnf
 refine nlA rfl ?_; conv => whnf
 refine bKo rfl ?_; conv => whnf
 refine getK_of rfl ?_; conv => whnf
 refine hK _ _ _ ?_; clear hK K
 refine HT_if fun K1 K2 hK1 hK2 => ?_; conv => whnf
 refine cond_lk h (fun _ h => ?_) (fun _ h => ?_)
 · refine hK1 ?_; clear hK1 hK2 K1 K2
   refine HT_skip ?_
   refine Then_n ?_
   refine HT_seq ?_
   refine HT_block ?_
   refine HT_fd dCo mix_ok rfl (by kernel_rfl) fun K hK => ?_; conv => whnf
   refine nlA rfl ?_; conv => whnf
   refine bKo rfl ?_; conv => whnf
   refine nlA rfl ?_; conv => whnf
   refine nlA rfl ?_; conv => whnf
   refine bKo rfl ?_; conv => whnf
   refine getK_of rfl ?_; conv => whnf
   replace h := W_bd h
   refine ref27_gives_call h55 h (WkL.refl _) (fun _ h => ?_); conv => whnf
   refine ix_lk h fun _ h => ?_; conv => whnf
   refine getK_of rfl ?_; conv => whnf
   refine hK _ _ _ ?_; clear hK K
   refine HT_if fun K1 K2 hK1 hK2 => ?_; conv => whnf
   refine cond_lk h (fun _ h => ?_) (fun _ h => ?_)
   · refine hK1 ?_; clear hK1 hK2 K1 K2
     refine HT_fr dCo rfl fun K hK => ?_; conv => whnf
     refine hK _ _ _ ?_; clear hK K
     refine HT_ret ?_
     refine InBlock_r ?_
     refine Then_r ?_
     refine Then_r ?_
     refine InBlock_r ?_
     refine Then_r ?_
     replace h := W_xrt h
     replace h := W_inr h
     replace h := W_some h
     refine PostP_r dCo fun K hK => ?_; conv => whnf
     refine hK _ ?_; clear hK K
     cases h
     exact Wk.refl _
   refine hK2 ?_; clear hK1 hK2 K1 K2
   refine HT_skip ?_
   refine InBlock_n ?_
   refine Then_n ?_
   refine HT_f dCo rfl fun K hK => ?_; conv => whnf
   refine hK _ _ _ ?_; clear hK K
   refine Then_n ?_
   replace h := W_xnx h
   refine ⟨_, h, ?_⟩
   refine weak_k ?_; conv => whnf
   exact And.intro rfl (And.intro (aLc wkI (aLc (wkr (lsL fun _ => (lsI _ _))) (aLc (WkR.ptr (fun _ => rfl)) (aLc (WkR.ptr (fun _ => rfl)) aLn)))) (aLc ⟨some _, rfl, BkR_c rfl (cKc wkI (cKc (wkr (lsL fun _ => (lo_TEdge _))) cKn))⟩ (aLc ⟨some _, rfl, BkR_c rfl (cKc (wkr (lsB _)) (cKc (wkr (lsL fun _ => (lsI _ _))) (cKc wkI cKn)))⟩ aLn)))
 refine hK2 ?_; clear hK1 hK2 K1 K2
 refine HT_exit ?_
 refine Then_e ?_
 refine Then_e ?_
 refine InBlock_e ?_
 replace h := W_xbk h
 replace h := W_inl h
 refine Then_n ?_
 refine HT_fr dCo rfl fun K hK => ?_; conv => whnf
 refine hK _ _ _ ?_; clear hK K
 refine HT_ret ?_
 replace h := W_some h
 refine PostP_r dCo fun K hK => ?_; conv => whnf
 refine hK _ ?_; clear hK K
 cases h
 exact Wk.refl _
theorem ref27_CheckMeet_call {T : Tbl} (hT : T 42 = pureR ref27_CheckMeet_S) {args : List AV} {hp : Heap} {id : Nat} {k : AV → Prop} {a0 : TNet} {a1 : List Int} {a2 : TSupply} {Φ : Bool → Prop} (h : W (ref27_CheckMeet_F a0 a1 a2) Φ) (hw : WkL args [eTNet a0, (eL 1 eI default) a1, eTSupply a2]) (hk : ∀ y, Φ y → k (eB y)) : callpK T 42 args hp id k := by
 obtain ⟨y, e, hy⟩ := W_inv h
 exact callpK_pure hT ⟨a0, a1, a2, rfl, W_of e rfl⟩ (by exact (lsB _)) hw (hk y hy)
end Go.Proofs.Ytgkmodjcoedonaa
namespace Go.Proofs.Ytgkmodjcoedonaa
open Go Go.Eng
set_option maxHeartbeats 0
set_option maxRecDepth 100000
def ref27_BentList_F (a0 : List Int) (a1 : Int) (a2 : Int) (a3 : Int) : Option (List Int) := lt ([] : List Int) fun l1 => gd (a0.length ≤ 1048576) (lt a0 fun l2 =>
   cn ((l2.length : Int) == 0) (lt ([a2] : List Int) fun l3 => some l3) (bd (ref27_pick_F a3 (l2.length : Int)) fun y4 => bd (ref27_pick_F a1 4) fun y5 =>
   jn (fun p6 : (List Int) => some p6) fun k7 => cn (y5 == 0) (gd ((0 : Int) ≤ y4 ∧ y4 < (l2.length : Int)) (st l2 (y4) a2 fun l8 => k7 l8)) (jn (fun p9 : (List Int) =>
   k7 p9) fun k10 => cn (y5 ==
   1) (gd ((0 : Int) ≤ y4 ∧ y4 < (l2.length : Int)) (gd ((0 : Int) ≤ y4 ∧ y4 < (l2.length : Int)) (st l2 (y4) (wr ((l2.getD (y4).toNat default) + 1)) fun l11 =>
   k10 l11))) (jn (fun p12 : (List Int) => k10 p12) fun k13 => cn (y5 ==
   2) (gd ((0 : Int) ≤ y4 ∧ y4 < (l2.length : Int)) (gd ((0 : Int) ≤ y4 ∧ y4 < (l2.length : Int)) (st l2 (y4) (wr ((l2.getD (y4).toNat default) - 1)) fun l14 =>
   k13 l14))) (lt ([a2] : List Int) fun l15 => ap l2 l15 fun l16 => k13 l16)))))
def ref27_BentList_S : List AV → AV → Prop := fun args r => ∃ a0 a1 a2 a3, args = [(eL 1 eI default) a0, eI a1, eI a2, eI a3] ∧ W (ref27_BentList_F a0 a1 a2 a3) fun y => r = ((eL 1 eI default) y)
theorem ref27_BentList_ok {T : Tbl} (hT : TOk Try.prog T) (hpf : PfOk T PF) (h45 : T 45 = pureR ref27_pick_S) : FOk Try.prog 25 (pureR ref27_BentList_S) := by
 refine FOk_pure hT hpf Try.func25 rfl Try.ntmps25 Try.results25 (by decide) ?_
 rintro args r ⟨a0, a1, a2, a3, rfl, h⟩
 refine ⟨nle rfl, ?_, ?_⟩
 · exact (lsC (lsL fun _ => (lsI _ _)) (lsC (lsI _ _) (lsC (lsI _ _) (lsC (lsI _ _) loose_nil))))
 rw [ref27_BentList_F.eq_1] at h
 refine HT_fr dCo rfl fun K hK => ?_; conv => whnf
 refine hK _ _ _ ?_; clear hK K
 refine HT_fr dCo rfl fun K hK => ?_; conv => whnf
 refine lt_lk (enc := eI) (d := default) dCo h rfl rfl rfl ⟨nle rfl, nle rfl, rfl⟩ rfl trivial (fun h => ?_); conv => whnf
 refine gd_lk_u h fun hg h => ?_
 replace h := W_lt h
 refine apcf_lk (enc := eI) (d := default) dCo rfl rfl rfl ⟨rfl, nle rfl, nle rfl, nle rfl, rfl⟩ (fun _ => rfl) (fun _ => nofun) hg ?_; conv => whnf
 refine hK _ _ _ ?_; clear hK K
 refine HT_seq ?_
 refine HT_fr dCo rfl fun K hK => ?_; conv => whnf
 refine hK _ _ _ ?_; clear hK K
 refine HT_if fun K1 K2 hK1 hK2 => ?_; conv => whnf
 refine cond_lk h (fun _ h => ?_) (fun _ h => ?_)
 · refine hK1 ?_; clear hK1 hK2 K1 K2
   refine HT_fr dCo rfl fun K hK => ?_; conv => whnf
   refine lt_lk (enc := eI) (d := default) dCo h rfl rfl rfl ⟨nle rfl, nle rfl, rfl⟩ rfl ⟨⟨rfl, rfl, rfl⟩, trivial⟩ (fun h => ?_); conv => whnf
   refine hK _ _ _ ?_; clear hK K
   refine HT_ret ?_
   refine Then_r ?_
   replace h := W_some h
   refine PostP_r dCo fun K hK => ?_; conv => whnf
   refine hK _ ?_; clear hK K
   cases h
   exact Wk_free
 refine hK2 ?_; clear hK1 hK2 K1 K2
 refine HT_skip ?_
 refine Then_n ?_
 refine HT_fr dCo rfl fun K hK => ?_; conv => whnf
 replace h := W_bd h
 refine ref27_pick_call h45 h (WkL.refl _) (fun _ h => ?_); conv => whnf
 refine hK _ _ _ ?_; clear hK K
 refine HT_seq ?_
 refine HT_fr dCo rfl fun K hK => ?_; conv => whnf
 replace h := W_bd h
 refine ref27_pick_call h45 h (WkL.refl _) (fun _ h => ?_); conv => whnf
 refine hK _ _ _ ?_; clear hK K
 refine HT_block ?_
 refine HT_fr dCo rfl fun K hK => ?_; conv => whnf
 refine hK _ _ _ ?_; clear hK K
 replace h := W_jn h
 refine HT_if fun K1 K2 hK1 hK2 => ?_; conv => whnf
 refine cond_lk h (fun _ h => ?_) (fun _ h => ?_)
 · refine hK1 ?_; clear hK1 hK2 K1 K2
   refine HT_f dCo rfl fun K hK => ?_; conv => whnf
   refine gd_lkN h (rfl) fun hx92 h => ?_; conv => whnf
   refine bKo rfl ?_; conv => whnf
   refine st_lk (enc := eI) (d := default) (q := 0) h (fun _ => rfl) (rfl) hx92 rfl (nle rfl) rfl rfl (fun h => ?_); conv => whnf
   refine hK _ _ _ ?_; clear hK K
   refine InBlock_n ?_
   refine Then_n ?_
   refine HT_fr dCo rfl fun K hK => ?_; conv => whnf
   refine hK _ _ _ ?_; clear hK K
   refine HT_frzSK 8 (enc := eI) (e := 3) default (ElOk_one dCo rfl rfl rfl (fun _ => ⟨rfl, rfl⟩)) ?_; (conv => whnf); refine ⟨_, _, rfl, (lenset rfl).symm, rfl, ?_⟩
   refine HT_ret ?_
   replace h := W_some h
   refine PostP_r dCo fun K hK => ?_; conv => whnf
   refine hK _ ?_; clear hK K
   cases h
   exact Wk.refl _
 refine hK2 ?_; clear hK1 hK2 K1 K2
 refine HT_fr dCo rfl fun K hK => ?_; conv => whnf
 refine hK _ _ _ ?_; clear hK K
 replace h := W_jn h
 refine HT_if fun K1 K2 hK1 hK2 => ?_; conv => whnf
 refine cond_lk h (fun _ h => ?_) (fun _ h => ?_)
 · refine hK1 ?_; clear hK1 hK2 K1 K2
   refine HT_f dCo rfl fun K hK => ?_; conv => whnf
   refine gd_lkN h (rfl) fun hx99 h => ?_; conv => whnf
   refine nlA rfl ?_; conv => whnf
   refine bKo rfl ?_; conv => whnf
   refine get_flN (enc := eI) (d := default) (q := 0) (fun _ => rfl) (rfl) hx99 (nle rfl) rfl ?_; conv => whnf
   refine gd_lkN h (rfl) fun hx100 h => ?_; conv => whnf
   refine bKo rfl ?_; conv => whnf
   refine st_lk (enc := eI) (d := default) (q := 0) h (fun _ => rfl) (rfl) hx100 rfl (nle rfl) rfl rfl (fun h => ?_); conv => whnf
   refine hK _ _ _ ?_; clear hK K
   refine InBlock_n ?_
   refine Then_n ?_
   refine HT_fr dCo rfl fun K hK => ?_; conv => whnf
   refine hK _ _ _ ?_; clear hK K
   refine HT_frzSK 8 (enc := eI) (e := 3) default (ElOk_one dCo rfl rfl rfl (fun _ => ⟨rfl, rfl⟩)) ?_; (conv => whnf); refine ⟨_, _, rfl, (lenset rfl).symm, rfl, ?_⟩
   refine HT_ret ?_
   replace h := W_some h
   refine PostP_r dCo fun K hK => ?_; conv => whnf
   refine hK _ ?_; clear hK K
   cases h
   exact Wk.refl _
 refine hK2 ?_; clear hK1 hK2 K1 K2
 refine HT_fr dCo rfl fun K hK => ?_; conv => whnf
 refine hK _ _ _ ?_; clear hK K
 replace h := W_jn h
 refine HT_if fun K1 K2 hK1 hK2 => ?_; conv => whnf
 refine cond_lk h (fun _ h => ?_) (fun _ h => ?_)
 · refine hK1 ?_; clear hK1 hK2 K1 K2
   refine HT_f dCo rfl fun K hK => ?_; conv => whnf
   refine gd_lkN h (rfl) fun hx103 h => ?_; conv => whnf
   refine nlA rfl ?_; conv => whnf
   refine bKo rfl ?_; conv => whnf
   refine get_flN (enc := eI) (d := default) (q := 0) (fun _ => rfl) (rfl) hx103 (nle rfl) rfl ?_; conv => whnf
   refine gd_lkN h (rfl) fun hx104 h => ?_; conv => whnf
   refine bKo rfl ?_; conv => whnf
   refine st_lk (enc := eI) (d := default) (q := 0) h (fun _ => rfl) (rfl) hx104 rfl (nle rfl) rfl rfl (fun h => ?_); conv => whnf
   refine hK _ _ _ ?_; clear hK K
   refine InBlock_n ?_
   refine Then_n ?_
   refine HT_fr dCo rfl fun K hK => ?_; conv => whnf
   refine hK _ _ _ ?_; clear hK K
   refine HT_frzSK 8 (enc := eI) (e := 3) default (ElOk_one dCo rfl rfl rfl (fun _ => ⟨rfl, rfl⟩)) ?_; (conv => whnf); refine ⟨_, _, rfl, (lenset rfl).symm, rfl, ?_⟩
   refine HT_ret ?_
   replace h := W_some h
   refine PostP_r dCo fun K hK => ?_; conv => whnf
   refine hK _ ?_; clear hK K
   cases h
   exact Wk.refl _
 refine hK2 ?_; clear hK1 hK2 K1 K2
 refine HT_f dCo rfl fun K hK => ?_; conv => whnf
 refine lt_lk (enc := eI) (d := default) dCo h rfl rfl rfl ⟨nle rfl, nle rfl, rfl⟩ rfl ⟨⟨rfl, rfl, rfl⟩, trivial⟩ (fun h => ?_); conv => whnf
 refine apo_lk (enc := eI) (d := default) dCo h rfl rfl rfl ⟨rfl, nle rfl, nle rfl, nle rfl, rfl⟩ (fun _ => rfl) (fun _ => rfl) (fun _ => nofun) rfl (rfl) (fun h => ?_); conv => whnf
 refine hK _ _ _ ?_; clear hK K
 refine InBlock_n ?_
 refine Then_n ?_
 refine HT_fr dCo rfl fun K hK => ?_; conv => whnf
 refine hK _ _ _ ?_; clear hK K
 refine HT_frzSK 8 (enc := eI) (e := 3) default (ElOk_one dCo rfl rfl rfl (fun _ => ⟨rfl, rfl⟩)) ?_; (conv => whnf); refine ⟨_, _, rfl, rfl, rfl, ?_⟩
 refine HT_ret ?_
 replace h := W_some h
 refine PostP_r dCo fun K hK => ?_; conv => whnf
 refine hK _ ?_; clear hK K
 cases h
 exact Wk.refl _
theorem ref27_BentList_call {T : Tbl} (hT : T 25 = pureR ref27_BentList_S) {args : List AV} {hp : Heap} {id : Nat} {k : AV → Prop} {a0 : List Int} {a1 : Int} {a2 : Int} {a3 : Int} {Φ : List Int → Prop} (h : W (ref27_BentList_F a0 a1 a2 a3) Φ) (hw : WkL args [(eL 1 eI default) a0, eI a1, eI a2, eI a3]) (hk : ∀ y, Φ y → k ((eL 1 eI default) y)) : callpK T 25 args hp id k := by
 obtain ⟨y, e, hy⟩ := W_inv h
 exact callpK_pure hT ⟨a0, a1, a2, a3, rfl, W_of e rfl⟩ (by exact (lsL fun _ => (lsI _ _))) hw (hk y hy)
def ref27_Bent_b1 (a2 : Int) (y3 : Int) (s16 : TNet) : Option (Ct TNet TNet) := bd (ref27_pick_F a2 3) fun y17 =>
   cn (decide ((s16.Edges.length : Int) < (wr (39 + y17)))) (gd ((0 : Int) ≤ y3 ∧ y3 < (s16.Edges.length : Int)) (lt ([(s16.Edges.getD (y3).toNat default)] : List TEdge) fun l18 =>
   ap s16.Edges l18 fun l19 => some (.nx (⟨s16.N, l19⟩ : TNet)))) (some (.bk s16))
theorem W_bref27_Bent_b1 {a2 : Int} {y3 : Int} {s16 : TNet} {Φ : Ct TNet TNet → Prop} (h : W (ref27_Bent_b1 a2 y3 s16) Φ) : W (bd (ref27_pick_F a2 3) fun y17 =>
   cn (decide ((s16.Edges.length : Int) < (wr (39 + y17)))) (gd ((0 : Int) ≤ y3 ∧ y3 < (s16.Edges.length : Int)) (lt ([(s16.Edges.getD (y3).toNat default)] : List TEdge) fun l18 =>
   ap s16.Edges l18 fun l19 => some (.nx (⟨s16.N, l19⟩ : TNet)))) (some (.bk s16))) Φ := h
def ref27_Bent_F (a0 : TNet) (a1 : Int) (a2 : Int) (a3 : Int) : Option TNet := lt ([] : List TEdge) fun l1 => gd (a0.Edges.length ≤ 1048576) (lt a0.Edges fun l2 =>
   cn ((l2.length : Int) == 0) (some (⟨a2, l2⟩ : TNet)) (bd (ref27_pick_F a3 (l2.length : Int)) fun y3 => bd (ref27_pick_F a1 5) fun y4 => jn (fun p5 : TNet =>
   some (⟨p5.N, p5.Edges⟩ : TNet)) fun k6 => cn (y4 == 0) (k6 (⟨a2, l2⟩ : TNet)) (jn (fun p7 : TNet => k6 p7) fun k8 => cn (y4 ==
   1) (gd ((0 : Int) ≤ y3 ∧ y3 < (l2.length : Int)) (st l2 (y3) (⟨a2, (l2.getD (y3).toNat default).To, (l2.getD (y3).toNat default).Capacity⟩ : TEdge) fun l9 =>
   k8 (⟨a0.N, l9⟩ : TNet))) (jn (fun p10 : TNet => k8 p10) fun k11 => cn (y4 ==
   2) (gd ((0 : Int) ≤ y3 ∧ y3 < (l2.length : Int)) (st l2 (y3) (⟨(l2.getD (y3).toNat default).From, a2, (l2.getD (y3).toNat default).Capacity⟩ : TEdge) fun l12 =>
   k11 (⟨a0.N, l12⟩ : TNet))) (jn (fun p13 : TNet => k11 p13) fun k14 => cn (y4 ==
   3) (gd ((0 : Int) ≤ y3 ∧ y3 < (l2.length : Int)) (st l2 (y3) (⟨(l2.getD (y3).toNat default).From, (l2.getD (y3).toNat default).To, a2⟩ : TEdge) fun l15 =>
   k14 (⟨a0.N, l15⟩ : TNet))) (bd (lp (ref27_Bent_b1 a2 y3) FU (⟨a0.N, l2⟩ : TNet)) fun c20 => smK c20 (fun s21 => k14 s21) (fun r22 => some r22)))))))
def ref27_Bent_S : List AV → AV → Prop := fun args r => ∃ a0 a1 a2 a3, args = [eTNet a0, eI a1, eI a2, eI a3] ∧ W (ref27_Bent_F a0 a1 a2 a3) fun y => r = (eTNet y)
theorem ref27_Bent_ok {T : Tbl} (hT : TOk Try.prog T) (hpf : PfOk T PF) (h45 : T 45 = pureR ref27_pick_S) : FOk Try.prog 17 (pureR ref27_Bent_S) := by
 refine FOk_pure hT hpf Try.func17 rfl Try.ntmps17 Try.results17 (by decide) ?_
 rintro args r ⟨a0, a1, a2, a3, rfl, h⟩
 refine ⟨nle rfl, ?_, ?_⟩
 · exact (lsC (lo_TNet _) (lsC (lsI _ _) (lsC (lsI _ _) (lsC (lsI _ _) loose_nil))))
 rw [ref27_Bent_F.eq_1] at h
 refine HT_fr dCo rfl fun K hK => ?_; conv => whnf
 refine hK _ _ _ ?_; clear hK K
 refine HT_fd dCo mix_ok rfl (by kernel_rfl) fun K hK => ?_; conv => whnf
 refine nlA rfl ?_; conv => whnf
 refine bKo rfl ?_; conv => whnf
 refine getK_of rfl ?_; conv => whnf
 refine lt_lk (enc := eTEdge) (d := default) dCo h rfl rfl rfl ⟨nle rfl, nle rfl, rfl⟩ rfl trivial (fun h => ?_); conv => whnf
 refine nlA rfl ?_; conv => whnf
 refine bKo rfl ?_; conv => whnf
 refine getK_of rfl ?_; conv => whnf
 refine gd_lk_u h fun hg h => ?_
 replace h := W_lt h
 refine apcf_lk (enc := eTEdge) (d := default) dCo rfl rfl rfl ⟨rfl, nle rfl, nle rfl, nle rfl, rfl⟩ (fun _ => rfl) (fun _ => nofun) hg ?_; conv => whnf
 refine bKo rfl ?_; conv => whnf
 refine And.intro rfl (And.intro (nle rfl) (And.intro rfl ?_)); conv => whnf
 refine hK _ _ _ ?_; clear hK K
 refine HT_seq ?_
 refine HT_fr dCo rfl fun K hK => ?_; conv => whnf
 refine nlA rfl ?_; conv => whnf
 refine bKo rfl ?_; conv => whnf
 refine getK_of rfl ?_; conv => whnf
 refine hK _ _ _ ?_; clear hK K
 refine HT_if fun K1 K2 hK1 hK2 => ?_; conv => whnf
 refine cond_lk h (fun _ h => ?_) (fun _ h => ?_)
 · refine hK1 ?_; clear hK1 hK2 K1 K2
   refine HT_fr dCo rfl fun K hK => ?_; conv => whnf
   refine bKo rfl ?_; conv => whnf
   refine And.intro rfl (And.intro (nle rfl) (And.intro rfl ?_)); conv => whnf
   refine hK _ _ _ ?_; clear hK K
   refine HT_frzBK 9 1 (enc := eTEdge) (e := 72) default (ElOk_agg dCo rfl rfl (fun _ => rfl) (fun _ => rfl)) ?_; (conv => whnf); refine ⟨_, _, _, (Nat.ne_of_beq_eq_false rfl), rfl, rfl, rfl, rfl, ?_⟩; conv => whnf
   refine HT_fr dCo rfl fun K hK => ?_; conv => whnf
   refine nlA rfl ?_; conv => whnf
   refine bKo rfl ?_; conv => whnf
   refine nlA rfl ?_; conv => whnf
   refine bKo rfl ?_; conv => whnf
   refine And.intro rfl (And.intro (nle rfl) (And.intro rfl ?_)); conv => whnf
   refine hK _ _ _ ?_; clear hK K
   refine HT_ret ?_
   refine Then_r ?_
   replace h := W_some h
   refine PostP_r dCo fun K hK => ?_; conv => whnf
   refine nlA rfl ?_; conv => whnf
   refine bKo rfl ?_; conv => whnf
   refine nlA rfl ?_; conv => whnf
   refine hK _ ?_; clear hK K
   cases h
   exact Wk.refl _
 refine hK2 ?_; clear hK1 hK2 K1 K2
 refine HT_skip ?_
 refine Then_n ?_
 refine HT_fr dCo rfl fun K hK => ?_; conv => whnf
 refine nlA rfl ?_; conv => whnf
 refine bKo rfl ?_; conv => whnf
 refine getK_of rfl ?_; conv => whnf
 replace h := W_bd h
 refine ref27_pick_call h45 h (WkL.refl _) (fun _ h => ?_); conv => whnf
 refine hK _ _ _ ?_; clear hK K
 refine HT_seq ?_
 refine HT_fr dCo rfl fun K hK => ?_; conv => whnf
 replace h := W_bd h
 refine ref27_pick_call h45 h (WkL.refl _) (fun _ h => ?_); conv => whnf
 refine hK _ _ _ ?_; clear hK K
 refine HT_block ?_
 refine HT_fr dCo rfl fun K hK => ?_; conv => whnf
 refine hK _ _ _ ?_; clear hK K
 replace h := W_jn h
 refine HT_if fun K1 K2 hK1 hK2 => ?_; conv => whnf
 refine cond_lk h (fun _ h => ?_) (fun _ h => ?_)
 · refine hK1 ?_; clear hK1 hK2 K1 K2
   refine HT_f dCo rfl fun K hK => ?_; conv => whnf
   refine bKo rfl ?_; conv => whnf
   refine And.intro rfl (And.intro (nle rfl) (And.intro rfl ?_)); conv => whnf
   refine hK _ _ _ ?_; clear hK K
   refine InBlock_n ?_
   refine Then_n ?_
   refine HT_frzBK 9 1 (enc := eTEdge) (e := 72) default (ElOk_agg dCo rfl rfl (fun _ => rfl) (fun _ => rfl)) ?_; (conv => whnf); refine ⟨_, _, _, (Nat.ne_of_beq_eq_false rfl), rfl, rfl, rfl, rfl, ?_⟩; conv => whnf
   refine HT_fr dCo rfl fun K hK => ?_; conv => whnf
   refine nlA rfl ?_; conv => whnf
   refine bKo rfl ?_; conv => whnf
   refine nlA rfl ?_; conv => whnf
   refine bKo rfl ?_; conv => whnf
   refine And.intro rfl (And.intro (nle rfl) (And.intro rfl ?_)); conv => whnf
   refine hK _ _ _ ?_; clear hK K
   refine HT_ret ?_
   replace h := W_some h
   refine PostP_r dCo fun K hK => ?_; conv => whnf
   refine nlA rfl ?_; conv => whnf
   refine bKo rfl ?_; conv => whnf
   refine nlA rfl ?_; conv => whnf
   refine hK _ ?_; clear hK K
   cases h
   exact Wk.refl _
 refine hK2 ?_; clear hK1 hK2 K1 K2
 refine HT_fr dCo rfl fun K hK => ?_; conv => whnf
 refine hK _ _ _ ?_; clear hK K
 replace h := W_jn h
 refine HT_if fun K1 K2 hK1 hK2 => ?_; conv => whnf
 refine cond_lk h (fun _ h => ?_) (fun _ h => ?_)
 · refine hK1 ?_; clear hK1 hK2 K1 K2
   refine HT_f dCo rfl fun K hK => ?_; conv => whnf
   refine nlA rfl ?_; conv => whnf
   refine bKo rfl ?_; conv => whnf
   refine getK_of rfl ?_; conv => whnf
   refine gd_lkN h (rfl) fun hx452 h => ?_; conv => whnf
   refine bKo rfl ?_; conv => whnf
   refine st_lk (enc := eTEdge) (d := default) (q := 0) h (fun _ => rfl) (rfl) hx452 rfl (nle rfl) rfl rfl (fun h => ?_); conv => whnf
   refine hK _ _ _ ?_; clear hK K
   refine InBlock_n ?_
   refine Then_n ?_
   refine HT_frzBK 9 1 (enc := eTEdge) (e := 72) default (ElOk_agg dCo rfl rfl (fun _ => rfl) (fun _ => rfl)) ?_; (conv => whnf); refine ⟨_, _, _, (Nat.ne_of_beq_eq_false rfl), rfl, rfl, (lenset rfl).symm, rfl, ?_⟩; conv => whnf
   refine HT_fr dCo rfl fun K hK => ?_; conv => whnf
   refine nlA rfl ?_; conv => whnf
   refine bKo rfl ?_; conv => whnf
   refine nlA rfl ?_; conv => whnf
   refine bKo rfl ?_; conv => whnf
   refine And.intro rfl (And.intro (nle rfl) (And.intro rfl ?_)); conv => whnf
   refine hK _ _ _ ?_; clear hK K
   refine HT_ret ?_
   replace h := W_some h
   refine PostP_r dCo fun K hK => ?_; conv => whnf
   refine nlA rfl ?_; conv => whnf
   refine bKo rfl ?_; conv => whnf
   refine nlA rfl ?_; conv => whnf
   refine hK _ ?_; clear hK K
   cases h
   exact Wk.refl _
 refine hK2 ?_; clear hK1 hK2 K1 K2
 refine HT_fr dCo rfl fun K hK => ?_; conv => whnf
 refine hK _ _ _ ?_; clear hK K
 replace h := W_jn h
 refine HT_if fun K1 K2 hK1 hK2 => ?_; conv => whnf
 refine cond_lk h (fun _ h => ?_) (fun _ h => ?_)
 · refine hK1 ?_; clear hK1 hK2 K1 K2
   refine HT_f dCo rfl fun K hK => ?_; conv => whnf
   refine nlA rfl ?_; conv => whnf
   refine bKo rfl ?_; conv => whnf
   refine getK_of rfl ?_; conv => whnf
   refine gd_lkN h (rfl) fun hx464 h => ?_; conv => whnf
   refine bKo rfl ?_; conv => whnf
   refine st_lk (enc := eTEdge) (d := default) (q := 1) h (fun _ => rfl) (rfl) hx464 rfl (nle rfl) rfl rfl (fun h => ?_); conv => whnf
   refine hK _ _ _ ?_; clear hK K
   refine InBlock_n ?_
   refine Then_n ?_
   refine HT_frzBK 9 1 (enc := eTEdge) (e := 72) default (ElOk_agg dCo rfl rfl (fun _ => rfl) (fun _ => rfl)) ?_; (conv => whnf); refine ⟨_, _, _, (Nat.ne_of_beq_eq_false rfl), rfl, rfl, (lenset rfl).symm, rfl, ?_⟩; conv => whnf
   refine HT_fr dCo rfl fun K hK => ?_; conv => whnf
   refine nlA rfl ?_; conv => whnf
   refine bKo rfl ?_; conv => whnf
   refine nlA rfl ?_; conv => whnf
   refine bKo rfl ?_; conv => whnf
   refine And.intro rfl (And.intro (nle rfl) (And.intro rfl ?_)); conv => whnf
   refine hK _ _ _ ?_; clear hK K
   refine HT_ret ?_
   replace h := W_some h
   refine PostP_r dCo fun K hK => ?_; conv => whnf
   refine nlA rfl ?_; conv => whnf
   refine bKo rfl ?_; conv => whnf
   refine nlA rfl ?_; conv => whnf
   refine hK _ ?_; clear hK K
   cases h
   exact Wk.refl _
 refine hK2 ?_; clear hK1 hK2 K1 K2
 refine HT_fr dCo rfl fun K hK => ?_; conv => whnf
 refine hK _ _ _ ?_; clear hK K
 replace h := W_jn h
 refine HT_if fun K1 K2 hK1 hK2 => ?_; conv => whnf
 refine cond_lk h (fun _ h => ?_) (fun _ h => ?_)
 · refine hK1 ?_; clear hK1 hK2 K1 K2
   refine HT_f dCo rfl fun K hK => ?_; conv => whnf
   refine nlA rfl ?_; conv => whnf
   refine bKo rfl ?_; conv => whnf
   refine getK_of rfl ?_; conv => whnf
   refine gd_lkN h (rfl) fun hx470 h => ?_; conv => whnf
   refine bKo rfl ?_; conv => whnf
   refine st_lk (enc := eTEdge) (d := default) (q := 2) h (fun _ => rfl) (rfl) hx470 rfl (nle rfl) rfl rfl (fun h => ?_); conv => whnf
   refine hK _ _ _ ?_; clear hK K
   refine InBlock_n ?_
   refine Then_n ?_
   refine HT_frzBK 9 1 (enc := eTEdge) (e := 72) default (ElOk_agg dCo rfl rfl (fun _ => rfl) (fun _ => rfl)) ?_; (conv => whnf); refine ⟨_, _, _, (Nat.ne_of_beq_eq_false rfl), rfl, rfl, (lenset rfl).symm, rfl, ?_⟩; conv => whnf
   refine HT_fr dCo rfl fun K hK => ?_; conv => whnf
   refine nlA rfl ?_; conv => whnf
   refine bKo rfl ?_; conv => whnf
   refine nlA rfl ?_; conv => whnf
   refine bKo rfl ?_; conv => whnf
   refine And.intro rfl (And.intro (nle rfl) (And.intro rfl ?_)); conv => whnf
   refine hK _ _ _ ?_; clear hK K
   refine HT_ret ?_
   replace h := W_some h
   refine PostP_r dCo fun K hK => ?_; conv => whnf
   refine nlA rfl ?_; conv => whnf
   refine bKo rfl ?_; conv => whnf
   refine nlA rfl ?_; conv => whnf
   refine hK _ ?_; clear hK K
   cases h
   exact Wk.refl _
 refine hK2 ?_; clear hK1 hK2 K1 K2
 refine HT_block ?_
 replace h := W_bd h
 refine HT_lpR (body := ref27_Bent_b1 _ _) rfl h [2, 8, 9, 10] [8] [] [9] (fun kl kh kr ids b s => ⟨ofL ([] ++ kl), ofH (([(nthN ids 0, .cells [eI s.N, .so (b + 0) 0 s.Edges.length 3])] ++ kh) ++ ([(b + 0, .cells (flE (ceE eTEdge) s.Edges))] ++ kr)), b + 128⟩) ?_; (conv => whnf); refine And.intro ?_ (fun s m h => HT_st ?_)
 · refine weak_r ?_; conv => whnf
   exact And.intro rfl (And.intro (aLc wkI (aLc (WkR.ptr (fun _ => rfl)) (aLc (WkR.ptr (fun _ => rfl)) (aLc wkI aLn)))) (aLc ⟨some _, rfl, BkR_c rfl (cKc wkI (cKc (WkR.so (fun _ => rfl)) cKn))⟩ (aLc ⟨some _, rfl, BkR_c rfl (cKc wkI (cKc (wkr loose_nils) cKn))⟩ (aLc ⟨some _, rfl, BkR_r rfl (fun _ => (lsC (lsI _ _) (lsC (lsI _ _) (lsC (lsI _ _) loose_nil))))⟩ aLn))))
 replace h := W_bref27_Bent_b1 (W_bd h)
 refine HT_seq ?_
 refine HT_fd dCo mix_ok rfl (by kernel_rfl) fun K hK => ?_; conv => whnf
 refine nlA rfl ?_; conv => whnf
 refine bKo rfl ?_; conv => whnf
 refine getK_of rfl ?_; conv => whnf
 replace h := W_bd h
 refine ref27_pick_call h45 h (WkL.refl _) (fun _ h => ?_); conv => whnf
 refine hK _ _ _ ?_; clear hK K
 refine HT_if fun K1 K2 hK1 hK2 => ?_; conv => whnf
 refine cond_lk h (fun _ h => ?_) (fun _ h => ?_)
 · refine hK1 ?_; clear hK1 hK2 K1 K2
   refine HT_skip ?_
   refine Then_n ?_
   refine HT_block ?_
   refine HT_fD dCo mix_ok rfl (by kernel_rfl) fun K hK => ?_; conv => whnf
   refine nlA rfl ?_; conv => whnf
   refine bKo rfl ?_; conv => whnf
   refine getK_of rfl ?_; conv => whnf
   refine nlA rfl ?_; conv => whnf
   refine bKo rfl ?_; conv => whnf
   refine getK_of rfl ?_; conv => whnf
   refine gd_lkN h (rfl) fun hx476 h => ?_; conv => whnf
   refine nlA rfl ?_; conv => whnf
   refine bKo rfl ?_; conv => whnf
   refine part_flN (enc := eTEdge) (d := default) (fun _ => rfl) (rfl) hx476 ?_; conv => whnf
   refine lt_lk (enc := eTEdge) (d := default) dCo h rfl rfl rfl ⟨nle rfl, nle rfl, rfl⟩ rfl ⟨⟨rfl, nle rfl⟩, trivial⟩ (fun h => ?_); conv => whnf
   refine apo_lk (enc := eTEdge) (d := default) dCo h rfl rfl rfl ⟨rfl, nle rfl, nle rfl, nle rfl, rfl⟩ (fun _ => rfl) (fun _ => rfl) (fun _ => nofun) rfl (rfl) (fun h => ?_); conv => whnf
   refine bKo rfl ?_; conv => whnf
   refine And.intro rfl (And.intro (nle rfl) (And.intro rfl ?_)); conv => whnf
   refine hK _ _ _ ?_; clear hK K
   refine InBlock_n ?_
   refine Then_n ?_
   replace h := W_xnx h
   refine ⟨_, h, ?_⟩
   refine weak_r ?_; conv => whnf
   exact And.intro rfl (And.intro (aLc wkI (aLc (WkR.ptr (fun _ => rfl)) (aLc (WkR.ptr (fun _ => rfl)) (aLc wkI aLn)))) (aLc ⟨some _, rfl, BkR_c rfl (cKc wkI (cKc (WkR.so (fun _ => rfl)) cKn))⟩ (aLc ⟨some _, rfl, BkR_c rfl (cKc wkI (cKc (wkr loose_nils) cKn))⟩ (aLc ⟨some _, rfl, BkR_r rfl (fun _ => (lsC (lsI _ _) (lsC (lsI _ _) (lsC (lsI _ _) loose_nil))))⟩ aLn))))
 refine hK2 ?_; clear hK1 hK2 K1 K2
 refine HT_exit ?_
 refine Then_e ?_
 refine Then_e ?_
 refine InBlock_e ?_
 replace h := W_xbk h
 replace h := W_inl h
 refine InBlock_n ?_
 refine Then_n ?_
 refine HT_frzBK 9 1 (enc := eTEdge) (e := 72) default (ElOk_agg dCo rfl rfl (fun _ => rfl) (fun _ => rfl)) ?_; (conv => whnf); refine ⟨_, _, _, (Nat.ne_of_beq_eq_false rfl), rfl, rfl, rfl, rfl, ?_⟩; conv => whnf
 refine HT_fr dCo rfl fun K hK => ?_; conv => whnf
 refine nlA rfl ?_; conv => whnf
 refine bKo rfl ?_; conv => whnf
 refine nlA rfl ?_; conv => whnf
 refine bKo rfl ?_; conv => whnf
 refine And.intro rfl (And.intro (nle rfl) (And.intro rfl ?_)); conv => whnf
 refine hK _ _ _ ?_; clear hK K
 refine HT_ret ?_
 replace h := W_some h
 refine PostP_r dCo fun K hK => ?_; conv => whnf
 refine nlA rfl ?_; conv => whnf
 refine bKo rfl ?_; conv => whnf
 refine nlA rfl ?_; conv => whnf
 refine hK _ ?_; clear hK K
 cases h
 exact Wk.refl _
theorem ref27_Bent_call {T : Tbl} (hT : T 17 = pureR ref27_Bent_S) {args : List AV} {hp : Heap} {id : Nat} {k : AV → Prop} {a0 : TNet} {a1 : Int} {a2 : Int} {a3 : Int} {Φ : TNet → Prop} (h : W (ref27_Bent_F a0 a1 a2 a3) Φ) (hw : WkL args [eTNet a0, eI a1, eI a2, eI a3]) (hk : ∀ y, Φ y → k (eTNet y)) : callpK T 17 args hp id k := by
 obtain ⟨y, e, hy⟩ := W_inv h
 exact callpK_pure hT ⟨a0, a1, a2, a3, rfl, W_of e rfl⟩ (by exact (lo_TNet _)) hw (hk y hy)
end Go.Proofs.Ytgkmodjcoedonaa
