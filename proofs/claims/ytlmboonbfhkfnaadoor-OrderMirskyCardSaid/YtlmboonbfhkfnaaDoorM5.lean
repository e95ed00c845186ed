import Derived.Test.YtlmboonbfhkfnaaDoorM4
import Derived.Test.YtlmboonbfhkfnaaDoorM3
import Derived.Test.YtlmboonbfhkfnaaDoorM2
set_option linter.unusedVariables false
set_option linter.unusedSimpArgs false
set_option linter.unusedSectionVars false
namespace Go.Proofs.YtlmboonbfhkfnaaDoor
open Go Go.Eng
set_option maxHeartbeats 0
set_option maxRecDepth 100000

    def order_Cover_b1 (a0 : TOrder) (y1 : (Ar 8) × Bool) (s2 : Int × Int × (Ar 8)) : Option (Ct (Int × Int × (Ar 8)) ((List (List Int)) × Int)) := cn (decide (s2.1 < a0.N)) (bd (follow_F 10 s2.1 a0 y1.1 s2.2.2 0) fun y3 =>
    some (.nx ((wr (s2.1 + 1)), y3.2.2, y3.2.1))) (some (.bk (s2.1, s2.2.1, s2.2.2)))
theorem W_border_Cover_b1 {a0 : TOrder} {y1 : (Ar 8) × Bool} {s2 : Int × Int × (Ar 8)} {Φ : Ct (Int × Int × (Ar 8)) ((List (List Int)) × Int) → Prop} (h : W (order_Cover_b1 a0 y1 s2) Φ) : W (cn (decide (s2.1 < a0.N)) (bd (follow_F 10 s2.1 a0 y1.1 s2.2.2 0) fun y3 => some (.nx ((wr (s2.1 + 1)), y3.2.2, y3.2.1))) (some (.bk (s2.1, s2.2.1, s2.2.2)))) Φ := h
def order_Cover_st (i x : Int) (place : GM Int) (k : Int) (out : List (List Int)) : Option (Ct (Int × (GM Int) × (List (List Int))) ((List (List Int)) × Int)) :=
  gd (out.length ≤ 8) (gd (0 ≤ k ∧ k < (out.length : Int)) (ap (out.getD k.toNat default) [x] fun l => some (.nx (wr (i + 1), place.put x k, out.set k.toNat l))))
def order_Cover_b2 (m5 : Ar 8) (l7 : List Int) (s : Int × (GM Int) × (List (List Int))) : Option (Ct (Int × (GM Int) × (List (List Int))) ((List (List Int)) × Int)) := cn (decide (s.1 < (l7.length : Int))) (ix l7 default s.1 fun e => gd (0 ≤ e ∧ e < (8 : Int)) (cn (!(s.2.1.has (wr ((m5.at1 e) - 1)))) (gd (s.2.2.length ≤ 7) (order_Cover_st s.1 e s.2.1 (s.2.2.length : Int) (s.2.2 ++ [[]])))
    (order_Cover_st s.1 e s.2.1 (s.2.1.get (wr ((m5.at1 e) - 1)) 0) s.2.2))) (some (.bk s))
theorem W_border_Cover_b2 {m5 : Ar 8} {l7 : List Int} {s : Int × (GM Int) × (List (List Int))} {Φ : Ct (Int × (GM Int) × (List (List Int))) ((List (List Int)) × Int) → Prop} (h : W (order_Cover_b2 m5 l7 s) Φ) : W (cn (decide (s.1 < (l7.length : Int))) (ix l7 default s.1 fun e => gd (0 ≤ e ∧ e < (8 : Int)) (cn (!(s.2.1.has (wr ((m5.at1 e) - 1)))) (gd (s.2.2.length ≤ 7) (order_Cover_st s.1 e s.2.1 (s.2.2.length : Int) (s.2.2 ++ [[]])))
    (order_Cover_st s.1 e s.2.1 (s.2.1.get (wr ((m5.at1 e) - 1)) 0) s.2.2))) (some (.bk s))) Φ := h
def order_Cover_F (a0 : TOrder) : Option ((List (List Int)) × Int) := bd (order_read_F a0) fun y1 =>
    cn (!y1.2) (some ([], 70)) (bd (lp (order_Cover_b1 a0 y1) FU (0, 0, (Ar.zero 8))) fun c4 => smK c4 (fun s5 => bd (order_line_F a0.N y1.1) fun y7 => bd (lp (order_Cover_b2 s5.2.2 y7) FU (0, GM.mt Int, [])) fun c8 => smK c8 (fun s9 => gd (s9.2.2.length ≤ 8) (some (s9.2.2, 0))) (fun r10 => some r10)) (fun r6 =>
    some r6))
def order_Cover_S : List AV → AV → Prop := fun args r => ∃ a0, args = [eTOrder a0] ∧ W (order_Cover_F a0) fun y => r = (.tup [(eL 1 (eL 1 eI default) default) y.1, eI y.2])
theorem order_Cover_ok {T : Tbl} (hT : TOk Tryd.prog T) (hpf : PfOk T PF) (h54 : T 54 = pureR order_read_S) (h57 : T 57 = pureR order_line_S) (h65 : T 65 = ancR (follow_S 10)) : FOk Tryd.prog 31 (pureR order_Cover_S) := by
  refine FOk_pure hT hpf Tryd.func31 rfl Tryd.ntmps31 Tryd.results31 (by decide) ?_
  rintro args r ⟨a0, rfl, h⟩
  refine ⟨nle rfl, ?_, ?_⟩
  · exact (loose_cons (lo_TOrder _) loose_nil)
  rw [order_Cover_F.eq_1] at h
  refine HT_fr DC_ok rfl fun K hK => ?_; (conv => whnf)
  refine hK _ _ _ ?_; clear hK K
  refine HT_fr DC_ok rfl fun K hK => ?_; (conv => whnf)
  refine nlA rfl ?_; (conv => whnf)
  refine blkK_of rfl ?_; (conv => whnf)
  refine nlA rfl ?_; (conv => whnf)
  replace h := W_bd h
  refine order_read_call h54 h (WkL.refl _) (fun _ h => ?_); (conv => whnf)
  refine forceL_skip ?_; (conv => whnf)
  refine forceL_skip ?_; (conv => whnf)
  refine forceL_skip ?_; (conv => whnf)
  refine blkK_of rfl ?_; (conv => whnf)
  refine sw_ar rfl rfl rfl ?_; (conv => whnf)
  refine hK _ _ _ ?_; clear hK K
  refine HT_seq ?_
  refine HT_fr DC_ok rfl fun K hK => ?_; (conv => whnf)
  refine hK _ _ _ ?_; clear hK K
  refine HT_if fun K1 K2 hK1 hK2 => ?_; (conv => whnf)
  refine cond_lk h (fun _ h => ?_) (fun _ h => ?_)
  · refine hK1 ?_; clear hK1 hK2 K1 K2
    refine HT_fr DC_ok rfl fun K hK => ?_; (conv => whnf)
    refine hK _ _ _ ?_; clear hK K
    refine HT_ret ?_
    refine Then_r ?_
    replace h := W_some h
    refine PostP_r DC_ok fun K hK => ?_; (conv => whnf)
    refine hK _ ?_; clear hK K
    cases h
    exact Wk_tup (WkL_cons Wk_nil (WkL_cons (Wk.refl _) WkL_nil))
  refine hK2 ?_; clear hK1 hK2 K1 K2
  refine HT_skip ?_
  refine Then_n ?_
  refine HT_fr DC_ok rfl fun K hK => ?_; (conv => whnf)
  refine hK _ _ _ ?_; clear hK K
  refine HT_fr DC_ok rfl fun K hK => ?_; (conv => whnf)
  refine hK _ _ _ ?_; clear hK K
  refine HT_fr DC_ok rfl fun K hK => ?_; (conv => whnf)
  refine hK _ _ _ ?_; clear hK K
  refine HT_frzK 1 ?_; (conv => whnf); refine ⟨_, rfl, ?_⟩
  refine HT_frzK 4 ?_; (conv => whnf); refine ⟨_, rfl, ?_⟩
  refine HT_fr DC_ok rfl fun K hK => ?_; (conv => whnf)
  refine blkK_of rfl ?_; (conv => whnf)
  refine And.intro rfl (And.intro (nle rfl) (And.intro rfl ?_)); (conv => whnf)
  refine hK _ _ _ ?_; clear hK K
  refine HT_seq ?_
  refine HT_fr DC_ok rfl fun K hK => ?_; (conv => whnf)
  refine getK_of rfl ?_; (conv => whnf)
  refine hK _ _ _ ?_; clear hK K
  refine HT_block ?_
  replace h := W_bd h
  refine HT_lpR (body := order_Cover_b1 _ _) rfl h [1, 4, 6, 7, 8, 25] [8] [] [7, 6] (fun kl kh kr ids b s => ⟨ofL ([(26, eI s.1)] ++ kl), ofH (([(nthN ids 0, .cells [eI s.2.1])] ++ kh) ++ ([(nthN ids 1, .cells (cA s.2.2))] ++ kr)), b + 128⟩) ?_; (conv => whnf); refine And.intro ?_ (fun s m h => HT_st ?_)
  · refine weak_r ?_; (conv => whnf)
    exact And.intro rfl (And.intro (allL_c wkI (allL_c (wkr (loose_ep (loose_cons (loose_int _ _) (loose_cons (loose_lst fun _ => (lo_A46 _)) loose_nil)))) (allL_c (wkr (loose_ep (cA_loose _))) (allL_c (WkR.ptr (fun _ => rfl)) (allL_c (WkR.ptr (fun _ => rfl)) (allL_c (WkR.ptr (fun _ => rfl)) (allL_c wkI allL_n))))))) (allL_c ⟨some _, rfl, BkR_c rfl (CkR_cons wkI CkR_nil)⟩ (allL_c ⟨some _, rfl, BkR_c rfl (CkR_cons (WkR_fn VsR_nil (VsR_cons (wkr (loose_ep (loose_cons (loose_int _ _) (loose_cons (loose_lst fun _ => (lo_A46 _)) loose_nil)))) (VsR_cons (wkr (loose_ep (cA_loose _))) (VsR_cons (WkR.ptr (fun _ => rfl)) (VsR_cons (WkR.ptr (fun _ => rfl)) (VsR_cons (WkR.ptr (fun _ => rfl)) VsR_nil)))))) CkR_nil)⟩ (allL_c ⟨some _, rfl, BkR_arr (x := (Ar.zero 8)) rfl rfl⟩ allL_n))))
  replace h := W_border_Cover_b1 (W_bd h)
  refine HT_fr DC_ok rfl fun K hK => ?_; (conv => whnf)
  refine hK _ _ _ ?_; clear hK K
  refine HT_seq ?_
  refine HT_if fun K1 K2 hK1 hK2 => ?_; (conv => whnf)
  refine cond_lk h (fun _ h => ?_) (fun _ h => ?_)
  · refine hK1 ?_; clear hK1 hK2 K1 K2
    refine HT_skip ?_
    refine Then_n ?_
    refine HT_seq ?_
    refine HT_block ?_
    refine HT_fr DC_ok rfl fun K hK => ?_; (conv => whnf)
    refine hK _ _ _ ?_; clear hK K
    refine HT_fr DC_ok rfl fun K hK => ?_; (conv => whnf)
    refine blkK_of rfl ?_; (conv => whnf)
    refine And.intro rfl (And.intro (nle rfl) (And.intro rfl ?_)); (conv => whnf)
    refine hK _ _ _ ?_; clear hK K
    refine HT_f DC_ok rfl fun K hK => ?_; (conv => whnf)
    refine nlA rfl ?_; (conv => whnf)
    refine blkK_of rfl ?_; (conv => whnf)
    refine getK_of rfl ?_; (conv => whnf)
    refine callsK_ancR (bs := [.ab _, .ab _, .fn 65 [.v _, .v _, .p 1, .p 0, .p 2]]) (args0 := [_, _, _, .ptr 1 0, .ptr 0 0, .ptr 2 0]) h65 [_, _, _] h (.cons (WkA_wk (Wk.refl _) (loose_int _ _)) (.cons (WkA_loose (loose_ep (loose_cons (loose_int _ _) (loose_cons (loose_lst fun _ => (lo_A46 _)) loose_nil)))) (.cons (WkA_loose (loose_ep (cA_loose _))) (.cons (WkA_ptr rfl) (.cons (WkA_ptr rfl) (.cons (WkA_ptr rfl) .nil)))))) ⟨⟨_, rfl, bkW _⟩, ⟨_, rfl, bkW _⟩, rfl, trivial⟩ rfl (nle rfl) (fun y e => (⟨_, _, _, _, _, _, rfl, rfl, e, rfl, rfl⟩ : follow_S 10 _ _ _ _)) (fun _ h => ?_); (conv => whnf)
    refine hK _ _ _ ?_; clear hK K
    refine InBlock_n ?_
    refine Then_n ?_
    refine HT_f DC_ok rfl fun K hK => ?_; (conv => whnf)
    refine hK _ _ _ ?_; clear hK K
    refine Then_n ?_
    replace h := W_xnx h
    refine ⟨_, h, ?_⟩
    refine weak_r ?_; (conv => whnf)
    exact And.intro rfl (And.intro (allL_c wkI (allL_c (wkr (loose_ep (loose_cons (loose_int _ _) (loose_cons (loose_lst fun _ => (lo_A46 _)) loose_nil)))) (allL_c (wkr (loose_ep (cA_loose _))) (allL_c (WkR.ptr (fun _ => rfl)) (allL_c (WkR.ptr (fun _ => rfl)) (allL_c (WkR.ptr (fun _ => rfl)) (allL_c wkI allL_n))))))) (allL_c ⟨some _, rfl, BkR_c rfl (CkR_cons wkI CkR_nil)⟩ (allL_c ⟨some _, rfl, BkR_c rfl (CkR_cons (WkR_fn VsR_nil (VsR_cons (wkr (loose_ep (loose_cons (loose_int _ _) (loose_cons (loose_lst fun _ => (lo_A46 _)) loose_nil)))) (VsR_cons (wkr (loose_ep (cA_loose _))) (VsR_cons (WkR.ptr (fun _ => rfl)) (VsR_cons (WkR.ptr (fun _ => rfl)) (VsR_cons (WkR.ptr (fun _ => rfl)) VsR_nil)))))) CkR_nil)⟩ (allL_c ⟨some _, rfl, BkR_arr rfl rfl⟩ allL_n))))
  refine hK2 ?_; clear hK1 hK2 K1 K2
  refine HT_exit ?_
  refine Then_e ?_
  refine Then_e ?_
  refine InBlock_e ?_
  replace h := W_xbk h
  replace h := W_inl h
  refine Then_n ?_
  refine HT_fr DC_ok rfl fun K hK => ?_; (conv => whnf)
  refine hK _ _ _ ?_; clear hK K
  refine HT_fr DC_ok rfl fun K hK => ?_; (conv => whnf)
  refine hK _ _ _ ?_; clear hK K
  refine HT_seq ?_
  refine HT_fr DC_ok rfl fun K hK => ?_; (conv => whnf)
  refine getK_of rfl ?_; (conv => whnf)
  refine ld_ar rfl ?_; (conv => whnf)
  refine forceL_skip ?_; (conv => whnf)
  replace h := W_bd h
  refine order_line_call h57 h (WkL.refl _) (fun _ h => ?_); (conv => whnf)
  refine hK _ _ _ ?_; clear hK K
  refine HT_block ?_
  replace h := W_bd h
  refine HT_lpR (body := order_Cover_b2 _ _) rfl h [6, 11, 37, 38] [] [6] [11] (fun kl kh kr ids b s => ⟨ofL ([(39, eI s.1), (10, .so (b + 512) 0 s.2.2.length 1)] ++ kl), ofH (([(nthN ids 0, abM eI s.2.1), (b + 0, .cells []), (b + 64, .cells []), (b + 128, .cells []), (b + 192, .cells []), (b + 256, .cells []), (b + 320, .cells []), (b + 384, .cells []), (b + 448, .cells [])] ++ kh) ++ ([(b + 512, .cells (oC [b + 0, b + 64, b + 128, b + 192, b + 256, b + 320, b + 384, b + 448] s.2.2))] ++ kr)), b + 576⟩) ?_; (conv => whnf); refine And.intro ?_ (fun s m h => HT_st ?_)
  · refine weak_rX tokN ?_; (conv => whnf)
    exact And.intro rfl (And.intro (allL_c wkI (allL_c (WkR.nilso (fun _ => rfl)) (allL_c (WkR.ptr (fun _ => rfl)) (allL_c (WkR.mp (fun _ => rfl)) (allL_c (wkr (loose_lst fun _ => (loose_int _ _))) (allL_c wkI allL_n)))))) (allL_c ⟨some _, rfl, BkR_m (enc := eI) (m := (GM.mt Int)) rfl (fun _ => (loose_int _ _))⟩ (allL_c ⟨none, rfl, BkR_n⟩ (allL_c ⟨none, rfl, BkR_n⟩ (allL_c ⟨none, rfl, BkR_n⟩ (allL_c ⟨none, rfl, BkR_n⟩ (allL_c ⟨none, rfl, BkR_n⟩ (allL_c ⟨none, rfl, BkR_n⟩ (allL_c ⟨none, rfl, BkR_n⟩ (allL_c ⟨none, rfl, BkR_n⟩ (allL_c ⟨none, rfl, BkR_oN⟩ (allL_c ⟨some _, rfl, BkR_arr rfl rfl⟩ allL_n))))))))))))
  replace h := W_border_Cover_b2 (W_bd h)
  refine HT_fr DC_ok rfl fun K hK => ?_; (conv => whnf)
  refine hK _ _ _ ?_; clear hK K
  refine HT_seq ?_
  refine HT_if fun K1 K2 hK1 hK2 => ?_; (conv => whnf)
  refine cond_lk h (fun _ h => ?_) (fun _ h => ?_)
  · refine hK1 ?_; clear hK1 hK2 K1 K2
    refine HT_skip ?_
    refine Then_n ?_
    refine HT_seq ?_
    refine HT_block ?_
    refine HT_fr DC_ok rfl fun K hK => ?_; (conv => whnf)
    refine ix_lk h fun _ h => ?_; (conv => whnf)
    refine getK_of rfl ?_; (conv => whnf)
    refine hK _ _ _ ?_; clear hK K
    refine HT_fr DC_ok rfl fun K hK => ?_; (conv => whnf)
    refine gd_lk h fun hx h => ?_; (conv => whnf)
    refine nlA rfl ?_; (conv => whnf)
    refine blkK_of rfl ?_; (conv => whnf)
    refine get_ar1 rfl hx ?_; (conv => whnf)
    refine mget2_lk (enc := eI) DC_ok rfl (0 : Int) rfl rfl (nle rfl) ?_; (conv => whnf)
    refine hK _ _ _ ?_; clear hK K
    refine HT_seq ?_
    refine HT_fr DC_ok rfl fun K hK => ?_; (conv => whnf)
    refine hK _ _ _ ?_; clear hK K
    refine HT_if fun K1 K2 hK1 hK2 => ?_; (conv => whnf)
    refine cond_lk h (fun _ h => ?_) (fun _ h => ?_)
    · refine hK1 ?_; clear hK1 hK2 K1 K2
      obtain ⟨h7, h⟩ := W_gd h
      refine HT_fr DC_ok rfl fun K hK => ?_; (conv => whnf)
      refine hK _ _ _ ?_; clear hK K
      refine HT_f DC_ok rfl fun K hK => ?_; (conv => whnf)
      refine lt_lk (enc := fun (_ : Unit) => AV.nils) (d := ()) (l := [()]) (f := fun _ => some ()) (Φ := fun _ => True) DC_ok (W_triv _) rfl rfl rfl ⟨nle rfl, nle rfl, rfl⟩ rfl ⟨⟨rfl, rfl, rfl⟩, trivial⟩ (fun _ => ?_); (conv => whnf)
      refine app_oC DC_ok rfl rfl rfl ⟨rfl, nle rfl, nle rfl, rfl⟩ rfl rfl (by omega) rfl ?_; (conv => whnf)
      refine hK _ _ _ ?_; clear hK K
      refine Then_n ?_
      replace h := order_Cover_st.eq_1 _ _ _ _ _ ▸ h
      obtain ⟨h8, h⟩ := W_gd h
      obtain ⟨hk, h⟩ := W_gd h
      have hj : (_ : Int).toNat < _ := (Int.toNat_lt hk.1).2 hk.2
      generalize hkk : (s.2.2.length : Int) = kk at h hk hj ⊢
      have hc : kk = 0 ∨ kk = 1 ∨ kk = 2 ∨ kk = 3 ∨ kk = 4 ∨ kk = 5 ∨ kk = 6 ∨ kk = 7 := by omega
      rcases hc with rfl | rfl | rfl | rfl | rfl | rfl | rfl | rfl
      · refine HT_nilT 10 (out := s.2.2) rfl rfl (by rw [show s.2.2.length = 0 by omega]; exact ⟨_, _, rfl, rfl⟩) ?_
        refine HT_fr DC_ok rfl fun K hK => ?_; (conv => whnf)
        refine And.intro ⟨by omega, by simp only [List.length_append, List.length_cons, List.length_nil] at *; omega⟩ ?_; (conv => whnf)
        refine nlA rfl ?_; (conv => whnf)
        refine blkK_of rfl ?_; (conv => whnf)
        refine getK_of (oC_get (j := 0) rfl hj) ?_; (conv => whnf)
        refine lt_lk (enc := eI) (d := default) (l := [_]) (f := fun _ => some ()) (Φ := fun _ => True) DC_ok (W_triv _) rfl rfl rfl ⟨nle rfl, nle rfl, rfl⟩ rfl ⟨⟨rfl, rfl, rfl⟩, trivial⟩ (fun _ => ?_); (conv => whnf)
        refine ap_lk (enc := eI) (d := default) DC_ok h (.inl rfl) rfl rfl rfl ⟨rfl, nle rfl, nle rfl, nle rfl, rfl⟩ (fun _ => rfl) (.inr (.inr ⟨_, _, rfl, rfl, rfl⟩)) (fun h => ?_); (conv => whnf)
        refine And.intro ⟨by omega, by simp only [List.length_append, List.length_cons, List.length_nil] at *; omega⟩ ?_; (conv => whnf)
        refine blkK_of rfl ?_; (conv => whnf)
        refine st_oC (j := 0) (nle rfl) hj rfl rfl rfl rfl ?_; (conv => whnf)
        refine hK _ _ _ ?_; clear hK K
        refine HT_f DC_ok rfl fun K hK => ?_; (conv => whnf)
        refine mput_lk (enc := eI) DC_ok rfl rfl ?_; (conv => whnf)
        refine hK _ _ _ ?_; clear hK K
        refine InBlock_n ?_
        refine Then_n ?_
        refine HT_f DC_ok rfl fun K hK => ?_; (conv => whnf)
        refine hK _ _ _ ?_; clear hK K
        refine Then_n ?_
        replace h := W_xnx h
        refine ⟨_, h, ?_⟩
        refine weak_rX (tokX 32 0 0) ?_; (conv => whnf)
        exact And.intro rfl (And.intro (allL_c wkI (allL_c (WkR.soN (fun _ => rfl) (by simp)) (allL_c (WkR.ptr (fun _ => rfl)) (allL_c (WkR.mp (fun _ => rfl)) (allL_c (wkr (loose_lst fun _ => (loose_int _ _))) (allL_c wkI allL_n)))))) (allL_c ⟨some _, rfl, BkR_m (enc := eI) rfl (fun _ => (loose_int _ _))⟩ (allL_c ⟨some _, rfl, BkR_c rfl CkR_nil⟩ (allL_c ⟨some _, rfl, BkR_c rfl CkR_nil⟩ (allL_c ⟨some _, rfl, BkR_c rfl CkR_nil⟩ (allL_c ⟨some _, rfl, BkR_c rfl CkR_nil⟩ (allL_c ⟨some _, rfl, BkR_c rfl CkR_nil⟩ (allL_c ⟨some _, rfl, BkR_c rfl CkR_nil⟩ (allL_c ⟨some _, rfl, BkR_c rfl CkR_nil⟩ (allL_c ⟨some _, rfl, BkR_c rfl CkR_nil⟩ (allL_c ⟨some _, rfl, BkR_oC rfl ⟨fun _ => rfl, fun _ => rfl, fun _ => rfl, fun _ => rfl, fun _ => rfl, fun _ => rfl, fun _ => rfl, fun _ => rfl, trivial⟩⟩ (allL_c ⟨some _, rfl, BkR_arr rfl rfl⟩ allL_n))))))))))))
      · refine HT_nilT 10 (out := s.2.2) rfl rfl (by rw [show s.2.2.length = 1 by omega]; exact ⟨_, _, rfl, rfl⟩) ?_
        refine HT_fr DC_ok rfl fun K hK => ?_; (conv => whnf)
        refine And.intro ⟨by omega, by simp only [List.length_append, List.length_cons, List.length_nil] at *; omega⟩ ?_; (conv => whnf)
        refine nlA rfl ?_; (conv => whnf)
        refine blkK_of rfl ?_; (conv => whnf)
        refine getK_of (oC_get (j := 1) rfl hj) ?_; (conv => whnf)
        refine lt_lk (enc := eI) (d := default) (l := [_]) (f := fun _ => some ()) (Φ := fun _ => True) DC_ok (W_triv _) rfl rfl rfl ⟨nle rfl, nle rfl, rfl⟩ rfl ⟨⟨rfl, rfl, rfl⟩, trivial⟩ (fun _ => ?_); (conv => whnf)
        refine ap_lk (enc := eI) (d := default) DC_ok h (.inl rfl) rfl rfl rfl ⟨rfl, nle rfl, nle rfl, nle rfl, rfl⟩ (fun _ => rfl) (.inr (.inr ⟨_, _, rfl, rfl, rfl⟩)) (fun h => ?_); (conv => whnf)
        refine And.intro ⟨by omega, by simp only [List.length_append, List.length_cons, List.length_nil] at *; omega⟩ ?_; (conv => whnf)
        refine blkK_of rfl ?_; (conv => whnf)
        refine st_oC (j := 1) (nle rfl) hj rfl rfl rfl rfl ?_; (conv => whnf)
        refine hK _ _ _ ?_; clear hK K
        refine HT_f DC_ok rfl fun K hK => ?_; (conv => whnf)
        refine mput_lk (enc := eI) DC_ok rfl rfl ?_; (conv => whnf)
        refine hK _ _ _ ?_; clear hK K
        refine InBlock_n ?_
        refine Then_n ?_
        refine HT_f DC_ok rfl fun K hK => ?_; (conv => whnf)
        refine hK _ _ _ ?_; clear hK K
        refine Then_n ?_
        replace h := W_xnx h
        refine ⟨_, h, ?_⟩
        refine weak_rX (tokX 32 0 1) ?_; (conv => whnf)
        exact And.intro rfl (And.intro (allL_c wkI (allL_c (WkR.soN (fun _ => rfl) (by simp)) (allL_c (WkR.ptr (fun _ => rfl)) (allL_c (WkR.mp (fun _ => rfl)) (allL_c (wkr (loose_lst fun _ => (loose_int _ _))) (allL_c wkI allL_n)))))) (allL_c ⟨some _, rfl, BkR_m (enc := eI) rfl (fun _ => (loose_int _ _))⟩ (allL_c ⟨some _, rfl, BkR_c rfl CkR_nil⟩ (allL_c ⟨some _, rfl, BkR_c rfl CkR_nil⟩ (allL_c ⟨some _, rfl, BkR_c rfl CkR_nil⟩ (allL_c ⟨some _, rfl, BkR_c rfl CkR_nil⟩ (allL_c ⟨some _, rfl, BkR_c rfl CkR_nil⟩ (allL_c ⟨some _, rfl, BkR_c rfl CkR_nil⟩ (allL_c ⟨some _, rfl, BkR_c rfl CkR_nil⟩ (allL_c ⟨some _, rfl, BkR_c rfl CkR_nil⟩ (allL_c ⟨some _, rfl, BkR_oC rfl ⟨fun _ => rfl, fun _ => rfl, fun _ => rfl, fun _ => rfl, fun _ => rfl, fun _ => rfl, fun _ => rfl, fun _ => rfl, trivial⟩⟩ (allL_c ⟨some _, rfl, BkR_arr rfl rfl⟩ allL_n))))))))))))
      · refine HT_nilT 10 (out := s.2.2) rfl rfl (by rw [show s.2.2.length = 2 by omega]; exact ⟨_, _, rfl, rfl⟩) ?_
        refine HT_fr DC_ok rfl fun K hK => ?_; (conv => whnf)
        refine And.intro ⟨by omega, by simp only [List.length_append, List.length_cons, List.length_nil] at *; omega⟩ ?_; (conv => whnf)
        refine nlA rfl ?_; (conv => whnf)
        refine blkK_of rfl ?_; (conv => whnf)
        refine getK_of (oC_get (j := 2) rfl hj) ?_; (conv => whnf)
        refine lt_lk (enc := eI) (d := default) (l := [_]) (f := fun _ => some ()) (Φ := fun _ => True) DC_ok (W_triv _) rfl rfl rfl ⟨nle rfl, nle rfl, rfl⟩ rfl ⟨⟨rfl, rfl, rfl⟩, trivial⟩ (fun _ => ?_); (conv => whnf)
        refine ap_lk (enc := eI) (d := default) DC_ok h (.inl rfl) rfl rfl rfl ⟨rfl, nle rfl, nle rfl, nle rfl, rfl⟩ (fun _ => rfl) (.inr (.inr ⟨_, _, rfl, rfl, rfl⟩)) (fun h => ?_); (conv => whnf)
        refine And.intro ⟨by omega, by simp only [List.length_append, List.length_cons, List.length_nil] at *; omega⟩ ?_; (conv => whnf)
        refine blkK_of rfl ?_; (conv => whnf)
        refine st_oC (j := 2) (nle rfl) hj rfl rfl rfl rfl ?_; (conv => whnf)
        refine hK _ _ _ ?_; clear hK K
        refine HT_f DC_ok rfl fun K hK => ?_; (conv => whnf)
        refine mput_lk (enc := eI) DC_ok rfl rfl ?_; (conv => whnf)
        refine hK _ _ _ ?_; clear hK K
        refine InBlock_n ?_
        refine Then_n ?_
        refine HT_f DC_ok rfl fun K hK => ?_; (conv => whnf)
        refine hK _ _ _ ?_; clear hK K
        refine Then_n ?_
        replace h := W_xnx h
        refine ⟨_, h, ?_⟩
        refine weak_rX (tokX 32 0 2) ?_; (conv => whnf)
        exact And.intro rfl (And.intro (allL_c wkI (allL_c (WkR.soN (fun _ => rfl) (by simp)) (allL_c (WkR.ptr (fun _ => rfl)) (allL_c (WkR.mp (fun _ => rfl)) (allL_c (wkr (loose_lst fun _ => (loose_int _ _))) (allL_c wkI allL_n)))))) (allL_c ⟨some _, rfl, BkR_m (enc := eI) rfl (fun _ => (loose_int _ _))⟩ (allL_c ⟨some _, rfl, BkR_c rfl CkR_nil⟩ (allL_c ⟨some _, rfl, BkR_c rfl CkR_nil⟩ (allL_c ⟨some _, rfl, BkR_c rfl CkR_nil⟩ (allL_c ⟨some _, rfl, BkR_c rfl CkR_nil⟩ (allL_c ⟨some _, rfl, BkR_c rfl CkR_nil⟩ (allL_c ⟨some _, rfl, BkR_c rfl CkR_nil⟩ (allL_c ⟨some _, rfl, BkR_c rfl CkR_nil⟩ (allL_c ⟨some _, rfl, BkR_c rfl CkR_nil⟩ (allL_c ⟨some _, rfl, BkR_oC rfl ⟨fun _ => rfl, fun _ => rfl, fun _ => rfl, fun _ => rfl, fun _ => rfl, fun _ => rfl, fun _ => rfl, fun _ => rfl, trivial⟩⟩ (allL_c ⟨some _, rfl, BkR_arr rfl rfl⟩ allL_n))))))))))))
      · refine HT_nilT 10 (out := s.2.2) rfl rfl (by rw [show s.2.2.length = 3 by omega]; exact ⟨_, _, rfl, rfl⟩) ?_
        refine HT_fr DC_ok rfl fun K hK => ?_; (conv => whnf)
        refine And.intro ⟨by omega, by simp only [List.length_append, List.length_cons, List.length_nil] at *; omega⟩ ?_; (conv => whnf)
        refine nlA rfl ?_; (conv => whnf)
        refine blkK_of rfl ?_; (conv => whnf)
        refine getK_of (oC_get (j := 3) rfl hj) ?_; (conv => whnf)
        refine lt_lk (enc := eI) (d := default) (l := [_]) (f := fun _ => some ()) (Φ := fun _ => True) DC_ok (W_triv _) rfl rfl rfl ⟨nle rfl, nle rfl, rfl⟩ rfl ⟨⟨rfl, rfl, rfl⟩, trivial⟩ (fun _ => ?_); (conv => whnf)
        refine ap_lk (enc := eI) (d := default) DC_ok h (.inl rfl) rfl rfl rfl ⟨rfl, nle rfl, nle rfl, nle rfl, rfl⟩ (fun _ => rfl) (.inr (.inr ⟨_, _, rfl, rfl, rfl⟩)) (fun h => ?_); (conv => whnf)
        refine And.intro ⟨by omega, by simp only [List.length_append, List.length_cons, List.length_nil] at *; omega⟩ ?_; (conv => whnf)
        refine blkK_of rfl ?_; (conv => whnf)
        refine st_oC (j := 3) (nle rfl) hj rfl rfl rfl rfl ?_; (conv => whnf)
        refine hK _ _ _ ?_; clear hK K
        refine HT_f DC_ok rfl fun K hK => ?_; (conv => whnf)
        refine mput_lk (enc := eI) DC_ok rfl rfl ?_; (conv => whnf)
        refine hK _ _ _ ?_; clear hK K
        refine InBlock_n ?_
        refine Then_n ?_
        refine HT_f DC_ok rfl fun K hK => ?_; (conv => whnf)
        refine hK _ _ _ ?_; clear hK K
        refine Then_n ?_
        replace h := W_xnx h
        refine ⟨_, h, ?_⟩
        refine weak_rX (tokX 32 0 3) ?_; (conv => whnf)
        exact And.intro rfl (And.intro (allL_c wkI (allL_c (WkR.soN (fun _ => rfl) (by simp)) (allL_c (WkR.ptr (fun _ => rfl)) (allL_c (WkR.mp (fun _ => rfl)) (allL_c (wkr (loose_lst fun _ => (loose_int _ _))) (allL_c wkI allL_n)))))) (allL_c ⟨some _, rfl, BkR_m (enc := eI) rfl (fun _ => (loose_int _ _))⟩ (allL_c ⟨some _, rfl, BkR_c rfl CkR_nil⟩ (allL_c ⟨some _, rfl, BkR_c rfl CkR_nil⟩ (allL_c ⟨some _, rfl, BkR_c rfl CkR_nil⟩ (allL_c ⟨some _, rfl, BkR_c rfl CkR_nil⟩ (allL_c ⟨some _, rfl, BkR_c rfl CkR_nil⟩ (allL_c ⟨some _, rfl, BkR_c rfl CkR_nil⟩ (allL_c ⟨some _, rfl, BkR_c rfl CkR_nil⟩ (allL_c ⟨some _, rfl, BkR_c rfl CkR_nil⟩ (allL_c ⟨some _, rfl, BkR_oC rfl ⟨fun _ => rfl, fun _ => rfl, fun _ => rfl, fun _ => rfl, fun _ => rfl, fun _ => rfl, fun _ => rfl, fun _ => rfl, trivial⟩⟩ (allL_c ⟨some _, rfl, BkR_arr rfl rfl⟩ allL_n))))))))))))
      · refine HT_nilT 10 (out := s.2.2) rfl rfl (by rw [show s.2.2.length = 4 by omega]; exact ⟨_, _, rfl, rfl⟩) ?_
        refine HT_fr DC_ok rfl fun K hK => ?_; (conv => whnf)
        refine And.intro ⟨by omega, by simp only [List.length_append, List.length_cons, List.length_nil] at *; omega⟩ ?_; (conv => whnf)
        refine nlA rfl ?_; (conv => whnf)
        refine blkK_of rfl ?_; (conv => whnf)
        refine getK_of (oC_get (j := 4) rfl hj) ?_; (conv => whnf)
        refine lt_lk (enc := eI) (d := default) (l := [_]) (f := fun _ => some ()) (Φ := fun _ => True) DC_ok (W_triv _) rfl rfl rfl ⟨nle rfl, nle rfl, rfl⟩ rfl ⟨⟨rfl, rfl, rfl⟩, trivial⟩ (fun _ => ?_); (conv => whnf)
        refine ap_lk (enc := eI) (d := default) DC_ok h (.inl rfl) rfl rfl rfl ⟨rfl, nle rfl, nle rfl, nle rfl, rfl⟩ (fun _ => rfl) (.inr (.inr ⟨_, _, rfl, rfl, rfl⟩)) (fun h => ?_); (conv => whnf)
        refine And.intro ⟨by omega, by simp only [List.length_append, List.length_cons, List.length_nil] at *; omega⟩ ?_; (conv => whnf)
        refine blkK_of rfl ?_; (conv => whnf)
        refine st_oC (j := 4) (nle rfl) hj rfl rfl rfl rfl ?_; (conv => whnf)
        refine hK _ _ _ ?_; clear hK K
        refine HT_f DC_ok rfl fun K hK => ?_; (conv => whnf)
        refine mput_lk (enc := eI) DC_ok rfl rfl ?_; (conv => whnf)
        refine hK _ _ _ ?_; clear hK K
        refine InBlock_n ?_
        refine Then_n ?_
        refine HT_f DC_ok rfl fun K hK => ?_; (conv => whnf)
        refine hK _ _ _ ?_; clear hK K
        refine Then_n ?_
        replace h := W_xnx h
        refine ⟨_, h, ?_⟩
        refine weak_rX (tokX 32 0 4) ?_; (conv => whnf)
        exact And.intro rfl (And.intro (allL_c wkI (allL_c (WkR.soN (fun _ => rfl) (by simp)) (allL_c (WkR.ptr (fun _ => rfl)) (allL_c (WkR.mp (fun _ => rfl)) (allL_c (wkr (loose_lst fun _ => (loose_int _ _))) (allL_c wkI allL_n)))))) (allL_c ⟨some _, rfl, BkR_m (enc := eI) rfl (fun _ => (loose_int _ _))⟩ (allL_c ⟨some _, rfl, BkR_c rfl CkR_nil⟩ (allL_c ⟨some _, rfl, BkR_c rfl CkR_nil⟩ (allL_c ⟨some _, rfl, BkR_c rfl CkR_nil⟩ (allL_c ⟨some _, rfl, BkR_c rfl CkR_nil⟩ (allL_c ⟨some _, rfl, BkR_c rfl CkR_nil⟩ (allL_c ⟨some _, rfl, BkR_c rfl CkR_nil⟩ (allL_c ⟨some _, rfl, BkR_c rfl CkR_nil⟩ (allL_c ⟨some _, rfl, BkR_c rfl CkR_nil⟩ (allL_c ⟨some _, rfl, BkR_oC rfl ⟨fun _ => rfl, fun _ => rfl, fun _ => rfl, fun _ => rfl, fun _ => rfl, fun _ => rfl, fun _ => rfl, fun _ => rfl, trivial⟩⟩ (allL_c ⟨some _, rfl, BkR_arr rfl rfl⟩ allL_n))))))))))))
      · refine HT_nilT 10 (out := s.2.2) rfl rfl (by rw [show s.2.2.length = 5 by omega]; exact ⟨_, _, rfl, rfl⟩) ?_
        refine HT_fr DC_ok rfl fun K hK => ?_; (conv => whnf)
        refine And.intro ⟨by omega, by simp only [List.length_append, List.length_cons, List.length_nil] at *; omega⟩ ?_; (conv => whnf)
        refine nlA rfl ?_; (conv => whnf)
        refine blkK_of rfl ?_; (conv => whnf)
        refine getK_of (oC_get (j := 5) rfl hj) ?_; (conv => whnf)
        refine lt_lk (enc := eI) (d := default) (l := [_]) (f := fun _ => some ()) (Φ := fun _ => True) DC_ok (W_triv _) rfl rfl rfl ⟨nle rfl, nle rfl, rfl⟩ rfl ⟨⟨rfl, rfl, rfl⟩, trivial⟩ (fun _ => ?_); (conv => whnf)
        refine ap_lk (enc := eI) (d := default) DC_ok h (.inl rfl) rfl rfl rfl ⟨rfl, nle rfl, nle rfl, nle rfl, rfl⟩ (fun _ => rfl) (.inr (.inr ⟨_, _, rfl, rfl, rfl⟩)) (fun h => ?_); (conv => whnf)
        refine And.intro ⟨by omega, by simp only [List.length_append, List.length_cons, List.length_nil] at *; omega⟩ ?_; (conv => whnf)
        refine blkK_of rfl ?_; (conv => whnf)
        refine st_oC (j := 5) (nle rfl) hj rfl rfl rfl rfl ?_; (conv => whnf)
        refine hK _ _ _ ?_; clear hK K
        refine HT_f DC_ok rfl fun K hK => ?_; (conv => whnf)
        refine mput_lk (enc := eI) DC_ok rfl rfl ?_; (conv => whnf)
        refine hK _ _ _ ?_; clear hK K
        refine InBlock_n ?_
        refine Then_n ?_
        refine HT_f DC_ok rfl fun K hK => ?_; (conv => whnf)
        refine hK _ _ _ ?_; clear hK K
        refine Then_n ?_
        replace h := W_xnx h
        refine ⟨_, h, ?_⟩
        refine weak_rX (tokX 32 0 5) ?_; (conv => whnf)
        exact And.intro rfl (And.intro (allL_c wkI (allL_c (WkR.soN (fun _ => rfl) (by simp)) (allL_c (WkR.ptr (fun _ => rfl)) (allL_c (WkR.mp (fun _ => rfl)) (allL_c (wkr (loose_lst fun _ => (loose_int _ _))) (allL_c wkI allL_n)))))) (allL_c ⟨some _, rfl, BkR_m (enc := eI) rfl (fun _ => (loose_int _ _))⟩ (allL_c ⟨some _, rfl, BkR_c rfl CkR_nil⟩ (allL_c ⟨some _, rfl, BkR_c rfl CkR_nil⟩ (allL_c ⟨some _, rfl, BkR_c rfl CkR_nil⟩ (allL_c ⟨some _, rfl, BkR_c rfl CkR_nil⟩ (allL_c ⟨some _, rfl, BkR_c rfl CkR_nil⟩ (allL_c ⟨some _, rfl, BkR_c rfl CkR_nil⟩ (allL_c ⟨some _, rfl, BkR_c rfl CkR_nil⟩ (allL_c ⟨some _, rfl, BkR_c rfl CkR_nil⟩ (allL_c ⟨some _, rfl, BkR_oC rfl ⟨fun _ => rfl, fun _ => rfl, fun _ => rfl, fun _ => rfl, fun _ => rfl, fun _ => rfl, fun _ => rfl, fun _ => rfl, trivial⟩⟩ (allL_c ⟨some _, rfl, BkR_arr rfl rfl⟩ allL_n))))))))))))
      · refine HT_nilT 10 (out := s.2.2) rfl rfl (by rw [show s.2.2.length = 6 by omega]; exact ⟨_, _, rfl, rfl⟩) ?_
        refine HT_fr DC_ok rfl fun K hK => ?_; (conv => whnf)
        refine And.intro ⟨by omega, by simp only [List.length_append, List.length_cons, List.length_nil] at *; omega⟩ ?_; (conv => whnf)
        refine nlA rfl ?_; (conv => whnf)
        refine blkK_of rfl ?_; (conv => whnf)
        refine getK_of (oC_get (j := 6) rfl hj) ?_; (conv => whnf)
        refine lt_lk (enc := eI) (d := default) (l := [_]) (f := fun _ => some ()) (Φ := fun _ => True) DC_ok (W_triv _) rfl rfl rfl ⟨nle rfl, nle rfl, rfl⟩ rfl ⟨⟨rfl, rfl, rfl⟩, trivial⟩ (fun _ => ?_); (conv => whnf)
        refine ap_lk (enc := eI) (d := default) DC_ok h (.inl rfl) rfl rfl rfl ⟨rfl, nle rfl, nle rfl, nle rfl, rfl⟩ (fun _ => rfl) (.inr (.inr ⟨_, _, rfl, rfl, rfl⟩)) (fun h => ?_); (conv => whnf)
        refine And.intro ⟨by omega, by simp only [List.length_append, List.length_cons, List.length_nil] at *; omega⟩ ?_; (conv => whnf)
        refine blkK_of rfl ?_; (conv => whnf)
        refine st_oC (j := 6) (nle rfl) hj rfl rfl rfl rfl ?_; (conv => whnf)
        refine hK _ _ _ ?_; clear hK K
        refine HT_f DC_ok rfl fun K hK => ?_; (conv => whnf)
        refine mput_lk (enc := eI) DC_ok rfl rfl ?_; (conv => whnf)
        refine hK _ _ _ ?_; clear hK K
        refine InBlock_n ?_
        refine Then_n ?_
        refine HT_f DC_ok rfl fun K hK => ?_; (conv => whnf)
        refine hK _ _ _ ?_; clear hK K
        refine Then_n ?_
        replace h := W_xnx h
        refine ⟨_, h, ?_⟩
        refine weak_rX (tokX 32 0 6) ?_; (conv => whnf)
        exact And.intro rfl (And.intro (allL_c wkI (allL_c (WkR.soN (fun _ => rfl) (by simp)) (allL_c (WkR.ptr (fun _ => rfl)) (allL_c (WkR.mp (fun _ => rfl)) (allL_c (wkr (loose_lst fun _ => (loose_int _ _))) (allL_c wkI allL_n)))))) (allL_c ⟨some _, rfl, BkR_m (enc := eI) rfl (fun _ => (loose_int _ _))⟩ (allL_c ⟨some _, rfl, BkR_c rfl CkR_nil⟩ (allL_c ⟨some _, rfl, BkR_c rfl CkR_nil⟩ (allL_c ⟨some _, rfl, BkR_c rfl CkR_nil⟩ (allL_c ⟨some _, rfl, BkR_c rfl CkR_nil⟩ (allL_c ⟨some _, rfl, BkR_c rfl CkR_nil⟩ (allL_c ⟨some _, rfl, BkR_c rfl CkR_nil⟩ (allL_c ⟨some _, rfl, BkR_c rfl CkR_nil⟩ (allL_c ⟨some _, rfl, BkR_c rfl CkR_nil⟩ (allL_c ⟨some _, rfl, BkR_oC rfl ⟨fun _ => rfl, fun _ => rfl, fun _ => rfl, fun _ => rfl, fun _ => rfl, fun _ => rfl, fun _ => rfl, fun _ => rfl, trivial⟩⟩ (allL_c ⟨some _, rfl, BkR_arr rfl rfl⟩ allL_n))))))))))))
      · refine HT_nilT 10 (out := s.2.2) rfl rfl (by rw [show s.2.2.length = 7 by omega]; exact ⟨_, _, rfl, rfl⟩) ?_
        refine HT_fr DC_ok rfl fun K hK => ?_; (conv => whnf)
        refine And.intro ⟨by omega, by simp only [List.length_append, List.length_cons, List.length_nil] at *; omega⟩ ?_; (conv => whnf)
        refine nlA rfl ?_; (conv => whnf)
        refine blkK_of rfl ?_; (conv => whnf)
        refine getK_of (oC_get (j := 7) rfl hj) ?_; (conv => whnf)
        refine lt_lk (enc := eI) (d := default) (l := [_]) (f := fun _ => some ()) (Φ := fun _ => True) DC_ok (W_triv _) rfl rfl rfl ⟨nle rfl, nle rfl, rfl⟩ rfl ⟨⟨rfl, rfl, rfl⟩, trivial⟩ (fun _ => ?_); (conv => whnf)
        refine ap_lk (enc := eI) (d := default) DC_ok h (.inl rfl) rfl rfl rfl ⟨rfl, nle rfl, nle rfl, nle rfl, rfl⟩ (fun _ => rfl) (.inr (.inr ⟨_, _, rfl, rfl, rfl⟩)) (fun h => ?_); (conv => whnf)
        refine And.intro ⟨by omega, by simp only [List.length_append, List.length_cons, List.length_nil] at *; omega⟩ ?_; (conv => whnf)
        refine blkK_of rfl ?_; (conv => whnf)
        refine st_oC (j := 7) (nle rfl) hj rfl rfl rfl rfl ?_; (conv => whnf)
        refine hK _ _ _ ?_; clear hK K
        refine HT_f DC_ok rfl fun K hK => ?_; (conv => whnf)
        refine mput_lk (enc := eI) DC_ok rfl rfl ?_; (conv => whnf)
        refine hK _ _ _ ?_; clear hK K
        refine InBlock_n ?_
        refine Then_n ?_
        refine HT_f DC_ok rfl fun K hK => ?_; (conv => whnf)
        refine hK _ _ _ ?_; clear hK K
        refine Then_n ?_
        replace h := W_xnx h
        refine ⟨_, h, ?_⟩
        refine weak_rX (tokX 32 0 7) ?_; (conv => whnf)
        exact And.intro rfl (And.intro (allL_c wkI (allL_c (WkR.soN (fun _ => rfl) (by simp)) (allL_c (WkR.ptr (fun _ => rfl)) (allL_c (WkR.mp (fun _ => rfl)) (allL_c (wkr (loose_lst fun _ => (loose_int _ _))) (allL_c wkI allL_n)))))) (allL_c ⟨some _, rfl, BkR_m (enc := eI) rfl (fun _ => (loose_int _ _))⟩ (allL_c ⟨some _, rfl, BkR_c rfl CkR_nil⟩ (allL_c ⟨some _, rfl, BkR_c rfl CkR_nil⟩ (allL_c ⟨some _, rfl, BkR_c rfl CkR_nil⟩ (allL_c ⟨some _, rfl, BkR_c rfl CkR_nil⟩ (allL_c ⟨some _, rfl, BkR_c rfl CkR_nil⟩ (allL_c ⟨some _, rfl, BkR_c rfl CkR_nil⟩ (allL_c ⟨some _, rfl, BkR_c rfl CkR_nil⟩ (allL_c ⟨some _, rfl, BkR_c rfl CkR_nil⟩ (allL_c ⟨some _, rfl, BkR_oC rfl ⟨fun _ => rfl, fun _ => rfl, fun _ => rfl, fun _ => rfl, fun _ => rfl, fun _ => rfl, fun _ => rfl, fun _ => rfl, trivial⟩⟩ (allL_c ⟨some _, rfl, BkR_arr rfl rfl⟩ allL_n))))))))))))
    refine hK2 ?_; clear hK1 hK2 K1 K2
    refine HT_skip ?_
    refine Then_n ?_
    replace h := order_Cover_st.eq_1 _ _ _ _ _ ▸ h
    obtain ⟨h8, h⟩ := W_gd h
    obtain ⟨hk, h⟩ := W_gd h
    have hj : (_ : Int).toNat < _ := (Int.toNat_lt hk.1).2 hk.2
    generalize hkk : s.2.1.get _ 0 = kk at h hk hj ⊢
    have hc : kk = 0 ∨ kk = 1 ∨ kk = 2 ∨ kk = 3 ∨ kk = 4 ∨ kk = 5 ∨ kk = 6 ∨ kk = 7 := by omega
    rcases hc with rfl | rfl | rfl | rfl | rfl | rfl | rfl | rfl
    · refine HT_fr DC_ok rfl fun K hK => ?_; (conv => whnf)
      refine And.intro ⟨by omega, by simp only [List.length_append, List.length_cons, List.length_nil] at *; omega⟩ ?_; (conv => whnf)
      refine nlA rfl ?_; (conv => whnf)
      refine blkK_of rfl ?_; (conv => whnf)
      refine getK_of (oC_get (j := 0) rfl hj) ?_; (conv => whnf)
      refine lt_lk (enc := eI) (d := default) (l := [_]) (f := fun _ => some ()) (Φ := fun _ => True) DC_ok (W_triv _) rfl rfl rfl ⟨nle rfl, nle rfl, rfl⟩ rfl ⟨⟨rfl, rfl, rfl⟩, trivial⟩ (fun _ => ?_); (conv => whnf)
      refine ap_lk (enc := eI) (d := default) DC_ok h (.inl rfl) rfl rfl rfl ⟨rfl, nle rfl, nle rfl, nle rfl, rfl⟩ (fun _ => rfl) (.inr (.inr ⟨_, _, rfl, rfl, rfl⟩)) (fun h => ?_); (conv => whnf)
      refine And.intro ⟨by omega, by simp only [List.length_append, List.length_cons, List.length_nil] at *; omega⟩ ?_; (conv => whnf)
      refine blkK_of rfl ?_; (conv => whnf)
      refine st_oC (j := 0) (nle rfl) hj rfl rfl rfl rfl ?_; (conv => whnf)
      refine hK _ _ _ ?_; clear hK K
      refine HT_f DC_ok rfl fun K hK => ?_; (conv => whnf)
      refine mput_lk (enc := eI) DC_ok rfl rfl ?_; (conv => whnf)
      refine hK _ _ _ ?_; clear hK K
      refine InBlock_n ?_
      refine Then_n ?_
      refine HT_f DC_ok rfl fun K hK => ?_; (conv => whnf)
      refine hK _ _ _ ?_; clear hK K
      refine Then_n ?_
      replace h := W_xnx h
      refine ⟨_, h, ?_⟩
      refine weak_rX (tokX 25 0 0) ?_; (conv => whnf)
      exact And.intro rfl (And.intro (allL_c wkI (allL_c (WkR.soN (fun _ => rfl) (by simp)) (allL_c (WkR.ptr (fun _ => rfl)) (allL_c (WkR.mp (fun _ => rfl)) (allL_c (wkr (loose_lst fun _ => (loose_int _ _))) (allL_c wkI allL_n)))))) (allL_c ⟨some _, rfl, BkR_m (enc := eI) rfl (fun _ => (loose_int _ _))⟩ (allL_c ⟨some _, rfl, BkR_c rfl CkR_nil⟩ (allL_c ⟨some _, rfl, BkR_c rfl CkR_nil⟩ (allL_c ⟨some _, rfl, BkR_c rfl CkR_nil⟩ (allL_c ⟨some _, rfl, BkR_c rfl CkR_nil⟩ (allL_c ⟨some _, rfl, BkR_c rfl CkR_nil⟩ (allL_c ⟨some _, rfl, BkR_c rfl CkR_nil⟩ (allL_c ⟨some _, rfl, BkR_c rfl CkR_nil⟩ (allL_c ⟨some _, rfl, BkR_c rfl CkR_nil⟩ (allL_c ⟨some _, rfl, BkR_oC rfl ⟨fun _ => rfl, fun _ => rfl, fun _ => rfl, fun _ => rfl, fun _ => rfl, fun _ => rfl, fun _ => rfl, fun _ => rfl, trivial⟩⟩ (allL_c ⟨some _, rfl, BkR_arr rfl rfl⟩ allL_n))))))))))))
    · refine HT_fr DC_ok rfl fun K hK => ?_; (conv => whnf)
      refine And.intro ⟨by omega, by simp only [List.length_append, List.length_cons, List.length_nil] at *; omega⟩ ?_; (conv => whnf)
      refine nlA rfl ?_; (conv => whnf)
      refine blkK_of rfl ?_; (conv => whnf)
      refine getK_of (oC_get (j := 1) rfl hj) ?_; (conv => whnf)
      refine lt_lk (enc := eI) (d := default) (l := [_]) (f := fun _ => some ()) (Φ := fun _ => True) DC_ok (W_triv _) rfl rfl rfl ⟨nle rfl, nle rfl, rfl⟩ rfl ⟨⟨rfl, rfl, rfl⟩, trivial⟩ (fun _ => ?_); (conv => whnf)
      refine ap_lk (enc := eI) (d := default) DC_ok h (.inl rfl) rfl rfl rfl ⟨rfl, nle rfl, nle rfl, nle rfl, rfl⟩ (fun _ => rfl) (.inr (.inr ⟨_, _, rfl, rfl, rfl⟩)) (fun h => ?_); (conv => whnf)
      refine And.intro ⟨by omega, by simp only [List.length_append, List.length_cons, List.length_nil] at *; omega⟩ ?_; (conv => whnf)
      refine blkK_of rfl ?_; (conv => whnf)
      refine st_oC (j := 1) (nle rfl) hj rfl rfl rfl rfl ?_; (conv => whnf)
      refine hK _ _ _ ?_; clear hK K
      refine HT_f DC_ok rfl fun K hK => ?_; (conv => whnf)
      refine mput_lk (enc := eI) DC_ok rfl rfl ?_; (conv => whnf)
      refine hK _ _ _ ?_; clear hK K
      refine InBlock_n ?_
      refine Then_n ?_
      refine HT_f DC_ok rfl fun K hK => ?_; (conv => whnf)
      refine hK _ _ _ ?_; clear hK K
      refine Then_n ?_
      replace h := W_xnx h
      refine ⟨_, h, ?_⟩
      refine weak_rX (tokX 25 0 1) ?_; (conv => whnf)
      exact And.intro rfl (And.intro (allL_c wkI (allL_c (WkR.soN (fun _ => rfl) (by simp)) (allL_c (WkR.ptr (fun _ => rfl)) (allL_c (WkR.mp (fun _ => rfl)) (allL_c (wkr (loose_lst fun _ => (loose_int _ _))) (allL_c wkI allL_n)))))) (allL_c ⟨some _, rfl, BkR_m (enc := eI) rfl (fun _ => (loose_int _ _))⟩ (allL_c ⟨some _, rfl, BkR_c rfl CkR_nil⟩ (allL_c ⟨some _, rfl, BkR_c rfl CkR_nil⟩ (allL_c ⟨some _, rfl, BkR_c rfl CkR_nil⟩ (allL_c ⟨some _, rfl, BkR_c rfl CkR_nil⟩ (allL_c ⟨some _, rfl, BkR_c rfl CkR_nil⟩ (allL_c ⟨some _, rfl, BkR_c rfl CkR_nil⟩ (allL_c ⟨some _, rfl, BkR_c rfl CkR_nil⟩ (allL_c ⟨some _, rfl, BkR_c rfl CkR_nil⟩ (allL_c ⟨some _, rfl, BkR_oC rfl ⟨fun _ => rfl, fun _ => rfl, fun _ => rfl, fun _ => rfl, fun _ => rfl, fun _ => rfl, fun _ => rfl, fun _ => rfl, trivial⟩⟩ (allL_c ⟨some _, rfl, BkR_arr rfl rfl⟩ allL_n))))))))))))
    · refine HT_fr DC_ok rfl fun K hK => ?_; (conv => whnf)
      refine And.intro ⟨by omega, by simp only [List.length_append, List.length_cons, List.length_nil] at *; omega⟩ ?_; (conv => whnf)
      refine nlA rfl ?_; (conv => whnf)
      refine blkK_of rfl ?_; (conv => whnf)
      refine getK_of (oC_get (j := 2) rfl hj) ?_; (conv => whnf)
      refine lt_lk (enc := eI) (d := default) (l := [_]) (f := fun _ => some ()) (Φ := fun _ => True) DC_ok (W_triv _) rfl rfl rfl ⟨nle rfl, nle rfl, rfl⟩ rfl ⟨⟨rfl, rfl, rfl⟩, trivial⟩ (fun _ => ?_); (conv => whnf)
      refine ap_lk (enc := eI) (d := default) DC_ok h (.inl rfl) rfl rfl rfl ⟨rfl, nle rfl, nle rfl, nle rfl, rfl⟩ (fun _ => rfl) (.inr (.inr ⟨_, _, rfl, rfl, rfl⟩)) (fun h => ?_); (conv => whnf)
      refine And.intro ⟨by omega, by simp only [List.length_append, List.length_cons, List.length_nil] at *; omega⟩ ?_; (conv => whnf)
      refine blkK_of rfl ?_; (conv => whnf)
      refine st_oC (j := 2) (nle rfl) hj rfl rfl rfl rfl ?_; (conv => whnf)
      refine hK _ _ _ ?_; clear hK K
      refine HT_f DC_ok rfl fun K hK => ?_; (conv => whnf)
      refine mput_lk (enc := eI) DC_ok rfl rfl ?_; (conv => whnf)
      refine hK _ _ _ ?_; clear hK K
      refine InBlock_n ?_
      refine Then_n ?_
      refine HT_f DC_ok rfl fun K hK => ?_; (conv => whnf)
      refine hK _ _ _ ?_; clear hK K
      refine Then_n ?_
      replace h := W_xnx h
      refine ⟨_, h, ?_⟩
      refine weak_rX (tokX 25 0 2) ?_; (conv => whnf)
      exact And.intro rfl (And.intro (allL_c wkI (allL_c (WkR.soN (fun _ => rfl) (by simp)) (allL_c (WkR.ptr (fun _ => rfl)) (allL_c (WkR.mp (fun _ => rfl)) (allL_c (wkr (loose_lst fun _ => (loose_int _ _))) (allL_c wkI allL_n)))))) (allL_c ⟨some _, rfl, BkR_m (enc := eI) rfl (fun _ => (loose_int _ _))⟩ (allL_c ⟨some _, rfl, BkR_c rfl CkR_nil⟩ (allL_c ⟨some _, rfl, BkR_c rfl CkR_nil⟩ (allL_c ⟨some _, rfl, BkR_c rfl CkR_nil⟩ (allL_c ⟨some _, rfl, BkR_c rfl CkR_nil⟩ (allL_c ⟨some _, rfl, BkR_c rfl CkR_nil⟩ (allL_c ⟨some _, rfl, BkR_c rfl CkR_nil⟩ (allL_c ⟨some _, rfl, BkR_c rfl CkR_nil⟩ (allL_c ⟨some _, rfl, BkR_c rfl CkR_nil⟩ (allL_c ⟨some _, rfl, BkR_oC rfl ⟨fun _ => rfl, fun _ => rfl, fun _ => rfl, fun _ => rfl, fun _ => rfl, fun _ => rfl, fun _ => rfl, fun _ => rfl, trivial⟩⟩ (allL_c ⟨some _, rfl, BkR_arr rfl rfl⟩ allL_n))))))))))))
    · refine HT_fr DC_ok rfl fun K hK => ?_; (conv => whnf)
      refine And.intro ⟨by omega, by simp only [List.length_append, List.length_cons, List.length_nil] at *; omega⟩ ?_; (conv => whnf)
      refine nlA rfl ?_; (conv => whnf)
      refine blkK_of rfl ?_; (conv => whnf)
      refine getK_of (oC_get (j := 3) rfl hj) ?_; (conv => whnf)
      refine lt_lk (enc := eI) (d := default) (l := [_]) (f := fun _ => some ()) (Φ := fun _ => True) DC_ok (W_triv _) rfl rfl rfl ⟨nle rfl, nle rfl, rfl⟩ rfl ⟨⟨rfl, rfl, rfl⟩, trivial⟩ (fun _ => ?_); (conv => whnf)
      refine ap_lk (enc := eI) (d := default) DC_ok h (.inl rfl) rfl rfl rfl ⟨rfl, nle rfl, nle rfl, nle rfl, rfl⟩ (fun _ => rfl) (.inr (.inr ⟨_, _, rfl, rfl, rfl⟩)) (fun h => ?_); (conv => whnf)
      refine And.intro ⟨by omega, by simp only [List.length_append, List.length_cons, List.length_nil] at *; omega⟩ ?_; (conv => whnf)
      refine blkK_of rfl ?_; (conv => whnf)
      refine st_oC (j := 3) (nle rfl) hj rfl rfl rfl rfl ?_; (conv => whnf)
      refine hK _ _ _ ?_; clear hK K
      refine HT_f DC_ok rfl fun K hK => ?_; (conv => whnf)
      refine mput_lk (enc := eI) DC_ok rfl rfl ?_; (conv => whnf)
      refine hK _ _ _ ?_; clear hK K
      refine InBlock_n ?_
      refine Then_n ?_
      refine HT_f DC_ok rfl fun K hK => ?_; (conv => whnf)
      refine hK _ _ _ ?_; clear hK K
      refine Then_n ?_
      replace h := W_xnx h
      refine ⟨_, h, ?_⟩
      refine weak_rX (tokX 25 0 3) ?_; (conv => whnf)
      exact And.intro rfl (And.intro (allL_c wkI (allL_c (WkR.soN (fun _ => rfl) (by simp)) (allL_c (WkR.ptr (fun _ => rfl)) (allL_c (WkR.mp (fun _ => rfl)) (allL_c (wkr (loose_lst fun _ => (loose_int _ _))) (allL_c wkI allL_n)))))) (allL_c ⟨some _, rfl, BkR_m (enc := eI) rfl (fun _ => (loose_int _ _))⟩ (allL_c ⟨some _, rfl, BkR_c rfl CkR_nil⟩ (allL_c ⟨some _, rfl, BkR_c rfl CkR_nil⟩ (allL_c ⟨some _, rfl, BkR_c rfl CkR_nil⟩ (allL_c ⟨some _, rfl, BkR_c rfl CkR_nil⟩ (allL_c ⟨some _, rfl, BkR_c rfl CkR_nil⟩ (allL_c ⟨some _, rfl, BkR_c rfl CkR_nil⟩ (allL_c ⟨some _, rfl, BkR_c rfl CkR_nil⟩ (allL_c ⟨some _, rfl, BkR_c rfl CkR_nil⟩ (allL_c ⟨some _, rfl, BkR_oC rfl ⟨fun _ => rfl, fun _ => rfl, fun _ => rfl, fun _ => rfl, fun _ => rfl, fun _ => rfl, fun _ => rfl, fun _ => rfl, trivial⟩⟩ (allL_c ⟨some _, rfl, BkR_arr rfl rfl⟩ allL_n))))))))))))
    · refine HT_fr DC_ok rfl fun K hK => ?_; (conv => whnf)
      refine And.intro ⟨by omega, by simp only [List.length_append, List.length_cons, List.length_nil] at *; omega⟩ ?_; (conv => whnf)
      refine nlA rfl ?_; (conv => whnf)
      refine blkK_of rfl ?_; (conv => whnf)
      refine getK_of (oC_get (j := 4) rfl hj) ?_; (conv => whnf)
      refine lt_lk (enc := eI) (d := default) (l := [_]) (f := fun _ => some ()) (Φ := fun _ => True) DC_ok (W_triv _) rfl rfl rfl ⟨nle rfl, nle rfl, rfl⟩ rfl ⟨⟨rfl, rfl, rfl⟩, trivial⟩ (fun _ => ?_); (conv => whnf)
      refine ap_lk (enc := eI) (d := default) DC_ok h (.inl rfl) rfl rfl rfl ⟨rfl, nle rfl, nle rfl, nle rfl, rfl⟩ (fun _ => rfl) (.inr (.inr ⟨_, _, rfl, rfl, rfl⟩)) (fun h => ?_); (conv => whnf)
      refine And.intro ⟨by omega, by simp only [List.length_append, List.length_cons, List.length_nil] at *; omega⟩ ?_; (conv => whnf)
      refine blkK_of rfl ?_; (conv => whnf)
      refine st_oC (j := 4) (nle rfl) hj rfl rfl rfl rfl ?_; (conv => whnf)
      refine hK _ _ _ ?_; clear hK K
      refine HT_f DC_ok rfl fun K hK => ?_; (conv => whnf)
      refine mput_lk (enc := eI) DC_ok rfl rfl ?_; (conv => whnf)
      refine hK _ _ _ ?_; clear hK K
      refine InBlock_n ?_
      refine Then_n ?_
      refine HT_f DC_ok rfl fun K hK => ?_; (conv => whnf)
      refine hK _ _ _ ?_; clear hK K
      refine Then_n ?_
      replace h := W_xnx h
      refine ⟨_, h, ?_⟩
      refine weak_rX (tokX 25 0 4) ?_; (conv => whnf)
      exact And.intro rfl (And.intro (allL_c wkI (allL_c (WkR.soN (fun _ => rfl) (by simp)) (allL_c (WkR.ptr (fun _ => rfl)) (allL_c (WkR.mp (fun _ => rfl)) (allL_c (wkr (loose_lst fun _ => (loose_int _ _))) (allL_c wkI allL_n)))))) (allL_c ⟨some _, rfl, BkR_m (enc := eI) rfl (fun _ => (loose_int _ _))⟩ (allL_c ⟨some _, rfl, BkR_c rfl CkR_nil⟩ (allL_c ⟨some _, rfl, BkR_c rfl CkR_nil⟩ (allL_c ⟨some _, rfl, BkR_c rfl CkR_nil⟩ (allL_c ⟨some _, rfl, BkR_c rfl CkR_nil⟩ (allL_c ⟨some _, rfl, BkR_c rfl CkR_nil⟩ (allL_c ⟨some _, rfl, BkR_c rfl CkR_nil⟩ (allL_c ⟨some _, rfl, BkR_c rfl CkR_nil⟩ (allL_c ⟨some _, rfl, BkR_c rfl CkR_nil⟩ (allL_c ⟨some _, rfl, BkR_oC rfl ⟨fun _ => rfl, fun _ => rfl, fun _ => rfl, fun _ => rfl, fun _ => rfl, fun _ => rfl, fun _ => rfl, fun _ => rfl, trivial⟩⟩ (allL_c ⟨some _, rfl, BkR_arr rfl rfl⟩ allL_n))))))))))))
    · refine HT_fr DC_ok rfl fun K hK => ?_; (conv => whnf)
      refine And.intro ⟨by omega, by simp only [List.length_append, List.length_cons, List.length_nil] at *; omega⟩ ?_; (conv => whnf)
      refine nlA rfl ?_; (conv => whnf)
      refine blkK_of rfl ?_; (conv => whnf)
      refine getK_of (oC_get (j := 5) rfl hj) ?_; (conv => whnf)
      refine lt_lk (enc := eI) (d := default) (l := [_]) (f := fun _ => some ()) (Φ := fun _ => True) DC_ok (W_triv _) rfl rfl rfl ⟨nle rfl, nle rfl, rfl⟩ rfl ⟨⟨rfl, rfl, rfl⟩, trivial⟩ (fun _ => ?_); (conv => whnf)
      refine ap_lk (enc := eI) (d := default) DC_ok h (.inl rfl) rfl rfl rfl ⟨rfl, nle rfl, nle rfl, nle rfl, rfl⟩ (fun _ => rfl) (.inr (.inr ⟨_, _, rfl, rfl, rfl⟩)) (fun h => ?_); (conv => whnf)
      refine And.intro ⟨by omega, by simp only [List.length_append, List.length_cons, List.length_nil] at *; omega⟩ ?_; (conv => whnf)
      refine blkK_of rfl ?_; (conv => whnf)
      refine st_oC (j := 5) (nle rfl) hj rfl rfl rfl rfl ?_; (conv => whnf)
      refine hK _ _ _ ?_; clear hK K
      refine HT_f DC_ok rfl fun K hK => ?_; (conv => whnf)
      refine mput_lk (enc := eI) DC_ok rfl rfl ?_; (conv => whnf)
      refine hK _ _ _ ?_; clear hK K
      refine InBlock_n ?_
      refine Then_n ?_
      refine HT_f DC_ok rfl fun K hK => ?_; (conv => whnf)
      refine hK _ _ _ ?_; clear hK K
      refine Then_n ?_
      replace h := W_xnx h
      refine ⟨_, h, ?_⟩
      refine weak_rX (tokX 25 0 5) ?_; (conv => whnf)
      exact And.intro rfl (And.intro (allL_c wkI (allL_c (WkR.soN (fun _ => rfl) (by simp)) (allL_c (WkR.ptr (fun _ => rfl)) (allL_c (WkR.mp (fun _ => rfl)) (allL_c (wkr (loose_lst fun _ => (loose_int _ _))) (allL_c wkI allL_n)))))) (allL_c ⟨some _, rfl, BkR_m (enc := eI) rfl (fun _ => (loose_int _ _))⟩ (allL_c ⟨some _, rfl, BkR_c rfl CkR_nil⟩ (allL_c ⟨some _, rfl, BkR_c rfl CkR_nil⟩ (allL_c ⟨some _, rfl, BkR_c rfl CkR_nil⟩ (allL_c ⟨some _, rfl, BkR_c rfl CkR_nil⟩ (allL_c ⟨some _, rfl, BkR_c rfl CkR_nil⟩ (allL_c ⟨some _, rfl, BkR_c rfl CkR_nil⟩ (allL_c ⟨some _, rfl, BkR_c rfl CkR_nil⟩ (allL_c ⟨some _, rfl, BkR_c rfl CkR_nil⟩ (allL_c ⟨some _, rfl, BkR_oC rfl ⟨fun _ => rfl, fun _ => rfl, fun _ => rfl, fun _ => rfl, fun _ => rfl, fun _ => rfl, fun _ => rfl, fun _ => rfl, trivial⟩⟩ (allL_c ⟨some _, rfl, BkR_arr rfl rfl⟩ allL_n))))))))))))
    · refine HT_fr DC_ok rfl fun K hK => ?_; (conv => whnf)
      refine And.intro ⟨by omega, by simp only [List.length_append, List.length_cons, List.length_nil] at *; omega⟩ ?_; (conv => whnf)
      refine nlA rfl ?_; (conv => whnf)
      refine blkK_of rfl ?_; (conv => whnf)
      refine getK_of (oC_get (j := 6) rfl hj) ?_; (conv => whnf)
      refine lt_lk (enc := eI) (d := default) (l := [_]) (f := fun _ => some ()) (Φ := fun _ => True) DC_ok (W_triv _) rfl rfl rfl ⟨nle rfl, nle rfl, rfl⟩ rfl ⟨⟨rfl, rfl, rfl⟩, trivial⟩ (fun _ => ?_); (conv => whnf)
      refine ap_lk (enc := eI) (d := default) DC_ok h (.inl rfl) rfl rfl rfl ⟨rfl, nle rfl, nle rfl, nle rfl, rfl⟩ (fun _ => rfl) (.inr (.inr ⟨_, _, rfl, rfl, rfl⟩)) (fun h => ?_); (conv => whnf)
      refine And.intro ⟨by omega, by simp only [List.length_append, List.length_cons, List.length_nil] at *; omega⟩ ?_; (conv => whnf)
      refine blkK_of rfl ?_; (conv => whnf)
      refine st_oC (j := 6) (nle rfl) hj rfl rfl rfl rfl ?_; (conv => whnf)
      refine hK _ _ _ ?_; clear hK K
      refine HT_f DC_ok rfl fun K hK => ?_; (conv => whnf)
      refine mput_lk (enc := eI) DC_ok rfl rfl ?_; (conv => whnf)
      refine hK _ _ _ ?_; clear hK K
      refine InBlock_n ?_
      refine Then_n ?_
      refine HT_f DC_ok rfl fun K hK => ?_; (conv => whnf)
      refine hK _ _ _ ?_; clear hK K
      refine Then_n ?_
      replace h := W_xnx h
      refine ⟨_, h, ?_⟩
      refine weak_rX (tokX 25 0 6) ?_; (conv => whnf)
      exact And.intro rfl (And.intro (allL_c wkI (allL_c (WkR.soN (fun _ => rfl) (by simp)) (allL_c (WkR.ptr (fun _ => rfl)) (allL_c (WkR.mp (fun _ => rfl)) (allL_c (wkr (loose_lst fun _ => (loose_int _ _))) (allL_c wkI allL_n)))))) (allL_c ⟨some _, rfl, BkR_m (enc := eI) rfl (fun _ => (loose_int _ _))⟩ (allL_c ⟨some _, rfl, BkR_c rfl CkR_nil⟩ (allL_c ⟨some _, rfl, BkR_c rfl CkR_nil⟩ (allL_c ⟨some _, rfl, BkR_c rfl CkR_nil⟩ (allL_c ⟨some _, rfl, BkR_c rfl CkR_nil⟩ (allL_c ⟨some _, rfl, BkR_c rfl CkR_nil⟩ (allL_c ⟨some _, rfl, BkR_c rfl CkR_nil⟩ (allL_c ⟨some _, rfl, BkR_c rfl CkR_nil⟩ (allL_c ⟨some _, rfl, BkR_c rfl CkR_nil⟩ (allL_c ⟨some _, rfl, BkR_oC rfl ⟨fun _ => rfl, fun _ => rfl, fun _ => rfl, fun _ => rfl, fun _ => rfl, fun _ => rfl, fun _ => rfl, fun _ => rfl, trivial⟩⟩ (allL_c ⟨some _, rfl, BkR_arr rfl rfl⟩ allL_n))))))))))))
    · refine HT_fr DC_ok rfl fun K hK => ?_; (conv => whnf)
      refine And.intro ⟨by omega, by simp only [List.length_append, List.length_cons, List.length_nil] at *; omega⟩ ?_; (conv => whnf)
      refine nlA rfl ?_; (conv => whnf)
      refine blkK_of rfl ?_; (conv => whnf)
      refine getK_of (oC_get (j := 7) rfl hj) ?_; (conv => whnf)
      refine lt_lk (enc := eI) (d := default) (l := [_]) (f := fun _ => some ()) (Φ := fun _ => True) DC_ok (W_triv _) rfl rfl rfl ⟨nle rfl, nle rfl, rfl⟩ rfl ⟨⟨rfl, rfl, rfl⟩, trivial⟩ (fun _ => ?_); (conv => whnf)
      refine ap_lk (enc := eI) (d := default) DC_ok h (.inl rfl) rfl rfl rfl ⟨rfl, nle rfl, nle rfl, nle rfl, rfl⟩ (fun _ => rfl) (.inr (.inr ⟨_, _, rfl, rfl, rfl⟩)) (fun h => ?_); (conv => whnf)
      refine And.intro ⟨by omega, by simp only [List.length_append, List.length_cons, List.length_nil] at *; omega⟩ ?_; (conv => whnf)
      refine blkK_of rfl ?_; (conv => whnf)
      refine st_oC (j := 7) (nle rfl) hj rfl rfl rfl rfl ?_; (conv => whnf)
      refine hK _ _ _ ?_; clear hK K
      refine HT_f DC_ok rfl fun K hK => ?_; (conv => whnf)
      refine mput_lk (enc := eI) DC_ok rfl rfl ?_; (conv => whnf)
      refine hK _ _ _ ?_; clear hK K
      refine InBlock_n ?_
      refine Then_n ?_
      refine HT_f DC_ok rfl fun K hK => ?_; (conv => whnf)
      refine hK _ _ _ ?_; clear hK K
      refine Then_n ?_
      replace h := W_xnx h
      refine ⟨_, h, ?_⟩
      refine weak_rX (tokX 25 0 7) ?_; (conv => whnf)
      exact And.intro rfl (And.intro (allL_c wkI (allL_c (WkR.soN (fun _ => rfl) (by simp)) (allL_c (WkR.ptr (fun _ => rfl)) (allL_c (WkR.mp (fun _ => rfl)) (allL_c (wkr (loose_lst fun _ => (loose_int _ _))) (allL_c wkI allL_n)))))) (allL_c ⟨some _, rfl, BkR_m (enc := eI) rfl (fun _ => (loose_int _ _))⟩ (allL_c ⟨some _, rfl, BkR_c rfl CkR_nil⟩ (allL_c ⟨some _, rfl, BkR_c rfl CkR_nil⟩ (allL_c ⟨some _, rfl, BkR_c rfl CkR_nil⟩ (allL_c ⟨some _, rfl, BkR_c rfl CkR_nil⟩ (allL_c ⟨some _, rfl, BkR_c rfl CkR_nil⟩ (allL_c ⟨some _, rfl, BkR_c rfl CkR_nil⟩ (allL_c ⟨some _, rfl, BkR_c rfl CkR_nil⟩ (allL_c ⟨some _, rfl, BkR_c rfl CkR_nil⟩ (allL_c ⟨some _, rfl, BkR_oC rfl ⟨fun _ => rfl, fun _ => rfl, fun _ => rfl, fun _ => rfl, fun _ => rfl, fun _ => rfl, fun _ => rfl, fun _ => rfl, trivial⟩⟩ (allL_c ⟨some _, rfl, BkR_arr rfl rfl⟩ allL_n))))))))))))
  refine hK2 ?_; clear hK1 hK2 K1 K2
  refine HT_exit ?_
  refine Then_e ?_
  refine Then_e ?_
  refine InBlock_e ?_
  replace h := W_xbk h
  replace h := W_inl h
  obtain ⟨h8, h⟩ := W_gd h
  refine Then_n ?_
  refine HT_fr DC_ok rfl fun K hK => ?_; (conv => whnf)
  refine hK _ _ _ ?_; clear hK K
  refine HT_freeT 10 rfl rfl (by exact h8) ?_
  refine HT_frzSK 2 (enc := eL 1 eI default) (e := 26) default (ElOk_one DC_ok rfl rfl rfl (fun _ => ⟨rfl, rfl⟩)) ?_; (conv => whnf); refine ⟨_, _, rfl, rfl, rfl, ?_⟩
  refine HT_ret ?_
  replace h := W_some h
  refine PostP_r DC_ok fun K hK => ?_; (conv => whnf)
  refine hK _ ?_; clear hK K
  cases h
  exact Wk.refl _
theorem order_Cover_call {T : Tbl} (hT : T 31 = pureR order_Cover_S) {args : List AV} {hp : Heap} {id : Nat} {k : AV → Prop} {a0 : TOrder} {Φ : (List (List Int)) × Int → Prop} (h : W (order_Cover_F a0) Φ) (hw : WkL args [eTOrder a0]) (hk : ∀ y, Φ y → k (.tup [(eL 1 (eL 1 eI default) default) y.1, eI y.2])) : callpK T 31 args hp id k := by
  obtain ⟨y, e, hy⟩ := W_inv h
  exact callpK_pure hT ⟨a0, rfl, W_of e rfl⟩ (by exact loose_tup (loose_cons (loose_lst fun _ => (loose_lst fun _ => (loose_int _ _))) (loose_cons (loose_int _ _) loose_nil))) hw (hk y hy)
end Go.Proofs.YtlmboonbfhkfnaaDoor
namespace Go.Proofs.YtlmboonbfhkfnaaDoor
open Go Go.Eng
set_option maxHeartbeats 0
set_option maxRecDepth 100000
def index_b1 (a1 : Int) (l0 : List Int) (s1 : Int) : Option (Ct Int Int) := cn (decide (s1 < (l0.length : Int))) (gd ((0 : Int) ≤ s1 ∧ s1 < (l0.length : Int)) (cn (a1 ==
    (l0.getD (s1).toNat default)) (some (.rt s1)) (some (.nx (wr (s1 + 1)))))) (some (.bk s1))
theorem W_bindex_b1 {a1 : Int} {l0 : List Int} {s1 : Int} {Φ : Ct Int Int → Prop} (h : W (index_b1 a1 l0 s1) Φ) : W (cn (decide (s1 < (l0.length : Int))) (gd ((0 : Int) ≤ s1 ∧ s1 < (l0.length : Int)) (cn (a1 ==
    (l0.getD (s1).toNat default)) (some (.rt s1)) (some (.nx (wr (s1 + 1)))))) (some (.bk s1))) Φ := h
def index_F (a1 : Int) (l0 : List Int) : Option Int := bd (lp (index_b1 a1 l0) FU 0) fun c2 => smK c2 (fun s3 => some (-1)) (fun r4 => some r4)
def index_S : List AV → List BD → AV → List BD → Prop := fun args bs r bs' => ∃ a1 l0 y, args = [.so 0 0 l0.length 1, eI a1] ∧ bs = [.ab (.cells (flE (ceE eI) l0))] ∧ index_F a1 l0 = some y ∧ r = eI y ∧ bs' = [.ab (.cells (flE (ceE eI) l0))]
theorem index_ok {T : Tbl} (hT : TOk Tryd.prog T) (hpf : PfOk T PF) : FOk Tryd.prog 84 (ancR index_S) := by
  refine FOk_ancR hT hpf Tryd.func84 rfl Tryd.ntmps84 Tryd.results84 (by decide) ?_
  rintro args bs r bs' ⟨a1, l0, y, rfl, rfl, hF, rfl, rfl⟩
  refine ⟨nle rfl, Nat.le_refl _, (loose_int _ _), ⟨(loose_fl (fun _ => (loose_cons (loose_int _ _) loose_nil)) _), trivial⟩, ⟨(loose_fl (fun _ => (loose_cons (loose_int _ _) loose_nil)) _), trivial⟩, ?_⟩
  have h : W (index_F a1 l0) (fun z => z = y) := W_of hF rfl
  rw [index_F.eq_1] at h
  refine HT_fr DC_ok rfl fun K hK => ?_; (conv => whnf)
  refine hK _ _ _ ?_; clear hK K
  refine HT_seq ?_
  refine HT_fr DC_ok rfl fun K hK => ?_; (conv => whnf)
  refine hK _ _ _ ?_; clear hK K
  refine HT_block ?_
  replace h := W_bd h
  refine HT_lpR (body := index_b1 _ _) rfl h [0, 1, 7] [] [0] [] (fun kl kh kr ids b s => ⟨ofL ([(8, eI s)] ++ kl), ofH (([] ++ kh) ++ ([] ++ kr)), b + 64⟩) ?_; (conv => whnf); refine And.intro ?_ (fun s m h => HT_st ?_)
  · refine weak_r ?_; (conv => whnf)
    exact And.intro rfl (And.intro (allL_c wkI (allL_c (WkR.so (fun _ => rfl)) (allL_c wkI (allL_c wkI allL_n)))) (allL_c ⟨some _, rfl, BkR_r rfl (fun _ => (loose_cons (loose_int _ _) loose_nil))⟩ allL_n))
  replace h := W_bindex_b1 (W_bd h)
  refine HT_fr DC_ok rfl fun K hK => ?_; (conv => whnf)
  refine hK _ _ _ ?_; clear hK K
  refine HT_seq ?_
  refine HT_if fun K1 K2 hK1 hK2 => ?_; (conv => whnf)
  refine cond_lk h (fun _ h => ?_) (fun _ h => ?_)
  · refine hK1 ?_; clear hK1 hK2 K1 K2
    refine HT_skip ?_
    refine Then_n ?_
    refine HT_seq ?_
    refine HT_block ?_
    refine HT_fr DC_ok rfl fun K hK => ?_; (conv => whnf)
    refine hK _ _ _ ?_; clear hK K
    refine HT_fr DC_ok rfl fun K hK => ?_; (conv => whnf)
    refine gd_lkN h (rfl) fun hx14 h => ?_; (conv => whnf)
    refine nlA rfl ?_; (conv => whnf)
    refine blkK_of rfl ?_; (conv => whnf)
    refine get_flN (enc := eI) (d := default) (q := 0) (fun _ => rfl) (rfl) hx14 (nle rfl) rfl ?_; (conv => whnf)
    refine hK _ _ _ ?_; clear hK K
    refine HT_if fun K1 K2 hK1 hK2 => ?_; (conv => whnf)
    refine cond_lk h (fun _ h => ?_) (fun _ h => ?_)
    · refine hK1 ?_; clear hK1 hK2 K1 K2
      refine HT_fr DC_ok rfl fun K hK => ?_; (conv => whnf)
      refine hK _ _ _ ?_; clear hK K
      refine HT_ret ?_
      refine InBlock_r ?_
      refine Then_r ?_
      refine Then_r ?_
      refine InBlock_r ?_
      refine Then_r ?_
      replace h := W_xrt h
      replace h := W_inr h
      replace h := W_some h
      refine PostC_r DC_ok fun K hK => ?_; (conv => whnf)
      refine hK _ ?_; clear hK K
      cases h
      exact ⟨Wk.refl _, ⟨_, rfl, bkW _⟩, trivial⟩
    refine hK2 ?_; clear hK1 hK2 K1 K2
    refine HT_skip ?_
    refine InBlock_n ?_
    refine Then_n ?_
    refine HT_f DC_ok rfl fun K hK => ?_; (conv => whnf)
    refine hK _ _ _ ?_; clear hK K
    refine Then_n ?_
    replace h := W_xnx h
    refine ⟨_, h, ?_⟩
    refine weak_r ?_; (conv => whnf)
    exact And.intro rfl (And.intro (allL_c wkI (allL_c (WkR.so (fun _ => rfl)) (allL_c wkI (allL_c wkI allL_n)))) (allL_c ⟨some _, rfl, BkR_r rfl (fun _ => (loose_cons (loose_int _ _) loose_nil))⟩ allL_n))
  refine hK2 ?_; clear hK1 hK2 K1 K2
  refine HT_exit ?_
  refine Then_e ?_
  refine Then_e ?_
  refine InBlock_e ?_
  replace h := W_xbk h
  replace h := W_inl h
  refine Then_n ?_
  refine HT_fr DC_ok rfl fun K hK => ?_; (conv => whnf)
  refine hK _ _ _ ?_; clear hK K
  refine HT_ret ?_
  replace h := W_some h
  refine PostC_r DC_ok fun K hK => ?_; (conv => whnf)
  refine hK _ ?_; clear hK K
  cases h
  exact ⟨Wk.refl _, ⟨_, rfl, bkW _⟩, trivial⟩
def contains_F (a1 : Int) (l0 : List Int) : Option Bool := bd (index_F a1 l0) fun y1 => some (decide (y1 ≥ 0))
def contains_S : List AV → List BD → AV → List BD → Prop := fun args bs r bs' => ∃ a1 l0 y, args = [.so 0 0 l0.length 1, eI a1] ∧ bs = [.ab (.cells (flE (ceE eI) l0))] ∧ contains_F a1 l0 = some y ∧ r = eB y ∧ bs' = [.ab (.cells (flE (ceE eI) l0))]
theorem contains_ok {T : Tbl} (hT : TOk Tryd.prog T) (hpf : PfOk T PF) (h84 : T 84 = ancR index_S) : FOk Tryd.prog 67 (ancR contains_S) := by
  refine FOk_ancR hT hpf Tryd.func67 rfl Tryd.ntmps67 Tryd.results67 (by decide) ?_
  rintro args bs r bs' ⟨a1, l0, y, rfl, rfl, hF, rfl, rfl⟩
  refine ⟨nle rfl, Nat.le_refl _, (loose_bool _), ⟨(loose_fl (fun _ => (loose_cons (loose_int _ _) loose_nil)) _), trivial⟩, ⟨(loose_fl (fun _ => (loose_cons (loose_int _ _) loose_nil)) _), trivial⟩, ?_⟩
  have h : W (contains_F a1 l0) (fun z => z = y) := W_of hF rfl
  rw [contains_F.eq_1] at h
  refine HT_fr DC_ok rfl fun K hK => ?_; (conv => whnf)
  refine hK _ _ _ ?_; clear hK K
  refine HT_fr DC_ok rfl fun K hK => ?_; (conv => whnf)
  refine callsK_ancR (bs := [.ab _]) (args0 := [.so 0 0 _ 1, _]) h84 [_] h (.cons (WkA_so rfl) (.cons (WkA_wk (Wk.refl _) (loose_int _ _)) .nil)) ⟨⟨_, rfl, bkW _⟩, trivial⟩ rfl (nle rfl) (fun y e => (⟨_, _, _, rfl, rfl, e, rfl, rfl⟩ : index_S _ _ _ _)) (fun _ h => ?_); (conv => whnf)
  refine hK _ _ _ ?_; clear hK K
  refine HT_ret ?_
  replace h := W_some h
  refine PostC_r DC_ok fun K hK => ?_; (conv => whnf)
  refine hK _ ?_; clear hK K
  cases h
  exact ⟨Wk.refl _, ⟨_, rfl, bkW _⟩, trivial⟩
end Go.Proofs.YtlmboonbfhkfnaaDoor
namespace Go.Proofs.YtlmboonbfhkfnaaDoor
open Go Go.Eng
set_option maxHeartbeats 0
set_option maxRecDepth 100000
def extend_b1 (f9002 : Int → (Ar 8) → TOrder → List Int → Option (Option (List Int))) (c1 : Int) (c3 : Ar 8) (c4 : TOrder) (l0 : List Int) (s1 : Int) : Option (Ct Int (Option (List Int))) := cn (decide (s1 < c4.N)) (gd (0 ≤ (l0.getD (wr ((l0.length : Int) - 1)).toNat default) ∧ (l0.getD (wr ((l0.length : Int) - 1)).toNat default) < (8 : Int)) (gd (0 ≤ s1) (cn ((band .i64 (bshr .i64 (c3.at1 (l0.getD (wr ((l0.length : Int) - 1)).toNat default)) s1) 1) == 1) (bd (contains_F s1 l0) fun y2 => cn (!y2) (ap l0 [s1] fun l3 => bd (f9002 c1 c3 c4 l3) fun y4 => cn y4.isSome (some (.rt y4)) (some (.nx (wr (s1 + 1))))) (some (.nx (wr (s1 + 1))))) (some (.nx (wr (s1 + 1))))))) (some (.bk s1))
theorem W_bextend_b1 {f9002 : Int → (Ar 8) → TOrder → List Int → Option (Option (List Int))} {c1 : Int} {c3 : Ar 8} {c4 : TOrder} {l0 : List Int} {s1 : Int} {Φ : Ct Int (Option (List Int)) → Prop} (h : W (extend_b1 f9002 c1 c3 c4 l0 s1) Φ) : W (cn (decide (s1 < c4.N)) (gd (0 ≤ (l0.getD (wr ((l0.length : Int) - 1)).toNat default) ∧ (l0.getD (wr ((l0.length : Int) - 1)).toNat default) < (8 : Int)) (gd (0 ≤ s1) (cn ((band .i64 (bshr .i64 (c3.at1 (l0.getD (wr ((l0.length : Int) - 1)).toNat default)) s1) 1) == 1) (bd (contains_F s1 l0) fun y2 => cn (!y2) (ap l0 [s1] fun l3 => bd (f9002 c1 c3 c4 l3) fun y4 => cn y4.isSome (some (.rt y4)) (some (.nx (wr (s1 + 1))))) (some (.nx (wr (s1 + 1))))) (some (.nx (wr (s1 + 1))))))) (some (.bk s1))) Φ := h
def extend_f (f9002 : Int → (Ar 8) → TOrder → List Int → Option (Option (List Int))) (c1 : Int) (c3 : Ar 8) (c4 : TOrder) (l0 : List Int) : Option (Option (List Int)) := gd ((0 : Int) ≤ wr ((l0.length : Int) - 1) ∧ wr ((l0.length : Int) - 1) < (l0.length : Int)) (cn ((l0.length : Int) == c1) (gd (0 ≤ (l0.getD (wr ((l0.length : Int) - 1)).toNat default) ∧ (l0.getD (wr ((l0.length : Int) - 1)).toNat default) < (8 : Int)) (gd ((0 : Int) ≤ 0 ∧ 0 < (l0.length : Int)) (gd (0 ≤ l0.getD (0 : Int).toNat default) (cn ((band .i64 (bshr .i64 (c3.at1 (l0.getD (wr ((l0.length : Int) - 1)).toNat default)) (l0.getD (0 : Int).toNat default)) 1) == 1) (some (some l0)) (some none))))) (bd (lp (extend_b1 f9002 c1 c3 c4 l0) FU 0) fun c5 => smK c5 (fun s6 => some none) (fun r7 => some r7)))
def extend_F : Nat → Int → (Ar 8) → TOrder → List Int → Option (Option (List Int))
  | 0 => fun _ _ _ _ => none
  | k + 1 => extend_f (extend_F k)
def extend_bs (c1 : Int) (c3 : Ar 8) (c4 : TOrder) (l0 : List Int) : Option (List Int) → List BD
  | some f => [.ab (.cells [eL 1 eI default f]), .fn 66 [.v (.ep [eI c1] 0), .p 0, .v (.ep (cA c3) 0), .v (.ep [eI c4.N, (eL 2 eA46 default) c4.Pairs] 0), .p 1]]
  | none => [.ab (.cells [.top]), .fn 66 [.v (.ep [eI c1] 0), .p 0, .v (.ep (cA c3) 0), .v (.ep [eI c4.N, (eL 2 eA46 default) c4.Pairs] 0), .p 1], .ab (.cells (flE (ceE eI) l0))]
def extend_S (k : Nat) : List AV → List BD → AV → List BD → Prop := fun args bs r bs' => ∃ c1 c3 c4 l0 y, args = [.so 2 0 l0.length 1, .ep [eI c1] 0, .ptr 0 0, .ep (cA c3) 0, .ep [eI c4.N, (eL 2 eA46 default) c4.Pairs] 0, .ptr 1 0] ∧ bs = [.ab (.cells [.top]), .fn 66 [.v (.ep [eI c1] 0), .p 0, .v (.ep (cA c3) 0), .v (.ep [eI c4.N, (eL 2 eA46 default) c4.Pairs] 0), .p 1], .ab (.cells (flE (ceE eI) l0))] ∧ extend_F k c1 c3 c4 l0 = some y ∧ r = eB y.isSome ∧ bs' = extend_bs c1 c3 c4 l0 y
theorem extend_st (k : Nat) {T : Tbl} (hT : TOk Tryd.prog T) (hpf : PfOk T PF) (h67 : T 67 = ancR contains_S) (h66 : T 66 = ancR (extend_S k)) : FOk Tryd.prog 66 (ancR (extend_S (k + 1))) := by
  refine FOk_ancR hT hpf Tryd.func66 rfl Tryd.ntmps66 Tryd.results66 (by decide) ?_
  rintro args bs r bs' ⟨c1, c3, c4, l0, y, rfl, rfl, hF, rfl, rfl⟩
  refine ⟨nle rfl, ?_, (loose_bool _), ⟨all1x loose_top, ⟨(loose_ep (loose_cons (loose_int _ _) loose_nil)), nle rfl, (loose_ep (cA_loose _)), (loose_ep (loose_cons (loose_int _ _) (loose_cons (loose_lst fun _ => (lo_A46 _)) loose_nil))), nle rfl, trivial⟩, (loose_fl (fun _ => (loose_cons (loose_int _ _) loose_nil)) _), trivial⟩, ?_, ?_⟩
  · cases y <;> (unfold extend_bs; exact nle rfl)
  · cases y with
    | none => unfold extend_bs; exact ⟨all1x loose_top, ⟨(loose_ep (loose_cons (loose_int _ _) loose_nil)), nle rfl, (loose_ep (cA_loose _)), (loose_ep (loose_cons (loose_int _ _) (loose_cons (loose_lst fun _ => (lo_A46 _)) loose_nil))), nle rfl, trivial⟩, (loose_fl (fun _ => (loose_cons (loose_int _ _) loose_nil)) _), trivial⟩
    | some f => unfold extend_bs; exact ⟨all1x (loose_lst fun _ => (loose_int _ _)), ⟨(loose_ep (loose_cons (loose_int _ _) loose_nil)), nle rfl, (loose_ep (cA_loose _)), (loose_ep (loose_cons (loose_int _ _) (loose_cons (loose_lst fun _ => (lo_A46 _)) loose_nil))), nle rfl, trivial⟩, trivial⟩
  have h : W (extend_f (extend_F k) c1 c3 c4 l0) (fun z => z = y) := W_of hF rfl
  rw [extend_f.eq_1] at h
  refine HT_fr DC_ok rfl fun K hK => ?_; (conv => whnf)
  refine hK _ _ _ ?_; clear hK K
  refine HT_fr DC_ok rfl fun K hK => ?_; (conv => whnf)
  refine gd_lkN h (rfl) fun hx1 h => ?_; (conv => whnf)
  refine nlA rfl ?_; (conv => whnf)
  refine blkK_of rfl ?_; (conv => whnf)
  refine get_flN (enc := eI) (d := default) (q := 0) (fun _ => rfl) (rfl) hx1 (nle rfl) rfl ?_; (conv => whnf)
  refine hK _ _ _ ?_; clear hK K
  refine HT_seq ?_
  refine HT_fr DC_ok rfl fun K hK => ?_; (conv => whnf)
  refine getK_of rfl ?_; (conv => whnf)
  refine hK _ _ _ ?_; clear hK K
  refine HT_if fun K1 K2 hK1 hK2 => ?_; (conv => whnf)
  refine cond_lk h (fun _ h => ?_) (fun _ h => ?_)
  · refine hK1 ?_; clear hK1 hK2 K1 K2
    refine HT_fr DC_ok rfl fun K hK => ?_; (conv => whnf)
    refine blkK_of rfl ?_; (conv => whnf)
    refine And.intro rfl (And.intro (nle rfl) (And.intro rfl ?_)); (conv => whnf)
    refine hK _ _ _ ?_; clear hK K
    refine HT_fd DC_ok mix_ok rfl (by kernel_rfl) fun K hK => ?_; (conv => whnf)
    refine gd_lk h fun hx2 h => ?_; (conv => whnf)
    refine get_ar1 rfl hx2 ?_; (conv => whnf)
    refine gd_lkN h (rfl) fun hx3 h => ?_; (conv => whnf)
    refine nlA rfl ?_; (conv => whnf)
    refine blkK_of rfl ?_; (conv => whnf)
    refine get_flN (enc := eI) (d := default) (q := 0) (fun _ => rfl) (rfl) hx3 (nle rfl) rfl ?_; (conv => whnf)
    refine gd_lk h fun _ h => ?_; (conv => whnf)
    refine hK _ _ _ ?_; clear hK K
    refine bool_lk h (fun hb h => ?_) (fun hb h => ?_)
    · refine HT_frzBK 2 0 (enc := eI) (e := 3) default (ElOk_one DC_ok rfl rfl rfl (fun _ => ⟨rfl, rfl⟩)) ?_; (conv => whnf); refine ⟨_, _, _, (Nat.ne_of_beq_eq_false rfl), rfl, rfl, rfl, rfl, ?_⟩; (conv => whnf)
      refine HT_ret ?_
      refine Then_r ?_
      replace h := W_some h
      refine PostC_r DC_ok fun K hK => ?_; (conv => whnf)
      refine hK _ ?_; clear hK K
      cases h
      refine And.intro (Wk_b hb) ?_; unfold extend_bs; exact ⟨⟨_, rfl, bkW _⟩, rfl, trivial⟩
    refine HT_ret ?_
    refine Then_r ?_
    replace h := W_some h
    refine PostC_r DC_ok fun K hK => ?_; (conv => whnf)
    refine hK _ ?_; clear hK K
    cases h
    refine And.intro (Wk_b hb) ?_; unfold extend_bs; exact ⟨⟨_, rfl, bkW_cells (.cons Wk_top .nil)⟩, rfl, ⟨_, rfl, bkW _⟩, trivial⟩
  refine hK2 ?_; clear hK1 hK2 K1 K2
  refine HT_skip ?_
  refine Then_n ?_
  refine HT_seq ?_
  refine HT_fr DC_ok rfl fun K hK => ?_; (conv => whnf)
  refine getK_of rfl ?_; (conv => whnf)
  refine hK _ _ _ ?_; clear hK K
  refine HT_soSl 0 rfl fun m hm => ?_
  refine HT_block ?_
  replace h := W_bd h
  refine HT_lpQ (body := extend_b1 _ _ _ _ _) rfl h [0, 3, 5, 8, 31] (fun σ => keepN σ [0, 1] ++ keepH σ [] ++ keepT σ []) (fun σ => keepT σ [] ++ keepH σ [] ++ keepN σ [2]) [] (fun kl kh kr ids b s => ⟨ofL ([(32, eI s)] ++ kl), ofH (([] ++ kh) ++ ([] ++ kr)), b + 64⟩) ?_; (conv => whnf); refine And.intro ?_ (fun s m h => HT_st ?_)
  · refine weak_r ?_; (conv => whnf)
    exact And.intro rfl (And.intro (allL_c wkI (allL_c (WkR.sl (fun _ => rfl)) (allL_c (wkr (loose_ep (cA_loose _))) (allL_c (WkR.ptr (fun _ => rfl)) (allL_c wkI (allL_c wkI allL_n)))))) (allL_c ⟨some _, rfl, BkR_c rfl (CkR_cons (WkR.top _ _) CkR_nil)⟩ (allL_c ⟨some _, rfl, BkR_c rfl (CkR_cons (WkR_fn VsR_nil (VsR_cons (wkr (loose_ep (loose_cons (loose_int _ _) loose_nil))) (VsR_cons (WkR.ptr (fun _ => rfl)) (VsR_cons (wkr (loose_ep (cA_loose _))) (VsR_cons (wkr (loose_ep (loose_cons (loose_int _ _) (loose_cons (loose_lst fun _ => (lo_A46 _)) loose_nil)))) (VsR_cons (WkR.ptr (fun _ => rfl)) VsR_nil)))))) CkR_nil)⟩ (allL_c ⟨some _, rfl, BkR_r rfl (fun _ => (loose_cons (loose_int _ _) loose_nil))⟩ allL_n))))
  replace h := W_bextend_b1 (W_bd h)
  refine HT_fr DC_ok rfl fun K hK => ?_; (conv => whnf)
  refine hK _ _ _ ?_; clear hK K
  refine HT_seq ?_
  refine HT_if fun K1 K2 hK1 hK2 => ?_; (conv => whnf)
  refine cond_lk h (fun _ h => ?_) (fun _ h => ?_)
  · refine hK1 ?_; clear hK1 hK2 K1 K2
    refine HT_skip ?_
    refine Then_n ?_
    refine HT_seq ?_
    refine HT_block ?_
    refine HT_fr DC_ok rfl fun K hK => ?_; (conv => whnf)
    refine hK _ _ _ ?_; clear hK K
    refine HT_fdP (.step 0 (.step 1 (.step 2 (.step 3 (.step 4 (.step 5 (.step 6 (.step 7 (.step 8 (.step 9 (.step 10 (.step 11 (.step 12 (.step 13 (.step 15 (.step 16 (.step 17 (.two 14 18 (.step 18 (.step 19 (.step 20 .nil))) (.step 14 (.step 19 (.step 20 .nil))))))))))))))))))))) DC_ok mix_ok rfl (by kernel_rfl) fun K hK => ?_; (conv => whnf)
    refine gd_lk h fun hx4 h => ?_; (conv => whnf)
    refine get_ar1 rfl hx4 ?_; (conv => whnf)
    refine gd_lk h fun _ h => ?_; (conv => whnf)
    refine cond_lk h (fun _ h => ?_) (fun _ h => ?_) <;> (conv => whnf)
    · refine callsK_ancR (bs := [.ab _]) (args0 := [.so 0 0 _ 1, _]) h67 [_] h (.cons (WkA_sl rfl) (.cons (WkA_wk (Wk.refl _) (loose_int _ _)) .nil)) ⟨⟨_, rfl, bkW _⟩, trivial⟩ rfl (nle rfl) (fun y e => (⟨_, _, _, rfl, rfl, e, rfl, rfl⟩ : contains_S _ _ _ _)) (fun _ h => ?_); (conv => whnf)
      refine cond_lk h (fun _ h => ?_) (fun _ h => ?_) <;> (conv => whnf)
      · refine lt_lk (enc := eI) (d := default) (l := [_]) (f := fun _ => some ()) (Φ := fun _ => True) DC_ok (W_triv _) rfl rfl rfl ⟨nle rfl, nle rfl, rfl⟩ rfl ⟨⟨rfl, rfl, rfl⟩, trivial⟩ (fun _ => ?_); (conv => whnf)
        rcases Nat.lt_or_eq_of_le hm with hmm | hmm
        · refine And.intro ?_ ?_
          · refine nlA rfl ?_; (conv => whnf)
            refine blkK_of rfl ?_; (conv => whnf)
            refine getK_of rfl ?_; (conv => whnf)
            refine app_slI DC_ok h rfl rfl rfl ⟨rfl, nle rfl, nle rfl, rfl⟩ rfl rfl hmm (fun h => ?_); (conv => whnf)
            refine callsK_ancR (bs := [.ab (.cells [.top]), .fn 66 [.v (.ep [eI _] 0), .p 0, .v (.ep (cA _) 0), .v (.ep [eI _, _] 0), .p 1], .ab _]) (args0 := [.so 2 0 _ 1, _, .ptr 0 0, _, _, .ptr 1 0]) h66 [_, _, _] h (.cons (WkA_sl rfl) (.cons (WkA_loose (loose_ep (loose_cons (loose_int _ _) loose_nil))) (.cons (WkA_ptr rfl) (.cons (WkA_loose (loose_ep (cA_loose _))) (.cons (WkA_loose (loose_ep (loose_cons (loose_int _ _) (loose_cons (loose_lst fun _ => (lo_A46 _)) loose_nil)))) (.cons (WkA_ptr rfl) .nil)))))) ⟨⟨_, rfl, bkW _⟩, rfl, ⟨_, rfl, bkW _⟩, trivial⟩ rfl (nle rfl) (fun y e => (⟨_, _, _, _, _, rfl, rfl, e, rfl, rfl⟩ : extend_S _ _ _ _ _)) (fun y h => ?_)
            rcases y with _ | f <;> (conv => whnf)
            · refine hK _ _ _ ?_; clear hK K
              refine HT_if fun K1 K2 hK1 hK2 => ?_; (conv => whnf)
              refine hK2 ?_; clear hK1 hK2 K1 K2
              replace h := W_cnF h
              refine HT_skip ?_
              refine InBlock_n ?_
              refine Then_n ?_
              refine HT_f DC_ok rfl fun K hK => ?_; (conv => whnf)
              refine hK _ _ _ ?_; clear hK K
              refine Then_n ?_
              replace h := W_xnx h
              refine ⟨_, h, ?_⟩
              refine weak_r ?_; (conv => whnf)
              exact And.intro rfl (And.intro (allL_c wkI (allL_c (WkR.sl (fun _ => rfl)) (allL_c (wkr (loose_ep (cA_loose _))) (allL_c (WkR.ptr (fun _ => rfl)) (allL_c wkI (allL_c wkI allL_n)))))) (allL_c ⟨some _, rfl, BkR_c rfl (CkR_cons (WkR.top _ _) CkR_nil)⟩ (allL_c ⟨some _, rfl, BkR_c rfl (CkR_cons (WkR_fn VsR_nil (VsR_cons (wkr (loose_ep (loose_cons (loose_int _ _) loose_nil))) (VsR_cons (WkR.ptr (fun _ => rfl)) (VsR_cons (wkr (loose_ep (cA_loose _))) (VsR_cons (wkr (loose_ep (loose_cons (loose_int _ _) (loose_cons (loose_lst fun _ => (lo_A46 _)) loose_nil)))) (VsR_cons (WkR.ptr (fun _ => rfl)) VsR_nil)))))) CkR_nil)⟩ (allL_c ⟨some _, rfl, BkR_pre rfl⟩ allL_n))))
            refine hK _ _ _ ?_; clear hK K
            refine HT_if fun K1 K2 hK1 hK2 => ?_; (conv => whnf)
            refine hK1 ?_; clear hK1 hK2 K1 K2
            replace h := W_cnT h
            refine HT_fr DC_ok rfl fun K hK => ?_; (conv => whnf)
            refine hK _ _ _ ?_; clear hK K
            refine HT_ret ?_
            refine InBlock_r ?_
            refine Then_r ?_
            refine Then_r ?_
            refine InBlock_r ?_
            refine Then_r ?_
            replace h := W_xrt h
            replace h := W_inr h
            replace h := W_some h
            refine PostC_r DC_ok fun K hK => ?_; (conv => whnf)
            refine hK _ ?_; clear hK K
            cases h
            refine And.intro (Wk.refl _) ?_; unfold extend_bs; exact ⟨⟨_, rfl, bkW _⟩, rfl, trivial⟩
          · refine app_slI DC_ok h rfl rfl rfl ⟨rfl, nle rfl, nle rfl, rfl⟩ rfl rfl hmm (fun h => ?_); (conv => whnf)
            refine nlA rfl ?_; (conv => whnf)
            refine blkK_of rfl ?_; (conv => whnf)
            refine getK_of rfl ?_; (conv => whnf)
            refine callsK_ancR (bs := [.ab (.cells [.top]), .fn 66 [.v (.ep [eI _] 0), .p 0, .v (.ep (cA _) 0), .v (.ep [eI _, _] 0), .p 1], .ab _]) (args0 := [.so 2 0 _ 1, _, .ptr 0 0, _, _, .ptr 1 0]) h66 [_, _, _] h (.cons (WkA_sl rfl) (.cons (WkA_loose (loose_ep (loose_cons (loose_int _ _) loose_nil))) (.cons (WkA_ptr rfl) (.cons (WkA_loose (loose_ep (cA_loose _))) (.cons (WkA_loose (loose_ep (loose_cons (loose_int _ _) (loose_cons (loose_lst fun _ => (lo_A46 _)) loose_nil)))) (.cons (WkA_ptr rfl) .nil)))))) ⟨⟨_, rfl, bkW _⟩, rfl, ⟨_, rfl, bkW _⟩, trivial⟩ rfl (nle rfl) (fun y e => (⟨_, _, _, _, _, rfl, rfl, e, rfl, rfl⟩ : extend_S _ _ _ _ _)) (fun y h => ?_)
            rcases y with _ | f <;> (conv => whnf)
            · refine hK _ _ _ ?_; clear hK K
              refine HT_if fun K1 K2 hK1 hK2 => ?_; (conv => whnf)
              refine hK2 ?_; clear hK1 hK2 K1 K2
              replace h := W_cnF h
              refine HT_skip ?_
              refine InBlock_n ?_
              refine Then_n ?_
              refine HT_f DC_ok rfl fun K hK => ?_; (conv => whnf)
              refine hK _ _ _ ?_; clear hK K
              refine Then_n ?_
              replace h := W_xnx h
              refine ⟨_, h, ?_⟩
              refine weak_r ?_; (conv => whnf)
              exact And.intro rfl (And.intro (allL_c wkI (allL_c (WkR.sl (fun _ => rfl)) (allL_c (wkr (loose_ep (cA_loose _))) (allL_c (WkR.ptr (fun _ => rfl)) (allL_c wkI (allL_c wkI allL_n)))))) (allL_c ⟨some _, rfl, BkR_c rfl (CkR_cons (WkR.top _ _) CkR_nil)⟩ (allL_c ⟨some _, rfl, BkR_c rfl (CkR_cons (WkR_fn VsR_nil (VsR_cons (wkr (loose_ep (loose_cons (loose_int _ _) loose_nil))) (VsR_cons (WkR.ptr (fun _ => rfl)) (VsR_cons (wkr (loose_ep (cA_loose _))) (VsR_cons (wkr (loose_ep (loose_cons (loose_int _ _) (loose_cons (loose_lst fun _ => (lo_A46 _)) loose_nil)))) (VsR_cons (WkR.ptr (fun _ => rfl)) VsR_nil)))))) CkR_nil)⟩ (allL_c ⟨some _, rfl, BkR_pre rfl⟩ allL_n))))
            refine hK _ _ _ ?_; clear hK K
            refine HT_if fun K1 K2 hK1 hK2 => ?_; (conv => whnf)
            refine hK1 ?_; clear hK1 hK2 K1 K2
            replace h := W_cnT h
            refine HT_fr DC_ok rfl fun K hK => ?_; (conv => whnf)
            refine hK _ _ _ ?_; clear hK K
            refine HT_ret ?_
            refine InBlock_r ?_
            refine Then_r ?_
            refine Then_r ?_
            refine InBlock_r ?_
            refine Then_r ?_
            replace h := W_xrt h
            replace h := W_inr h
            replace h := W_some h
            refine PostC_r DC_ok fun K hK => ?_; (conv => whnf)
            refine hK _ ?_; clear hK K
            cases h
            refine And.intro (Wk.refl _) ?_; unfold extend_bs; exact ⟨⟨_, rfl, bkW _⟩, rfl, trivial⟩
        replace hmm := hmm.symm
        refine And.intro ?_ ?_
        · refine nlA rfl ?_; (conv => whnf)
          refine blkK_of rfl ?_; (conv => whnf)
          refine getK_of rfl ?_; (conv => whnf)
          refine app_slM DC_ok h rfl rfl rfl ⟨rfl, nle rfl, nle rfl, rfl⟩ rfl rfl hmm (fun h => ?_); (conv => whnf)
          refine callsK_ancR (bs := [.ab (.cells [.top]), .fn 66 [.v (.ep [eI _] 0), .p 0, .v (.ep (cA _) 0), .v (.ep [eI _, _] 0), .p 1], .ab _]) (args0 := [.so 2 0 _ 1, _, .ptr 0 0, _, _, .ptr 1 0]) h66 [_, _, _] h (.cons (WkA_so rfl) (.cons (WkA_loose (loose_ep (loose_cons (loose_int _ _) loose_nil))) (.cons (WkA_ptr rfl) (.cons (WkA_loose (loose_ep (cA_loose _))) (.cons (WkA_loose (loose_ep (loose_cons (loose_int _ _) (loose_cons (loose_lst fun _ => (lo_A46 _)) loose_nil)))) (.cons (WkA_ptr rfl) .nil)))))) ⟨⟨_, rfl, bkW _⟩, rfl, ⟨_, rfl, bkW _⟩, trivial⟩ rfl (nle rfl) (fun y e => (⟨_, _, _, _, _, rfl, rfl, e, rfl, rfl⟩ : extend_S _ _ _ _ _)) (fun y h => ?_)
          rcases y with _ | f <;> (conv => whnf)
          · refine hK _ _ _ ?_; clear hK K
            refine HT_if fun K1 K2 hK1 hK2 => ?_; (conv => whnf)
            refine hK2 ?_; clear hK1 hK2 K1 K2
            replace h := W_cnF h
            refine HT_skip ?_
            refine InBlock_n ?_
            refine Then_n ?_
            refine HT_f DC_ok rfl fun K hK => ?_; (conv => whnf)
            refine hK _ _ _ ?_; clear hK K
            refine Then_n ?_
            replace h := W_xnx h
            refine ⟨_, h, ?_⟩
            refine weak_r ?_; (conv => whnf)
            exact And.intro rfl (And.intro (allL_c wkI (allL_c (WkR.sl (fun _ => rfl)) (allL_c (wkr (loose_ep (cA_loose _))) (allL_c (WkR.ptr (fun _ => rfl)) (allL_c wkI (allL_c wkI allL_n)))))) (allL_c ⟨some _, rfl, BkR_c rfl (CkR_cons (WkR.top _ _) CkR_nil)⟩ (allL_c ⟨some _, rfl, BkR_c rfl (CkR_cons (WkR_fn VsR_nil (VsR_cons (wkr (loose_ep (loose_cons (loose_int _ _) loose_nil))) (VsR_cons (WkR.ptr (fun _ => rfl)) (VsR_cons (wkr (loose_ep (cA_loose _))) (VsR_cons (wkr (loose_ep (loose_cons (loose_int _ _) (loose_cons (loose_lst fun _ => (lo_A46 _)) loose_nil)))) (VsR_cons (WkR.ptr (fun _ => rfl)) VsR_nil)))))) CkR_nil)⟩ (allL_c ⟨some _, rfl, BkR_r rfl (fun _ => (loose_cons (loose_int _ _) loose_nil))⟩ allL_n))))
          refine hK _ _ _ ?_; clear hK K
          refine HT_if fun K1 K2 hK1 hK2 => ?_; (conv => whnf)
          refine hK1 ?_; clear hK1 hK2 K1 K2
          replace h := W_cnT h
          refine HT_fr DC_ok rfl fun K hK => ?_; (conv => whnf)
          refine hK _ _ _ ?_; clear hK K
          refine HT_ret ?_
          refine InBlock_r ?_
          refine Then_r ?_
          refine Then_r ?_
          refine InBlock_r ?_
          refine Then_r ?_
          replace h := W_xrt h
          replace h := W_inr h
          replace h := W_some h
          refine PostC_r DC_ok fun K hK => ?_; (conv => whnf)
          refine hK _ ?_; clear hK K
          cases h
          refine And.intro (Wk.refl _) ?_; unfold extend_bs; exact ⟨⟨_, rfl, bkW _⟩, rfl, trivial⟩
        · refine app_slM DC_ok h rfl rfl rfl ⟨rfl, nle rfl, nle rfl, rfl⟩ rfl rfl hmm (fun h => ?_); (conv => whnf)
          refine nlA rfl ?_; (conv => whnf)
          refine blkK_of rfl ?_; (conv => whnf)
          refine getK_of rfl ?_; (conv => whnf)
          refine callsK_ancR (bs := [.ab (.cells [.top]), .fn 66 [.v (.ep [eI _] 0), .p 0, .v (.ep (cA _) 0), .v (.ep [eI _, _] 0), .p 1], .ab _]) (args0 := [.so 2 0 _ 1, _, .ptr 0 0, _, _, .ptr 1 0]) h66 [_, _, _] h (.cons (WkA_so rfl) (.cons (WkA_loose (loose_ep (loose_cons (loose_int _ _) loose_nil))) (.cons (WkA_ptr rfl) (.cons (WkA_loose (loose_ep (cA_loose _))) (.cons (WkA_loose (loose_ep (loose_cons (loose_int _ _) (loose_cons (loose_lst fun _ => (lo_A46 _)) loose_nil)))) (.cons (WkA_ptr rfl) .nil)))))) ⟨⟨_, rfl, bkW _⟩, rfl, ⟨_, rfl, bkW _⟩, trivial⟩ rfl (nle rfl) (fun y e => (⟨_, _, _, _, _, rfl, rfl, e, rfl, rfl⟩ : extend_S _ _ _ _ _)) (fun y h => ?_)
          rcases y with _ | f <;> (conv => whnf)
          · refine hK _ _ _ ?_; clear hK K
            refine HT_if fun K1 K2 hK1 hK2 => ?_; (conv => whnf)
            refine hK2 ?_; clear hK1 hK2 K1 K2
            replace h := W_cnF h
            refine HT_skip ?_
            refine InBlock_n ?_
            refine Then_n ?_
            refine HT_f DC_ok rfl fun K hK => ?_; (conv => whnf)
            refine hK _ _ _ ?_; clear hK K
            refine Then_n ?_
            replace h := W_xnx h
            refine ⟨_, h, ?_⟩
            refine weak_r ?_; (conv => whnf)
            exact And.intro rfl (And.intro (allL_c wkI (allL_c (WkR.sl (fun _ => rfl)) (allL_c (wkr (loose_ep (cA_loose _))) (allL_c (WkR.ptr (fun _ => rfl)) (allL_c wkI (allL_c wkI allL_n)))))) (allL_c ⟨some _, rfl, BkR_c rfl (CkR_cons (WkR.top _ _) CkR_nil)⟩ (allL_c ⟨some _, rfl, BkR_c rfl (CkR_cons (WkR_fn VsR_nil (VsR_cons (wkr (loose_ep (loose_cons (loose_int _ _) loose_nil))) (VsR_cons (WkR.ptr (fun _ => rfl)) (VsR_cons (wkr (loose_ep (cA_loose _))) (VsR_cons (wkr (loose_ep (loose_cons (loose_int _ _) (loose_cons (loose_lst fun _ => (lo_A46 _)) loose_nil)))) (VsR_cons (WkR.ptr (fun _ => rfl)) VsR_nil)))))) CkR_nil)⟩ (allL_c ⟨some _, rfl, BkR_r rfl (fun _ => (loose_cons (loose_int _ _) loose_nil))⟩ allL_n))))
          refine hK _ _ _ ?_; clear hK K
          refine HT_if fun K1 K2 hK1 hK2 => ?_; (conv => whnf)
          refine hK1 ?_; clear hK1 hK2 K1 K2
          replace h := W_cnT h
          refine HT_fr DC_ok rfl fun K hK => ?_; (conv => whnf)
          refine hK _ _ _ ?_; clear hK K
          refine HT_ret ?_
          refine InBlock_r ?_
          refine Then_r ?_
          refine Then_r ?_
          refine InBlock_r ?_
          refine Then_r ?_
          replace h := W_xrt h
          replace h := W_inr h
          replace h := W_some h
          refine PostC_r DC_ok fun K hK => ?_; (conv => whnf)
          refine hK _ ?_; clear hK K
          cases h
          refine And.intro (Wk.refl _) ?_; unfold extend_bs; exact ⟨⟨_, rfl, bkW _⟩, rfl, trivial⟩
      refine And.intro ?_ ?_
      · refine hK _ _ _ ?_; clear hK K
        refine HT_if fun K1 K2 hK1 hK2 => ?_; (conv => whnf)
        refine hK2 ?_; clear hK1 hK2 K1 K2
        refine HT_skip ?_
        refine InBlock_n ?_
        refine Then_n ?_
        refine HT_f DC_ok rfl fun K hK => ?_; (conv => whnf)
        refine hK _ _ _ ?_; clear hK K
        refine Then_n ?_
        replace h := W_xnx h
        refine ⟨_, h, ?_⟩
        refine weak_r ?_; (conv => whnf)
        exact And.intro rfl (And.intro (allL_c wkI (allL_c (WkR.sl (fun _ => rfl)) (allL_c (wkr (loose_ep (cA_loose _))) (allL_c (WkR.ptr (fun _ => rfl)) (allL_c wkI (allL_c wkI allL_n)))))) (allL_c ⟨some _, rfl, BkR_c rfl (CkR_cons (WkR.top _ _) CkR_nil)⟩ (allL_c ⟨some _, rfl, BkR_c rfl (CkR_cons (WkR_fn VsR_nil (VsR_cons (wkr (loose_ep (loose_cons (loose_int _ _) loose_nil))) (VsR_cons (WkR.ptr (fun _ => rfl)) (VsR_cons (wkr (loose_ep (cA_loose _))) (VsR_cons (wkr (loose_ep (loose_cons (loose_int _ _) (loose_cons (loose_lst fun _ => (lo_A46 _)) loose_nil)))) (VsR_cons (WkR.ptr (fun _ => rfl)) VsR_nil)))))) CkR_nil)⟩ (allL_c ⟨some _, rfl, BkR_r rfl (fun _ => (loose_cons (loose_int _ _) loose_nil))⟩ allL_n))))
      · refine hK _ _ _ ?_; clear hK K
        refine HT_if fun K1 K2 hK1 hK2 => ?_; (conv => whnf)
        refine hK2 ?_; clear hK1 hK2 K1 K2
        refine HT_skip ?_
        refine InBlock_n ?_
        refine Then_n ?_
        refine HT_f DC_ok rfl fun K hK => ?_; (conv => whnf)
        refine hK _ _ _ ?_; clear hK K
        refine Then_n ?_
        replace h := W_xnx h
        refine ⟨_, h, ?_⟩
        refine weak_r ?_; (conv => whnf)
        exact And.intro rfl (And.intro (allL_c wkI (allL_c (WkR.sl (fun _ => rfl)) (allL_c (wkr (loose_ep (cA_loose _))) (allL_c (WkR.ptr (fun _ => rfl)) (allL_c wkI (allL_c wkI allL_n)))))) (allL_c ⟨some _, rfl, BkR_c rfl (CkR_cons (WkR.top _ _) CkR_nil)⟩ (allL_c ⟨some _, rfl, BkR_c rfl (CkR_cons (WkR_fn VsR_nil (VsR_cons (wkr (loose_ep (loose_cons (loose_int _ _) loose_nil))) (VsR_cons (WkR.ptr (fun _ => rfl)) (VsR_cons (wkr (loose_ep (cA_loose _))) (VsR_cons (wkr (loose_ep (loose_cons (loose_int _ _) (loose_cons (loose_lst fun _ => (lo_A46 _)) loose_nil)))) (VsR_cons (WkR.ptr (fun _ => rfl)) VsR_nil)))))) CkR_nil)⟩ (allL_c ⟨some _, rfl, BkR_r rfl (fun _ => (loose_cons (loose_int _ _) loose_nil))⟩ allL_n))))
    refine And.intro ?_ ?_
    · refine hK _ _ _ ?_; clear hK K
      refine HT_if fun K1 K2 hK1 hK2 => ?_; (conv => whnf)
      refine hK2 ?_; clear hK1 hK2 K1 K2
      refine HT_skip ?_
      refine InBlock_n ?_
      refine Then_n ?_
      refine HT_f DC_ok rfl fun K hK => ?_; (conv => whnf)
      refine hK _ _ _ ?_; clear hK K
      refine Then_n ?_
      replace h := W_xnx h
      refine ⟨_, h, ?_⟩
      refine weak_r ?_; (conv => whnf)
      exact And.intro rfl (And.intro (allL_c wkI (allL_c (WkR.sl (fun _ => rfl)) (allL_c (wkr (loose_ep (cA_loose _))) (allL_c (WkR.ptr (fun _ => rfl)) (allL_c wkI (allL_c wkI allL_n)))))) (allL_c ⟨some _, rfl, BkR_c rfl (CkR_cons (WkR.top _ _) CkR_nil)⟩ (allL_c ⟨some _, rfl, BkR_c rfl (CkR_cons (WkR_fn VsR_nil (VsR_cons (wkr (loose_ep (loose_cons (loose_int _ _) loose_nil))) (VsR_cons (WkR.ptr (fun _ => rfl)) (VsR_cons (wkr (loose_ep (cA_loose _))) (VsR_cons (wkr (loose_ep (loose_cons (loose_int _ _) (loose_cons (loose_lst fun _ => (lo_A46 _)) loose_nil)))) (VsR_cons (WkR.ptr (fun _ => rfl)) VsR_nil)))))) CkR_nil)⟩ (allL_c ⟨some _, rfl, BkR_r rfl (fun _ => (loose_cons (loose_int _ _) loose_nil))⟩ allL_n))))
    · refine hK _ _ _ ?_; clear hK K
      refine HT_if fun K1 K2 hK1 hK2 => ?_; (conv => whnf)
      refine hK2 ?_; clear hK1 hK2 K1 K2
      refine HT_skip ?_
      refine InBlock_n ?_
      refine Then_n ?_
      refine HT_f DC_ok rfl fun K hK => ?_; (conv => whnf)
      refine hK _ _ _ ?_; clear hK K
      refine Then_n ?_
      replace h := W_xnx h
      refine ⟨_, h, ?_⟩
      refine weak_r ?_; (conv => whnf)
      exact And.intro rfl (And.intro (allL_c wkI (allL_c (WkR.sl (fun _ => rfl)) (allL_c (wkr (loose_ep (cA_loose _))) (allL_c (WkR.ptr (fun _ => rfl)) (allL_c wkI (allL_c wkI allL_n)))))) (allL_c ⟨some _, rfl, BkR_c rfl (CkR_cons (WkR.top _ _) CkR_nil)⟩ (allL_c ⟨some _, rfl, BkR_c rfl (CkR_cons (WkR_fn VsR_nil (VsR_cons (wkr (loose_ep (loose_cons (loose_int _ _) loose_nil))) (VsR_cons (WkR.ptr (fun _ => rfl)) (VsR_cons (wkr (loose_ep (cA_loose _))) (VsR_cons (wkr (loose_ep (loose_cons (loose_int _ _) (loose_cons (loose_lst fun _ => (lo_A46 _)) loose_nil)))) (VsR_cons (WkR.ptr (fun _ => rfl)) VsR_nil)))))) CkR_nil)⟩ (allL_c ⟨some _, rfl, BkR_r rfl (fun _ => (loose_cons (loose_int _ _) loose_nil))⟩ allL_n))))
  refine hK2 ?_; clear hK1 hK2 K1 K2
  refine HT_exit ?_
  refine Then_e ?_
  refine Then_e ?_
  refine InBlock_e ?_
  replace h := W_xbk h
  replace h := W_inl h
  refine Then_n ?_
  refine HT_fr DC_ok rfl fun K hK => ?_; (conv => whnf)
  refine hK _ _ _ ?_; clear hK K
  refine HT_ret ?_
  replace h := W_some h
  refine PostC_r DC_ok fun K hK => ?_; (conv => whnf)
  refine hK _ ?_; clear hK K
  cases h
  refine And.intro (Wk.refl _) ?_; unfold extend_bs; exact ⟨⟨_, rfl, bkW _⟩, rfl, ⟨_, rfl, bkW _⟩, trivial⟩
theorem extend_ok {T : Tbl} (hT : TOk Tryd.prog T) (hpf : PfOk T PF) (h67 : T 67 = ancR contains_S) : FOk Tryd.prog 66 (ancR (extend_S 10)) :=
  FOk_fuel (S := extend_S) hT hpf (by decide) Tryd.func66 rfl (by decide) (by rintro a b c d ⟨c1, c3, c4, l0, y, -, -, h, -⟩; cases h) (fun k T' hT' hpf' hne h => extend_st k hT' hpf' ((hne 67 (by decide)).trans h67) h) 10
end Go.Proofs.YtlmboonbfhkfnaaDoor
namespace Go.Proofs.YtlmboonbfhkfnaaDoor
open Go Go.Eng
set_option maxHeartbeats 0
set_option maxRecDepth 100000
def order_Cycle_b3 (a0 : TOrder) (s6 : Int × (Ar 8)) (s8 : Int) (s9 : Int) : Option (Ct Int ((List Int) × Bool)) := cn (decide (s9 < a0.N)) (lt ([s9] : List Int) fun l10 =>
    bd (extend_F 10 s8 s6.2 a0 l10) fun y11 => cn y11.isSome (gd ((y11.getD []).length ≤ 1048576) (lt (y11.getD []) fun m12 =>
    some (.rt (m12, true)))) (some (.nx (wr (s9 + 1))))) (some (.bk s9))
theorem W_border_Cycle_b3 {a0 : TOrder} {s6 : Int × (Ar 8)} {s8 : Int} {s9 : Int} {Φ : Ct Int ((List Int) × Bool) → Prop} (h : W (order_Cycle_b3 a0 s6 s8 s9) Φ) : W (cn (decide (s9 < a0.N)) (lt ([s9] : List Int) fun l10 => bd (extend_F 10 s8 s6.2 a0 l10) fun y11 => cn y11.isSome (gd ((y11.getD []).length ≤ 1048576) (lt (y11.getD []) fun m12 =>
    some (.rt (m12, true)))) (some (.nx (wr (s9 + 1))))) (some (.bk s9))) Φ := h
def order_Cycle_b2 (a0 : TOrder) (s6 : Int × (Ar 8)) (s8 : Int) : Option (Ct Int ((List Int) × Bool)) := cn (decide (s8 ≤ a0.N)) (bd (lp (order_Cycle_b3 a0 s6 s8) FU 0) fun c13 =>
    smK c13 (fun s14 => some (.nx (wr (s8 + 1)))) (fun r15 => some (.rt r15))) (some (.bk s8))
theorem W_border_Cycle_b2 {a0 : TOrder} {s6 : Int × (Ar 8)} {s8 : Int} {Φ : Ct Int ((List Int) × Bool) → Prop} (h : W (order_Cycle_b2 a0 s6 s8) Φ) : W (cn (decide (s8 ≤ a0.N)) (bd (lp (order_Cycle_b3 a0 s6 s8) FU 0) fun c13 => smK c13 (fun s14 => some (.nx (wr (s8 + 1)))) (fun r15 => some (.rt r15))) (some (.bk s8))) Φ := h

    def order_Cycle_b1 (a0 : TOrder) (s2 : Int × (Ar 8)) : Option (Ct (Int × (Ar 8)) ((List Int) × Bool)) := cn (decide (s2.1 < (a0.Pairs.length : Int))) (ix a0.Pairs default s2.1 fun e3 =>
    gd (0 ≤ e3.1 ∧ e3.1 < (8 : Int)) (gd (0 ≤ e3.2) (gd (0 ≤ e3.1 ∧ e3.1 < (8 : Int)) (let m4 := s2.2.st1 e3.1 (bor .i64 (s2.2.at1 e3.1) (bshl .i64 1 e3.2));
    some (.nx ((wr (s2.1 + 1)), m4)))))) (some (.bk (s2.1, s2.2)))
theorem W_border_Cycle_b1 {a0 : TOrder} {s2 : Int × (Ar 8)} {Φ : Ct (Int × (Ar 8)) ((List Int) × Bool) → Prop} (h : W (order_Cycle_b1 a0 s2) Φ) : W (cn (decide (s2.1 < (a0.Pairs.length : Int))) (ix a0.Pairs default s2.1 fun e3 =>
    gd (0 ≤ e3.1 ∧ e3.1 < (8 : Int)) (gd (0 ≤ e3.2) (gd (0 ≤ e3.1 ∧ e3.1 < (8 : Int)) (let m4 := s2.2.st1 e3.1 (bor .i64 (s2.2.at1 e3.1) (bshl .i64 1 e3.2));
    some (.nx ((wr (s2.1 + 1)), m4)))))) (some (.bk (s2.1, s2.2)))) Φ := h
def order_Cycle_F (a0 : TOrder) : Option ((List Int) × Bool) := bd (order_Formed_F a0) fun y1 =>
    cn (!y1) (some ([], false)) (bd (lp (order_Cycle_b1 a0) FU (0, (Ar.zero 8))) fun c5 => smK c5 (fun s6 => bd (lp (order_Cycle_b2 a0 s6) FU 2) fun c16 => smK c16 (fun s17 =>
    some ([], false)) (fun r18 => some r18)) (fun r7 => some r7))
def order_Cycle_S : List AV → AV → Prop := fun args r => ∃ a0, args = [eTOrder a0] ∧ W (order_Cycle_F a0) fun y => r = (.tup [(eL 1 eI default) y.1, eB y.2])
theorem order_Cycle_ok {T : Tbl} (hT : TOk Tryd.prog T) (hpf : PfOk T PF) (h33 : T 33 = pureR order_Formed_S) (h60 : T 60 = cloneR 1 eI default) (h66 : T 66 = ancR (extend_S 10)) : FOk Tryd.prog 32 (pureR order_Cycle_S) := by
  refine FOk_pure hT hpf Tryd.func32 rfl Tryd.ntmps32 Tryd.results32 (by decide) ?_
  rintro args r ⟨a0, rfl, h⟩
  refine ⟨nle rfl, ?_, ?_⟩
  · exact (loose_cons (lo_TOrder _) loose_nil)
  rw [order_Cycle_F.eq_1] at h
  refine HT_fr DC_ok rfl fun K hK => ?_; (conv => whnf)
  refine hK _ _ _ ?_; clear hK K
  refine HT_seq ?_
  refine HT_fr DC_ok rfl fun K hK => ?_; (conv => whnf)
  refine nlA rfl ?_; (conv => whnf)
  refine blkK_of rfl ?_; (conv => whnf)
  refine nlA rfl ?_; (conv => whnf)
  replace h := W_bd h
  refine order_Formed_call h33 h (WkL.refl _) (fun _ h => ?_); (conv => whnf)
  refine hK _ _ _ ?_; clear hK K
  refine HT_if fun K1 K2 hK1 hK2 => ?_; (conv => whnf)
  refine cond_lk h (fun _ h => ?_) (fun _ h => ?_)
  · refine hK1 ?_; clear hK1 hK2 K1 K2
    refine HT_fr DC_ok rfl fun K hK => ?_; (conv => whnf)
    refine hK _ _ _ ?_; clear hK K
    refine HT_ret ?_
    refine Then_r ?_
    replace h := W_some h
    refine PostP_r DC_ok fun K hK => ?_; (conv => whnf)
    refine hK _ ?_; clear hK K
    cases h
    exact Wk_tup (WkL_cons Wk_nil (WkL_cons (Wk.refl _) WkL_nil))
  refine hK2 ?_; clear hK1 hK2 K1 K2
  refine HT_skip ?_
  refine Then_n ?_
  refine HT_fr DC_ok rfl fun K hK => ?_; (conv => whnf)
  refine hK _ _ _ ?_; clear hK K
  refine HT_seq ?_
  refine HT_fr DC_ok rfl fun K hK => ?_; (conv => whnf)
  refine nlA rfl ?_; (conv => whnf)
  refine blkK_of rfl ?_; (conv => whnf)
  refine getK_of rfl ?_; (conv => whnf)
  refine hK _ _ _ ?_; clear hK K
  refine HT_block ?_
  replace h := W_bd h
  refine HT_lpR (body := order_Cycle_b1 _) rfl h [1, 4, 15, 16] [1] [] [4] (fun kl kh kr ids b s => ⟨ofL ([(17, eI s.1)] ++ kl), ofH (([] ++ kh) ++ ([(nthN ids 0, .cells (cA s.2))] ++ kr)), b + 128⟩) ?_; (conv => whnf); refine And.intro ?_ (fun s m h => HT_st ?_)
  · refine weak_r ?_; (conv => whnf)
    exact And.intro rfl (And.intro (allL_c wkI (allL_c (WkR.ptr (fun _ => rfl)) (allL_c (WkR.ptr (fun _ => rfl)) (allL_c (wkr (loose_lst fun _ => (lo_A46 _))) (allL_c wkI allL_n))))) (allL_c ⟨some _, rfl, BkR_c rfl (CkR_cons wkI (CkR_cons (wkr (loose_lst fun _ => (lo_A46 _))) CkR_nil))⟩ (allL_c ⟨some _, rfl, BkR_arr (x := (Ar.zero 8)) rfl rfl⟩ allL_n)))
  replace h := W_border_Cycle_b1 (W_bd h)
  refine HT_fr DC_ok rfl fun K hK => ?_; (conv => whnf)
  refine hK _ _ _ ?_; clear hK K
  refine HT_seq ?_
  refine HT_if fun K1 K2 hK1 hK2 => ?_; (conv => whnf)
  refine cond_lk h (fun _ h => ?_) (fun _ h => ?_)
  · refine hK1 ?_; clear hK1 hK2 K1 K2
    refine HT_skip ?_
    refine Then_n ?_
    refine HT_seq ?_
    refine HT_block ?_
    refine HT_fr DC_ok rfl fun K hK => ?_; (conv => whnf)
    refine ix_lk h fun _ h => ?_; (conv => whnf)
    refine nlA rfl ?_; (conv => whnf)
    refine blkK_of rfl ?_; (conv => whnf)
    refine And.intro rfl (And.intro (nle rfl) (And.intro rfl ?_)); (conv => whnf)
    refine hK _ _ _ ?_; clear hK K
    refine HT_fD DC_ok mix_ok rfl (by kernel_rfl) fun K hK => ?_; (conv => whnf)
    refine And.intro (by decide) ?_; (conv => whnf)
    refine nlA rfl ?_; (conv => whnf)
    refine blkK_of rfl ?_; (conv => whnf)
    refine getK_of rfl ?_; (conv => whnf)
    refine gd_lk h fun hx27 h => ?_; (conv => whnf)
    refine nlA rfl ?_; (conv => whnf)
    refine blkK_of rfl ?_; (conv => whnf)
    refine get_ar1 rfl hx27 ?_; (conv => whnf)
    refine And.intro (by decide) ?_; (conv => whnf)
    refine nlA rfl ?_; (conv => whnf)
    refine blkK_of rfl ?_; (conv => whnf)
    refine getK_of rfl ?_; (conv => whnf)
    refine gd_lk h fun _ h => ?_; (conv => whnf)
    refine gd_lk h fun hx28 h => ?_; (conv => whnf)
    refine blkK_of rfl ?_; (conv => whnf)
    refine st_ar1 rfl hx28 rfl rfl ?_; (conv => whnf)
    refine hK _ _ _ ?_; clear hK K
    refine InBlock_n ?_
    refine Then_n ?_
    refine HT_f DC_ok rfl fun K hK => ?_; (conv => whnf)
    refine hK _ _ _ ?_; clear hK K
    refine Then_n ?_
    replace h := W_xnx h
    refine ⟨_, h, ?_⟩
    refine weak_r ?_; (conv => whnf)
    exact And.intro rfl (And.intro (allL_c wkI (allL_c (WkR.ptr (fun _ => rfl)) (allL_c (WkR.ptr (fun _ => rfl)) (allL_c (wkr (loose_lst fun _ => (lo_A46 _))) (allL_c wkI allL_n))))) (allL_c ⟨some _, rfl, BkR_c rfl (CkR_cons wkI (CkR_cons (wkr (loose_lst fun _ => (lo_A46 _))) CkR_nil))⟩ (allL_c ⟨some _, rfl, BkR_arr rfl rfl⟩ allL_n)))
  refine hK2 ?_; clear hK1 hK2 K1 K2
  refine HT_exit ?_
  refine Then_e ?_
  refine Then_e ?_
  refine InBlock_e ?_
  replace h := W_xbk h
  replace h := W_inl h
  refine Then_n ?_
  refine HT_seq ?_
  refine HT_fr DC_ok rfl fun K hK => ?_; (conv => whnf)
  refine blkK_of rfl ?_; (conv => whnf)
  refine And.intro rfl (And.intro (nle rfl) (And.intro rfl ?_)); (conv => whnf)
  refine hK _ _ _ ?_; clear hK K
  refine HT_frzK 1 ?_; (conv => whnf); refine ⟨_, rfl, ?_⟩
  refine HT_frzK 4 ?_; (conv => whnf); refine ⟨_, rfl, ?_⟩
  refine HT_block ?_
  replace h := W_bd h
  refine HT_lpK (body := order_Cycle_b2 _ _) rfl h [1, 4, 7] [] [7] (fun kl kh ids b s => ⟨ofL ([] ++ kl), ofH ([(nthN ids 0, .cells [eI s])] ++ kh), b + 64⟩) ?_; (conv => whnf); refine And.intro ?_ (fun s m h => HT_st ?_)
  · refine weak_k ?_; (conv => whnf)
    exact And.intro rfl (And.intro (allL_c (wkr (loose_ep (loose_cons (loose_int _ _) (loose_cons (loose_lst fun _ => (lo_A46 _)) loose_nil)))) (allL_c (wkr (loose_ep (cA_loose _))) (allL_c (WkR.ptr (fun _ => rfl)) allL_n))) (allL_c ⟨some _, rfl, BkR_c rfl (CkR_cons wkI CkR_nil)⟩ allL_n))
  replace h := W_border_Cycle_b2 (W_bd h)
  refine HT_seq ?_
  refine HT_fr DC_ok rfl fun K hK => ?_; (conv => whnf)
  refine nlA rfl ?_; (conv => whnf)
  refine blkK_of rfl ?_; (conv => whnf)
  refine getK_of rfl ?_; (conv => whnf)
  refine getK_of rfl ?_; (conv => whnf)
  refine hK _ _ _ ?_; clear hK K
  refine HT_if fun K1 K2 hK1 hK2 => ?_; (conv => whnf)
  refine cond_lk h (fun _ h => ?_) (fun _ h => ?_)
  · refine hK1 ?_; clear hK1 hK2 K1 K2
    refine HT_skip ?_
    refine Then_n ?_
    refine HT_seq ?_
    refine HT_block ?_
    refine HT_fr DC_ok rfl fun K hK => ?_; (conv => whnf)
    refine hK _ _ _ ?_; clear hK K
    refine HT_fr DC_ok rfl fun K hK => ?_; (conv => whnf)
    refine hK _ _ _ ?_; clear hK K
    refine HT_frzK 7 ?_; (conv => whnf); refine ⟨_, rfl, ?_⟩
    refine HT_fr DC_ok rfl fun K hK => ?_; (conv => whnf)
    refine blkK_of rfl ?_; (conv => whnf)
    refine And.intro rfl (And.intro (nle rfl) (And.intro rfl ?_)); (conv => whnf)
    refine hK _ _ _ ?_; clear hK K
    refine HT_topB 9 rfl rfl ?_
    refine HT_fr DC_ok rfl fun K hK => ?_; (conv => whnf)
    refine getK_of rfl ?_; (conv => whnf)
    refine hK _ _ _ ?_; clear hK K
    refine HT_block ?_
    replace h := W_bd h
    refine HT_lpK (body := order_Cycle_b3 _ _ _) rfl h [1, 4, 7, 8, 9, 39] [8, 9] [] (fun kl kh ids b s => ⟨ofL ([(40, eI s)] ++ kl), ofH ([] ++ kh), b + 64⟩) ?_; (conv => whnf); refine And.intro ?_ (fun s m h => HT_st ?_)
    · refine weak_k ?_; (conv => whnf)
      exact And.intro rfl (And.intro (allL_c wkI (allL_c (wkr (loose_ep (loose_cons (loose_int _ _) (loose_cons (loose_lst fun _ => (lo_A46 _)) loose_nil)))) (allL_c (wkr (loose_ep (cA_loose _))) (allL_c (wkr (loose_ep (loose_cons (loose_int _ _) loose_nil))) (allL_c (WkR.ptr (fun _ => rfl)) (allL_c (WkR.ptr (fun _ => rfl)) (allL_c wkI allL_n))))))) (allL_c ⟨some _, rfl, BkR_c rfl (CkR_cons (WkR_fn VsR_nil (VsR_cons (wkr (loose_ep (loose_cons (loose_int _ _) loose_nil))) (VsR_cons (WkR.ptr (fun _ => rfl)) (VsR_cons (wkr (loose_ep (cA_loose _))) (VsR_cons (wkr (loose_ep (loose_cons (loose_int _ _) (loose_cons (loose_lst fun _ => (lo_A46 _)) loose_nil)))) (VsR_cons (WkR.ptr (fun _ => rfl)) VsR_nil)))))) CkR_nil)⟩ (allL_c ⟨some _, rfl, BkR_c rfl (CkR_cons (WkR.top _ _) CkR_nil)⟩ allL_n)))
    replace h := W_border_Cycle_b3 (W_bd h)
    refine HT_fr DC_ok rfl fun K hK => ?_; (conv => whnf)
    refine hK _ _ _ ?_; clear hK K
    refine HT_seq ?_
    refine HT_if fun K1 K2 hK1 hK2 => ?_; (conv => whnf)
    refine cond_lk h (fun _ h => ?_) (fun _ h => ?_)
    · refine hK1 ?_; clear hK1 hK2 K1 K2
      refine HT_skip ?_
      refine Then_n ?_
      refine HT_seq ?_
      refine HT_block ?_
      refine HT_fr DC_ok rfl fun K hK => ?_; (conv => whnf)
      refine hK _ _ _ ?_; clear hK K
      refine HT_fr DC_ok rfl fun K hK => ?_; (conv => whnf)
      refine nlA rfl ?_; (conv => whnf)
      refine blkK_of rfl ?_; (conv => whnf)
      refine getK_of rfl ?_; (conv => whnf)
      refine lto_lk (enc := eI) DC_ok h rfl rfl rfl ⟨nle rfl, nle rfl, rfl⟩ rfl (WkL_cons (Wk.refl _) WkL_nil) (fun h => ?_); (conv => whnf)
      refine callsK_ancR (bs := [.ab (.cells [.top]), .fn 66 [.v (.ep [eI _] 0), .p 0, .v (.ep (cA _) 0), .v (.ep [eI _, _] 0), .p 1], .ab _]) (args0 := [.so 2 0 _ 1, _, .ptr 0 0, _, _, .ptr 1 0]) h66 [_, _, _] h (.cons (WkA_so rfl) (.cons (WkA_loose (loose_ep (loose_cons (loose_int _ _) loose_nil))) (.cons (WkA_ptr rfl) (.cons (WkA_loose (loose_ep (cA_loose _))) (.cons (WkA_loose (loose_ep (loose_cons (loose_int _ _) (loose_cons (loose_lst fun _ => (lo_A46 _)) loose_nil)))) (.cons (WkA_ptr rfl) .nil)))))) ⟨⟨_, rfl, bkW _⟩, rfl, ⟨_, rfl, bkW _⟩, trivial⟩ rfl (nle rfl) (fun y e => (⟨_, _, _, _, _, rfl, rfl, e, rfl, rfl⟩ : extend_S 10 _ _ _ _)) (fun y h => ?_)
      rcases y with _ | f <;> (conv => whnf)
      · replace h := W_cnF h
        refine hK _ _ _ ?_; clear hK K
        refine HT_if fun K1 K2 hK1 hK2 => ?_; (conv => whnf)
        refine hK2 ?_; clear hK1 hK2 K1 K2
        refine HT_skip ?_
        refine InBlock_n ?_
        refine Then_n ?_
        refine HT_f DC_ok rfl fun K hK => ?_; (conv => whnf)
        refine hK _ _ _ ?_; clear hK K
        refine Then_n ?_
        replace h := W_xnx h
        refine ⟨_, h, ?_⟩
        refine weak_k ?_; (conv => whnf)
        exact And.intro rfl (And.intro (allL_c wkI (allL_c (wkr (loose_ep (loose_cons (loose_int _ _) (loose_cons (loose_lst fun _ => (lo_A46 _)) loose_nil)))) (allL_c (wkr (loose_ep (cA_loose _))) (allL_c (wkr (loose_ep (loose_cons (loose_int _ _) loose_nil))) (allL_c (WkR.ptr (fun _ => rfl)) (allL_c (WkR.ptr (fun _ => rfl)) (allL_c wkI allL_n))))))) (allL_c ⟨some _, rfl, BkR_c rfl (CkR_cons (WkR_fn VsR_nil (VsR_cons (wkr (loose_ep (loose_cons (loose_int _ _) loose_nil))) (VsR_cons (WkR.ptr (fun _ => rfl)) (VsR_cons (wkr (loose_ep (cA_loose _))) (VsR_cons (wkr (loose_ep (loose_cons (loose_int _ _) (loose_cons (loose_lst fun _ => (lo_A46 _)) loose_nil)))) (VsR_cons (WkR.ptr (fun _ => rfl)) VsR_nil)))))) CkR_nil)⟩ (allL_c ⟨some _, rfl, BkR_c rfl (CkR_cons (WkR.top _ _) CkR_nil)⟩ allL_n)))
      replace h := W_cnT h
      refine hK _ _ _ ?_; clear hK K
      refine HT_if fun K1 K2 hK1 hK2 => ?_; (conv => whnf)
      refine hK1 ?_; clear hK1 hK2 K1 K2
      refine HT_fr DC_ok rfl fun K hK => ?_; (conv => whnf)
      refine nlA rfl ?_; (conv => whnf)
      refine blkK_of rfl ?_; (conv => whnf)
      refine getK_of rfl ?_; (conv => whnf)
      refine gd_lk_u h fun hg h => ?_
      replace h := W_lt h
      refine callaK_clone h60 (WkL_cons (Wk.refl _) WkL_nil) hg (fun _ => (loose_cons (loose_int _ _) loose_nil)) ?_; (conv => whnf)
      refine hK _ _ _ ?_; clear hK K
      refine HT_frzSK 2 (enc := eI) (e := 3) default (ElOk_one DC_ok rfl rfl rfl (fun _ => ⟨rfl, rfl⟩)) ?_; (conv => whnf); refine ⟨_, _, rfl, rfl, rfl, ?_⟩
      refine HT_ret ?_
      refine InBlock_r ?_
      refine Then_r ?_
      refine Then_r ?_
      refine InBlock_r ?_
      refine InBlock_r ?_
      refine Then_r ?_
      refine Then_r ?_
      refine InBlock_r ?_
      refine Then_r ?_
      replace h := W_xrt h
      replace h := W_inr h
      replace h := W_xrt h
      replace h := W_inr h
      replace h := W_some h
      refine PostP_r DC_ok fun K hK => ?_; (conv => whnf)
      refine hK _ ?_; clear hK K
      cases h
      exact Wk.refl _
    refine hK2 ?_; clear hK1 hK2 K1 K2
    refine HT_exit ?_
    refine Then_e ?_
    refine Then_e ?_
    refine InBlock_e ?_
    replace h := W_xbk h
    replace h := W_inl h
    refine InBlock_n ?_
    refine Then_n ?_
    refine HT_seq ?_
    refine HT_fr DC_ok rfl fun K hK => ?_; (conv => whnf)
    refine getK_of rfl ?_; (conv => whnf)
    refine hK _ _ _ ?_; clear hK K
    refine HT_f DC_ok rfl fun K hK => ?_; (conv => whnf)
    refine blkK_of rfl ?_; (conv => whnf)
    refine And.intro rfl (And.intro (nle rfl) (And.intro rfl ?_)); (conv => whnf)
    refine hK _ _ _ ?_; clear hK K
    refine Then_n ?_
    refine HT_f DC_ok rfl fun K hK => ?_; (conv => whnf)
    refine nlA rfl ?_; (conv => whnf)
    refine blkK_of rfl ?_; (conv => whnf)
    refine getK_of rfl ?_; (conv => whnf)
    refine blkK_of rfl ?_; (conv => whnf)
    refine And.intro rfl (And.intro (nle rfl) (And.intro rfl ?_)); (conv => whnf)
    refine hK _ _ _ ?_; clear hK K
    refine Then_n ?_
    replace h := W_xnx h
    refine ⟨_, h, ?_⟩
    refine weak_k ?_; (conv => whnf)
    exact And.intro rfl (And.intro (allL_c (wkr (loose_ep (loose_cons (loose_int _ _) (loose_cons (loose_lst fun _ => (lo_A46 _)) loose_nil)))) (allL_c (wkr (loose_ep (cA_loose _))) (allL_c (WkR.ptr (fun _ => rfl)) allL_n))) (allL_c ⟨some _, rfl, BkR_c rfl (CkR_cons wkI CkR_nil)⟩ allL_n))
  refine hK2 ?_; clear hK1 hK2 K1 K2
  refine HT_exit ?_
  refine Then_e ?_
  refine Then_e ?_
  refine InBlock_e ?_
  replace h := W_xbk h
  replace h := W_inl h
  refine Then_n ?_
  refine HT_fr DC_ok rfl fun K hK => ?_; (conv => whnf)
  refine hK _ _ _ ?_; clear hK K
  refine HT_ret ?_
  replace h := W_some h
  refine PostP_r DC_ok fun K hK => ?_; (conv => whnf)
  refine hK _ ?_; clear hK K
  cases h
  exact Wk_tup (WkL_cons Wk_nil (WkL_cons (Wk.refl _) WkL_nil))
theorem order_Cycle_call {T : Tbl} (hT : T 32 = pureR order_Cycle_S) {args : List AV} {hp : Heap} {id : Nat} {k : AV → Prop} {a0 : TOrder} {Φ : (List Int) × Bool → Prop} (h : W (order_Cycle_F a0) Φ) (hw : WkL args [eTOrder a0]) (hk : ∀ y, Φ y → k (.tup [(eL 1 eI default) y.1, eB y.2])) : callpK T 32 args hp id k := by
  obtain ⟨y, e, hy⟩ := W_inv h
  exact callpK_pure hT ⟨a0, rfl, W_of e rfl⟩ (by exact loose_tup (loose_cons (loose_lst fun _ => (loose_int _ _)) (loose_cons (loose_bool _) loose_nil))) hw (hk y hy)
end Go.Proofs.YtlmboonbfhkfnaaDoor
namespace Go.Proofs.YtlmboonbfhkfnaaDoor
open Go Go.Eng
set_option maxHeartbeats 0
set_option maxRecDepth 100000

    def order_Levels_b2 (a0 : TOrder) (e5 : Int) (y1 : (Ar 8) × Bool) (s6 : Int × (List Int)) : Option (Ct (Int × (List Int)) ((List Int) × Int)) := cn (decide (s6.1 < a0.N)) (gd (0 ≤ e5 ∧ e5 < (8 : Int)) (gd (0 ≤ s6.1) (jn (fun p7 : (List Int) =>
    some (.nx ((wr (s6.1 + 1)), p7))) fun k8 => cn ((band .i64 (bshr .i64 (y1.1.at1 e5) s6.1) 1) ==
    1) (gd ((0 : Int) ≤ e5 ∧ e5 < (s6.2.length : Int)) (gd ((0 : Int) ≤ s6.1 ∧ s6.1 < (s6.2.length : Int)) (gd ((0 : Int) ≤ e5 ∧ e5 < (s6.2.length : Int)) (st s6.2 (e5) (imax (s6.2.getD (e5).toNat default) (wr ((s6.2.getD (s6.1).toNat default) + 1))) fun l9 =>
    k8 l9)))) (k8 s6.2)))) (some (.bk (s6.1, s6.2)))
theorem W_border_Levels_b2 {a0 : TOrder} {e5 : Int} {y1 : (Ar 8) × Bool} {s6 : Int × (List Int)} {Φ : Ct (Int × (List Int)) ((List Int) × Int) → Prop} (h : W (order_Levels_b2 a0 e5 y1 s6) Φ) : W (cn (decide (s6.1 < a0.N)) (gd (0 ≤ e5 ∧ e5 < (8 : Int)) (gd (0 ≤ s6.1) (jn (fun p7 : (List Int) => some (.nx ((wr (s6.1 + 1)), p7))) fun k8 =>
    cn ((band .i64 (bshr .i64 (y1.1.at1 e5) s6.1) 1) ==
    1) (gd ((0 : Int) ≤ e5 ∧ e5 < (s6.2.length : Int)) (gd ((0 : Int) ≤ s6.1 ∧ s6.1 < (s6.2.length : Int)) (gd ((0 : Int) ≤ e5 ∧ e5 < (s6.2.length : Int)) (st s6.2 (e5) (imax (s6.2.getD (e5).toNat default) (wr ((s6.2.getD (s6.1).toNat default) + 1))) fun l9 =>
    k8 l9)))) (k8 s6.2)))) (some (.bk (s6.1, s6.2)))) Φ := h

    def order_Levels_b1 (a0 : TOrder) (y1 : (Ar 8) × Bool) (y3 : List Int) (s4 : Int × (List Int)) : Option (Ct (Int × (List Int)) ((List Int) × Int)) := cn (decide (s4.1 < (y3.length : Int))) (ix y3 default s4.1 fun e5 =>
    bd (lp (order_Levels_b2 a0 e5 y1) FU (0, s4.2)) fun c10 => smK c10 (fun s11 => some (.nx ((wr (s4.1 + 1)), s11.2))) (fun r12 => some (.rt r12))) (some (.bk (s4.1, s4.2)))
theorem W_border_Levels_b1 {a0 : TOrder} {y1 : (Ar 8) × Bool} {y3 : List Int} {s4 : Int × (List Int)} {Φ : Ct (Int × (List Int)) ((List Int) × Int) → Prop} (h : W (order_Levels_b1 a0 y1 y3 s4) Φ) : W (cn (decide (s4.1 < (y3.length : Int))) (ix y3 default s4.1 fun e5 => bd (lp (order_Levels_b2 a0 e5 y1) FU (0, s4.2)) fun c10 => smK c10 (fun s11 =>
    some (.nx ((wr (s4.1 + 1)), s11.2))) (fun r12 => some (.rt r12))) (some (.bk (s4.1, s4.2)))) Φ := h
def order_Levels_F (a0 : TOrder) : Option ((List Int) × Int) := bd (order_read_F a0) fun y1 =>
    cn (!y1.2) (some ([], 70)) (gd ((0 : Int) ≤ a0.N ∧ a0.N ≤ (1048576 : Int)) (lt (List.replicate (a0.N).toNat (0 : Int)) fun l2 => bd (order_line_F a0.N y1.1) fun y3 =>
    bd (lp (order_Levels_b1 a0 y1 y3) FU (0, l2)) fun c13 => smK c13 (fun s14 => some (s14.2, 0)) (fun r15 => some r15)))
def order_Levels_S : List AV → AV → Prop := fun args r => ∃ a0, args = [eTOrder a0] ∧ W (order_Levels_F a0) fun y => r = (.tup [(eL 1 eI default) y.1, eI y.2])
theorem order_Levels_ok {T : Tbl} (hT : TOk Tryd.prog T) (hpf : PfOk T PF) (h54 : T 54 = pureR order_read_S) (h57 : T 57 = pureR order_line_S) : FOk Tryd.prog 28 (pureR order_Levels_S) := by
  refine FOk_pure hT hpf Tryd.func28 rfl Tryd.ntmps28 Tryd.results28 (by decide) ?_
  rintro args r ⟨a0, rfl, h⟩
  refine ⟨nle rfl, ?_, ?_⟩
  · exact (loose_cons (lo_TOrder _) loose_nil)
  rw [order_Levels_F.eq_1] at h
  refine HT_fr DC_ok rfl fun K hK => ?_; (conv => whnf)
  refine hK _ _ _ ?_; clear hK K
  refine HT_fr DC_ok rfl fun K hK => ?_; (conv => whnf)
  refine nlA rfl ?_; (conv => whnf)
  refine blkK_of rfl ?_; (conv => whnf)
  refine nlA rfl ?_; (conv => whnf)
  replace h := W_bd h
  refine order_read_call h54 h (WkL.refl _) (fun _ h => ?_); (conv => whnf)
  refine forceL_skip ?_; (conv => whnf)
  refine forceL_skip ?_; (conv => whnf)
  refine forceL_skip ?_; (conv => whnf)
  refine blkK_of rfl ?_; (conv => whnf)
  refine sw_ar rfl rfl rfl ?_; (conv => whnf)
  refine hK _ _ _ ?_; clear hK K
  refine HT_seq ?_
  refine HT_fr DC_ok rfl fun K hK => ?_; (conv => whnf)
  refine hK _ _ _ ?_; clear hK K
  refine HT_if fun K1 K2 hK1 hK2 => ?_; (conv => whnf)
  refine cond_lk h (fun _ h => ?_) (fun _ h => ?_)
  · refine hK1 ?_; clear hK1 hK2 K1 K2
    refine HT_fr DC_ok rfl fun K hK => ?_; (conv => whnf)
    refine hK _ _ _ ?_; clear hK K
    refine HT_ret ?_
    refine Then_r ?_
    replace h := W_some h
    refine PostP_r DC_ok fun K hK => ?_; (conv => whnf)
    refine hK _ ?_; clear hK K
    cases h
    exact Wk_tup (WkL_cons Wk_nil (WkL_cons (Wk.refl _) WkL_nil))
  refine hK2 ?_; clear hK1 hK2 K1 K2
  refine HT_skip ?_
  refine Then_n ?_
  refine HT_fr DC_ok rfl fun K hK => ?_; (conv => whnf)
  refine nlA rfl ?_; (conv => whnf)
  refine blkK_of rfl ?_; (conv => whnf)
  refine getK_of rfl ?_; (conv => whnf)
  refine mks_lk (enc := eI) DC_ok (0 : Int) h rfl rfl ⟨nle rfl, nle rfl, rfl⟩ rfl (fun h => ?_); (conv => whnf)
  refine hK _ _ _ ?_; clear hK K
  refine HT_seq ?_
  refine HT_fr DC_ok rfl fun K hK => ?_; (conv => whnf)
  refine nlA rfl ?_; (conv => whnf)
  refine blkK_of rfl ?_; (conv => whnf)
  refine getK_of rfl ?_; (conv => whnf)
  refine nlA rfl ?_; (conv => whnf)
  refine blkK_of rfl ?_; (conv => whnf)
  refine ld_ar rfl ?_; (conv => whnf)
  refine forceL_skip ?_; (conv => whnf)
  replace h := W_bd h
  refine order_line_call h57 h (WkL.refl _) (fun _ h => ?_); (conv => whnf)
  refine hK _ _ _ ?_; clear hK K
  refine HT_block ?_
  replace h := W_bd h
  refine HT_lpR (body := order_Levels_b1 _ _ _) rfl h [1, 4, 23, 24] [1] [4] [] (fun kl kh kr ids b s => ⟨ofL ([(25, eI s.1), (6, .so (b + 0) 0 s.2.length 1)] ++ kl), ofH (([] ++ kh) ++ ([(b + 0, .cells (flE (ceE eI) s.2))] ++ kr)), b + 128⟩) ?_; (conv => whnf); refine And.intro ?_ (fun s m h => HT_st ?_)
  · refine weak_r ?_; (conv => whnf)
    exact And.intro rfl (And.intro (allL_c wkI (allL_c (WkR.so (fun _ => rfl)) (allL_c (WkR.ptr (fun _ => rfl)) (allL_c (WkR.ptr (fun _ => rfl)) (allL_c (wkr (loose_lst fun _ => (loose_int _ _))) (allL_c wkI allL_n)))))) (allL_c ⟨some _, rfl, BkR_c rfl (CkR_cons wkI (CkR_cons (wkr (loose_lst fun _ => (lo_A46 _))) CkR_nil))⟩ (allL_c ⟨some _, rfl, BkR_r rfl (fun _ => (loose_cons (loose_int _ _) loose_nil))⟩ (allL_c ⟨some _, rfl, BkR_arr rfl rfl⟩ allL_n))))
  replace h := W_border_Levels_b1 (W_bd h)
  refine HT_fr DC_ok rfl fun K hK => ?_; (conv => whnf)
  refine hK _ _ _ ?_; clear hK K
  refine HT_seq ?_
  refine HT_if fun K1 K2 hK1 hK2 => ?_; (conv => whnf)
  refine cond_lk h (fun _ h => ?_) (fun _ h => ?_)
  · refine hK1 ?_; clear hK1 hK2 K1 K2
    refine HT_skip ?_
    refine Then_n ?_
    refine HT_seq ?_
    refine HT_block ?_
    refine HT_fr DC_ok rfl fun K hK => ?_; (conv => whnf)
    refine ix_lk h fun _ h => ?_; (conv => whnf)
    refine getK_of rfl ?_; (conv => whnf)
    refine hK _ _ _ ?_; clear hK K
    refine HT_fr DC_ok rfl fun K hK => ?_; (conv => whnf)
    refine nlA rfl ?_; (conv => whnf)
    refine blkK_of rfl ?_; (conv => whnf)
    refine getK_of rfl ?_; (conv => whnf)
    refine hK _ _ _ ?_; clear hK K
    refine HT_block ?_
    replace h := W_bd h
    refine HT_lpR (body := order_Levels_b2 _ _ _) rfl h [1, 4, 8, 23, 24, 25, 30] [1] [4] [] (fun kl kh kr ids b s => ⟨ofL ([(31, eI s.1), (6, .so (b + 0) 0 s.2.length 1)] ++ kl), ofH (([] ++ kh) ++ ([(b + 0, .cells (flE (ceE eI) s.2))] ++ kr)), b + 128⟩) ?_; (conv => whnf); refine And.intro ?_ (fun s m h => HT_st ?_)
    · refine weak_r ?_; (conv => whnf)
      exact And.intro rfl (And.intro (allL_c wkI (allL_c (WkR.so (fun _ => rfl)) (allL_c (WkR.ptr (fun _ => rfl)) (allL_c (WkR.ptr (fun _ => rfl)) (allL_c wkI (allL_c (wkr (loose_lst fun _ => (loose_int _ _))) (allL_c wkI (allL_c wkI (allL_c wkI allL_n))))))))) (allL_c ⟨some _, rfl, BkR_c rfl (CkR_cons wkI (CkR_cons (wkr (loose_lst fun _ => (lo_A46 _))) CkR_nil))⟩ (allL_c ⟨some _, rfl, BkR_r rfl (fun _ => (loose_cons (loose_int _ _) loose_nil))⟩ (allL_c ⟨some _, rfl, BkR_arr rfl rfl⟩ allL_n))))
    replace h := W_border_Levels_b2 (W_bd h)
    refine HT_fr DC_ok rfl fun K hK => ?_; (conv => whnf)
    refine hK _ _ _ ?_; clear hK K
    refine HT_seq ?_
    refine HT_if fun K1 K2 hK1 hK2 => ?_; (conv => whnf)
    refine cond_lk h (fun _ h => ?_) (fun _ h => ?_)
    · refine hK1 ?_; clear hK1 hK2 K1 K2
      refine HT_skip ?_
      refine Then_n ?_
      refine HT_seq ?_
      refine HT_block ?_
      refine HT_fr DC_ok rfl fun K hK => ?_; (conv => whnf)
      refine hK _ _ _ ?_; clear hK K
      refine HT_fr DC_ok rfl fun K hK => ?_; (conv => whnf)
      refine gd_lk h fun hx1359 h => ?_; (conv => whnf)
      refine nlA rfl ?_; (conv => whnf)
      refine blkK_of rfl ?_; (conv => whnf)
      refine get_ar1 rfl hx1359 ?_; (conv => whnf)
      refine gd_lk h fun _ h => ?_; (conv => whnf)
      refine hK _ _ _ ?_; clear hK K
      replace h := W_jn h
      refine HT_if fun K1 K2 hK1 hK2 => ?_; (conv => whnf)
      refine cond_lk h (fun _ h => ?_) (fun _ h => ?_)
      · refine hK1 ?_; clear hK1 hK2 K1 K2
        refine HT_fD DC_ok mix_ok rfl (by kernel_rfl) fun K hK => ?_; (conv => whnf)
        refine gd_lkN h (rfl) fun hx1363 h => ?_; (conv => whnf)
        refine nlA rfl ?_; (conv => whnf)
        refine blkK_of rfl ?_; (conv => whnf)
        refine get_flN (enc := eI) (d := default) (q := 0) (fun _ => rfl) (rfl) hx1363 (nle rfl) rfl ?_; (conv => whnf)
        refine gd_lkN h (rfl) fun hx1364 h => ?_; (conv => whnf)
        refine nlA rfl ?_; (conv => whnf)
        refine blkK_of rfl ?_; (conv => whnf)
        refine get_flN (enc := eI) (d := default) (q := 0) (fun _ => rfl) (rfl) hx1364 (nle rfl) rfl ?_; (conv => whnf)
        refine gd_lkN h (rfl) fun hx1365 h => ?_; (conv => whnf)
        refine blkK_of rfl ?_; (conv => whnf)
        refine st_lk (enc := eI) (d := default) (q := 0) h (fun _ => rfl) (rfl) hx1365 rfl (nle rfl) rfl rfl (fun h => ?_); (conv => whnf)
        refine hK _ _ _ ?_; clear hK K
        refine InBlock_n ?_
        refine Then_n ?_
        refine HT_f DC_ok rfl fun K hK => ?_; (conv => whnf)
        refine hK _ _ _ ?_; clear hK K
        refine Then_n ?_
        replace h := W_xnx h
        refine ⟨_, h, ?_⟩
        refine weak_r ?_; (conv => whnf)
        exact And.intro rfl (And.intro (allL_c wkI (allL_c (WkR.soN (fun _ => rfl) (lenset rfl).symm) (allL_c (WkR.ptr (fun _ => rfl)) (allL_c (WkR.ptr (fun _ => rfl)) (allL_c wkI (allL_c (wkr (loose_lst fun _ => (loose_int _ _))) (allL_c wkI (allL_c wkI (allL_c wkI allL_n))))))))) (allL_c ⟨some _, rfl, BkR_c rfl (CkR_cons wkI (CkR_cons (wkr (loose_lst fun _ => (lo_A46 _))) CkR_nil))⟩ (allL_c ⟨some _, rfl, BkR_r rfl (fun _ => (loose_cons (loose_int _ _) loose_nil))⟩ (allL_c ⟨some _, rfl, BkR_arr rfl rfl⟩ allL_n))))
      refine hK2 ?_; clear hK1 hK2 K1 K2
      refine HT_skip ?_
      refine InBlock_n ?_
      refine Then_n ?_
      refine HT_f DC_ok rfl fun K hK => ?_; (conv => whnf)
      refine hK _ _ _ ?_; clear hK K
      refine Then_n ?_
      replace h := W_xnx h
      refine ⟨_, h, ?_⟩
      refine weak_r ?_; (conv => whnf)
      exact And.intro rfl (And.intro (allL_c wkI (allL_c (WkR.so (fun _ => rfl)) (allL_c (WkR.ptr (fun _ => rfl)) (allL_c (WkR.ptr (fun _ => rfl)) (allL_c wkI (allL_c (wkr (loose_lst fun _ => (loose_int _ _))) (allL_c wkI (allL_c wkI (allL_c wkI allL_n))))))))) (allL_c ⟨some _, rfl, BkR_c rfl (CkR_cons wkI (CkR_cons (wkr (loose_lst fun _ => (lo_A46 _))) CkR_nil))⟩ (allL_c ⟨some _, rfl, BkR_r rfl (fun _ => (loose_cons (loose_int _ _) loose_nil))⟩ (allL_c ⟨some _, rfl, BkR_arr rfl rfl⟩ allL_n))))
    refine hK2 ?_; clear hK1 hK2 K1 K2
    refine HT_exit ?_
    refine Then_e ?_
    refine Then_e ?_
    refine InBlock_e ?_
    replace h := W_xbk h
    replace h := W_inl h
    refine InBlock_n ?_
    refine Then_n ?_
    refine HT_f DC_ok rfl fun K hK => ?_; (conv => whnf)
    refine hK _ _ _ ?_; clear hK K
    refine Then_n ?_
    replace h := W_xnx h
    refine ⟨_, h, ?_⟩
    refine weak_r ?_; (conv => whnf)
    exact And.intro rfl (And.intro (allL_c wkI (allL_c (WkR.so (fun _ => rfl)) (allL_c (WkR.ptr (fun _ => rfl)) (allL_c (WkR.ptr (fun _ => rfl)) (allL_c (wkr (loose_lst fun _ => (loose_int _ _))) (allL_c wkI allL_n)))))) (allL_c ⟨some _, rfl, BkR_c rfl (CkR_cons wkI (CkR_cons (wkr (loose_lst fun _ => (lo_A46 _))) CkR_nil))⟩ (allL_c ⟨some _, rfl, BkR_r rfl (fun _ => (loose_cons (loose_int _ _) loose_nil))⟩ (allL_c ⟨some _, rfl, BkR_arr rfl rfl⟩ allL_n))))
  refine hK2 ?_; clear hK1 hK2 K1 K2
  refine HT_exit ?_
  refine Then_e ?_
  refine Then_e ?_
  refine InBlock_e ?_
  replace h := W_xbk h
  replace h := W_inl h
  refine Then_n ?_
  refine HT_fr DC_ok rfl fun K hK => ?_; (conv => whnf)
  refine hK _ _ _ ?_; clear hK K
  refine HT_frzSK 2 (enc := eI) (e := 3) default (ElOk_one DC_ok rfl rfl rfl (fun _ => ⟨rfl, rfl⟩)) ?_; (conv => whnf); refine ⟨_, _, rfl, rfl, rfl, ?_⟩
  refine HT_ret ?_
  replace h := W_some h
  refine PostP_r DC_ok fun K hK => ?_; (conv => whnf)
  refine hK _ ?_; clear hK K
  cases h
  exact Wk.refl _
theorem order_Levels_call {T : Tbl} (hT : T 28 = pureR order_Levels_S) {args : List AV} {hp : Heap} {id : Nat} {k : AV → Prop} {a0 : TOrder} {Φ : (List Int) × Int → Prop} (h : W (order_Levels_F a0) Φ) (hw : WkL args [eTOrder a0]) (hk : ∀ y, Φ y → k (.tup [(eL 1 eI default) y.1, eI y.2])) : callpK T 28 args hp id k := by
  obtain ⟨y, e, hy⟩ := W_inv h
  exact callpK_pure hT ⟨a0, rfl, W_of e rfl⟩ (by exact loose_tup (loose_cons (loose_lst fun _ => (loose_int _ _)) (loose_cons (loose_int _ _) loose_nil))) hw (hk y hy)

    def order_Antichain_b2 (y1 : (Ar 8) × Bool) (y3 : List Int) (s4 : Int × Int) : Option (Ct (Int × Int) ((List Int) × Int)) := cn (decide (s4.2 < (y3.length : Int))) (ix y3 default s4.2 fun e5 =>
    gd (0 ≤ e5 ∧ e5 < (8 : Int)) (let v6 := (bor .i64 s4.1 (y1.1.at1 e5)); some (.nx (v6, (wr (s4.2 + 1)))))) (some (.bk (s4.1, s4.2)))
theorem W_border_Antichain_b2 {y1 : (Ar 8) × Bool} {y3 : List Int} {s4 : Int × Int} {Φ : Ct (Int × Int) ((List Int) × Int) → Prop} (h : W (order_Antichain_b2 y1 y3 s4) Φ) : W (cn (decide (s4.2 < (y3.length : Int))) (ix y3 default s4.2 fun e5 => gd (0 ≤ e5 ∧ e5 < (8 : Int)) (let v6 := (bor .i64 s4.1 (y1.1.at1 e5));
    some (.nx (v6, (wr (s4.2 + 1)))))) (some (.bk (s4.1, s4.2)))) Φ := h

    def order_Antichain_b1 (a0 : TOrder) (y1 : (Ar 8) × Bool) (s2 : (List Int) × Int) : Option (Ct ((List Int) × Int) ((List Int) × Int)) := cn (decide (s2.2 < (bshl .i64 1 a0.N))) (bd (order_things_F s2.2) fun y3 =>
    bd (lp (order_Antichain_b2 y1 y3) FU (0, 0)) fun c7 => smK c7 (fun s8 => jn (fun p10 : Bool => jn (fun p16 : (List Int) => some (.nx (p16, (wr (s2.2 + 1))))) fun k17 =>
    cn p10 (k17 y3) (k17 s2.1)) fun k11 => cn ((band .i64 s8.1 s2.2) == 0) (bd (cmp_Compare_int_F (s2.1.length : Int) (y3.length : Int)) fun y12 =>
    bd (slices_Compare_int_F y3 s2.1) fun y13 => lt ([y12, y13] : List Int) fun l14 => bd (cmp_Or_int_F l14) fun y15 => k11 (decide (y15 < 0))) (k11 false)) (fun r9 =>
    some (.rt r9))) (some (.bk (s2.1, s2.2)))
theorem W_border_Antichain_b1 {a0 : TOrder} {y1 : (Ar 8) × Bool} {s2 : (List Int) × Int} {Φ : Ct ((List Int) × Int) ((List Int) × Int) → Prop} (h : W (order_Antichain_b1 a0 y1 s2) Φ) : W (cn (decide (s2.2 < (bshl .i64 1 a0.N))) (bd (order_things_F s2.2) fun y3 => bd (lp (order_Antichain_b2 y1 y3) FU (0, 0)) fun c7 => smK c7 (fun s8 => jn (fun p10 : Bool =>
    jn (fun p16 : (List Int) => some (.nx (p16, (wr (s2.2 + 1))))) fun k17 => cn p10 (k17 y3) (k17 s2.1)) fun k11 => cn ((band .i64 s8.1 s2.2) ==
    0) (bd (cmp_Compare_int_F (s2.1.length : Int) (y3.length : Int)) fun y12 => bd (slices_Compare_int_F y3 s2.1) fun y13 => lt ([y12, y13] : List Int) fun l14 =>
    bd (cmp_Or_int_F l14) fun y15 => k11 (decide (y15 < 0))) (k11 false)) (fun r9 => some (.rt r9))) (some (.bk (s2.1, s2.2)))) Φ := h
def order_Antichain_F (a0 : TOrder) : Option ((List Int) × Int) := bd (order_read_F a0) fun y1 =>
    cn (!y1.2) (some ([], 70)) (gd (0 ≤ a0.N) (bd (lp (order_Antichain_b1 a0 y1) FU ([], 0)) fun c18 => smK c18 (fun s19 => some (s19.1, 0)) (fun r20 => some r20)))
def order_Antichain_S : List AV → AV → Prop := fun args r => ∃ a0, args = [eTOrder a0] ∧ W (order_Antichain_F a0) fun y => r = (.tup [(eL 1 eI default) y.1, eI y.2])
theorem order_Antichain_ok {T : Tbl} (hT : TOk Tryd.prog T) (hpf : PfOk T PF) (h54 : T 54 = pureR order_read_S) (h61 : T 61 = pureR order_things_S) (h62 : T 62 = pureR cmp_Or_int_S) (h63 : T 63 = pureR cmp_Compare_int_S) (h64 : T 64 = pureR slices_Compare_int_S) : FOk Tryd.prog 30 (pureR order_Antichain_S) := by
  refine FOk_pure hT hpf Tryd.func30 rfl Tryd.ntmps30 Tryd.results30 (by decide) ?_
  rintro args r ⟨a0, rfl, h⟩
  refine ⟨nle rfl, ?_, ?_⟩
  · exact (loose_cons (lo_TOrder _) loose_nil)
  rw [order_Antichain_F.eq_1] at h
  refine HT_fr DC_ok rfl fun K hK => ?_; (conv => whnf)
  refine hK _ _ _ ?_; clear hK K
  refine HT_fr DC_ok rfl fun K hK => ?_; (conv => whnf)
  refine nlA rfl ?_; (conv => whnf)
  refine blkK_of rfl ?_; (conv => whnf)
  refine nlA rfl ?_; (conv => whnf)
  replace h := W_bd h
  refine order_read_call h54 h (WkL.refl _) (fun _ h => ?_); (conv => whnf)
  refine forceL_skip ?_; (conv => whnf)
  refine forceL_skip ?_; (conv => whnf)
  refine forceL_skip ?_; (conv => whnf)
  refine blkK_of rfl ?_; (conv => whnf)
  refine sw_ar rfl rfl rfl ?_; (conv => whnf)
  refine hK _ _ _ ?_; clear hK K
  refine HT_seq ?_
  refine HT_fr DC_ok rfl fun K hK => ?_; (conv => whnf)
  refine hK _ _ _ ?_; clear hK K
  refine HT_if fun K1 K2 hK1 hK2 => ?_; (conv => whnf)
  refine cond_lk h (fun _ h => ?_) (fun _ h => ?_)
  · refine hK1 ?_; clear hK1 hK2 K1 K2
    refine HT_fr DC_ok rfl fun K hK => ?_; (conv => whnf)
    refine hK _ _ _ ?_; clear hK K
    refine HT_ret ?_
    refine Then_r ?_
    replace h := W_some h
    refine PostP_r DC_ok fun K hK => ?_; (conv => whnf)
    refine hK _ ?_; clear hK K
    cases h
    exact Wk_tup (WkL_cons Wk_nil (WkL_cons (Wk.refl _) WkL_nil))
  refine hK2 ?_; clear hK1 hK2 K1 K2
  refine HT_skip ?_
  refine Then_n ?_
  refine HT_fr DC_ok rfl fun K hK => ?_; (conv => whnf)
  refine hK _ _ _ ?_; clear hK K
  refine HT_seq ?_
  refine HT_fr DC_ok rfl fun K hK => ?_; (conv => whnf)
  refine nlA rfl ?_; (conv => whnf)
  refine blkK_of rfl ?_; (conv => whnf)
  refine getK_of rfl ?_; (conv => whnf)
  refine gd_lk h fun _ h => ?_; (conv => whnf)
  refine hK _ _ _ ?_; clear hK K
  refine HT_block ?_
  replace h := W_bd h
  refine HT_lpR (body := order_Antichain_b1 _ _) rfl h [4, 21] [] [4] [] (fun kl kh kr ids b s => ⟨ofL ([(6, (eL 1 eI default) s.1), (22, eI s.2)] ++ kl), ofH (([] ++ kh) ++ ([] ++ kr)), b + 64⟩) ?_; (conv => whnf); refine And.intro ?_ (fun s m h => HT_st ?_)
  · refine weak_r ?_; (conv => whnf)
    exact And.intro rfl (And.intro (allL_c (WkR.wk Wk_nil (loose_lst fun _ => (loose_int _ _))) (allL_c wkI (allL_c (WkR.ptr (fun _ => rfl)) (allL_c wkI allL_n)))) (allL_c ⟨some _, rfl, BkR_arr rfl rfl⟩ allL_n))
  replace h := W_border_Antichain_b1 (W_bd h)
  refine HT_fr DC_ok rfl fun K hK => ?_; (conv => whnf)
  refine hK _ _ _ ?_; clear hK K
  refine HT_seq ?_
  refine HT_if fun K1 K2 hK1 hK2 => ?_; (conv => whnf)
  refine cond_lk h (fun _ h => ?_) (fun _ h => ?_)
  · refine hK1 ?_; clear hK1 hK2 K1 K2
    refine HT_skip ?_
    refine Then_n ?_
    refine HT_seq ?_
    refine HT_block ?_
    refine HT_fr DC_ok rfl fun K hK => ?_; (conv => whnf)
    refine hK _ _ _ ?_; clear hK K
    refine HT_fr DC_ok rfl fun K hK => ?_; (conv => whnf)
    replace h := W_bd h
    refine order_things_call h61 h (WkL.refl _) (fun _ h => ?_); (conv => whnf)
    refine hK _ _ _ ?_; clear hK K
    refine HT_seq ?_
    refine HT_fr DC_ok rfl fun K hK => ?_; (conv => whnf)
    refine hK _ _ _ ?_; clear hK K
    refine HT_block ?_
    replace h := W_bd h
    refine HT_lpR (body := order_Antichain_b2 _ _) rfl h [4, 6, 7, 9, 21, 22, 27, 28] [] [4] [] (fun kl kh kr ids b s => ⟨ofL ([(8, eI s.1), (29, eI s.2)] ++ kl), ofH (([] ++ kh) ++ ([] ++ kr)), b + 64⟩) ?_; (conv => whnf); refine And.intro ?_ (fun s m h => HT_st ?_)
    · refine weak_r ?_; (conv => whnf)
      exact And.intro rfl (And.intro (allL_c wkI (allL_c wkI (allL_c (WkR.ptr (fun _ => rfl)) (allL_c (wkr (loose_lst fun _ => (loose_int _ _))) (allL_c wkI (allL_c (wkr (loose_lst fun _ => (loose_int _ _))) (allL_c wkI (allL_c wkI (allL_c (wkr (loose_lst fun _ => (loose_int _ _))) (allL_c wkI allL_n)))))))))) (allL_c ⟨some _, rfl, BkR_arr rfl rfl⟩ allL_n))
    replace h := W_border_Antichain_b2 (W_bd h)
    refine HT_fr DC_ok rfl fun K hK => ?_; (conv => whnf)
    refine hK _ _ _ ?_; clear hK K
    refine HT_seq ?_
    refine HT_if fun K1 K2 hK1 hK2 => ?_; (conv => whnf)
    refine cond_lk h (fun _ h => ?_) (fun _ h => ?_)
    · refine hK1 ?_; clear hK1 hK2 K1 K2
      refine HT_skip ?_
      refine Then_n ?_
      refine HT_seq ?_
      refine HT_block ?_
      refine HT_fr DC_ok rfl fun K hK => ?_; (conv => whnf)
      refine ix_lk h fun _ h => ?_; (conv => whnf)
      refine getK_of rfl ?_; (conv => whnf)
      refine hK _ _ _ ?_; clear hK K
      refine HT_f DC_ok rfl fun K hK => ?_; (conv => whnf)
      refine gd_lk h fun hx1428 h => ?_; (conv => whnf)
      refine nlA rfl ?_; (conv => whnf)
      refine blkK_of rfl ?_; (conv => whnf)
      refine get_ar1 rfl hx1428 ?_; (conv => whnf)
      refine hK _ _ _ ?_; clear hK K
      refine InBlock_n ?_
      refine Then_n ?_
      refine HT_f DC_ok rfl fun K hK => ?_; (conv => whnf)
      refine hK _ _ _ ?_; clear hK K
      refine Then_n ?_
      replace h := W_xnx h
      refine ⟨_, h, ?_⟩
      refine weak_r ?_; (conv => whnf)
      exact And.intro rfl (And.intro (allL_c wkI (allL_c wkI (allL_c (WkR.ptr (fun _ => rfl)) (allL_c (wkr (loose_lst fun _ => (loose_int _ _))) (allL_c wkI (allL_c (wkr (loose_lst fun _ => (loose_int _ _))) (allL_c wkI (allL_c wkI (allL_c (wkr (loose_lst fun _ => (loose_int _ _))) (allL_c wkI allL_n)))))))))) (allL_c ⟨some _, rfl, BkR_arr rfl rfl⟩ allL_n))
    refine hK2 ?_; clear hK1 hK2 K1 K2
    refine HT_exit ?_
    refine Then_e ?_
    refine Then_e ?_
    refine InBlock_e ?_
    replace h := W_xbk h
    replace h := W_inl h
    refine Then_n ?_
    refine HT_fr DC_ok rfl fun K hK => ?_; (conv => whnf)
    replace h := W_jn h
    refine cond_lk h (fun _ h => ?_) (fun _ h => ?_) <;> (conv => whnf)
    · replace h := W_bd h
      refine cmp_Compare_int_call h63 h (WkL.refl _) (fun _ h => ?_); (conv => whnf)
      replace h := W_bd h
      refine slices_Compare_int_call h64 h (WkL.refl _) (fun _ h => ?_); (conv => whnf)
      refine lt_lk (enc := eI) (d := default) DC_ok h rfl rfl rfl ⟨nle rfl, nle rfl, rfl⟩ rfl ⟨⟨rfl, rfl, rfl⟩, ⟨⟨rfl, rfl, rfl⟩, trivial⟩⟩ (fun h => ?_); (conv => whnf)
      replace h := W_bd h
      refine cmp_Or_int_call h62 h (WkL_cons Wk_free WkL_nil) (fun _ h => ?_); (conv => whnf)
      refine hK _ _ _ ?_; clear hK K
      replace h := W_jn h
      refine HT_if fun K1 K2 hK1 hK2 => ?_; (conv => whnf)
      refine cond_lk h (fun _ h => ?_) (fun _ h => ?_)
      · refine hK1 ?_; clear hK1 hK2 K1 K2
        refine HT_f DC_ok rfl fun K hK => ?_; (conv => whnf)
        refine hK _ _ _ ?_; clear hK K
        refine InBlock_n ?_
        refine Then_n ?_
        refine HT_f DC_ok rfl fun K hK => ?_; (conv => whnf)
        refine hK _ _ _ ?_; clear hK K
        refine Then_n ?_
        replace h := W_xnx h
        refine ⟨_, h, ?_⟩
        refine weak_r ?_; (conv => whnf)
        exact And.intro rfl (And.intro (allL_c (wkr (loose_lst fun _ => (loose_int _ _))) (allL_c wkI (allL_c (WkR.ptr (fun _ => rfl)) (allL_c wkI allL_n)))) (allL_c ⟨some _, rfl, BkR_arr rfl rfl⟩ allL_n))
      refine hK2 ?_; clear hK1 hK2 K1 K2
      refine HT_skip ?_
      refine InBlock_n ?_
      refine Then_n ?_
      refine HT_f DC_ok rfl fun K hK => ?_; (conv => whnf)
      refine hK _ _ _ ?_; clear hK K
      refine Then_n ?_
      replace h := W_xnx h
      refine ⟨_, h, ?_⟩
      refine weak_r ?_; (conv => whnf)
      exact And.intro rfl (And.intro (allL_c (wkr (loose_lst fun _ => (loose_int _ _))) (allL_c wkI (allL_c (WkR.ptr (fun _ => rfl)) (allL_c wkI allL_n)))) (allL_c ⟨some _, rfl, BkR_arr rfl rfl⟩ allL_n))
    refine hK _ _ _ ?_; clear hK K
    replace h := W_jn h
    refine HT_if fun K1 K2 hK1 hK2 => ?_; (conv => whnf)
    refine hK2 ?_; clear hK1 hK2 K1 K2
    replace h := W_cnF h
    refine HT_skip ?_
    refine InBlock_n ?_
    refine Then_n ?_
    refine HT_f DC_ok rfl fun K hK => ?_; (conv => whnf)
    refine hK _ _ _ ?_; clear hK K
    refine Then_n ?_
    replace h := W_xnx h
    refine ⟨_, h, ?_⟩
    refine weak_r ?_; (conv => whnf)
    exact And.intro rfl (And.intro (allL_c (wkr (loose_lst fun _ => (loose_int _ _))) (allL_c wkI (allL_c (WkR.ptr (fun _ => rfl)) (allL_c wkI allL_n)))) (allL_c ⟨some _, rfl, BkR_arr rfl rfl⟩ allL_n))
  refine hK2 ?_; clear hK1 hK2 K1 K2
  refine HT_exit ?_
  refine Then_e ?_
  refine Then_e ?_
  refine InBlock_e ?_
  replace h := W_xbk h
  replace h := W_inl h
  refine Then_n ?_
  refine HT_fr DC_ok rfl fun K hK => ?_; (conv => whnf)
  refine hK _ _ _ ?_; clear hK K
  refine HT_ret ?_
  replace h := W_some h
  refine PostP_r DC_ok fun K hK => ?_; (conv => whnf)
  refine hK _ ?_; clear hK K
  cases h
  exact Wk.refl _
theorem order_Antichain_call {T : Tbl} (hT : T 30 = pureR order_Antichain_S) {args : List AV} {hp : Heap} {id : Nat} {k : AV → Prop} {a0 : TOrder} {Φ : (List Int) × Int → Prop} (h : W (order_Antichain_F a0) Φ) (hw : WkL args [eTOrder a0]) (hk : ∀ y, Φ y → k (.tup [(eL 1 eI default) y.1, eI y.2])) : callpK T 30 args hp id k := by
  obtain ⟨y, e, hy⟩ := W_inv h
  exact callpK_pure hT ⟨a0, rfl, W_of e rfl⟩ (by exact loose_tup (loose_cons (loose_lst fun _ => (loose_int _ _)) (loose_cons (loose_int _ _) loose_nil))) hw (hk y hy)
end Go.Proofs.YtlmboonbfhkfnaaDoor
namespace Go.Proofs.YtlmboonbfhkfnaaDoor
open Go Go.Eng
set_option maxHeartbeats 0
set_option maxRecDepth 100000
def ref07_Loose_b1 (a1 : List (Int × Int)) (s2 : Int × TOrder) : Option (Ct (Int × TOrder) TOrder) := jn (fun p3 : Bool => cn p3 (ix a1 default s2.1 fun e5 =>
    bd (ref07_pick_F e5.1 s2.2.N) fun y6 => ix a1 default s2.1 fun e7 => bd (ref07_pick_F e7.2 (wr (s2.2.N - 1))) fun y8 =>
    gd (s2.2.N ≠ 0) (lt ([(y6, (Int.tmod (wr ((wr (y6 + 1)) + y8)) s2.2.N))] : List (Int × Int)) fun l9 => ap s2.2.Pairs l9 fun l10 =>
    some (.nx ((wr (s2.1 + 1)), (⟨s2.2.N, l10⟩ : TOrder))))) (some (.bk (s2.1, s2.2)))) fun k4 =>
    cn (decide (s2.1 < (a1.length : Int))) (cn (decide (s2.1 < 20)) (k4 (decide (s2.2.N > 1))) (k4 false)) (k4 false)
theorem W_bref07_Loose_b1 {a1 : List (Int × Int)} {s2 : Int × TOrder} {Φ : Ct (Int × TOrder) TOrder → Prop} (h : W (ref07_Loose_b1 a1 s2) Φ) : W (jn (fun p3 : Bool => cn p3 (ix a1 default s2.1 fun e5 => bd (ref07_pick_F e5.1 s2.2.N) fun y6 => ix a1 default s2.1 fun e7 => bd (ref07_pick_F e7.2 (wr (s2.2.N - 1))) fun y8 =>
    gd (s2.2.N ≠ 0) (lt ([(y6, (Int.tmod (wr ((wr (y6 + 1)) + y8)) s2.2.N))] : List (Int × Int)) fun l9 => ap s2.2.Pairs l9 fun l10 =>
    some (.nx ((wr (s2.1 + 1)), (⟨s2.2.N, l10⟩ : TOrder))))) (some (.bk (s2.1, s2.2)))) fun k4 =>
    cn (decide (s2.1 < (a1.length : Int))) (cn (decide (s2.1 < 20)) (k4 (decide (s2.2.N > 1))) (k4 false)) (k4 false)) Φ := h
def ref07_Loose_F (a0 : Int) (a1 : List (Int × Int)) : Option TOrder := bd (ref07_pick_F a0 9) fun y1 => bd (lp (ref07_Loose_b1 a1) FU (0, (⟨y1, []⟩ : TOrder))) fun c11 =>
    smK c11 (fun s12 => some s12.2) (fun r13 => some r13)
def ref07_Loose_res (y : TOrder) (b : Nat) : AV := .agg [eI y.N, .so b 0 y.Pairs.length 2]
def ref07_Loose_blk (y : TOrder) : List AB := [.cells (flE (ceE eA46) y.Pairs)]
def ref07_Loose_S : List AV → TOrder → Prop := fun args y => ∃ a0 a1, args = [eI a0, (eL 2 eA46 default) a1] ∧ ref07_Loose_F a0 a1 = some y
theorem ref07_Loose_ok {T : Tbl} (hT : TOk Tryd.prog T) (hpf : PfOk T PF) (h37 : T 37 = pureR ref07_pick_S) : FOk Tryd.prog 17 (ownR ref07_Loose_res ref07_Loose_blk ref07_Loose_S) := by
  refine FOk_own hT hpf Tryd.func17 rfl Tryd.ntmps17 Tryd.results17 (by decide) (fun y => ⟨by simp [ref07_Loose_blk], by simp [ref07_Loose_blk, noGh]⟩) ?_
  rintro args y ⟨a0, a1, rfl, hF⟩
  refine ⟨nle rfl, (loose_cons (loose_int _ _) (loose_cons (loose_lst fun _ => (lo_A46 _)) loose_nil)), fun base => ?_⟩
  have h : W (ref07_Loose_F a0 a1) (fun z => z = y) := W_of hF rfl
  rw [ref07_Loose_F.eq_1] at h
  refine HT_fr DC_ok rfl fun K hK => ?_; (conv => whnf)
  refine hK _ _ _ ?_; clear hK K
  refine HT_fr DC_ok rfl fun K hK => ?_; (conv => whnf)
  replace h := W_bd h
  refine ref07_pick_call h37 h (WkL.refl _) (fun _ h => ?_); (conv => whnf)
  refine blkK_of rfl ?_; (conv => whnf)
  refine And.intro rfl (And.intro (nle rfl) (And.intro rfl ?_)); (conv => whnf)
  refine hK _ _ _ ?_; clear hK K
  refine HT_seq ?_
  refine HT_fr DC_ok rfl fun K hK => ?_; (conv => whnf)
  refine hK _ _ _ ?_; clear hK K
  refine HT_block ?_
  replace h := W_bd h
  refine HT_lpR (body := ref07_Loose_b1 _) rfl h [1, 4, 5] [4] [] [5] (fun kl kh kr ids b s => ⟨ofL ([(6, eI s.1)] ++ kl), ofH (([(nthN ids 0, .cells [eI s.2.N, .so (b + 0) 0 s.2.Pairs.length 2])] ++ kh) ++ ([(b + 0, .cells (flE (ceE eA46) s.2.Pairs))] ++ kr)), b + 128⟩) ?_; (conv => whnf); refine And.intro ?_ (fun s m h => HT_st ?_)
  · refine weak_r ?_; (conv => whnf)
    exact And.intro rfl (And.intro (allL_c wkI (allL_c (wkr (loose_lst fun _ => (lo_A46 _))) (allL_c (WkR.ptr (fun _ => rfl)) (allL_c (WkR.ptr (fun _ => rfl)) allL_n)))) (allL_c ⟨some _, rfl, BkR_c rfl (CkR_cons wkI (CkR_cons (WkR.nilso (fun _ => rfl)) CkR_nil))⟩ (allL_c ⟨some _, rfl, BkR_c rfl (CkR_cons wkI (CkR_cons (wkr loose_nils) CkR_nil))⟩ (allL_c ⟨none, rfl, BkR_nr⟩ allL_n))))
  replace h := W_bref07_Loose_b1 (W_bd h)
  refine HT_seq ?_
  refine HT_fr DC_ok rfl fun K hK => ?_; (conv => whnf)
  replace h := W_jn h
  refine cond_lk h (fun _ h => ?_) (fun _ h => ?_) <;> (conv => whnf)
  · refine cond_lk h (fun _ h => ?_) (fun _ h => ?_) <;> (conv => whnf)
    · refine nlA rfl ?_; (conv => whnf)
      refine blkK_of rfl ?_; (conv => whnf)
      refine getK_of rfl ?_; (conv => whnf)
      refine hK _ _ _ ?_; clear hK K
      refine HT_if fun K1 K2 hK1 hK2 => ?_; (conv => whnf)
      refine cond_lk h (fun _ h => ?_) (fun _ h => ?_)
      · refine hK1 ?_; clear hK1 hK2 K1 K2
        refine HT_skip ?_
        refine Then_n ?_
        refine HT_seq ?_
        refine HT_block ?_
        refine HT_fd DC_ok mix_ok rfl (by kernel_rfl) fun K hK => ?_; (conv => whnf)
        refine ix_lk h fun _ h => ?_; (conv => whnf)
        refine And.intro (by decide) ?_; (conv => whnf)
        refine getK_of rfl ?_; (conv => whnf)
        refine nlA rfl ?_; (conv => whnf)
        refine blkK_of rfl ?_; (conv => whnf)
        refine getK_of rfl ?_; (conv => whnf)
        replace h := W_bd h
        refine ref07_pick_call h37 h (WkL.refl _) (fun _ h => ?_); (conv => whnf)
        refine hK _ _ _ ?_; clear hK K
        refine HT_fD DC_ok mix_ok rfl (by kernel_rfl) fun K hK => ?_; (conv => whnf)
        refine nlA rfl ?_; (conv => whnf)
        refine blkK_of rfl ?_; (conv => whnf)
        refine getK_of rfl ?_; (conv => whnf)
        refine ix_lk h fun _ h => ?_; (conv => whnf)
        refine And.intro (by decide) ?_; (conv => whnf)
        refine getK_of rfl ?_; (conv => whnf)
        refine nlA rfl ?_; (conv => whnf)
        refine blkK_of rfl ?_; (conv => whnf)
        refine getK_of rfl ?_; (conv => whnf)
        replace h := W_bd h
        refine ref07_pick_call h37 h (WkL.refl _) (fun _ h => ?_); (conv => whnf)
        refine nlA rfl ?_; (conv => whnf)
        refine blkK_of rfl ?_; (conv => whnf)
        refine getK_of rfl ?_; (conv => whnf)
        refine gd_lk h fun _ h => ?_; (conv => whnf)
        refine lt_lk (enc := eA46) (d := default) DC_ok h rfl rfl rfl ⟨nle rfl, nle rfl, rfl⟩ rfl ⟨⟨rfl, nle rfl⟩, trivial⟩ (fun h => ?_); (conv => whnf)
        refine apo_lk (enc := eA46) (d := default) DC_ok h rfl rfl rfl ⟨rfl, nle rfl, nle rfl, nle rfl, rfl⟩ (fun _ => rfl) (fun _ => rfl) (fun _ => nofun) rfl (rfl) (fun h => ?_); (conv => whnf)
        refine blkK_of rfl ?_; (conv => whnf)
        refine And.intro rfl (And.intro (nle rfl) (And.intro rfl ?_)); (conv => whnf)
        refine hK _ _ _ ?_; clear hK K
        refine InBlock_n ?_
        refine Then_n ?_
        refine HT_f DC_ok rfl fun K hK => ?_; (conv => whnf)
        refine hK _ _ _ ?_; clear hK K
        refine Then_n ?_
        replace h := W_xnx h
        refine ⟨_, h, ?_⟩
        refine weak_r ?_; (conv => whnf)
        exact And.intro rfl (And.intro (allL_c wkI (allL_c (wkr (loose_lst fun _ => (lo_A46 _))) (allL_c (WkR.ptr (fun _ => rfl)) (allL_c (WkR.ptr (fun _ => rfl)) allL_n)))) (allL_c ⟨some _, rfl, BkR_c rfl (CkR_cons wkI (CkR_cons (WkR.so (fun _ => rfl)) CkR_nil))⟩ (allL_c ⟨some _, rfl, BkR_c rfl (CkR_cons wkI (CkR_cons (wkr loose_nils) CkR_nil))⟩ (allL_c ⟨some _, rfl, BkR_r rfl (fun _ => (loose_cons (loose_int _ _) (loose_cons (loose_int _ _) loose_nil)))⟩ allL_n))))
      refine hK2 ?_; clear hK1 hK2 K1 K2
      refine HT_exit ?_
      refine Then_e ?_
      refine Then_e ?_
      refine InBlock_e ?_
      replace h := W_xbk h
      replace h := W_inl h
      refine Then_n ?_
      refine HT_fr DC_ok rfl fun K hK => ?_; (conv => whnf)
      refine nlA rfl ?_; (conv => whnf)
      refine blkK_of rfl ?_; (conv => whnf)
      refine nlA rfl ?_; (conv => whnf)
      refine blkK_of rfl ?_; (conv => whnf)
      refine And.intro rfl (And.intro (nle rfl) (And.intro rfl ?_)); (conv => whnf)
      refine hK _ _ _ ?_; clear hK K
      refine HT_ret ?_
      replace h := W_some h
      refine PostO_r DC_ok fun K hK => ?_; (conv => whnf)
      refine nlA rfl ?_; (conv => whnf)
      refine blkK_of rfl ?_; (conv => whnf)
      refine nlA rfl ?_; (conv => whnf)
      refine hK _ ?_; clear hK K
      cases h
      refine ⟨rfl, rfl, rfl, (WkB_agg (VsB_cons (WkB_loose (Wk.refl _) (loose_int _ _)) (VsB_cons (WkB_soN (mm_ns (k := 0) rfl) rfl) VsB_nil))), fun k n x h1 h2 => ?_⟩
      exact match k, n, x, h1, h2 with | 0, n, x, h1, h2 => by cases h1; cases h2; exact ⟨_, rfl, BkX_fl (fun _ => (loose_cons (loose_int _ _) (loose_cons (loose_int _ _) loose_nil))) _⟩ | k + 1, n, x, h1, h2 => by cases h1
    refine hK _ _ _ ?_; clear hK K
    refine HT_if fun K1 K2 hK1 hK2 => ?_; (conv => whnf)
    refine hK2 ?_; clear hK1 hK2 K1 K2
    replace h := W_cnF h
    refine HT_exit ?_
    refine Then_e ?_
    refine Then_e ?_
    refine InBlock_e ?_
    replace h := W_xbk h
    replace h := W_inl h
    refine Then_n ?_
    refine HT_fr DC_ok rfl fun K hK => ?_; (conv => whnf)
    refine nlA rfl ?_; (conv => whnf)
    refine blkK_of rfl ?_; (conv => whnf)
    refine nlA rfl ?_; (conv => whnf)
    refine blkK_of rfl ?_; (conv => whnf)
    refine And.intro rfl (And.intro (nle rfl) (And.intro rfl ?_)); (conv => whnf)
    refine hK _ _ _ ?_; clear hK K
    refine HT_ret ?_
    replace h := W_some h
    refine PostO_r DC_ok fun K hK => ?_; (conv => whnf)
    refine nlA rfl ?_; (conv => whnf)
    refine blkK_of rfl ?_; (conv => whnf)
    refine nlA rfl ?_; (conv => whnf)
    refine hK _ ?_; clear hK K
    cases h
    refine ⟨rfl, rfl, rfl, (WkB_agg (VsB_cons (WkB_loose (Wk.refl _) (loose_int _ _)) (VsB_cons (WkB_soN (mm_ns (k := 0) rfl) rfl) VsB_nil))), fun k n x h1 h2 => ?_⟩
    exact match k, n, x, h1, h2 with | 0, n, x, h1, h2 => by cases h1; cases h2; exact ⟨_, rfl, BkX_fl (fun _ => (loose_cons (loose_int _ _) (loose_cons (loose_int _ _) loose_nil))) _⟩ | k + 1, n, x, h1, h2 => by cases h1
  refine hK _ _ _ ?_; clear hK K
  refine HT_if fun K1 K2 hK1 hK2 => ?_; (conv => whnf)
  refine hK2 ?_; clear hK1 hK2 K1 K2
  replace h := W_cnF h
  refine HT_exit ?_
  refine Then_e ?_
  refine Then_e ?_
  refine InBlock_e ?_
  replace h := W_xbk h
  replace h := W_inl h
  refine Then_n ?_
  refine HT_fr DC_ok rfl fun K hK => ?_; (conv => whnf)
  refine nlA rfl ?_; (conv => whnf)
  refine blkK_of rfl ?_; (conv => whnf)
  refine nlA rfl ?_; (conv => whnf)
  refine blkK_of rfl ?_; (conv => whnf)
  refine And.intro rfl (And.intro (nle rfl) (And.intro rfl ?_)); (conv => whnf)
  refine hK _ _ _ ?_; clear hK K
  refine HT_ret ?_
  replace h := W_some h
  refine PostO_r DC_ok fun K hK => ?_; (conv => whnf)
  refine nlA rfl ?_; (conv => whnf)
  refine blkK_of rfl ?_; (conv => whnf)
  refine nlA rfl ?_; (conv => whnf)
  refine hK _ ?_; clear hK K
  cases h
  refine ⟨rfl, rfl, rfl, (WkB_agg (VsB_cons (WkB_loose (Wk.refl _) (loose_int _ _)) (VsB_cons (WkB_soN (mm_ns (k := 0) rfl) rfl) VsB_nil))), fun k n x h1 h2 => ?_⟩
  exact match k, n, x, h1, h2 with | 0, n, x, h1, h2 => by cases h1; cases h2; exact ⟨_, rfl, BkX_fl (fun _ => (loose_cons (loose_int _ _) (loose_cons (loose_int _ _) loose_nil))) _⟩ | k + 1, n, x, h1, h2 => by cases h1

    def ref07_Made_b3 (s19 : (List Int) × Int × (List Int)) (s21 : Int × TOrder) : Option (Ct (Int × TOrder) TOrder) := cn (decide (s21.1 < (s21.2.Pairs.length : Int))) (gd ((0 : Int) ≤ s21.1 ∧ s21.1 < (s21.2.Pairs.length : Int)) (gd ((0 : Int) ≤ (s21.2.Pairs.getD (s21.1).toNat default).1 ∧ (s21.2.Pairs.getD (s21.1).toNat default).1 < (s19.1.length : Int)) (gd ((0 : Int) ≤ (s21.2.Pairs.getD (s21.1).toNat default).2 ∧ (s21.2.Pairs.getD (s21.1).toNat default).2 < (s19.1.length : Int)) (jn (fun p22 : TOrder =>
    some (.nx ((wr (s21.1 + 1)), p22))) fun k23 => cn (decide ((s19.1.getD ((s21.2.Pairs.getD (s21.1).toNat default).1).toNat default) >
    (s19.1.getD ((s21.2.Pairs.getD (s21.1).toNat default).2).toNat default))) (gd ((0 : Int) ≤ s21.1 ∧ s21.1 < (s21.2.Pairs.length : Int)) (st s21.2.Pairs (s21.1) ((s21.2.Pairs.getD (s21.1).toNat default).2, (s21.2.Pairs.getD (s21.1).toNat default).1) fun l24 =>
    k23 (⟨s21.2.N, l24⟩ : TOrder))) (k23 s21.2))))) (some (.bk (s21.1, s21.2)))
theorem W_bref07_Made_b3 {s19 : (List Int) × Int × (List Int)} {s21 : Int × TOrder} {Φ : Ct (Int × TOrder) TOrder → Prop} (h : W (ref07_Made_b3 s19 s21) Φ) : W (
    cn (decide (s21.1 < (s21.2.Pairs.length : Int))) (gd ((0 : Int) ≤ s21.1 ∧ s21.1 < (s21.2.Pairs.length : Int)) (gd ((0 : Int) ≤ (s21.2.Pairs.getD (s21.1).toNat default).1 ∧ (s21.2.Pairs.getD (s21.1).toNat default).1 < (s19.1.length : Int)) (gd ((0 : Int) ≤ (s21.2.Pairs.getD (s21.1).toNat default).2 ∧ (s21.2.Pairs.getD (s21.1).toNat default).2 < (s19.1.length : Int)) (jn (fun p22 : TOrder =>
    some (.nx ((wr (s21.1 + 1)), p22))) fun k23 => cn (decide ((s19.1.getD ((s21.2.Pairs.getD (s21.1).toNat default).1).toNat default) >
    (s19.1.getD ((s21.2.Pairs.getD (s21.1).toNat default).2).toNat default))) (gd ((0 : Int) ≤ s21.1 ∧ s21.1 < (s21.2.Pairs.length : Int)) (st s21.2.Pairs (s21.1) ((s21.2.Pairs.getD (s21.1).toNat default).2, (s21.2.Pairs.getD (s21.1).toNat default).1) fun l24 =>
    k23 (⟨s21.2.N, l24⟩ : TOrder))) (k23 s21.2))))) (some (.bk (s21.1, s21.2)))) Φ := h
def ref07_Made_b2 (s9 : (List Int) × Int × (List Int)) : Option (Ct ((List Int) × Int × (List Int)) TOrder) := cn (decide ((s9.2.2.length : Int) >
    0)) (gd ((s9.2.2.length : Int) ≠ 0) (let v10 := (Int.tmod s9.2.1 (s9.2.2.length : Int)); gd ((s9.2.2.length : Int) ≠ 0) (let v11 := (wr (Int.tdiv s9.2.1 (s9.2.2.length : Int)));
    ix s9.2.2 default v10 fun e12 => lt ([e12] : List Int) fun l13 => ap s9.1 l13 fun l14 => slc s9.2.2 0 v10 fun l15 => slc s9.2.2 (wr (v10 + 1)) (s9.2.2.length : Int) fun l16 =>
    ap l15 l16 fun l17 => some (.nx (l14, v11, l17))))) (some (.bk (s9.1, s9.2.1, s9.2.2)))
theorem W_bref07_Made_b2 {s9 : (List Int) × Int × (List Int)} {Φ : Ct ((List Int) × Int × (List Int)) TOrder → Prop} (h : W (ref07_Made_b2 s9) Φ) : W (cn (decide ((s9.2.2.length : Int) > 0)) (gd ((s9.2.2.length : Int) ≠ 0) (let v10 := (Int.tmod s9.2.1 (s9.2.2.length : Int));
    gd ((s9.2.2.length : Int) ≠ 0) (let v11 := (wr (Int.tdiv s9.2.1 (s9.2.2.length : Int))); ix s9.2.2 default v10 fun e12 => lt ([e12] : List Int) fun l13 => ap s9.1 l13 fun l14 =>
    slc s9.2.2 0 v10 fun l15 => slc s9.2.2 (wr (v10 + 1)) (s9.2.2.length : Int) fun l16 => ap l15 l16 fun l17 => some (.nx (l14, v11, l17))))) (some (.bk (s9.1, s9.2.1, s9.2.2)))) Φ := h
def ref07_Made_b1 (y1 : TOrder) (s3 : (List Int) × Int) : Option (Ct ((List Int) × Int) TOrder) := cn (decide (s3.2 < y1.N)) (lt ([s3.2] : List Int) fun l4 => ap s3.1 l4 fun l5 =>
    some (.nx (l5, (wr (s3.2 + 1))))) (some (.bk (s3.1, s3.2)))
theorem W_bref07_Made_b1 {y1 : TOrder} {s3 : (List Int) × Int} {Φ : Ct ((List Int) × Int) TOrder → Prop} (h : W (ref07_Made_b1 y1 s3) Φ) : W (cn (decide (s3.2 < y1.N)) (lt ([s3.2] : List Int) fun l4 => ap s3.1 l4 fun l5 => some (.nx (l5, (wr (s3.2 + 1))))) (some (.bk (s3.1, s3.2)))) Φ := h
def ref07_Made_F (a0 : Int) (a1 : List (Int × Int)) (a2 : Int) : Option TOrder := bd (ref07_Loose_F a0 a1) fun y1 => bd (ref07_pick_F a2 40320) fun y2 =>
    bd (lp (ref07_Made_b1 y1) FU ([], 0)) fun c6 => smK c6 (fun s7 => bd (lp (ref07_Made_b2) FU ([], y2, s7.1)) fun c18 => smK c18 (fun s19 =>
    bd (lp (ref07_Made_b3 s19) FU (0, (⟨y1.N, y1.Pairs⟩ : TOrder))) fun c25 => smK c25 (fun s26 => some (⟨s26.2.N, s26.2.Pairs⟩ : TOrder)) (fun r27 => some r27)) (fun r20 =>
    some r20)) (fun r8 => some r8)
def ref07_Made_S : List AV → AV → Prop := fun args r => ∃ a0 a1 a2, args = [eI a0, (eL 2 eA46 default) a1, eI a2] ∧ W (ref07_Made_F a0 a1 a2) fun y => r = (eTOrder y)
theorem ref07_Made_ok {T : Tbl} (hT : TOk Tryd.prog T) (hpf : PfOk T PF) (h17 : T 17 = ownR ref07_Loose_res ref07_Loose_blk ref07_Loose_S) (h37 : T 37 = pureR ref07_pick_S) : FOk Tryd.prog 12 (pureR ref07_Made_S) := by
  refine FOk_pure hT hpf Tryd.func12 rfl Tryd.ntmps12 Tryd.results12 (by decide) ?_
  rintro args r ⟨a0, a1, a2, rfl, h⟩
  refine ⟨nle rfl, ?_, ?_⟩
  · exact (loose_cons (loose_int _ _) (loose_cons (loose_lst fun _ => (lo_A46 _)) (loose_cons (loose_int _ _) loose_nil)))
  rw [ref07_Made_F.eq_1] at h
  refine HT_fr DC_ok rfl fun K hK => ?_; (conv => whnf)
  refine hK _ _ _ ?_; clear hK K
  refine HT_fr DC_ok rfl fun K hK => ?_; (conv => whnf)
  refine callsK_own h17 h (fun y e => (⟨_, _, rfl, e⟩ : ref07_Loose_S _ _)) (WkL.refl _) (fun _ h => ?_); (conv => whnf)
  refine blkK_of rfl ?_; (conv => whnf)
  refine And.intro rfl (And.intro (nle rfl) (And.intro rfl ?_)); (conv => whnf)
  refine hK _ _ _ ?_; clear hK K
  refine HT_fr DC_ok rfl fun K hK => ?_; (conv => whnf)
  refine hK _ _ _ ?_; clear hK K
  refine HT_fr DC_ok rfl fun K hK => ?_; (conv => whnf)
  replace h := W_bd h
  refine ref07_pick_call h37 h (WkL.refl _) (fun _ h => ?_); (conv => whnf)
  refine hK _ _ _ ?_; clear hK K
  refine HT_fr DC_ok rfl fun K hK => ?_; (conv => whnf)
  refine hK _ _ _ ?_; clear hK K
  refine HT_seq ?_
  refine HT_fr DC_ok rfl fun K hK => ?_; (conv => whnf)
  refine hK _ _ _ ?_; clear hK K
  refine HT_block ?_
  replace h := W_bd h
  refine HT_lpQ (body := ref07_Made_b1 _) rfl h [6, 7, 8, 9] (fun σ => keepH σ [6, 7] ++ keepT σ []) (fun σ => keepT σ [(7, 1)] ++ keepH σ [] ++ keepN σ []) [] (fun kl kh kr ids b s => ⟨ofL ([(10, .so (b + 0) 0 s.1.length 1), (11, eI s.2)] ++ kl), ofH (([] ++ kh) ++ ([(b + 0, .cells (flE (ceE eI) s.1))] ++ kr)), b + 128⟩) ?_; (conv => whnf); refine And.intro ?_ (fun s m h => HT_st ?_)
  · refine weak_r ?_; (conv => whnf)
    exact And.intro rfl (And.intro (allL_c (WkR.nilso (fun _ => rfl)) (allL_c wkI (allL_c (WkR.ptr (fun _ => rfl)) (allL_c (WkR.ptr (fun _ => rfl)) (allL_c (wkr loose_nils) (allL_c wkI allL_n)))))) (allL_c ⟨some _, rfl, BkR_c rfl (CkR_cons wkI (CkR_cons (wkr loose_nils) CkR_nil))⟩ (allL_c ⟨some _, rfl, BkR_c rfl (CkR_cons wkI (CkR_cons (WkR.so (fun _ => rfl)) CkR_nil))⟩ (allL_c ⟨none, rfl, BkR_nr⟩ (allL_c ⟨some _, rfl, BkR_r rfl (fun _ => (loose_cons (loose_int _ _) (loose_cons (loose_int _ _) loose_nil)))⟩ allL_n)))))
  replace h := W_bref07_Made_b1 (W_bd h)
  refine HT_seq ?_
  refine HT_fr DC_ok rfl fun K hK => ?_; (conv => whnf)
  refine nlA rfl ?_; (conv => whnf)
  refine blkK_of rfl ?_; (conv => whnf)
  refine getK_of rfl ?_; (conv => whnf)
  refine hK _ _ _ ?_; clear hK K
  refine HT_if fun K1 K2 hK1 hK2 => ?_; (conv => whnf)
  refine cond_lk h (fun _ h => ?_) (fun _ h => ?_)
  · refine hK1 ?_; clear hK1 hK2 K1 K2
    refine HT_skip ?_
    refine Then_n ?_
    refine HT_seq ?_
    refine HT_block ?_
    refine HT_f DC_ok rfl fun K hK => ?_; (conv => whnf)
    refine lt_lk (enc := eI) (d := default) DC_ok h rfl rfl rfl ⟨nle rfl, nle rfl, rfl⟩ rfl ⟨⟨rfl, rfl, rfl⟩, trivial⟩ (fun h => ?_); (conv => whnf)
    refine apo_lk (enc := eI) (d := default) DC_ok h rfl rfl rfl ⟨rfl, nle rfl, nle rfl, nle rfl, rfl⟩ (fun _ => rfl) (fun _ => rfl) (fun _ => nofun) rfl (rfl) (fun h => ?_); (conv => whnf)
    refine hK _ _ _ ?_; clear hK K
    refine InBlock_n ?_
    refine Then_n ?_
    refine HT_f DC_ok rfl fun K hK => ?_; (conv => whnf)
    refine hK _ _ _ ?_; clear hK K
    refine Then_n ?_
    replace h := W_xnx h
    refine ⟨_, h, ?_⟩
    refine weak_r ?_; (conv => whnf)
    exact And.intro rfl (And.intro (allL_c (WkR.so (fun _ => rfl)) (allL_c wkI (allL_c (WkR.ptr (fun _ => rfl)) (allL_c (WkR.ptr (fun _ => rfl)) (allL_c (wkr loose_nils) (allL_c wkI allL_n)))))) (allL_c ⟨some _, rfl, BkR_c rfl (CkR_cons wkI (CkR_cons (wkr loose_nils) CkR_nil))⟩ (allL_c ⟨some _, rfl, BkR_c rfl (CkR_cons wkI (CkR_cons (WkR.so (fun _ => rfl)) CkR_nil))⟩ (allL_c ⟨some _, rfl, BkR_r rfl (fun _ => (loose_cons (loose_int _ _) loose_nil))⟩ (allL_c ⟨some _, rfl, BkR_r rfl (fun _ => (loose_cons (loose_int _ _) (loose_cons (loose_int _ _) loose_nil)))⟩ allL_n)))))
  refine hK2 ?_; clear hK1 hK2 K1 K2
  refine HT_exit ?_
  refine Then_e ?_
  refine Then_e ?_
  refine InBlock_e ?_
  replace h := W_xbk h
  replace h := W_inl h
  refine Then_n ?_
  refine HT_seq ?_
  refine HT_frzSK 10 (enc := eI) (e := 3) default (ElOk_one DC_ok rfl rfl rfl (fun _ => ⟨rfl, rfl⟩)) ?_; (conv => whnf); refine ⟨_, _, rfl, rfl, rfl, ?_⟩
  refine HT_block ?_
  replace h := W_bd h
  refine HT_lpQ (body := ref07_Made_b2) rfl h [6, 7] (fun σ => keepH σ [6, 7] ++ keepT σ []) (fun σ => keepT σ [(7, 1)] ++ keepH σ [] ++ keepN σ []) [] (fun kl kh kr ids b s => ⟨ofL ([(8, .so (b + 0) 0 s.1.length 1), (9, eI s.2.1), (10, (eL 1 eI default) s.2.2)] ++ kl), ofH (([] ++ kh) ++ ([(b + 0, .cells (flE (ceE eI) s.1))] ++ kr)), b + 128⟩) ?_; (conv => whnf); refine And.intro ?_ (fun s m h => HT_st ?_)
  · refine weak_r ?_; (conv => whnf)
    exact And.intro rfl (And.intro (allL_c (WkR.nilso (fun _ => rfl)) (allL_c wkI (allL_c (wkr (loose_lst fun _ => (loose_int _ _))) (allL_c (WkR.ptr (fun _ => rfl)) (allL_c (WkR.ptr (fun _ => rfl)) allL_n))))) (allL_c ⟨some _, rfl, BkR_c rfl (CkR_cons wkI (CkR_cons (wkr loose_nils) CkR_nil))⟩ (allL_c ⟨some _, rfl, BkR_c rfl (CkR_cons wkI (CkR_cons (WkR.so (fun _ => rfl)) CkR_nil))⟩ (allL_c ⟨none, rfl, BkR_nr⟩ (allL_c ⟨some _, rfl, BkR_r rfl (fun _ => (loose_cons (loose_int _ _) (loose_cons (loose_int _ _) loose_nil)))⟩ allL_n)))))
  replace h := W_bref07_Made_b2 (W_bd h)
  refine HT_seq ?_
  refine HT_fr DC_ok rfl fun K hK => ?_; (conv => whnf)
  refine hK _ _ _ ?_; clear hK K
  refine HT_if fun K1 K2 hK1 hK2 => ?_; (conv => whnf)
  refine cond_lk h (fun _ h => ?_) (fun _ h => ?_)
  · refine hK1 ?_; clear hK1 hK2 K1 K2
    refine HT_skip ?_
    refine Then_n ?_
    refine HT_block ?_
    refine HT_fr DC_ok rfl fun K hK => ?_; (conv => whnf)
    refine gd_lk h fun _ h => ?_; (conv => whnf)
    refine hK _ _ _ ?_; clear hK K
    refine HT_fr DC_ok rfl fun K hK => ?_; (conv => whnf)
    refine gd_lk h fun _ h => ?_; (conv => whnf)
    refine hK _ _ _ ?_; clear hK K
    refine HT_fr DC_ok rfl fun K hK => ?_; (conv => whnf)
    refine ix_lk h fun _ h => ?_; (conv => whnf)
    refine getK_of rfl ?_; (conv => whnf)
    refine lt_lk (enc := eI) (d := default) DC_ok h rfl rfl rfl ⟨nle rfl, nle rfl, rfl⟩ rfl ⟨⟨rfl, rfl, rfl⟩, trivial⟩ (fun h => ?_); (conv => whnf)
    refine apo_lk (enc := eI) (d := default) DC_ok h rfl rfl rfl ⟨rfl, nle rfl, nle rfl, nle rfl, rfl⟩ (fun _ => rfl) (fun _ => rfl) (fun _ => nofun) rfl (rfl) (fun h => ?_); (conv => whnf)
    refine hK _ _ _ ?_; clear hK K
    refine HT_fD DC_ok mix_ok rfl (by kernel_rfl) fun K hK => ?_; (conv => whnf)
    refine sl_lk3 h (.inl ⟨rfl, rfl⟩) (fun h => ?_); (conv => whnf)
    refine sl_lk h (.inr ⟨_, rfl⟩) (.inl ⟨rfl, rfl⟩) (fun h => ?_); (conv => whnf)
    refine ap_lk (enc := eI) (d := default) DC_ok h (.inl rfl) rfl rfl rfl ⟨rfl, nle rfl, nle rfl, nle rfl, rfl⟩ (fun _ => rfl) (.inr (.inl ⟨rfl, rfl⟩)) (fun h => ?_); (conv => whnf)
    refine hK _ _ _ ?_; clear hK K
    refine InBlock_n ?_
    refine Then_n ?_
    replace h := W_xnx h
    refine ⟨_, h, ?_⟩
    refine weak_r ?_; (conv => whnf)
    exact And.intro rfl (And.intro (allL_c (WkR.so (fun _ => rfl)) (allL_c wkI (allL_c (WkR.wk Wk_free (loose_lst fun _ => (loose_int _ _))) (allL_c (WkR.ptr (fun _ => rfl)) (allL_c (WkR.ptr (fun _ => rfl)) allL_n))))) (allL_c ⟨some _, rfl, BkR_c rfl (CkR_cons wkI (CkR_cons (wkr loose_nils) CkR_nil))⟩ (allL_c ⟨some _, rfl, BkR_c rfl (CkR_cons wkI (CkR_cons (WkR.so (fun _ => rfl)) CkR_nil))⟩ (allL_c ⟨some _, rfl, BkR_r rfl (fun _ => (loose_cons (loose_int _ _) loose_nil))⟩ (allL_c ⟨some _, rfl, BkR_r rfl (fun _ => (loose_cons (loose_int _ _) (loose_cons (loose_int _ _) loose_nil)))⟩ allL_n)))))
  refine hK2 ?_; clear hK1 hK2 K1 K2
  refine HT_exit ?_
  refine Then_e ?_
  refine Then_e ?_
  refine InBlock_e ?_
  replace h := W_xbk h
  replace h := W_inl h
  refine Then_n ?_
  refine HT_seq ?_
  refine HT_fr DC_ok rfl fun K hK => ?_; (conv => whnf)
  refine hK _ _ _ ?_; clear hK K
  refine HT_block ?_
  replace h := W_bd h
  refine HT_lpR (body := ref07_Made_b3 _) rfl h [6, 7, 8] [6] [8] [7] (fun kl kh kr ids b s => ⟨ofL ([(13, eI s.1)] ++ kl), ofH (([(nthN ids 0, .cells [eI s.2.N, .so (b + 0) 0 s.2.Pairs.length 2])] ++ kh) ++ ([(b + 0, .cells (flE (ceE eA46) s.2.Pairs))] ++ kr)), b + 128⟩) ?_; (conv => whnf); refine And.intro ?_ (fun s m h => HT_st ?_)
  · refine weak_r ?_; (conv => whnf)
    exact And.intro rfl (And.intro (allL_c wkI (allL_c (WkR.ptr (fun _ => rfl)) (allL_c (WkR.ptr (fun _ => rfl)) (allL_c (WkR.so (fun _ => rfl)) allL_n)))) (allL_c ⟨some _, rfl, BkR_c rfl (CkR_cons wkI (CkR_cons (WkR.so (fun _ => rfl)) CkR_nil))⟩ (allL_c ⟨some _, rfl, BkR_c rfl (CkR_cons wkI (CkR_cons (wkr loose_nils) CkR_nil))⟩ (allL_c ⟨some _, rfl, BkR_r rfl (fun _ => (loose_cons (loose_int _ _) (loose_cons (loose_int _ _) loose_nil)))⟩ (allL_c ⟨some _, rfl, BkR_r rfl (fun _ => (loose_cons (loose_int _ _) loose_nil))⟩ allL_n)))))
  replace h := W_bref07_Made_b3 (W_bd h)
  refine HT_seq ?_
  refine HT_fr DC_ok rfl fun K hK => ?_; (conv => whnf)
  refine nlA rfl ?_; (conv => whnf)
  refine blkK_of rfl ?_; (conv => whnf)
  refine getK_of rfl ?_; (conv => whnf)
  refine hK _ _ _ ?_; clear hK K
  refine HT_if fun K1 K2 hK1 hK2 => ?_; (conv => whnf)
  refine cond_lk h (fun _ h => ?_) (fun _ h => ?_)
  · refine hK1 ?_; clear hK1 hK2 K1 K2
    refine HT_skip ?_
    refine Then_n ?_
    refine HT_seq ?_
    refine HT_block ?_
    refine HT_fr DC_ok rfl fun K hK => ?_; (conv => whnf)
    refine nlA rfl ?_; (conv => whnf)
    refine blkK_of rfl ?_; (conv => whnf)
    refine getK_of rfl ?_; (conv => whnf)
    refine gd_lkN h (rfl) fun hx115 h => ?_; (conv => whnf)
    refine nlA rfl ?_; (conv => whnf)
    refine blkK_of rfl ?_; (conv => whnf)
    refine part_flN (enc := eA46) (d := default) (fun _ => rfl) (rfl) hx115 ?_; (conv => whnf)
    refine blkK_of rfl ?_; (conv => whnf)
    refine And.intro rfl (And.intro (nle rfl) (And.intro rfl ?_)); (conv => whnf)
    refine hK _ _ _ ?_; clear hK K
    refine HT_fd DC_ok mix_ok rfl (by kernel_rfl) fun K hK => ?_; (conv => whnf)
    refine And.intro (by decide) ?_; (conv => whnf)
    refine nlA rfl ?_; (conv => whnf)
    refine blkK_of rfl ?_; (conv => whnf)
    refine getK_of rfl ?_; (conv => whnf)
    refine gd_lkN h (rfl) fun hx116 h => ?_; (conv => whnf)
    refine nlA rfl ?_; (conv => whnf)
    refine blkK_of rfl ?_; (conv => whnf)
    refine get_flN (enc := eI) (d := default) (q := 0) (fun _ => rfl) (rfl) hx116 (nle rfl) rfl ?_; (conv => whnf)
    refine And.intro (by decide) ?_; (conv => whnf)
    refine nlA rfl ?_; (conv => whnf)
    refine blkK_of rfl ?_; (conv => whnf)
    refine getK_of rfl ?_; (conv => whnf)
    refine gd_lkN h (rfl) fun hx117 h => ?_; (conv => whnf)
    refine nlA rfl ?_; (conv => whnf)
    refine blkK_of rfl ?_; (conv => whnf)
    refine get_flN (enc := eI) (d := default) (q := 0) (fun _ => rfl) (rfl) hx117 (nle rfl) rfl ?_; (conv => whnf)
    refine hK _ _ _ ?_; clear hK K
    replace h := W_jn h
    refine HT_if fun K1 K2 hK1 hK2 => ?_; (conv => whnf)
    refine cond_lk h (fun _ h => ?_) (fun _ h => ?_)
    · refine hK1 ?_; clear hK1 hK2 K1 K2
      refine HT_f DC_ok rfl fun K hK => ?_; (conv => whnf)
      refine nlA rfl ?_; (conv => whnf)
      refine blkK_of rfl ?_; (conv => whnf)
      refine getK_of rfl ?_; (conv => whnf)
      refine And.intro (by decide) ?_; (conv => whnf)
      refine nlA rfl ?_; (conv => whnf)
      refine blkK_of rfl ?_; (conv => whnf)
      refine getK_of rfl ?_; (conv => whnf)
      refine And.intro (by decide) ?_; (conv => whnf)
      refine nlA rfl ?_; (conv => whnf)
      refine blkK_of rfl ?_; (conv => whnf)
      refine getK_of rfl ?_; (conv => whnf)
      refine gd_lkN h (rfl) fun hx119 h => ?_; (conv => whnf)
      refine blkK_of rfl ?_; (conv => whnf)
      refine st_lk (enc := eA46) (d := default) (q := 0) h (fun _ => rfl) (rfl) hx119 rfl (nle rfl) rfl rfl (fun h => ?_); (conv => whnf)
      refine hK _ _ _ ?_; clear hK K
      refine InBlock_n ?_
      refine Then_n ?_
      refine HT_f DC_ok rfl fun K hK => ?_; (conv => whnf)
      refine hK _ _ _ ?_; clear hK K
      refine Then_n ?_
      replace h := W_xnx h
      refine ⟨_, h, ?_⟩
      refine weak_r ?_; (conv => whnf)
      exact And.intro rfl (And.intro (allL_c wkI (allL_c (WkR.ptr (fun _ => rfl)) (allL_c (WkR.ptr (fun _ => rfl)) (allL_c (WkR.so (fun _ => rfl)) allL_n)))) (allL_c ⟨some _, rfl, BkR_c rfl (CkR_cons wkI (CkR_cons (WkR.soN (fun _ => rfl) (lenset rfl).symm) CkR_nil))⟩ (allL_c ⟨some _, rfl, BkR_c rfl (CkR_cons wkI (CkR_cons (wkr loose_nils) CkR_nil))⟩ (allL_c ⟨some _, rfl, BkR_r rfl (fun _ => (loose_cons (loose_int _ _) (loose_cons (loose_int _ _) loose_nil)))⟩ (allL_c ⟨some _, rfl, BkR_r rfl (fun _ => (loose_cons (loose_int _ _) loose_nil))⟩ allL_n)))))
    refine hK2 ?_; clear hK1 hK2 K1 K2
    refine HT_skip ?_
    refine InBlock_n ?_
    refine Then_n ?_
    refine HT_f DC_ok rfl fun K hK => ?_; (conv => whnf)
    refine hK _ _ _ ?_; clear hK K
    refine Then_n ?_
    replace h := W_xnx h
    refine ⟨_, h, ?_⟩
    refine weak_r ?_; (conv => whnf)
    exact And.intro rfl (And.intro (allL_c wkI (allL_c (WkR.ptr (fun _ => rfl)) (allL_c (WkR.ptr (fun _ => rfl)) (allL_c (WkR.so (fun _ => rfl)) allL_n)))) (allL_c ⟨some _, rfl, BkR_c rfl (CkR_cons wkI (CkR_cons (WkR.so (fun _ => rfl)) CkR_nil))⟩ (allL_c ⟨some _, rfl, BkR_c rfl (CkR_cons wkI (CkR_cons (wkr loose_nils) CkR_nil))⟩ (allL_c ⟨some _, rfl, BkR_r rfl (fun _ => (loose_cons (loose_int _ _) (loose_cons (loose_int _ _) loose_nil)))⟩ (allL_c ⟨some _, rfl, BkR_r rfl (fun _ => (loose_cons (loose_int _ _) loose_nil))⟩ allL_n)))))
  refine hK2 ?_; clear hK1 hK2 K1 K2
  refine HT_exit ?_
  refine Then_e ?_
  refine Then_e ?_
  refine InBlock_e ?_
  replace h := W_xbk h
  replace h := W_inl h
  refine Then_n ?_
  refine HT_frzBK 7 1 (enc := eA46) (e := 46) default (ElOk_agg DC_ok rfl rfl (fun _ => rfl) (fun _ => rfl)) ?_; (conv => whnf); refine ⟨_, _, _, (Nat.ne_of_beq_eq_false rfl), rfl, rfl, rfl, rfl, ?_⟩; (conv => whnf)
  refine HT_fr DC_ok rfl fun K hK => ?_; (conv => whnf)
  refine nlA rfl ?_; (conv => whnf)
  refine blkK_of rfl ?_; (conv => whnf)
  refine nlA rfl ?_; (conv => whnf)
  refine blkK_of rfl ?_; (conv => whnf)
  refine And.intro rfl (And.intro (nle rfl) (And.intro rfl ?_)); (conv => whnf)
  refine hK _ _ _ ?_; clear hK K
  refine HT_ret ?_
  replace h := W_some h
  refine PostP_r DC_ok fun K hK => ?_; (conv => whnf)
  refine nlA rfl ?_; (conv => whnf)
  refine blkK_of rfl ?_; (conv => whnf)
  refine nlA rfl ?_; (conv => whnf)
  refine hK _ ?_; clear hK K
  cases h
  exact Wk.refl _
theorem ref07_Made_call {T : Tbl} (hT : T 12 = pureR ref07_Made_S) {args : List AV} {hp : Heap} {id : Nat} {k : AV → Prop} {a0 : Int} {a1 : List (Int × Int)} {a2 : Int} {Φ : TOrder → Prop} (h : W (ref07_Made_F a0 a1 a2) Φ) (hw : WkL args [eI a0, (eL 2 eA46 default) a1, eI a2]) (hk : ∀ y, Φ y → k (eTOrder y)) : callpK T 12 args hp id k := by
  obtain ⟨y, e, hy⟩ := W_inv h
  exact callpK_pure hT ⟨a0, a1, a2, rfl, W_of e rfl⟩ (by exact (lo_TOrder _)) hw (hk y hy)
end Go.Proofs.YtlmboonbfhkfnaaDoor
namespace Go.Proofs.YtlmboonbfhkfnaaDoor
open Go Go.Eng
set_option maxHeartbeats 0
set_option maxRecDepth 100000

    def law07_chosen_b3 (a0 : TOrder) (s1 : (List Int)) (s2 : (List Int) × Int) (s4 : Bool × Int) : Option (Ct (Bool × Int) (List Int)) := cn (decide (s4.2 < a0.N)) (jn (fun p5 : Bool =>
    some (.nx (p5, (wr (s4.2 + 1))))) fun k6 => cn s4.1 (bd (law07_in_F s1 s4.2) fun y7 => cn y7 (k6 true) (bd (order_Before_F a0 s4.2 s2.2) fun y8 =>
    k6 (!y8))) (k6 false)) (some (.bk (s4.1, s4.2)))
theorem W_blaw07_chosen_b3 {a0 : TOrder} {s1 : (List Int)} {s2 : (List Int) × Int} {s4 : Bool × Int} {Φ : Ct (Bool × Int) (List Int) → Prop} (h : W (law07_chosen_b3 a0 s1 s2 s4) Φ) : W (cn (decide (s4.2 < a0.N)) (jn (fun p5 : Bool => some (.nx (p5, (wr (s4.2 + 1))))) fun k6 => cn s4.1 (bd (law07_in_F s1 s4.2) fun y7 =>
    cn y7 (k6 true) (bd (order_Before_F a0 s4.2 s2.2) fun y8 => k6 (!y8))) (k6 false)) (some (.bk (s4.1, s4.2)))) Φ := h

    def law07_chosen_b2 (a0 : TOrder) (s1 : (List Int)) (s2 : (List Int) × Int) : Option (Ct ((List Int) × Int) (List Int)) := cn (decide (s2.2 < a0.N)) (bd (law07_in_F s1 s2.2) fun y3 =>
    bd (lp (law07_chosen_b3 a0 s1 s2) FU ((!y3), 0)) fun c9 => smK c9 (fun s10 => jn (fun p12 : (List Int) => some (.nx (p12, (wr (s2.2 + 1))))) fun k13 =>
    cn s10.1 (lt ([s2.2] : List Int) fun l14 => ap s2.1 l14 fun l15 => k13 l15) (k13 s2.1)) (fun r11 => some (.rt r11))) (some (.bk (s2.1, s2.2)))
theorem W_blaw07_chosen_b2 {a0 : TOrder} {s1 : (List Int)} {s2 : (List Int) × Int} {Φ : Ct ((List Int) × Int) (List Int) → Prop} (h : W (law07_chosen_b2 a0 s1 s2) Φ) : W (cn (decide (s2.2 < a0.N)) (bd (law07_in_F s1 s2.2) fun y3 => bd (lp (law07_chosen_b3 a0 s1 s2) FU ((!y3), 0)) fun c9 => smK c9 (fun s10 => jn (fun p12 : (List Int) =>
    some (.nx (p12, (wr (s2.2 + 1))))) fun k13 => cn s10.1 (lt ([s2.2] : List Int) fun l14 => ap s2.1 l14 fun l15 => k13 l15) (k13 s2.1)) (fun r11 =>
    some (.rt r11))) (some (.bk (s2.1, s2.2)))) Φ := h

    def law07_chosen_b1 (a0 : TOrder) (a1 : List Int) (s1 : (List Int)) : Option (Ct ((List Int)) (List Int)) := cn (decide ((s1.length : Int) < a0.N)) (bd (lp (law07_chosen_b2 a0 s1) FU ([], 0)) fun c16 =>
    smK c16 (fun s17 => cn ((s17.1.length : Int) == 0) (some (.rt s1)) (jn (fun p19 : Int => ix s17.1 default p19 fun e23 => lt ([e23] : List Int) fun l24 => ap s1 l24 fun l25 =>
    some (.nx l25)) fun k20 => cn (decide ((s1.length : Int) < (a1.length : Int))) (ix a1 default (s1.length : Int) fun e21 => bd (law07_pick_F e21 (s17.1.length : Int)) fun y22 =>
    k20 y22) (k20 0))) (fun r18 => some (.rt r18))) (some (.bk s1))
theorem W_blaw07_chosen_b1 {a0 : TOrder} {a1 : List Int} {s1 : (List Int)} {Φ : Ct ((List Int)) (List Int) → Prop} (h : W (law07_chosen_b1 a0 a1 s1) Φ) : W (cn (decide ((s1.length : Int) < a0.N)) (bd (lp (law07_chosen_b2 a0 s1) FU ([], 0)) fun c16 => smK c16 (fun s17 => cn ((s17.1.length : Int) ==
    0) (some (.rt s1)) (jn (fun p19 : Int => ix s17.1 default p19 fun e23 => lt ([e23] : List Int) fun l24 => ap s1 l24 fun l25 => some (.nx l25)) fun k20 =>
    cn (decide ((s1.length : Int) < (a1.length : Int))) (ix a1 default (s1.length : Int) fun e21 => bd (law07_pick_F e21 (s17.1.length : Int)) fun y22 =>
    k20 y22) (k20 0))) (fun r18 => some (.rt r18))) (some (.bk s1))) Φ := h
def law07_chosen_F (a0 : TOrder) (a1 : List Int) : Option (List Int) := bd (lp (law07_chosen_b1 a0 a1) FU ([])) fun c26 => smK c26 (fun s27 => some s27) (fun r28 => some r28)
def law07_chosen_S : List AV → AV → Prop := fun args r => ∃ a0 a1, args = [eTOrder a0, (eL 1 eI default) a1] ∧ W (law07_chosen_F a0 a1) fun y => r = ((eL 1 eI default) y)
theorem law07_chosen_ok {T : Tbl} (hT : TOk Tryd.prog T) (hpf : PfOk T PF) (h13 : T 13 = pureR law07_pick_S) (h23 : T 23 = pureR law07_in_S) (h27 : T 27 = pureR order_Before_S) : FOk Tryd.prog 21 (pureR law07_chosen_S) := by
  refine FOk_pure hT hpf Tryd.func21 rfl Tryd.ntmps21 Tryd.results21 (by decide) ?_
  rintro args r ⟨a0, a1, rfl, h⟩
  refine ⟨nle rfl, ?_, ?_⟩
  · exact (loose_cons (lo_TOrder _) (loose_cons (loose_lst fun _ => (loose_int _ _)) loose_nil))
  rw [law07_chosen_F.eq_1] at h
  refine HT_fr DC_ok rfl fun K hK => ?_; (conv => whnf)
  refine hK _ _ _ ?_; clear hK K
  refine HT_fr DC_ok rfl fun K hK => ?_; (conv => whnf)
  refine hK _ _ _ ?_; clear hK K
  refine HT_seq ?_
  refine HT_block ?_
  replace h := W_bd h
  refine HT_lpK (body := law07_chosen_b1 _ _) rfl h [1, 2] [2] [] (fun kl kh ids b s => ⟨ofL ([(5, .lst (.tok (b + 0)) 1 s.length (fun j => eI (s.getD j default)))] ++ kl), ofH ([(b + 0, .cells [])] ++ kh), b + 128⟩) ?_; (conv => whnf); refine And.intro ?_ (fun s m h => HT_st ?_)
  · refine weak_k ?_; (conv => whnf)
    exact And.intro rfl (And.intro (allL_c (WkR.nil (fun _ => rfl)) (allL_c (wkr (loose_lst fun _ => (loose_int _ _))) (allL_c (WkR.ptr (fun _ => rfl)) allL_n))) (allL_c ⟨none, rfl, BkR_n⟩ (allL_c ⟨some _, rfl, BkR_c rfl (CkR_cons wkI (CkR_cons (wkr (loose_lst fun _ => (lo_A46 _))) CkR_nil))⟩ allL_n)))
  replace h := W_blaw07_chosen_b1 (W_bd h)
  refine HT_seq ?_
  refine HT_fr DC_ok rfl fun K hK => ?_; (conv => whnf)
  refine nlA rfl ?_; (conv => whnf)
  refine blkK_of rfl ?_; (conv => whnf)
  refine getK_of rfl ?_; (conv => whnf)
  refine hK _ _ _ ?_; clear hK K
  refine HT_if fun K1 K2 hK1 hK2 => ?_; (conv => whnf)
  refine cond_lk h (fun _ h => ?_) (fun _ h => ?_)
  · refine hK1 ?_; clear hK1 hK2 K1 K2
    refine HT_skip ?_
    refine Then_n ?_
    refine HT_block ?_
    refine HT_fr DC_ok rfl fun K hK => ?_; (conv => whnf)
    refine hK _ _ _ ?_; clear hK K
    refine HT_seq ?_
    refine HT_fr DC_ok rfl fun K hK => ?_; (conv => whnf)
    refine hK _ _ _ ?_; clear hK K
    refine HT_block ?_
    replace h := W_bd h
    refine HT_lpK (body := law07_chosen_b2 _ _) rfl h [1, 2, 5] [2, 5] [] (fun kl kh ids b s => ⟨ofL ([(6, .lst (.tok (b + 0)) 1 s.1.length (fun j => eI (s.1.getD j default))), (7, eI s.2)] ++ kl), ofH ([(b + 0, .cells [])] ++ kh), b + 128⟩) ?_; (conv => whnf); refine And.intro ?_ (fun s m h => HT_st ?_)
    · refine weak_k ?_; (conv => whnf)
      exact And.intro rfl (And.intro (allL_c (WkR.nil (fun _ => rfl)) (allL_c wkI (allL_c (wkr (loose_lst fun _ => (loose_int _ _))) (allL_c (WkR.ptr (fun _ => rfl)) (allL_c (WkR.tok (fun _ => rfl) rfl (fun _ _ => Wk.refl _) (fun _ => (loose_int _ _))) allL_n))))) (allL_c ⟨none, rfl, BkR_n⟩ (allL_c ⟨some _, rfl, BkR_c rfl (CkR_cons wkI (CkR_cons (wkr (loose_lst fun _ => (lo_A46 _))) CkR_nil))⟩ (allL_c ⟨some _, rfl, BkR_c rfl CkR_nil⟩ allL_n))))
    replace h := W_blaw07_chosen_b2 (W_bd h)
    refine HT_seq ?_
    refine HT_fr DC_ok rfl fun K hK => ?_; (conv => whnf)
    refine nlA rfl ?_; (conv => whnf)
    refine blkK_of rfl ?_; (conv => whnf)
    refine getK_of rfl ?_; (conv => whnf)
    refine hK _ _ _ ?_; clear hK K
    refine HT_if fun K1 K2 hK1 hK2 => ?_; (conv => whnf)
    refine cond_lk h (fun _ h => ?_) (fun _ h => ?_)
    · refine hK1 ?_; clear hK1 hK2 K1 K2
      refine HT_skip ?_
      refine Then_n ?_
      refine HT_seq ?_
      refine HT_block ?_
      refine HT_fr DC_ok rfl fun K hK => ?_; (conv => whnf)
      replace h := W_bd h
      refine law07_in_call h23 h (WkL_cons Wk_free (WkL_cons (Wk.refl _) WkL_nil)) (fun _ h => ?_); (conv => whnf)
      refine hK _ _ _ ?_; clear hK K
      refine HT_seq ?_
      refine HT_fr DC_ok rfl fun K hK => ?_; (conv => whnf)
      refine hK _ _ _ ?_; clear hK K
      refine HT_block ?_
      replace h := W_bd h
      refine HT_lpK (body := law07_chosen_b3 _ _ _) rfl h [1, 2, 5, 6, 7] [2, 5, 6] [] (fun kl kh ids b s => ⟨ofL ([(8, eB s.1), (9, eI s.2)] ++ kl), ofH ([] ++ kh), b + 64⟩) ?_; (conv => whnf); refine And.intro ?_ (fun s m h => HT_st ?_)
      · refine weak_k ?_; (conv => whnf)
        exact And.intro rfl (And.intro (allL_c (wkr (loose_bool _)) (allL_c wkI (allL_c (wkr (loose_lst fun _ => (loose_int _ _))) (allL_c (WkR.ptr (fun _ => rfl)) (allL_c (WkR.tok (fun _ => rfl) rfl (fun _ _ => Wk.refl _) (fun _ => (loose_int _ _))) (allL_c (WkR.tok (fun _ => rfl) rfl (fun _ _ => Wk.refl _) (fun _ => (loose_int _ _))) (allL_c wkI allL_n))))))) (allL_c ⟨some _, rfl, BkR_c rfl (CkR_cons wkI (CkR_cons (wkr (loose_lst fun _ => (lo_A46 _))) CkR_nil))⟩ (allL_c ⟨some _, rfl, BkR_c rfl CkR_nil⟩ (allL_c ⟨some _, rfl, BkR_c rfl CkR_nil⟩ allL_n))))
      replace h := W_blaw07_chosen_b3 (W_bd h)
      refine HT_seq ?_
      refine HT_fr DC_ok rfl fun K hK => ?_; (conv => whnf)
      refine nlA rfl ?_; (conv => whnf)
      refine blkK_of rfl ?_; (conv => whnf)
      refine getK_of rfl ?_; (conv => whnf)
      refine hK _ _ _ ?_; clear hK K
      refine HT_if fun K1 K2 hK1 hK2 => ?_; (conv => whnf)
      refine cond_lk h (fun _ h => ?_) (fun _ h => ?_)
      · refine hK1 ?_; clear hK1 hK2 K1 K2
        refine HT_skip ?_
        refine Then_n ?_
        refine HT_seq ?_
        refine HT_block ?_
        refine HT_f DC_ok rfl fun K hK => ?_; (conv => whnf)
        replace h := W_jn h
        refine cond_lk h (fun _ h => ?_) (fun _ h => ?_) <;> (conv => whnf)
        · replace h := W_bd h
          refine law07_in_call h23 h (WkL_cons Wk_free (WkL_cons (Wk.refl _) WkL_nil)) (fun _ h => ?_); (conv => whnf)
          refine cond_lk h (fun _ h => ?_) (fun _ h => ?_) <;> (conv => whnf)
          · refine hK _ _ _ ?_; clear hK K
            refine InBlock_n ?_
            refine Then_n ?_
            refine HT_f DC_ok rfl fun K hK => ?_; (conv => whnf)
            refine hK _ _ _ ?_; clear hK K
            refine Then_n ?_
            replace h := W_xnx h
            refine ⟨_, h, ?_⟩
            refine weak_k ?_; (conv => whnf)
            exact And.intro rfl (And.intro (allL_c (wkr (loose_bool _)) (allL_c wkI (allL_c (wkr (loose_lst fun _ => (loose_int _ _))) (allL_c (WkR.ptr (fun _ => rfl)) (allL_c (WkR.tok (fun _ => rfl) rfl (fun _ _ => Wk.refl _) (fun _ => (loose_int _ _))) (allL_c (WkR.tok (fun _ => rfl) rfl (fun _ _ => Wk.refl _) (fun _ => (loose_int _ _))) (allL_c wkI allL_n))))))) (allL_c ⟨some _, rfl, BkR_c rfl (CkR_cons wkI (CkR_cons (wkr (loose_lst fun _ => (lo_A46 _))) CkR_nil))⟩ (allL_c ⟨some _, rfl, BkR_c rfl CkR_nil⟩ (allL_c ⟨some _, rfl, BkR_c rfl CkR_nil⟩ allL_n))))
          refine nlA rfl ?_; (conv => whnf)
          refine blkK_of rfl ?_; (conv => whnf)
          refine nlA rfl ?_; (conv => whnf)
          replace h := W_bd h
          refine order_Before_call h27 h (WkL.refl _) (fun _ h => ?_); (conv => whnf)
          refine hK _ _ _ ?_; clear hK K
          refine InBlock_n ?_
          refine Then_n ?_
          refine HT_f DC_ok rfl fun K hK => ?_; (conv => whnf)
          refine hK _ _ _ ?_; clear hK K
          refine Then_n ?_
          replace h := W_xnx h
          refine ⟨_, h, ?_⟩
          refine weak_k ?_; (conv => whnf)
          exact And.intro rfl (And.intro (allL_c (wkr (loose_bool _)) (allL_c wkI (allL_c (wkr (loose_lst fun _ => (loose_int _ _))) (allL_c (WkR.ptr (fun _ => rfl)) (allL_c (WkR.tok (fun _ => rfl) rfl (fun _ _ => Wk.refl _) (fun _ => (loose_int _ _))) (allL_c (WkR.tok (fun _ => rfl) rfl (fun _ _ => Wk.refl _) (fun _ => (loose_int _ _))) (allL_c wkI allL_n))))))) (allL_c ⟨some _, rfl, BkR_c rfl (CkR_cons wkI (CkR_cons (wkr (loose_lst fun _ => (lo_A46 _))) CkR_nil))⟩ (allL_c ⟨some _, rfl, BkR_c rfl CkR_nil⟩ (allL_c ⟨some _, rfl, BkR_c rfl CkR_nil⟩ allL_n))))
        refine hK _ _ _ ?_; clear hK K
        refine InBlock_n ?_
        refine Then_n ?_
        refine HT_f DC_ok rfl fun K hK => ?_; (conv => whnf)
        refine hK _ _ _ ?_; clear hK K
        refine Then_n ?_
        replace h := W_xnx h
        refine ⟨_, h, ?_⟩
        refine weak_k ?_; (conv => whnf)
        exact And.intro rfl (And.intro (allL_c (wkr (loose_bool _)) (allL_c wkI (allL_c (wkr (loose_lst fun _ => (loose_int _ _))) (allL_c (WkR.ptr (fun _ => rfl)) (allL_c (WkR.tok (fun _ => rfl) rfl (fun _ _ => Wk.refl _) (fun _ => (loose_int _ _))) (allL_c (WkR.tok (fun _ => rfl) rfl (fun _ _ => Wk.refl _) (fun _ => (loose_int _ _))) (allL_c wkI allL_n))))))) (allL_c ⟨some _, rfl, BkR_c rfl (CkR_cons wkI (CkR_cons (wkr (loose_lst fun _ => (lo_A46 _))) CkR_nil))⟩ (allL_c ⟨some _, rfl, BkR_c rfl CkR_nil⟩ (allL_c ⟨some _, rfl, BkR_c rfl CkR_nil⟩ allL_n))))
      refine hK2 ?_; clear hK1 hK2 K1 K2
      refine HT_exit ?_
      refine Then_e ?_
      refine Then_e ?_
      refine InBlock_e ?_
      replace h := W_xbk h
      replace h := W_inl h
      refine Then_n ?_
      refine HT_fr DC_ok rfl fun K hK => ?_; (conv => whnf)
      refine hK _ _ _ ?_; clear hK K
      replace h := W_jn h
      refine HT_if fun K1 K2 hK1 hK2 => ?_; (conv => whnf)
      refine cond_lk h (fun _ h => ?_) (fun _ h => ?_)
      · refine hK1 ?_; clear hK1 hK2 K1 K2
        refine HT_f DC_ok rfl fun K hK => ?_; (conv => whnf)
        refine lt_lk (enc := eI) (d := default) DC_ok h rfl rfl rfl ⟨nle rfl, nle rfl, rfl⟩ rfl ⟨⟨rfl, rfl, rfl⟩, trivial⟩ (fun h => ?_); (conv => whnf)
        refine ap_lk (enc := eI) (d := default) DC_ok h (.inl rfl) rfl rfl rfl ⟨rfl, nle rfl, nle rfl, nle rfl, rfl⟩ (fun _ => rfl) (.inr (.inr ⟨_, _, rfl, rfl, rfl⟩)) (fun h => ?_); (conv => whnf)
        refine hK _ _ _ ?_; clear hK K
        refine InBlock_n ?_
        refine Then_n ?_
        refine HT_f DC_ok rfl fun K hK => ?_; (conv => whnf)
        refine hK _ _ _ ?_; clear hK K
        refine Then_n ?_
        replace h := W_xnx h
        refine ⟨_, h, ?_⟩
        refine weak_k ?_; (conv => whnf)
        exact And.intro rfl (And.intro (allL_c (WkR.tok (fun _ => rfl) rfl (fun _ _ => Wk.refl _) (fun _ => (loose_int _ _))) (allL_c wkI (allL_c (wkr (loose_lst fun _ => (loose_int _ _))) (allL_c (WkR.ptr (fun _ => rfl)) (allL_c (WkR.tok (fun _ => rfl) rfl (fun _ _ => Wk.refl _) (fun _ => (loose_int _ _))) allL_n))))) (allL_c ⟨some _, rfl, BkR_c rfl CkR_nil⟩ (allL_c ⟨some _, rfl, BkR_c rfl (CkR_cons wkI (CkR_cons (wkr (loose_lst fun _ => (lo_A46 _))) CkR_nil))⟩ (allL_c ⟨some _, rfl, BkR_c rfl CkR_nil⟩ allL_n))))
      refine hK2 ?_; clear hK1 hK2 K1 K2
      refine HT_skip ?_
      refine InBlock_n ?_
      refine Then_n ?_
      refine HT_f DC_ok rfl fun K hK => ?_; (conv => whnf)
      refine hK _ _ _ ?_; clear hK K
      refine Then_n ?_
      replace h := W_xnx h
      refine ⟨_, h, ?_⟩
      refine weak_k ?_; (conv => whnf)
      exact And.intro rfl (And.intro (allL_c (WkR.tok (fun _ => rfl) rfl (fun _ _ => Wk.refl _) (fun _ => (loose_int _ _))) (allL_c wkI (allL_c (wkr (loose_lst fun _ => (loose_int _ _))) (allL_c (WkR.ptr (fun _ => rfl)) (allL_c (WkR.tok (fun _ => rfl) rfl (fun _ _ => Wk.refl _) (fun _ => (loose_int _ _))) allL_n))))) (allL_c ⟨some _, rfl, BkR_c rfl CkR_nil⟩ (allL_c ⟨some _, rfl, BkR_c rfl (CkR_cons wkI (CkR_cons (wkr (loose_lst fun _ => (lo_A46 _))) CkR_nil))⟩ (allL_c ⟨some _, rfl, BkR_c rfl CkR_nil⟩ allL_n))))
    refine hK2 ?_; clear hK1 hK2 K1 K2
    refine HT_exit ?_
    refine Then_e ?_
    refine Then_e ?_
    refine InBlock_e ?_
    replace h := W_xbk h
    replace h := W_inl h
    refine Then_n ?_
    refine HT_seq ?_
    refine HT_fr DC_ok rfl fun K hK => ?_; (conv => whnf)
    refine hK _ _ _ ?_; clear hK K
    refine HT_if fun K1 K2 hK1 hK2 => ?_; (conv => whnf)
    refine cond_lk h (fun _ h => ?_) (fun _ h => ?_)
    · refine hK1 ?_; clear hK1 hK2 K1 K2
      refine HT_fr DC_ok rfl fun K hK => ?_; (conv => whnf)
      refine hK _ _ _ ?_; clear hK K
      refine HT_ret ?_
      refine Then_r ?_
      refine InBlock_r ?_
      refine Then_r ?_
      refine InBlock_r ?_
      refine Then_r ?_
      replace h := W_xrt h
      replace h := W_inr h
      replace h := W_some h
      refine PostP_r DC_ok fun K hK => ?_; (conv => whnf)
      refine hK _ ?_; clear hK K
      cases h
      exact Wk_free
    refine hK2 ?_; clear hK1 hK2 K1 K2
    refine HT_skip ?_
    refine Then_n ?_
    refine HT_fr DC_ok rfl fun K hK => ?_; (conv => whnf)
    refine hK _ _ _ ?_; clear hK K
    refine HT_seq ?_
    refine HT_fr DC_ok rfl fun K hK => ?_; (conv => whnf)
    refine hK _ _ _ ?_; clear hK K
    replace h := W_jn h
    refine HT_if fun K1 K2 hK1 hK2 => ?_; (conv => whnf)
    refine cond_lk h (fun _ h => ?_) (fun _ h => ?_)
    · refine hK1 ?_; clear hK1 hK2 K1 K2
      refine HT_f DC_ok rfl fun K hK => ?_; (conv => whnf)
      refine ix_lk h fun _ h => ?_; (conv => whnf)
      refine getK_of rfl ?_; (conv => whnf)
      replace h := W_bd h
      refine law07_pick_call h13 h (WkL.refl _) (fun _ h => ?_); (conv => whnf)
      refine hK _ _ _ ?_; clear hK K
      refine Then_n ?_
      refine HT_f DC_ok rfl fun K hK => ?_; (conv => whnf)
      refine ix_lk h fun _ h => ?_; (conv => whnf)
      refine getK_of rfl ?_; (conv => whnf)
      refine lt_lk (enc := eI) (d := default) DC_ok h rfl rfl rfl ⟨nle rfl, nle rfl, rfl⟩ rfl ⟨⟨rfl, rfl, rfl⟩, trivial⟩ (fun h => ?_); (conv => whnf)
      refine ap_lk (enc := eI) (d := default) DC_ok h (.inl rfl) rfl rfl rfl ⟨rfl, nle rfl, nle rfl, nle rfl, rfl⟩ (fun _ => rfl) (.inr (.inr ⟨_, _, rfl, rfl, rfl⟩)) (fun h => ?_); (conv => whnf)
      refine hK _ _ _ ?_; clear hK K
      refine InBlock_n ?_
      refine Then_n ?_
      replace h := W_xnx h
      refine ⟨_, h, ?_⟩
      refine weak_k ?_; (conv => whnf)
      exact And.intro rfl (And.intro (allL_c (WkR.tok (fun _ => rfl) rfl (fun _ _ => Wk.refl _) (fun _ => (loose_int _ _))) (allL_c (wkr (loose_lst fun _ => (loose_int _ _))) (allL_c (WkR.ptr (fun _ => rfl)) allL_n))) (allL_c ⟨some _, rfl, BkR_c rfl CkR_nil⟩ (allL_c ⟨some _, rfl, BkR_c rfl (CkR_cons wkI (CkR_cons (wkr (loose_lst fun _ => (lo_A46 _))) CkR_nil))⟩ allL_n)))
    refine hK2 ?_; clear hK1 hK2 K1 K2
    refine HT_skip ?_
    refine Then_n ?_
    refine HT_f DC_ok rfl fun K hK => ?_; (conv => whnf)
    refine ix_lk h fun _ h => ?_; (conv => whnf)
    refine getK_of rfl ?_; (conv => whnf)
    refine lt_lk (enc := eI) (d := default) DC_ok h rfl rfl rfl ⟨nle rfl, nle rfl, rfl⟩ rfl ⟨⟨rfl, rfl, rfl⟩, trivial⟩ (fun h => ?_); (conv => whnf)
    refine ap_lk (enc := eI) (d := default) DC_ok h (.inl rfl) rfl rfl rfl ⟨rfl, nle rfl, nle rfl, nle rfl, rfl⟩ (fun _ => rfl) (.inr (.inr ⟨_, _, rfl, rfl, rfl⟩)) (fun h => ?_); (conv => whnf)
    refine hK _ _ _ ?_; clear hK K
    refine InBlock_n ?_
    refine Then_n ?_
    replace h := W_xnx h
    refine ⟨_, h, ?_⟩
    refine weak_k ?_; (conv => whnf)
    exact And.intro rfl (And.intro (allL_c (WkR.tok (fun _ => rfl) rfl (fun _ _ => Wk.refl _) (fun _ => (loose_int _ _))) (allL_c (wkr (loose_lst fun _ => (loose_int _ _))) (allL_c (WkR.ptr (fun _ => rfl)) allL_n))) (allL_c ⟨some _, rfl, BkR_c rfl CkR_nil⟩ (allL_c ⟨some _, rfl, BkR_c rfl (CkR_cons wkI (CkR_cons (wkr (loose_lst fun _ => (lo_A46 _))) CkR_nil))⟩ allL_n)))
  refine hK2 ?_; clear hK1 hK2 K1 K2
  refine HT_exit ?_
  refine Then_e ?_
  refine Then_e ?_
  refine InBlock_e ?_
  replace h := W_xbk h
  replace h := W_inl h
  refine Then_n ?_
  refine HT_fr DC_ok rfl fun K hK => ?_; (conv => whnf)
  refine hK _ _ _ ?_; clear hK K
  refine HT_ret ?_
  replace h := W_some h
  refine PostP_r DC_ok fun K hK => ?_; (conv => whnf)
  refine hK _ ?_; clear hK K
  cases h
  exact Wk_free
end Go.Proofs.YtlmboonbfhkfnaaDoor
namespace Go.Proofs.YtlmboonbfhkfnaaDoor
open Go Go.Eng
set_option maxHeartbeats 0
set_option maxRecDepth 100000
def law07_sane_F : Option Bool := lt ([(0, 2), (1, 2), (2, 3), (0, 3), (1, 4)] : List (Int × Int)) fun l1 => lt ([] : List (Int × Int)) fun l2 => ap l2 l1 fun l3 =>
    lt ([(3, 1)] : List (Int × Int)) fun l4 => ap l3 l4 fun l5 => bd (order_Close_F (⟨5, l1⟩ : TOrder)) fun y6 => bd (order_Reduce_F (⟨5, l1⟩ : TOrder)) fun y7 =>
    bd (order_Prefixes_F (⟨5, l1⟩ : TOrder)) fun y8 => bd (order_Line_F (⟨5, l1⟩ : TOrder)) fun y9 => bd (order_Lines_F (⟨5, l1⟩ : TOrder)) fun y10 =>
    bd (order_Levels_F (⟨5, l1⟩ : TOrder)) fun y11 => bd (order_Chain_F (⟨5, l1⟩ : TOrder)) fun y12 => bd (order_Antichain_F (⟨5, l1⟩ : TOrder)) fun y13 =>
    bd (order_Cover_F (⟨5, l1⟩ : TOrder)) fun y14 => bd (order_Cycle_F (⟨5, l5⟩ : TOrder)) fun y15 => bd (order_Cycle_F (⟨5, l1⟩ : TOrder)) fun y16 =>
    bd (order_Lines_F (⟨5, l5⟩ : TOrder)) fun y17 => jn (fun p18 : Bool => cn p18 (some false) (jn (fun p20 : Bool => jn (fun p26 : Bool => jn (fun p36 : Bool =>
    jn (fun p45 : Bool => jn (fun p53 : Bool => some p53) fun k54 => cn p20 (cn p26 (cn p36 (cn p45 (bd (order_Before_F (⟨5, l1⟩ : TOrder) 1 3) fun y55 =>
    cn y55 (bd (order_Before_F (⟨5, l1⟩ : TOrder) 3 1) fun y56 => cn (!y56) (bd (order_Before_F (⟨5, l1⟩ : TOrder) 0 1) fun y57 =>
    k54 (!y57)) (k54 false)) (k54 false)) (k54 false)) (k54 false)) (k54 false)) (k54 false)) fun k46 => cn y15.2 (cn (!y16.2) (lt ([1, 2, 3] : List Int) fun l47 =>
    bd (ref07_Ints_F y15.1 l47) fun y48 => cn y48 (bd (order_Valid_F (⟨5, l1⟩ : TOrder)) fun y49 => cn y49 (bd (order_Valid_F (⟨5, l5⟩ : TOrder)) fun y50 =>
    cn (!y50) (bd (order_Formed_F (⟨5, l5⟩ : TOrder)) fun y51 => cn y51 (bd (order_Formed_F (⟨9, []⟩ : TOrder)) fun y52 =>
    k46 (!y52)) (k46 false)) (k46 false)) (k46 false)) (k46 false)) (k46 false)) (k46 false)) fun k37 => lt ([0, 0, 1, 2, 1] : List Int) fun l38 =>
    bd (ref07_Ints_F y11.1 l38) fun y39 => cn y39 (lt ([0, 2, 3] : List Int) fun l40 => bd (ref07_Ints_F y12.1 l40) fun y41 => cn y41 (lt ([0, 1] : List Int) fun l42 =>
    bd (ref07_Ints_F y13.1 l42) fun y43 => cn y43 (let v44 := ((y14.1.length : Int) == 2); k37 v44) (k37 false)) (k37 false)) (k37 false)) fun k27 =>
    lt ([0, 1, 2, 3, 7, 15, 18, 19, 23, 31] : List Int) fun l28 => bd (ref07_Ints_F y8.1 l28) fun y29 => cn y29 (lt ([0, 1, 2, 3, 4] : List Int) fun l30 =>
    bd (ref07_Ints_F y9.1 l30) fun y31 => cn y31 (cn (y10.1 == 7) (lt ([1, 4, 0, 2, 3] : List Int) fun l32 => bd (order_IsLine_F (⟨5, l1⟩ : TOrder) l32) fun y33 =>
    cn y33 (lt ([1, 2, 0, 3, 4] : List Int) fun l34 => bd (order_IsLine_F (⟨5, l1⟩ : TOrder) l34) fun y35 =>
    k27 (!y35)) (k27 false)) (k27 false)) (k27 false)) (k27 false)) fun k21 => lt ([(0, 2), (0, 3), (1, 2), (1, 3), (1, 4), (2, 3)] : List (Int × Int)) fun l22 =>
    bd (ref07_Same_F y6.1 (⟨5, l22⟩ : TOrder)) fun y23 => cn y23 (lt ([(0, 2), (1, 2), (1, 4), (2, 3)] : List (Int × Int)) fun l24 =>
    bd (ref07_Same_F y7.1 (⟨5, l24⟩ : TOrder)) fun y25 => k21 y25) (k21 false))) fun k19 => cn (y6.2 != 0) (k19 true) (cn (y7.2 != 0) (k19 true) (cn (y8.2 !=
    0) (k19 true) (cn (y9.2 != 0) (k19 true) (cn (y10.2 != 0) (k19 true) (cn (y11.2 != 0) (k19 true) (cn (y12.2 != 0) (k19 true) (cn (y13.2 != 0) (k19 true) (cn (y14.2 !=
    0) (k19 true) (k19 (y17.2 != 70))))))))))
def law07_sane_S : List AV → AV → Prop := fun args r =>  args = [] ∧ W (law07_sane_F ) fun y => r = (eB y)
theorem law07_sane_ok {T : Tbl} (hT : TOk Tryd.prog T) (hpf : PfOk T PF) (h18 : T 18 = pureR order_Prefixes_S) (h19 : T 19 = pureR order_Line_S) (h20 : T 20 = pureR order_Lines_S) (h22 : T 22 = pureR order_IsLine_S) (h24 : T 24 = pureR order_Close_S) (h25 : T 25 = pureR order_Reduce_S) (h26 : T 26 = pureR ref07_Same_S) (h27 : T 27 = pureR order_Before_S) (h28 : T 28 = pureR order_Levels_S) (h29 : T 29 = pureR order_Chain_S) (h30 : T 30 = pureR order_Antichain_S) (h31 : T 31 = pureR order_Cover_S) (h32 : T 32 = pureR order_Cycle_S) (h33 : T 33 = pureR order_Formed_S) (h34 : T 34 = pureR order_Valid_S) (h36 : T 36 = pureR ref07_Ints_S) : FOk Tryd.prog 11 (pureR law07_sane_S) := by
  refine FOk_pure hT hpf Tryd.func11 rfl Tryd.ntmps11 Tryd.results11 (by decide) ?_
  rintro args r ⟨rfl, h⟩
  refine ⟨nle rfl, ?_, ?_⟩
  · exact loose_nil
  rw [law07_sane_F.eq_1] at h
  refine HT_fr DC_ok rfl fun K hK => ?_; (conv => whnf)
  refine hK _ _ _ ?_; clear hK K
  refine HT_fr DC_ok rfl fun K hK => ?_; (conv => whnf)
  refine lt_lk (enc := eA46) (d := default) DC_ok h rfl rfl rfl ⟨nle rfl, nle rfl, rfl⟩ rfl ⟨⟨rfl, nle rfl⟩, ⟨⟨rfl, nle rfl⟩, ⟨⟨rfl, nle rfl⟩, ⟨⟨rfl, nle rfl⟩, ⟨⟨rfl, nle rfl⟩, trivial⟩⟩⟩⟩⟩ (fun h => ?_); (conv => whnf)
  refine blkK_of rfl ?_; (conv => whnf)
  refine And.intro rfl (And.intro (nle rfl) (And.intro rfl ?_)); (conv => whnf)
  refine hK _ _ _ ?_; clear hK K
  refine HT_fr DC_ok rfl fun K hK => ?_; (conv => whnf)
  refine lt_lk (enc := eA46) (d := default) DC_ok h rfl rfl rfl ⟨nle rfl, nle rfl, rfl⟩ rfl trivial (fun h => ?_); (conv => whnf)
  refine nlA rfl ?_; (conv => whnf)
  refine blkK_of rfl ?_; (conv => whnf)
  refine getK_of rfl ?_; (conv => whnf)
  refine apf_lk (enc := eA46) (d := default) DC_ok h rfl rfl rfl ⟨rfl, nle rfl, nle rfl, nle rfl, rfl⟩ (fun _ => rfl) (fun h => ?_); (conv => whnf)
  refine lt_lk (enc := eA46) (d := default) DC_ok h rfl rfl rfl ⟨nle rfl, nle rfl, rfl⟩ rfl ⟨⟨rfl, nle rfl⟩, trivial⟩ (fun h => ?_); (conv => whnf)
  refine ap_lk (enc := eA46) (d := default) DC_ok h (.inl rfl) rfl rfl rfl ⟨rfl, nle rfl, nle rfl, nle rfl, rfl⟩ (fun _ => rfl) (.inr (.inr ⟨_, _, rfl, rfl, rfl⟩)) (fun h => ?_); (conv => whnf)
  refine blkK_of rfl ?_; (conv => whnf)
  refine And.intro rfl (And.intro (nle rfl) (And.intro rfl ?_)); (conv => whnf)
  refine hK _ _ _ ?_; clear hK K
  refine HT_fr DC_ok rfl fun K hK => ?_; (conv => whnf)
  refine nlA rfl ?_; (conv => whnf)
  refine blkK_of rfl ?_; (conv => whnf)
  refine nlA rfl ?_; (conv => whnf)
  replace h := W_bd h
  refine order_Close_call h24 h (WkL_cons (Wk_agg (WkL_cons (Wk.refl _) (WkL_cons Wk_free WkL_nil))) WkL_nil) (fun _ h => ?_); (conv => whnf)
  refine blkK_of rfl ?_; (conv => whnf)
  refine And.intro rfl (And.intro (nle rfl) (And.intro rfl ?_)); (conv => whnf)
  refine hK _ _ _ ?_; clear hK K
  refine HT_fr DC_ok rfl fun K hK => ?_; (conv => whnf)
  refine nlA rfl ?_; (conv => whnf)
  refine blkK_of rfl ?_; (conv => whnf)
  refine nlA rfl ?_; (conv => whnf)
  replace h := W_bd h
  refine order_Reduce_call h25 h (WkL_cons (Wk_agg (WkL_cons (Wk.refl _) (WkL_cons Wk_free WkL_nil))) WkL_nil) (fun _ h => ?_); (conv => whnf)
  refine blkK_of rfl ?_; (conv => whnf)
  refine And.intro rfl (And.intro (nle rfl) (And.intro rfl ?_)); (conv => whnf)
  refine hK _ _ _ ?_; clear hK K
  refine HT_fr DC_ok rfl fun K hK => ?_; (conv => whnf)
  refine nlA rfl ?_; (conv => whnf)
  refine blkK_of rfl ?_; (conv => whnf)
  refine nlA rfl ?_; (conv => whnf)
  replace h := W_bd h
  refine order_Prefixes_call h18 h (WkL_cons (Wk_agg (WkL_cons (Wk.refl _) (WkL_cons Wk_free WkL_nil))) WkL_nil) (fun _ h => ?_); (conv => whnf)
  refine hK _ _ _ ?_; clear hK K
  refine HT_fr DC_ok rfl fun K hK => ?_; (conv => whnf)
  refine nlA rfl ?_; (conv => whnf)
  refine blkK_of rfl ?_; (conv => whnf)
  refine nlA rfl ?_; (conv => whnf)
  replace h := W_bd h
  refine order_Line_call h19 h (WkL_cons (Wk_agg (WkL_cons (Wk.refl _) (WkL_cons Wk_free WkL_nil))) WkL_nil) (fun _ h => ?_); (conv => whnf)
  refine hK _ _ _ ?_; clear hK K
  refine HT_fr DC_ok rfl fun K hK => ?_; (conv => whnf)
  refine nlA rfl ?_; (conv => whnf)
  refine blkK_of rfl ?_; (conv => whnf)
  refine nlA rfl ?_; (conv => whnf)
  replace h := W_bd h
  refine order_Lines_call h20 h (WkL_cons (Wk_agg (WkL_cons (Wk.refl _) (WkL_cons Wk_free WkL_nil))) WkL_nil) (fun _ h => ?_); (conv => whnf)
  refine hK _ _ _ ?_; clear hK K
  refine HT_fr DC_ok rfl fun K hK => ?_; (conv => whnf)
  refine nlA rfl ?_; (conv => whnf)
  refine blkK_of rfl ?_; (conv => whnf)
  refine nlA rfl ?_; (conv => whnf)
  replace h := W_bd h
  refine order_Levels_call h28 h (WkL_cons (Wk_agg (WkL_cons (Wk.refl _) (WkL_cons Wk_free WkL_nil))) WkL_nil) (fun _ h => ?_); (conv => whnf)
  refine hK _ _ _ ?_; clear hK K
  refine HT_fr DC_ok rfl fun K hK => ?_; (conv => whnf)
  refine nlA rfl ?_; (conv => whnf)
  refine blkK_of rfl ?_; (conv => whnf)
  refine nlA rfl ?_; (conv => whnf)
  replace h := W_bd h
  refine order_Chain_call h29 h (WkL_cons (Wk_agg (WkL_cons (Wk.refl _) (WkL_cons Wk_free WkL_nil))) WkL_nil) (fun _ h => ?_); (conv => whnf)
  refine hK _ _ _ ?_; clear hK K
  refine HT_fr DC_ok rfl fun K hK => ?_; (conv => whnf)
  refine nlA rfl ?_; (conv => whnf)
  refine blkK_of rfl ?_; (conv => whnf)
  refine nlA rfl ?_; (conv => whnf)
  replace h := W_bd h
  refine order_Antichain_call h30 h (WkL_cons (Wk_agg (WkL_cons (Wk.refl _) (WkL_cons Wk_free WkL_nil))) WkL_nil) (fun _ h => ?_); (conv => whnf)
  refine hK _ _ _ ?_; clear hK K
  refine HT_fr DC_ok rfl fun K hK => ?_; (conv => whnf)
  refine nlA rfl ?_; (conv => whnf)
  refine blkK_of rfl ?_; (conv => whnf)
  refine nlA rfl ?_; (conv => whnf)
  replace h := W_bd h
  refine order_Cover_call h31 h (WkL_cons (Wk_agg (WkL_cons (Wk.refl _) (WkL_cons Wk_free WkL_nil))) WkL_nil) (fun _ h => ?_); (conv => whnf)
  refine hK _ _ _ ?_; clear hK K
  refine HT_fr DC_ok rfl fun K hK => ?_; (conv => whnf)
  refine nlA rfl ?_; (conv => whnf)
  refine blkK_of rfl ?_; (conv => whnf)
  refine nlA rfl ?_; (conv => whnf)
  replace h := W_bd h
  refine order_Cycle_call h32 h (WkL_cons (Wk_agg (WkL_cons (Wk.refl _) (WkL_cons Wk_free WkL_nil))) WkL_nil) (fun _ h => ?_); (conv => whnf)
  refine hK _ _ _ ?_; clear hK K
  refine HT_fr DC_ok rfl fun K hK => ?_; (conv => whnf)
  refine nlA rfl ?_; (conv => whnf)
  refine blkK_of rfl ?_; (conv => whnf)
  refine nlA rfl ?_; (conv => whnf)
  replace h := W_bd h
  refine order_Cycle_call h32 h (WkL_cons (Wk_agg (WkL_cons (Wk.refl _) (WkL_cons Wk_free WkL_nil))) WkL_nil) (fun _ h => ?_); (conv => whnf)
  refine hK _ _ _ ?_; clear hK K
  refine HT_fr DC_ok rfl fun K hK => ?_; (conv => whnf)
  refine nlA rfl ?_; (conv => whnf)
  refine blkK_of rfl ?_; (conv => whnf)
  refine nlA rfl ?_; (conv => whnf)
  replace h := W_bd h
  refine order_Lines_call h20 h (WkL_cons (Wk_agg (WkL_cons (Wk.refl _) (WkL_cons Wk_free WkL_nil))) WkL_nil) (fun _ h => ?_); (conv => whnf)
  refine hK _ _ _ ?_; clear hK K
  refine HT_seq ?_
  refine HT_jnG rfl h [1, 2, 3, 5, 7, 9, 11, 13, 15, 17, 19, 21, 22, 24] (fun σ => keepH σ [1, 2, 3, 5] ++ keepT σ [(2, 1)]) [] (fun kl kh ids b s => ⟨ofL ([(143, eB s)] ++ kl), ofH ([] ++ kh), b + 64⟩) ?_; (conv => whnf); refine And.intro (fun s h => HT_st ?_) (fun k h => ?_)
  · refine HT_if fun K1 K2 hK1 hK2 => ?_; (conv => whnf)
    refine cond_lk h (fun _ h => ?_) (fun _ h => ?_)
    · refine hK1 ?_; clear hK1 hK2 K1 K2
      refine HT_fr DC_ok rfl fun K hK => ?_; (conv => whnf)
      refine hK _ _ _ ?_; clear hK K
      refine HT_ret ?_
      refine Then_r ?_
      replace h := W_some h
      refine PostP_r DC_ok fun K hK => ?_; (conv => whnf)
      refine hK _ ?_; clear hK K
      cases h
      exact Wk.refl _
    refine hK2 ?_; clear hK1 hK2 K1 K2
    refine HT_skip ?_
    refine Then_n ?_
    refine HT_jnG rfl h [1, 2, 7, 9, 11, 13, 15, 17, 19, 21, 22, 24] (fun σ => keepH σ [1, 2] ++ keepT σ [(2, 1)]) [] (fun kl kh ids b s => ⟨ofL ([(27, eB s)] ++ kl), ofH ([] ++ kh), b + 64⟩) ?_; (conv => whnf); refine And.intro (fun s h => HT_st ?_) (fun k h => ?_)
    · refine HT_jnG rfl h [1, 2, 13, 15, 17, 19, 21, 22, 24, 27] (fun σ => keepH σ [1, 2] ++ keepT σ [(2, 1)]) [] (fun kl kh ids b s => ⟨ofL ([(28, eB s)] ++ kl), ofH ([] ++ kh), b + 64⟩) ?_; (conv => whnf); refine And.intro (fun s h => HT_st ?_) (fun k h => ?_)
      · refine HT_jnG rfl h [1, 2, 21, 22, 24, 27, 28] (fun σ => keepH σ [1, 2] ++ keepT σ [(2, 1)]) [] (fun kl kh ids b s => ⟨ofL ([(29, eB s)] ++ kl), ofH ([] ++ kh), b + 64⟩) ?_; (conv => whnf); refine And.intro (fun s h => HT_st ?_) (fun k h => ?_)
        · refine HT_jnK rfl h [1, 27, 28, 29] [1] [] (fun kl kh ids b s => ⟨ofL ([(30, eB s)] ++ kl), ofH ([] ++ kh), b + 64⟩) ?_; (conv => whnf); refine And.intro (fun s h => HT_st ?_) (fun k h => ?_)
          · refine HT_fr DC_ok rfl fun K hK => ?_; (conv => whnf)
            replace h := W_jn h
            refine cond_lk h (fun _ h => ?_) (fun _ h => ?_) <;> (conv => whnf)
            · refine cond_lk h (fun _ h => ?_) (fun _ h => ?_) <;> (conv => whnf)
              · refine cond_lk h (fun _ h => ?_) (fun _ h => ?_) <;> (conv => whnf)
                · refine cond_lk h (fun _ h => ?_) (fun _ h => ?_) <;> (conv => whnf)
                  · refine nlA rfl ?_; (conv => whnf)
                    refine blkK_of rfl ?_; (conv => whnf)
                    refine nlA rfl ?_; (conv => whnf)
                    replace h := W_bd h
                    refine order_Before_call h27 h (WkL_cons (Wk_agg (WkL_cons (Wk.refl _) (WkL_cons Wk_free WkL_nil))) (WkL_cons (Wk.refl _) (WkL_cons (Wk.refl _) WkL_nil))) (fun _ h => ?_); (conv => whnf)
                    refine cond_lk h (fun _ h => ?_) (fun _ h => ?_) <;> (conv => whnf)
                    · refine nlA rfl ?_; (conv => whnf)
                      refine blkK_of rfl ?_; (conv => whnf)
                      refine nlA rfl ?_; (conv => whnf)
                      replace h := W_bd h
                      refine order_Before_call h27 h (WkL_cons (Wk_agg (WkL_cons (Wk.refl _) (WkL_cons Wk_free WkL_nil))) (WkL_cons (Wk.refl _) (WkL_cons (Wk.refl _) WkL_nil))) (fun _ h => ?_); (conv => whnf)
                      refine cond_lk h (fun _ h => ?_) (fun _ h => ?_) <;> (conv => whnf)
                      · refine nlA rfl ?_; (conv => whnf)
                        refine blkK_of rfl ?_; (conv => whnf)
                        refine nlA rfl ?_; (conv => whnf)
                        replace h := W_bd h
                        refine order_Before_call h27 h (WkL_cons (Wk_agg (WkL_cons (Wk.refl _) (WkL_cons Wk_free WkL_nil))) (WkL_cons (Wk.refl _) (WkL_cons (Wk.refl _) WkL_nil))) (fun _ h => ?_); (conv => whnf)
                        refine hK _ _ _ ?_; clear hK K
                        refine HT_ret ?_
                        replace h := W_some h
                        refine PostP_r DC_ok fun K hK => ?_; (conv => whnf)
                        refine hK _ ?_; clear hK K
                        cases h
                        exact Wk.refl _
                      refine hK _ _ _ ?_; clear hK K
                      refine HT_ret ?_
                      replace h := W_some h
                      refine PostP_r DC_ok fun K hK => ?_; (conv => whnf)
                      refine hK _ ?_; clear hK K
                      cases h
                      exact Wk.refl _
                    refine hK _ _ _ ?_; clear hK K
                    refine HT_ret ?_
                    replace h := W_some h
                    refine PostP_r DC_ok fun K hK => ?_; (conv => whnf)
                    refine hK _ ?_; clear hK K
                    cases h
                    exact Wk.refl _
                  refine hK _ _ _ ?_; clear hK K
                  refine HT_ret ?_
                  replace h := W_some h
                  refine PostP_r DC_ok fun K hK => ?_; (conv => whnf)
                  refine hK _ ?_; clear hK K
                  cases h
                  exact Wk.refl _
                refine hK _ _ _ ?_; clear hK K
                refine HT_ret ?_
                replace h := W_some h
                refine PostP_r DC_ok fun K hK => ?_; (conv => whnf)
                refine hK _ ?_; clear hK K
                cases h
                exact Wk.refl _
              refine hK _ _ _ ?_; clear hK K
              refine HT_ret ?_
              replace h := W_some h
              refine PostP_r DC_ok fun K hK => ?_; (conv => whnf)
              refine hK _ ?_; clear hK K
              cases h
              exact Wk.refl _
            refine hK _ _ _ ?_; clear hK K
            refine HT_ret ?_
            replace h := W_some h
            refine PostP_r DC_ok fun K hK => ?_; (conv => whnf)
            refine hK _ ?_; clear hK K
            cases h
            exact Wk.refl _
          refine HT_f DC_ok rfl fun K hK => ?_; (conv => whnf)
          refine cond_lk h (fun _ h => ?_) (fun _ h => ?_) <;> (conv => whnf)
          · refine cond_lk h (fun _ h => ?_) (fun _ h => ?_) <;> (conv => whnf)
            · refine lt_lk (enc := eI) (d := default) DC_ok h rfl rfl rfl ⟨nle rfl, nle rfl, rfl⟩ rfl ⟨⟨rfl, rfl, rfl⟩, ⟨⟨rfl, rfl, rfl⟩, ⟨⟨rfl, rfl, rfl⟩, trivial⟩⟩⟩ (fun h => ?_); (conv => whnf)
              replace h := W_bd h
              refine ref07_Ints_call h36 h (WkL_cons (Wk.refl _) (WkL_cons Wk_free WkL_nil)) (fun _ h => ?_); (conv => whnf)
              refine cond_lk h (fun _ h => ?_) (fun _ h => ?_) <;> (conv => whnf)
              · refine nlA rfl ?_; (conv => whnf)
                refine blkK_of rfl ?_; (conv => whnf)
                refine nlA rfl ?_; (conv => whnf)
                replace h := W_bd h
                refine order_Valid_call h34 h (WkL_cons (Wk_agg (WkL_cons (Wk.refl _) (WkL_cons Wk_free WkL_nil))) WkL_nil) (fun _ h => ?_); (conv => whnf)
                refine cond_lk h (fun _ h => ?_) (fun _ h => ?_) <;> (conv => whnf)
                · refine nlA rfl ?_; (conv => whnf)
                  refine blkK_of rfl ?_; (conv => whnf)
                  refine nlA rfl ?_; (conv => whnf)
                  replace h := W_bd h
                  refine order_Valid_call h34 h (WkL_cons (Wk_agg (WkL_cons (Wk.refl _) (WkL_cons Wk_free WkL_nil))) WkL_nil) (fun _ h => ?_); (conv => whnf)
                  refine cond_lk h (fun _ h => ?_) (fun _ h => ?_) <;> (conv => whnf)
                  · refine nlA rfl ?_; (conv => whnf)
                    refine blkK_of rfl ?_; (conv => whnf)
                    refine nlA rfl ?_; (conv => whnf)
                    replace h := W_bd h
                    refine order_Formed_call h33 h (WkL_cons (Wk_agg (WkL_cons (Wk.refl _) (WkL_cons Wk_free WkL_nil))) WkL_nil) (fun _ h => ?_); (conv => whnf)
                    refine cond_lk h (fun _ h => ?_) (fun _ h => ?_) <;> (conv => whnf)
                    · replace h := W_bd h
                      refine order_Formed_call h33 h (WkL_cons (Wk_agg (WkL_cons (Wk.refl _) (WkL_cons Wk_nil WkL_nil))) WkL_nil) (fun _ h => ?_); (conv => whnf)
                      refine hK _ _ _ ?_; clear hK K
                      refine Then_n ?_
                      refine ⟨_, h, ?_⟩
                      refine weak_k ?_; (conv => whnf)
                      exact And.intro rfl (And.intro (allL_c (wkr (loose_bool _)) (allL_c (WkR.ptr (fun _ => rfl)) (allL_c (wkr (loose_bool _)) (allL_c (wkr (loose_bool _)) (allL_c (wkr (loose_bool _)) allL_n))))) (allL_c ⟨some _, rfl, BkR_c rfl (CkR_cons wkI (CkR_cons (wkr (loose_lstc fun _ => (lo_A46 _))) CkR_nil))⟩ allL_n))
                    refine hK _ _ _ ?_; clear hK K
                    refine Then_n ?_
                    refine ⟨_, h, ?_⟩
                    refine weak_k ?_; (conv => whnf)
                    exact And.intro rfl (And.intro (allL_c (wkr (loose_bool _)) (allL_c (WkR.ptr (fun _ => rfl)) (allL_c (wkr (loose_bool _)) (allL_c (wkr (loose_bool _)) (allL_c (wkr (loose_bool _)) allL_n))))) (allL_c ⟨some _, rfl, BkR_c rfl (CkR_cons wkI (CkR_cons (wkr (loose_lstc fun _ => (lo_A46 _))) CkR_nil))⟩ allL_n))
                  refine hK _ _ _ ?_; clear hK K
                  refine Then_n ?_
                  refine ⟨_, h, ?_⟩
                  refine weak_k ?_; (conv => whnf)
                  exact And.intro rfl (And.intro (allL_c (wkr (loose_bool _)) (allL_c (WkR.ptr (fun _ => rfl)) (allL_c (wkr (loose_bool _)) (allL_c (wkr (loose_bool _)) (allL_c (wkr (loose_bool _)) allL_n))))) (allL_c ⟨some _, rfl, BkR_c rfl (CkR_cons wkI (CkR_cons (wkr (loose_lstc fun _ => (lo_A46 _))) CkR_nil))⟩ allL_n))
                refine hK _ _ _ ?_; clear hK K
                refine Then_n ?_
                refine ⟨_, h, ?_⟩
                refine weak_k ?_; (conv => whnf)
                exact And.intro rfl (And.intro (allL_c (wkr (loose_bool _)) (allL_c (WkR.ptr (fun _ => rfl)) (allL_c (wkr (loose_bool _)) (allL_c (wkr (loose_bool _)) (allL_c (wkr (loose_bool _)) allL_n))))) (allL_c ⟨some _, rfl, BkR_c rfl (CkR_cons wkI (CkR_cons (wkr (loose_lstc fun _ => (lo_A46 _))) CkR_nil))⟩ allL_n))
              refine hK _ _ _ ?_; clear hK K
              refine Then_n ?_
              refine ⟨_, h, ?_⟩
              refine weak_k ?_; (conv => whnf)
              exact And.intro rfl (And.intro (allL_c (wkr (loose_bool _)) (allL_c (WkR.ptr (fun _ => rfl)) (allL_c (wkr (loose_bool _)) (allL_c (wkr (loose_bool _)) (allL_c (wkr (loose_bool _)) allL_n))))) (allL_c ⟨some _, rfl, BkR_c rfl (CkR_cons wkI (CkR_cons (wkr (loose_lstc fun _ => (lo_A46 _))) CkR_nil))⟩ allL_n))
            refine hK _ _ _ ?_; clear hK K
            refine Then_n ?_
            refine ⟨_, h, ?_⟩
            refine weak_k ?_; (conv => whnf)
            exact And.intro rfl (And.intro (allL_c (wkr (loose_bool _)) (allL_c (WkR.ptr (fun _ => rfl)) (allL_c (wkr (loose_bool _)) (allL_c (wkr (loose_bool _)) (allL_c (wkr (loose_bool _)) allL_n))))) (allL_c ⟨some _, rfl, BkR_c rfl (CkR_cons wkI (CkR_cons (wkr (loose_lstc fun _ => (lo_A46 _))) CkR_nil))⟩ allL_n))
          refine hK _ _ _ ?_; clear hK K
          refine Then_n ?_
          refine ⟨_, h, ?_⟩
          refine weak_k ?_; (conv => whnf)
          exact And.intro rfl (And.intro (allL_c (wkr (loose_bool _)) (allL_c (WkR.ptr (fun _ => rfl)) (allL_c (wkr (loose_bool _)) (allL_c (wkr (loose_bool _)) (allL_c (wkr (loose_bool _)) allL_n))))) (allL_c ⟨some _, rfl, BkR_c rfl (CkR_cons wkI (CkR_cons (wkr (loose_lstc fun _ => (lo_A46 _))) CkR_nil))⟩ allL_n))
        refine HT_f DC_ok rfl fun K hK => ?_; (conv => whnf)
        refine lt_lk (enc := eI) (d := default) DC_ok h rfl rfl rfl ⟨nle rfl, nle rfl, rfl⟩ rfl ⟨⟨rfl, rfl, rfl⟩, ⟨⟨rfl, rfl, rfl⟩, ⟨⟨rfl, rfl, rfl⟩, ⟨⟨rfl, rfl, rfl⟩, ⟨⟨rfl, rfl, rfl⟩, trivial⟩⟩⟩⟩⟩ (fun h => ?_); (conv => whnf)
        replace h := W_bd h
        refine ref07_Ints_call h36 h (WkL_cons (Wk.refl _) (WkL_cons Wk_free WkL_nil)) (fun _ h => ?_); (conv => whnf)
        refine cond_lk h (fun _ h => ?_) (fun _ h => ?_) <;> (conv => whnf)
        · refine lt_lk (enc := eI) (d := default) DC_ok h rfl rfl rfl ⟨nle rfl, nle rfl, rfl⟩ rfl ⟨⟨rfl, rfl, rfl⟩, ⟨⟨rfl, rfl, rfl⟩, ⟨⟨rfl, rfl, rfl⟩, trivial⟩⟩⟩ (fun h => ?_); (conv => whnf)
          replace h := W_bd h
          refine ref07_Ints_call h36 h (WkL_cons (Wk.refl _) (WkL_cons Wk_free WkL_nil)) (fun _ h => ?_); (conv => whnf)
          refine cond_lk h (fun _ h => ?_) (fun _ h => ?_) <;> (conv => whnf)
          · refine lt_lk (enc := eI) (d := default) DC_ok h rfl rfl rfl ⟨nle rfl, nle rfl, rfl⟩ rfl ⟨⟨rfl, rfl, rfl⟩, ⟨⟨rfl, rfl, rfl⟩, trivial⟩⟩ (fun h => ?_); (conv => whnf)
            replace h := W_bd h
            refine ref07_Ints_call h36 h (WkL_cons (Wk.refl _) (WkL_cons Wk_free WkL_nil)) (fun _ h => ?_); (conv => whnf)
            refine cond_lk h (fun _ h => ?_) (fun _ h => ?_) <;> (conv => whnf)
            · refine hK _ _ _ ?_; clear hK K
              refine Then_n ?_
              refine ⟨_, h, ?_⟩
              refine weak_k ?_; (conv => whnf)
              exact And.intro rfl (And.intro (allL_c (wkr (loose_bool _)) (allL_c (WkR.ptr (fun _ => rfl)) (allL_c (WkR.ptr (fun _ => rfl)) (allL_c (wkr (loose_lst fun _ => (loose_int _ _))) (allL_c (wkr (loose_bool _)) (allL_c (wkr (loose_bool _)) (allL_c (wkr (loose_bool _)) (allL_c (wkr (loose_bool _)) allL_n)))))))) (allL_c ⟨some _, rfl, BkR_c rfl (CkR_cons wkI (CkR_cons (wkr (loose_lstc fun _ => (lo_A46 _))) CkR_nil))⟩ (allL_c ⟨some _, rfl, BkR_c rfl (CkR_cons wkI (CkR_cons (WkR.tok (fun _ => rfl) rfl (fun _ _ => Wk.refl _) (fun _ => (lo_A46 _))) CkR_nil))⟩ (allL_c ⟨some _, rfl, BkR_c rfl CkR_nil⟩ allL_n))))
            refine hK _ _ _ ?_; clear hK K
            refine Then_n ?_
            refine ⟨_, h, ?_⟩
            refine weak_k ?_; (conv => whnf)
            exact And.intro rfl (And.intro (allL_c (wkr (loose_bool _)) (allL_c (WkR.ptr (fun _ => rfl)) (allL_c (WkR.ptr (fun _ => rfl)) (allL_c (wkr (loose_lst fun _ => (loose_int _ _))) (allL_c (wkr (loose_bool _)) (allL_c (wkr (loose_bool _)) (allL_c (wkr (loose_bool _)) (allL_c (wkr (loose_bool _)) allL_n)))))))) (allL_c ⟨some _, rfl, BkR_c rfl (CkR_cons wkI (CkR_cons (wkr (loose_lstc fun _ => (lo_A46 _))) CkR_nil))⟩ (allL_c ⟨some _, rfl, BkR_c rfl (CkR_cons wkI (CkR_cons (WkR.tok (fun _ => rfl) rfl (fun _ _ => Wk.refl _) (fun _ => (lo_A46 _))) CkR_nil))⟩ (allL_c ⟨some _, rfl, BkR_c rfl CkR_nil⟩ allL_n))))
          refine hK _ _ _ ?_; clear hK K
          refine Then_n ?_
          refine ⟨_, h, ?_⟩
          refine weak_k ?_; (conv => whnf)
          exact And.intro rfl (And.intro (allL_c (wkr (loose_bool _)) (allL_c (WkR.ptr (fun _ => rfl)) (allL_c (WkR.ptr (fun _ => rfl)) (allL_c (wkr (loose_lst fun _ => (loose_int _ _))) (allL_c (wkr (loose_bool _)) (allL_c (wkr (loose_bool _)) (allL_c (wkr (loose_bool _)) (allL_c (wkr (loose_bool _)) allL_n)))))))) (allL_c ⟨some _, rfl, BkR_c rfl (CkR_cons wkI (CkR_cons (wkr (loose_lstc fun _ => (lo_A46 _))) CkR_nil))⟩ (allL_c ⟨some _, rfl, BkR_c rfl (CkR_cons wkI (CkR_cons (WkR.tok (fun _ => rfl) rfl (fun _ _ => Wk.refl _) (fun _ => (lo_A46 _))) CkR_nil))⟩ (allL_c ⟨some _, rfl, BkR_c rfl CkR_nil⟩ allL_n))))
        refine hK _ _ _ ?_; clear hK K
        refine Then_n ?_
        refine ⟨_, h, ?_⟩
        refine weak_k ?_; (conv => whnf)
        exact And.intro rfl (And.intro (allL_c (wkr (loose_bool _)) (allL_c (WkR.ptr (fun _ => rfl)) (allL_c (WkR.ptr (fun _ => rfl)) (allL_c (wkr (loose_lst fun _ => (loose_int _ _))) (allL_c (wkr (loose_bool _)) (allL_c (wkr (loose_bool _)) (allL_c (wkr (loose_bool _)) (allL_c (wkr (loose_bool _)) allL_n)))))))) (allL_c ⟨some _, rfl, BkR_c rfl (CkR_cons wkI (CkR_cons (wkr (loose_lstc fun _ => (lo_A46 _))) CkR_nil))⟩ (allL_c ⟨some _, rfl, BkR_c rfl (CkR_cons wkI (CkR_cons (WkR.tok (fun _ => rfl) rfl (fun _ _ => Wk.refl _) (fun _ => (lo_A46 _))) CkR_nil))⟩ (allL_c ⟨some _, rfl, BkR_c rfl CkR_nil⟩ allL_n))))
      refine HT_f DC_ok rfl fun K hK => ?_; (conv => whnf)
      refine lt_lk (enc := eI) (d := default) DC_ok h rfl rfl rfl ⟨nle rfl, nle rfl, rfl⟩ rfl ⟨⟨rfl, rfl, rfl⟩, ⟨⟨rfl, rfl, rfl⟩, ⟨⟨rfl, rfl, rfl⟩, ⟨⟨rfl, rfl, rfl⟩, ⟨⟨rfl, rfl, rfl⟩, ⟨⟨rfl, rfl, rfl⟩, ⟨⟨rfl, rfl, rfl⟩, ⟨⟨rfl, rfl, rfl⟩, ⟨⟨rfl, rfl, rfl⟩, ⟨⟨rfl, rfl, rfl⟩, trivial⟩⟩⟩⟩⟩⟩⟩⟩⟩⟩ (fun h => ?_); (conv => whnf)
      replace h := W_bd h
      refine ref07_Ints_call h36 h (WkL_cons (Wk.refl _) (WkL_cons Wk_free WkL_nil)) (fun _ h => ?_); (conv => whnf)
      refine cond_lk h (fun _ h => ?_) (fun _ h => ?_) <;> (conv => whnf)
      · refine lt_lk (enc := eI) (d := default) DC_ok h rfl rfl rfl ⟨nle rfl, nle rfl, rfl⟩ rfl ⟨⟨rfl, rfl, rfl⟩, ⟨⟨rfl, rfl, rfl⟩, ⟨⟨rfl, rfl, rfl⟩, ⟨⟨rfl, rfl, rfl⟩, ⟨⟨rfl, rfl, rfl⟩, trivial⟩⟩⟩⟩⟩ (fun h => ?_); (conv => whnf)
        replace h := W_bd h
        refine ref07_Ints_call h36 h (WkL_cons (Wk.refl _) (WkL_cons Wk_free WkL_nil)) (fun _ h => ?_); (conv => whnf)
        refine cond_lk h (fun _ h => ?_) (fun _ h => ?_) <;> (conv => whnf)
        · refine cond_lk h (fun _ h => ?_) (fun _ h => ?_) <;> (conv => whnf)
          · refine nlA rfl ?_; (conv => whnf)
            refine blkK_of rfl ?_; (conv => whnf)
            refine nlA rfl ?_; (conv => whnf)
            refine lt_lk (enc := eI) (d := default) DC_ok h rfl rfl rfl ⟨nle rfl, nle rfl, rfl⟩ rfl ⟨⟨rfl, rfl, rfl⟩, ⟨⟨rfl, rfl, rfl⟩, ⟨⟨rfl, rfl, rfl⟩, ⟨⟨rfl, rfl, rfl⟩, ⟨⟨rfl, rfl, rfl⟩, trivial⟩⟩⟩⟩⟩ (fun h => ?_); (conv => whnf)
            replace h := W_bd h
            refine order_IsLine_call h22 h (WkL_cons (Wk_agg (WkL_cons (Wk.refl _) (WkL_cons Wk_free WkL_nil))) (WkL_cons Wk_free WkL_nil)) (fun _ h => ?_); (conv => whnf)
            refine cond_lk h (fun _ h => ?_) (fun _ h => ?_) <;> (conv => whnf)
            · refine nlA rfl ?_; (conv => whnf)
              refine blkK_of rfl ?_; (conv => whnf)
              refine nlA rfl ?_; (conv => whnf)
              refine lt_lk (enc := eI) (d := default) DC_ok h rfl rfl rfl ⟨nle rfl, nle rfl, rfl⟩ rfl ⟨⟨rfl, rfl, rfl⟩, ⟨⟨rfl, rfl, rfl⟩, ⟨⟨rfl, rfl, rfl⟩, ⟨⟨rfl, rfl, rfl⟩, ⟨⟨rfl, rfl, rfl⟩, trivial⟩⟩⟩⟩⟩ (fun h => ?_); (conv => whnf)
              replace h := W_bd h
              refine order_IsLine_call h22 h (WkL_cons (Wk_agg (WkL_cons (Wk.refl _) (WkL_cons Wk_free WkL_nil))) (WkL_cons Wk_free WkL_nil)) (fun _ h => ?_); (conv => whnf)
              refine hK _ _ _ ?_; clear hK K
              refine Then_n ?_
              refine ⟨_, h, ?_⟩
              refine weak_k ?_; (conv => whnf)
              exact And.intro rfl (And.intro (allL_c (wkr (loose_bool _)) (allL_c (WkR.ptr (fun _ => rfl)) (allL_c (WkR.ptr (fun _ => rfl)) (allL_c (wkr (loose_lst fun _ => (loose_int _ _))) (allL_c (wkr (loose_lst fun _ => (loose_int _ _))) (allL_c (wkr (loose_lst fun _ => (loose_int _ _))) (allL_c (wkr (loose_lst fun _ => (loose_lst fun _ => (loose_int _ _)))) (allL_c (wkr (loose_lst fun _ => (loose_int _ _))) (allL_c (wkr (loose_bool _)) (allL_c (wkr (loose_bool _)) (allL_c (wkr (loose_bool _)) allL_n))))))))))) (allL_c ⟨some _, rfl, BkR_c rfl (CkR_cons wkI (CkR_cons (wkr (loose_lstc fun _ => (lo_A46 _))) CkR_nil))⟩ (allL_c ⟨some _, rfl, BkR_c rfl (CkR_cons wkI (CkR_cons (WkR.tok (fun _ => rfl) rfl (fun _ _ => Wk.refl _) (fun _ => (lo_A46 _))) CkR_nil))⟩ (allL_c ⟨some _, rfl, BkR_c rfl CkR_nil⟩ allL_n))))
            refine hK _ _ _ ?_; clear hK K
            refine Then_n ?_
            refine ⟨_, h, ?_⟩
            refine weak_k ?_; (conv => whnf)
            exact And.intro rfl (And.intro (allL_c (wkr (loose_bool _)) (allL_c (WkR.ptr (fun _ => rfl)) (allL_c (WkR.ptr (fun _ => rfl)) (allL_c (wkr (loose_lst fun _ => (loose_int _ _))) (allL_c (wkr (loose_lst fun _ => (loose_int _ _))) (allL_c (wkr (loose_lst fun _ => (loose_int _ _))) (allL_c (wkr (loose_lst fun _ => (loose_lst fun _ => (loose_int _ _)))) (allL_c (wkr (loose_lst fun _ => (loose_int _ _))) (allL_c (wkr (loose_bool _)) (allL_c (wkr (loose_bool _)) (allL_c (wkr (loose_bool _)) allL_n))))))))))) (allL_c ⟨some _, rfl, BkR_c rfl (CkR_cons wkI (CkR_cons (wkr (loose_lstc fun _ => (lo_A46 _))) CkR_nil))⟩ (allL_c ⟨some _, rfl, BkR_c rfl (CkR_cons wkI (CkR_cons (WkR.tok (fun _ => rfl) rfl (fun _ _ => Wk.refl _) (fun _ => (lo_A46 _))) CkR_nil))⟩ (allL_c ⟨some _, rfl, BkR_c rfl CkR_nil⟩ allL_n))))
          refine hK _ _ _ ?_; clear hK K
          refine Then_n ?_
          refine ⟨_, h, ?_⟩
          refine weak_k ?_; (conv => whnf)
          exact And.intro rfl (And.intro (allL_c (wkr (loose_bool _)) (allL_c (WkR.ptr (fun _ => rfl)) (allL_c (WkR.ptr (fun _ => rfl)) (allL_c (wkr (loose_lst fun _ => (loose_int _ _))) (allL_c (wkr (loose_lst fun _ => (loose_int _ _))) (allL_c (wkr (loose_lst fun _ => (loose_int _ _))) (allL_c (wkr (loose_lst fun _ => (loose_lst fun _ => (loose_int _ _)))) (allL_c (wkr (loose_lst fun _ => (loose_int _ _))) (allL_c (wkr (loose_bool _)) (allL_c (wkr (loose_bool _)) (allL_c (wkr (loose_bool _)) allL_n))))))))))) (allL_c ⟨some _, rfl, BkR_c rfl (CkR_cons wkI (CkR_cons (wkr (loose_lstc fun _ => (lo_A46 _))) CkR_nil))⟩ (allL_c ⟨some _, rfl, BkR_c rfl (CkR_cons wkI (CkR_cons (WkR.tok (fun _ => rfl) rfl (fun _ _ => Wk.refl _) (fun _ => (lo_A46 _))) CkR_nil))⟩ (allL_c ⟨some _, rfl, BkR_c rfl CkR_nil⟩ allL_n))))
        refine hK _ _ _ ?_; clear hK K
        refine Then_n ?_
        refine ⟨_, h, ?_⟩
        refine weak_k ?_; (conv => whnf)
        exact And.intro rfl (And.intro (allL_c (wkr (loose_bool _)) (allL_c (WkR.ptr (fun _ => rfl)) (allL_c (WkR.ptr (fun _ => rfl)) (allL_c (wkr (loose_lst fun _ => (loose_int _ _))) (allL_c (wkr (loose_lst fun _ => (loose_int _ _))) (allL_c (wkr (loose_lst fun _ => (loose_int _ _))) (allL_c (wkr (loose_lst fun _ => (loose_lst fun _ => (loose_int _ _)))) (allL_c (wkr (loose_lst fun _ => (loose_int _ _))) (allL_c (wkr (loose_bool _)) (allL_c (wkr (loose_bool _)) (allL_c (wkr (loose_bool _)) allL_n))))))))))) (allL_c ⟨some _, rfl, BkR_c rfl (CkR_cons wkI (CkR_cons (wkr (loose_lstc fun _ => (lo_A46 _))) CkR_nil))⟩ (allL_c ⟨some _, rfl, BkR_c rfl (CkR_cons wkI (CkR_cons (WkR.tok (fun _ => rfl) rfl (fun _ _ => Wk.refl _) (fun _ => (lo_A46 _))) CkR_nil))⟩ (allL_c ⟨some _, rfl, BkR_c rfl CkR_nil⟩ allL_n))))
      refine hK _ _ _ ?_; clear hK K
      refine Then_n ?_
      refine ⟨_, h, ?_⟩
      refine weak_k ?_; (conv => whnf)
      exact And.intro rfl (And.intro (allL_c (wkr (loose_bool _)) (allL_c (WkR.ptr (fun _ => rfl)) (allL_c (WkR.ptr (fun _ => rfl)) (allL_c (wkr (loose_lst fun _ => (loose_int _ _))) (allL_c (wkr (loose_lst fun _ => (loose_int _ _))) (allL_c (wkr (loose_lst fun _ => (loose_int _ _))) (allL_c (wkr (loose_lst fun _ => (loose_lst fun _ => (loose_int _ _)))) (allL_c (wkr (loose_lst fun _ => (loose_int _ _))) (allL_c (wkr (loose_bool _)) (allL_c (wkr (loose_bool _)) (allL_c (wkr (loose_bool _)) allL_n))))))))))) (allL_c ⟨some _, rfl, BkR_c rfl (CkR_cons wkI (CkR_cons (wkr (loose_lstc fun _ => (lo_A46 _))) CkR_nil))⟩ (allL_c ⟨some _, rfl, BkR_c rfl (CkR_cons wkI (CkR_cons (WkR.tok (fun _ => rfl) rfl (fun _ _ => Wk.refl _) (fun _ => (lo_A46 _))) CkR_nil))⟩ (allL_c ⟨some _, rfl, BkR_c rfl CkR_nil⟩ allL_n))))
    refine HT_f DC_ok rfl fun K hK => ?_; (conv => whnf)
    refine nlA rfl ?_; (conv => whnf)
    refine blkK_of rfl ?_; (conv => whnf)
    refine nlA rfl ?_; (conv => whnf)
    refine lt_lk (enc := eA46) (d := default) DC_ok h rfl rfl rfl ⟨nle rfl, nle rfl, rfl⟩ rfl ⟨⟨rfl, nle rfl⟩, ⟨⟨rfl, nle rfl⟩, ⟨⟨rfl, nle rfl⟩, ⟨⟨rfl, nle rfl⟩, ⟨⟨rfl, nle rfl⟩, ⟨⟨rfl, nle rfl⟩, trivial⟩⟩⟩⟩⟩⟩ (fun h => ?_); (conv => whnf)
    replace h := W_bd h
    refine ref07_Same_call h26 h (WkL_cons (Wk.refl _) (WkL_cons (Wk_agg (WkL_cons (Wk.refl _) (WkL_cons Wk_free WkL_nil))) WkL_nil)) (fun _ h => ?_); (conv => whnf)
    refine cond_lk h (fun _ h => ?_) (fun _ h => ?_) <;> (conv => whnf)
    · refine nlA rfl ?_; (conv => whnf)
      refine blkK_of rfl ?_; (conv => whnf)
      refine nlA rfl ?_; (conv => whnf)
      refine lt_lk (enc := eA46) (d := default) DC_ok h rfl rfl rfl ⟨nle rfl, nle rfl, rfl⟩ rfl ⟨⟨rfl, nle rfl⟩, ⟨⟨rfl, nle rfl⟩, ⟨⟨rfl, nle rfl⟩, ⟨⟨rfl, nle rfl⟩, trivial⟩⟩⟩⟩ (fun h => ?_); (conv => whnf)
      replace h := W_bd h
      refine ref07_Same_call h26 h (WkL_cons (Wk.refl _) (WkL_cons (Wk_agg (WkL_cons (Wk.refl _) (WkL_cons Wk_free WkL_nil))) WkL_nil)) (fun _ h => ?_); (conv => whnf)
      refine hK _ _ _ ?_; clear hK K
      refine Then_n ?_
      refine ⟨_, h, ?_⟩
      refine weak_k ?_; (conv => whnf)
      exact And.intro rfl (And.intro (allL_c (wkr (loose_bool _)) (allL_c (WkR.ptr (fun _ => rfl)) (allL_c (WkR.ptr (fun _ => rfl)) (allL_c (wkr (loose_lst fun _ => (loose_int _ _))) (allL_c (wkr (loose_lst fun _ => (loose_int _ _))) (allL_c wkI (allL_c (wkr (loose_lst fun _ => (loose_int _ _))) (allL_c (wkr (loose_lst fun _ => (loose_int _ _))) (allL_c (wkr (loose_lst fun _ => (loose_int _ _))) (allL_c (wkr (loose_lst fun _ => (loose_lst fun _ => (loose_int _ _)))) (allL_c (wkr (loose_lst fun _ => (loose_int _ _))) (allL_c (wkr (loose_bool _)) (allL_c (wkr (loose_bool _)) allL_n))))))))))))) (allL_c ⟨some _, rfl, BkR_c rfl (CkR_cons wkI (CkR_cons (wkr (loose_lstc fun _ => (lo_A46 _))) CkR_nil))⟩ (allL_c ⟨some _, rfl, BkR_c rfl (CkR_cons wkI (CkR_cons (WkR.tok (fun _ => rfl) rfl (fun _ _ => Wk.refl _) (fun _ => (lo_A46 _))) CkR_nil))⟩ (allL_c ⟨some _, rfl, BkR_c rfl CkR_nil⟩ allL_n))))
    refine hK _ _ _ ?_; clear hK K
    refine Then_n ?_
    refine ⟨_, h, ?_⟩
    refine weak_k ?_; (conv => whnf)
    exact And.intro rfl (And.intro (allL_c (wkr (loose_bool _)) (allL_c (WkR.ptr (fun _ => rfl)) (allL_c (WkR.ptr (fun _ => rfl)) (allL_c (wkr (loose_lst fun _ => (loose_int _ _))) (allL_c (wkr (loose_lst fun _ => (loose_int _ _))) (allL_c wkI (allL_c (wkr (loose_lst fun _ => (loose_int _ _))) (allL_c (wkr (loose_lst fun _ => (loose_int _ _))) (allL_c (wkr (loose_lst fun _ => (loose_int _ _))) (allL_c (wkr (loose_lst fun _ => (loose_lst fun _ => (loose_int _ _)))) (allL_c (wkr (loose_lst fun _ => (loose_int _ _))) (allL_c (wkr (loose_bool _)) (allL_c (wkr (loose_bool _)) allL_n))))))))))))) (allL_c ⟨some _, rfl, BkR_c rfl (CkR_cons wkI (CkR_cons (wkr (loose_lstc fun _ => (lo_A46 _))) CkR_nil))⟩ (allL_c ⟨some _, rfl, BkR_c rfl (CkR_cons wkI (CkR_cons (WkR.tok (fun _ => rfl) rfl (fun _ _ => Wk.refl _) (fun _ => (lo_A46 _))) CkR_nil))⟩ (allL_c ⟨some _, rfl, BkR_c rfl CkR_nil⟩ allL_n))))
  refine HT_f DC_ok rfl fun K hK => ?_; (conv => whnf)
  refine cond_lk h (fun _ h => ?_) (fun _ h => ?_) <;> (conv => whnf)
  · refine hK _ _ _ ?_; clear hK K
    refine Then_n ?_
    refine ⟨_, h, ?_⟩
    refine weak_k ?_; (conv => whnf)
    exact And.intro rfl (And.intro (allL_c (wkr (loose_bool _)) (allL_c (WkR.ptr (fun _ => rfl)) (allL_c (WkR.ptr (fun _ => rfl)) (allL_c (WkR.ptr (fun _ => rfl)) (allL_c (WkR.ptr (fun _ => rfl)) (allL_c (wkr (loose_lst fun _ => (loose_int _ _))) (allL_c (wkr (loose_lst fun _ => (loose_int _ _))) (allL_c wkI (allL_c (wkr (loose_lst fun _ => (loose_int _ _))) (allL_c (wkr (loose_lst fun _ => (loose_int _ _))) (allL_c (wkr (loose_lst fun _ => (loose_int _ _))) (allL_c (wkr (loose_lst fun _ => (loose_lst fun _ => (loose_int _ _)))) (allL_c (wkr (loose_lst fun _ => (loose_int _ _))) (allL_c (wkr (loose_bool _)) (allL_c (wkr (loose_bool _)) allL_n))))))))))))))) (allL_c ⟨some _, rfl, BkR_c rfl (CkR_cons wkI (CkR_cons (wkr (loose_lstc fun _ => (lo_A46 _))) CkR_nil))⟩ (allL_c ⟨some _, rfl, BkR_c rfl (CkR_cons wkI (CkR_cons (WkR.tok (fun _ => rfl) rfl (fun _ _ => Wk.refl _) (fun _ => (lo_A46 _))) CkR_nil))⟩ (allL_c ⟨some _, rfl, BkR_c rfl (CkR_cons wkI (CkR_cons (wkr (loose_lst fun _ => (lo_A46 _))) CkR_nil))⟩ (allL_c ⟨some _, rfl, BkR_c rfl (CkR_cons wkI (CkR_cons (wkr (loose_lst fun _ => (lo_A46 _))) CkR_nil))⟩ (allL_c ⟨some _, rfl, BkR_c rfl CkR_nil⟩ allL_n))))))
  refine cond_lk h (fun _ h => ?_) (fun _ h => ?_) <;> (conv => whnf)
  · refine hK _ _ _ ?_; clear hK K
    refine Then_n ?_
    refine ⟨_, h, ?_⟩
    refine weak_k ?_; (conv => whnf)
    exact And.intro rfl (And.intro (allL_c (wkr (loose_bool _)) (allL_c (WkR.ptr (fun _ => rfl)) (allL_c (WkR.ptr (fun _ => rfl)) (allL_c (WkR.ptr (fun _ => rfl)) (allL_c (WkR.ptr (fun _ => rfl)) (allL_c (wkr (loose_lst fun _ => (loose_int _ _))) (allL_c (wkr (loose_lst fun _ => (loose_int _ _))) (allL_c wkI (allL_c (wkr (loose_lst fun _ => (loose_int _ _))) (allL_c (wkr (loose_lst fun _ => (loose_int _ _))) (allL_c (wkr (loose_lst fun _ => (loose_int _ _))) (allL_c (wkr (loose_lst fun _ => (loose_lst fun _ => (loose_int _ _)))) (allL_c (wkr (loose_lst fun _ => (loose_int _ _))) (allL_c (wkr (loose_bool _)) (allL_c (wkr (loose_bool _)) allL_n))))))))))))))) (allL_c ⟨some _, rfl, BkR_c rfl (CkR_cons wkI (CkR_cons (wkr (loose_lstc fun _ => (lo_A46 _))) CkR_nil))⟩ (allL_c ⟨some _, rfl, BkR_c rfl (CkR_cons wkI (CkR_cons (WkR.tok (fun _ => rfl) rfl (fun _ _ => Wk.refl _) (fun _ => (lo_A46 _))) CkR_nil))⟩ (allL_c ⟨some _, rfl, BkR_c rfl (CkR_cons wkI (CkR_cons (wkr (loose_lst fun _ => (lo_A46 _))) CkR_nil))⟩ (allL_c ⟨some _, rfl, BkR_c rfl (CkR_cons wkI (CkR_cons (wkr (loose_lst fun _ => (lo_A46 _))) CkR_nil))⟩ (allL_c ⟨some _, rfl, BkR_c rfl CkR_nil⟩ allL_n))))))
  refine cond_lk h (fun _ h => ?_) (fun _ h => ?_) <;> (conv => whnf)
  · refine hK _ _ _ ?_; clear hK K
    refine Then_n ?_
    refine ⟨_, h, ?_⟩
    refine weak_k ?_; (conv => whnf)
    exact And.intro rfl (And.intro (allL_c (wkr (loose_bool _)) (allL_c (WkR.ptr (fun _ => rfl)) (allL_c (WkR.ptr (fun _ => rfl)) (allL_c (WkR.ptr (fun _ => rfl)) (allL_c (WkR.ptr (fun _ => rfl)) (allL_c (wkr (loose_lst fun _ => (loose_int _ _))) (allL_c (wkr (loose_lst fun _ => (loose_int _ _))) (allL_c wkI (allL_c (wkr (loose_lst fun _ => (loose_int _ _))) (allL_c (wkr (loose_lst fun _ => (loose_int _ _))) (allL_c (wkr (loose_lst fun _ => (loose_int _ _))) (allL_c (wkr (loose_lst fun _ => (loose_lst fun _ => (loose_int _ _)))) (allL_c (wkr (loose_lst fun _ => (loose_int _ _))) (allL_c (wkr (loose_bool _)) (allL_c (wkr (loose_bool _)) allL_n))))))))))))))) (allL_c ⟨some _, rfl, BkR_c rfl (CkR_cons wkI (CkR_cons (wkr (loose_lstc fun _ => (lo_A46 _))) CkR_nil))⟩ (allL_c ⟨some _, rfl, BkR_c rfl (CkR_cons wkI (CkR_cons (WkR.tok (fun _ => rfl) rfl (fun _ _ => Wk.refl _) (fun _ => (lo_A46 _))) CkR_nil))⟩ (allL_c ⟨some _, rfl, BkR_c rfl (CkR_cons wkI (CkR_cons (wkr (loose_lst fun _ => (lo_A46 _))) CkR_nil))⟩ (allL_c ⟨some _, rfl, BkR_c rfl (CkR_cons wkI (CkR_cons (wkr (loose_lst fun _ => (lo_A46 _))) CkR_nil))⟩ (allL_c ⟨some _, rfl, BkR_c rfl CkR_nil⟩ allL_n))))))
  refine cond_lk h (fun _ h => ?_) (fun _ h => ?_) <;> (conv => whnf)
  · refine hK _ _ _ ?_; clear hK K
    refine Then_n ?_
    refine ⟨_, h, ?_⟩
    refine weak_k ?_; (conv => whnf)
    exact And.intro rfl (And.intro (allL_c (wkr (loose_bool _)) (allL_c (WkR.ptr (fun _ => rfl)) (allL_c (WkR.ptr (fun _ => rfl)) (allL_c (WkR.ptr (fun _ => rfl)) (allL_c (WkR.ptr (fun _ => rfl)) (allL_c (wkr (loose_lst fun _ => (loose_int _ _))) (allL_c (wkr (loose_lst fun _ => (loose_int _ _))) (allL_c wkI (allL_c (wkr (loose_lst fun _ => (loose_int _ _))) (allL_c (wkr (loose_lst fun _ => (loose_int _ _))) (allL_c (wkr (loose_lst fun _ => (loose_int _ _))) (allL_c (wkr (loose_lst fun _ => (loose_lst fun _ => (loose_int _ _)))) (allL_c (wkr (loose_lst fun _ => (loose_int _ _))) (allL_c (wkr (loose_bool _)) (allL_c (wkr (loose_bool _)) allL_n))))))))))))))) (allL_c ⟨some _, rfl, BkR_c rfl (CkR_cons wkI (CkR_cons (wkr (loose_lstc fun _ => (lo_A46 _))) CkR_nil))⟩ (allL_c ⟨some _, rfl, BkR_c rfl (CkR_cons wkI (CkR_cons (WkR.tok (fun _ => rfl) rfl (fun _ _ => Wk.refl _) (fun _ => (lo_A46 _))) CkR_nil))⟩ (allL_c ⟨some _, rfl, BkR_c rfl (CkR_cons wkI (CkR_cons (wkr (loose_lst fun _ => (lo_A46 _))) CkR_nil))⟩ (allL_c ⟨some _, rfl, BkR_c rfl (CkR_cons wkI (CkR_cons (wkr (loose_lst fun _ => (lo_A46 _))) CkR_nil))⟩ (allL_c ⟨some _, rfl, BkR_c rfl CkR_nil⟩ allL_n))))))
  refine cond_lk h (fun _ h => ?_) (fun _ h => ?_) <;> (conv => whnf)
  · refine hK _ _ _ ?_; clear hK K
    refine Then_n ?_
    refine ⟨_, h, ?_⟩
    refine weak_k ?_; (conv => whnf)
    exact And.intro rfl (And.intro (allL_c (wkr (loose_bool _)) (allL_c (WkR.ptr (fun _ => rfl)) (allL_c (WkR.ptr (fun _ => rfl)) (allL_c (WkR.ptr (fun _ => rfl)) (allL_c (WkR.ptr (fun _ => rfl)) (allL_c (wkr (loose_lst fun _ => (loose_int _ _))) (allL_c (wkr (loose_lst fun _ => (loose_int _ _))) (allL_c wkI (allL_c (wkr (loose_lst fun _ => (loose_int _ _))) (allL_c (wkr (loose_lst fun _ => (loose_int _ _))) (allL_c (wkr (loose_lst fun _ => (loose_int _ _))) (allL_c (wkr (loose_lst fun _ => (loose_lst fun _ => (loose_int _ _)))) (allL_c (wkr (loose_lst fun _ => (loose_int _ _))) (allL_c (wkr (loose_bool _)) (allL_c (wkr (loose_bool _)) allL_n))))))))))))))) (allL_c ⟨some _, rfl, BkR_c rfl (CkR_cons wkI (CkR_cons (wkr (loose_lstc fun _ => (lo_A46 _))) CkR_nil))⟩ (allL_c ⟨some _, rfl, BkR_c rfl (CkR_cons wkI (CkR_cons (WkR.tok (fun _ => rfl) rfl (fun _ _ => Wk.refl _) (fun _ => (lo_A46 _))) CkR_nil))⟩ (allL_c ⟨some _, rfl, BkR_c rfl (CkR_cons wkI (CkR_cons (wkr (loose_lst fun _ => (lo_A46 _))) CkR_nil))⟩ (allL_c ⟨some _, rfl, BkR_c rfl (CkR_cons wkI (CkR_cons (wkr (loose_lst fun _ => (lo_A46 _))) CkR_nil))⟩ (allL_c ⟨some _, rfl, BkR_c rfl CkR_nil⟩ allL_n))))))
  refine cond_lk h (fun _ h => ?_) (fun _ h => ?_) <;> (conv => whnf)
  · refine hK _ _ _ ?_; clear hK K
    refine Then_n ?_
    refine ⟨_, h, ?_⟩
    refine weak_k ?_; (conv => whnf)
    exact And.intro rfl (And.intro (allL_c (wkr (loose_bool _)) (allL_c (WkR.ptr (fun _ => rfl)) (allL_c (WkR.ptr (fun _ => rfl)) (allL_c (WkR.ptr (fun _ => rfl)) (allL_c (WkR.ptr (fun _ => rfl)) (allL_c (wkr (loose_lst fun _ => (loose_int _ _))) (allL_c (wkr (loose_lst fun _ => (loose_int _ _))) (allL_c wkI (allL_c (wkr (loose_lst fun _ => (loose_int _ _))) (allL_c (wkr (loose_lst fun _ => (loose_int _ _))) (allL_c (wkr (loose_lst fun _ => (loose_int _ _))) (allL_c (wkr (loose_lst fun _ => (loose_lst fun _ => (loose_int _ _)))) (allL_c (wkr (loose_lst fun _ => (loose_int _ _))) (allL_c (wkr (loose_bool _)) (allL_c (wkr (loose_bool _)) allL_n))))))))))))))) (allL_c ⟨some _, rfl, BkR_c rfl (CkR_cons wkI (CkR_cons (wkr (loose_lstc fun _ => (lo_A46 _))) CkR_nil))⟩ (allL_c ⟨some _, rfl, BkR_c rfl (CkR_cons wkI (CkR_cons (WkR.tok (fun _ => rfl) rfl (fun _ _ => Wk.refl _) (fun _ => (lo_A46 _))) CkR_nil))⟩ (allL_c ⟨some _, rfl, BkR_c rfl (CkR_cons wkI (CkR_cons (wkr (loose_lst fun _ => (lo_A46 _))) CkR_nil))⟩ (allL_c ⟨some _, rfl, BkR_c rfl (CkR_cons wkI (CkR_cons (wkr (loose_lst fun _ => (lo_A46 _))) CkR_nil))⟩ (allL_c ⟨some _, rfl, BkR_c rfl CkR_nil⟩ allL_n))))))
  refine cond_lk h (fun _ h => ?_) (fun _ h => ?_) <;> (conv => whnf)
  · refine hK _ _ _ ?_; clear hK K
    refine Then_n ?_
    refine ⟨_, h, ?_⟩
    refine weak_k ?_; (conv => whnf)
    exact And.intro rfl (And.intro (allL_c (wkr (loose_bool _)) (allL_c (WkR.ptr (fun _ => rfl)) (allL_c (WkR.ptr (fun _ => rfl)) (allL_c (WkR.ptr (fun _ => rfl)) (allL_c (WkR.ptr (fun _ => rfl)) (allL_c (wkr (loose_lst fun _ => (loose_int _ _))) (allL_c (wkr (loose_lst fun _ => (loose_int _ _))) (allL_c wkI (allL_c (wkr (loose_lst fun _ => (loose_int _ _))) (allL_c (wkr (loose_lst fun _ => (loose_int _ _))) (allL_c (wkr (loose_lst fun _ => (loose_int _ _))) (allL_c (wkr (loose_lst fun _ => (loose_lst fun _ => (loose_int _ _)))) (allL_c (wkr (loose_lst fun _ => (loose_int _ _))) (allL_c (wkr (loose_bool _)) (allL_c (wkr (loose_bool _)) allL_n))))))))))))))) (allL_c ⟨some _, rfl, BkR_c rfl (CkR_cons wkI (CkR_cons (wkr (loose_lstc fun _ => (lo_A46 _))) CkR_nil))⟩ (allL_c ⟨some _, rfl, BkR_c rfl (CkR_cons wkI (CkR_cons (WkR.tok (fun _ => rfl) rfl (fun _ _ => Wk.refl _) (fun _ => (lo_A46 _))) CkR_nil))⟩ (allL_c ⟨some _, rfl, BkR_c rfl (CkR_cons wkI (CkR_cons (wkr (loose_lst fun _ => (lo_A46 _))) CkR_nil))⟩ (allL_c ⟨some _, rfl, BkR_c rfl (CkR_cons wkI (CkR_cons (wkr (loose_lst fun _ => (lo_A46 _))) CkR_nil))⟩ (allL_c ⟨some _, rfl, BkR_c rfl CkR_nil⟩ allL_n))))))
  refine cond_lk h (fun _ h => ?_) (fun _ h => ?_) <;> (conv => whnf)
  · refine hK _ _ _ ?_; clear hK K
    refine Then_n ?_
    refine ⟨_, h, ?_⟩
    refine weak_k ?_; (conv => whnf)
    exact And.intro rfl (And.intro (allL_c (wkr (loose_bool _)) (allL_c (WkR.ptr (fun _ => rfl)) (allL_c (WkR.ptr (fun _ => rfl)) (allL_c (WkR.ptr (fun _ => rfl)) (allL_c (WkR.ptr (fun _ => rfl)) (allL_c (wkr (loose_lst fun _ => (loose_int _ _))) (allL_c (wkr (loose_lst fun _ => (loose_int _ _))) (allL_c wkI (allL_c (wkr (loose_lst fun _ => (loose_int _ _))) (allL_c (wkr (loose_lst fun _ => (loose_int _ _))) (allL_c (wkr (loose_lst fun _ => (loose_int _ _))) (allL_c (wkr (loose_lst fun _ => (loose_lst fun _ => (loose_int _ _)))) (allL_c (wkr (loose_lst fun _ => (loose_int _ _))) (allL_c (wkr (loose_bool _)) (allL_c (wkr (loose_bool _)) allL_n))))))))))))))) (allL_c ⟨some _, rfl, BkR_c rfl (CkR_cons wkI (CkR_cons (wkr (loose_lstc fun _ => (lo_A46 _))) CkR_nil))⟩ (allL_c ⟨some _, rfl, BkR_c rfl (CkR_cons wkI (CkR_cons (WkR.tok (fun _ => rfl) rfl (fun _ _ => Wk.refl _) (fun _ => (lo_A46 _))) CkR_nil))⟩ (allL_c ⟨some _, rfl, BkR_c rfl (CkR_cons wkI (CkR_cons (wkr (loose_lst fun _ => (lo_A46 _))) CkR_nil))⟩ (allL_c ⟨some _, rfl, BkR_c rfl (CkR_cons wkI (CkR_cons (wkr (loose_lst fun _ => (lo_A46 _))) CkR_nil))⟩ (allL_c ⟨some _, rfl, BkR_c rfl CkR_nil⟩ allL_n))))))
  refine cond_lk h (fun _ h => ?_) (fun _ h => ?_) <;> (conv => whnf)
  · refine hK _ _ _ ?_; clear hK K
    refine Then_n ?_
    refine ⟨_, h, ?_⟩
    refine weak_k ?_; (conv => whnf)
    exact And.intro rfl (And.intro (allL_c (wkr (loose_bool _)) (allL_c (WkR.ptr (fun _ => rfl)) (allL_c (WkR.ptr (fun _ => rfl)) (allL_c (WkR.ptr (fun _ => rfl)) (allL_c (WkR.ptr (fun _ => rfl)) (allL_c (wkr (loose_lst fun _ => (loose_int _ _))) (allL_c (wkr (loose_lst fun _ => (loose_int _ _))) (allL_c wkI (allL_c (wkr (loose_lst fun _ => (loose_int _ _))) (allL_c (wkr (loose_lst fun _ => (loose_int _ _))) (allL_c (wkr (loose_lst fun _ => (loose_int _ _))) (allL_c (wkr (loose_lst fun _ => (loose_lst fun _ => (loose_int _ _)))) (allL_c (wkr (loose_lst fun _ => (loose_int _ _))) (allL_c (wkr (loose_bool _)) (allL_c (wkr (loose_bool _)) allL_n))))))))))))))) (allL_c ⟨some _, rfl, BkR_c rfl (CkR_cons wkI (CkR_cons (wkr (loose_lstc fun _ => (lo_A46 _))) CkR_nil))⟩ (allL_c ⟨some _, rfl, BkR_c rfl (CkR_cons wkI (CkR_cons (WkR.tok (fun _ => rfl) rfl (fun _ _ => Wk.refl _) (fun _ => (lo_A46 _))) CkR_nil))⟩ (allL_c ⟨some _, rfl, BkR_c rfl (CkR_cons wkI (CkR_cons (wkr (loose_lst fun _ => (lo_A46 _))) CkR_nil))⟩ (allL_c ⟨some _, rfl, BkR_c rfl (CkR_cons wkI (CkR_cons (wkr (loose_lst fun _ => (lo_A46 _))) CkR_nil))⟩ (allL_c ⟨some _, rfl, BkR_c rfl CkR_nil⟩ allL_n))))))
  refine hK _ _ _ ?_; clear hK K
  refine Then_n ?_
  refine ⟨_, h, ?_⟩
  refine weak_k ?_; (conv => whnf)
  exact And.intro rfl (And.intro (allL_c (wkr (loose_bool _)) (allL_c (WkR.ptr (fun _ => rfl)) (allL_c (WkR.ptr (fun _ => rfl)) (allL_c (WkR.ptr (fun _ => rfl)) (allL_c (WkR.ptr (fun _ => rfl)) (allL_c (wkr (loose_lst fun _ => (loose_int _ _))) (allL_c (wkr (loose_lst fun _ => (loose_int _ _))) (allL_c wkI (allL_c (wkr (loose_lst fun _ => (loose_int _ _))) (allL_c (wkr (loose_lst fun _ => (loose_int _ _))) (allL_c (wkr (loose_lst fun _ => (loose_int _ _))) (allL_c (wkr (loose_lst fun _ => (loose_lst fun _ => (loose_int _ _)))) (allL_c (wkr (loose_lst fun _ => (loose_int _ _))) (allL_c (wkr (loose_bool _)) (allL_c (wkr (loose_bool _)) allL_n))))))))))))))) (allL_c ⟨some _, rfl, BkR_c rfl (CkR_cons wkI (CkR_cons (wkr (loose_lstc fun _ => (lo_A46 _))) CkR_nil))⟩ (allL_c ⟨some _, rfl, BkR_c rfl (CkR_cons wkI (CkR_cons (WkR.tok (fun _ => rfl) rfl (fun _ _ => Wk.refl _) (fun _ => (lo_A46 _))) CkR_nil))⟩ (allL_c ⟨some _, rfl, BkR_c rfl (CkR_cons wkI (CkR_cons (wkr (loose_lst fun _ => (lo_A46 _))) CkR_nil))⟩ (allL_c ⟨some _, rfl, BkR_c rfl (CkR_cons wkI (CkR_cons (wkr (loose_lst fun _ => (lo_A46 _))) CkR_nil))⟩ (allL_c ⟨some _, rfl, BkR_c rfl CkR_nil⟩ allL_n))))))
theorem law07_sane_call {T : Tbl} (hT : T 11 = pureR law07_sane_S) {args : List AV} {hp : Heap} {id : Nat} {k : AV → Prop} {Φ : Bool → Prop} (h : W (law07_sane_F ) Φ) (hw : WkL args []) (hk : ∀ y, Φ y → k (eB y)) : callpK T 11 args hp id k := by
  obtain ⟨y, e, hy⟩ := W_inv h
  exact callpK_pure hT ⟨rfl, W_of e rfl⟩ (by exact (loose_bool _)) hw (hk y hy)
end Go.Proofs.YtlmboonbfhkfnaaDoor
namespace Go.Proofs.YtlmboonbfhkfnaaDoor
open Go Go.Eng
set_option maxHeartbeats 0
set_option maxRecDepth 100000
theorem clone_end {M : List (Nat × Nat)} {q k n : Nat} {b : AB} {α : Type} {ce : α → List AV} {l : List α} {hp : Heap} (h1 : [q][k]? = some n) (h2 : [AB.cells (flE ce l)][k]? = some b) (h : hp q = some (.cells (flE ce l))) (hl : ∀ x, ∀ a ∈ ce x, a.loose) : ∃ b0, hp n = some b0 ∧ BkX (WkB M) b0 b := by
  cases k with
  | zero => simp only [List.getElem?_cons_zero, Option.some.injEq] at h1 h2; subst h1 h2; exact ⟨_, h, BkX_fl hl l⟩
  | succ k => simp at h1

theorem slices_Clone_int_ok {T : Tbl} (hT : TOk Tryd.prog T) (hpf : PfOk T PF) : FOk Tryd.prog 60 (cloneR 1 eI default) := by
  refine FOk_anc hT hpf Tryd.func60 rfl Tryd.ntmps60 Tryd.results60 (by decide) ?_
  rintro args H base r H' ⟨l, rfl, hl, rfl, rfl⟩
  refine ⟨[], [eL 1 eI default l], [], [], [.cells (flE (ceE eI) l)], nle rfl, Nat.zero_le _, nle rfl, .nil, rfl, rfl, .cons (WkA_loose (loose_lst fun _ => (loose_int _ _))) .nil, (fun j i b h => by cases h), (fun k b h => ?_), (fun j => rfl), (fun i b h => ?_), ?_⟩
  · cases k with
    | zero => cases h; rfl
    | succ k => cases h
  · by_cases e : i = base
    · subst e; rw [upd_same] at h; exact .inr (.inr ⟨0, rfl, h⟩)
    · rw [upd_other _ _ e] at h; exact .inl ⟨by simp, h⟩
  refine HT_fr DC_ok rfl fun K hK => ?_; (conv => whnf)
  refine hK _ _ _ ?_; clear hK K
  refine HT_seq ?_
  refine HT_isnil rfl rfl rfl rfl rfl rfl Tryd.underlying26 rfl rfl fun b hb => ?_
  cases b
  · refine HT_if fun K1 K2 hK1 hK2 => ?_; (conv => whnf)
    refine hK2 ?_; clear hK1 hK2 K1 K2
    refine HT_skip ?_
    refine Then_n ?_
    refine HT_fr DC_ok rfl fun K hK => ?_; (conv => whnf)
    refine lt_lk (enc := eI) (d := default) (l := []) (f := some) (Φ := fun _ => True) DC_ok (W_of (a := []) (by unfold lt; rfl) trivial) rfl rfl rfl ⟨nle rfl, nle rfl, rfl⟩ rfl trivial (fun _ => ?_); (conv => whnf)
    refine apcf_lk (enc := eI) (d := default) DC_ok rfl rfl rfl ⟨rfl, nle rfl, nle rfl, nle rfl, rfl⟩ (fun _ => rfl) (fun _ => nofun) hl ?_; (conv => whnf)
    refine hK _ _ _ ?_; clear hK K
    refine HT_ret ?_
    refine ⟨_, [256], rfl, by simp, by simp, rfl, WkB_so (by simp [mm]), fun j b h => by simp at h, fun k n b h1 h2 => ?_⟩; exact clone_end h1 h2 rfl (fun _ => (loose_cons (loose_int _ _) loose_nil))
  refine HT_if fun K1 K2 hK1 hK2 => ?_; (conv => whnf)
  refine hK1 ?_; clear hK1 hK2 K1 K2
  refine HT_fr DC_ok rfl fun K hK => ?_; (conv => whnf)
  refine hK _ _ _ ?_; clear hK K
  have hn := List.length_eq_zero_iff.1 (hb rfl)
  subst hn
  refine HT_weak rfl (σ' := ⟨ofL [(2, .so 64 0 0 1)], ofH [(64, .cells [])], 1024⟩) (weak_of [(64, none)] ⟨WkR.nilso (fun _ => rfl), trivial⟩ ⟨⟨_, rfl, BkR_n⟩, trivial⟩ rfl) ?_
  refine HT_ret ?_
  refine Then_r ?_
  refine ⟨_, [64], rfl, by simp, by simp, rfl, WkB_so (by simp [mm]), fun j b h => by simp at h, fun k n b h1 h2 => ?_⟩; exact clone_end h1 h2 rfl (fun _ => (loose_cons (loose_int _ _) loose_nil))


end Go.Proofs.YtlmboonbfhkfnaaDoor
namespace Go.Proofs.YtlmboonbfhkfnaaDoor
open Go Go.Eng
set_option maxRecDepth 100000
theorem T0_ok : TOk Tryd.prog T0 ∧ PfOk T0 PF := ⟨TOk_T0 _, PfOk_T0 _⟩
def TT69 : Tbl := ext T0 69 (pureR order_Formed_1_S)
theorem TT69_f : FOk Tryd.prog 69 (pureR order_Formed_1_S) := order_Formed_1_ok T0_ok.1 T0_ok.2
theorem TT69_ok : TOk Tryd.prog TT69 ∧ PfOk TT69 PF := ⟨TOk_ext T0_ok.1 TT69_f, PfOk_ext T0_ok.2 fun _ => ⟨_, rfl⟩⟩
def TT85 : Tbl := ext TT69 85 (pureR slices_IndexFunc_2int_S)
theorem TT85_f : FOk Tryd.prog 85 (pureR slices_IndexFunc_2int_S) := slices_IndexFunc_2int_ok TT69_ok.1 TT69_ok.2 rfl
theorem TT85_ok : TOk Tryd.prog TT85 ∧ PfOk TT85 PF := ⟨TOk_ext TT69_ok.1 TT85_f, PfOk_ext TT69_ok.2 fun _ => ⟨_, rfl⟩⟩
def TT68 : Tbl := ext TT85 68 (pureR slices_ContainsFunc_2int_S)
theorem TT68_f : FOk Tryd.prog 68 (pureR slices_ContainsFunc_2int_S) := slices_ContainsFunc_2int_ok TT85_ok.1 TT85_ok.2 rfl
theorem TT68_ok : TOk Tryd.prog TT68 ∧ PfOk TT68 PF := ⟨TOk_ext TT85_ok.1 TT68_f, PfOk_ext TT85_ok.2 fun _ => ⟨_, rfl⟩⟩
def TT33 : Tbl := ext TT68 33 (pureR order_Formed_S)
theorem TT33_f : FOk Tryd.prog 33 (pureR order_Formed_S) := order_Formed_ok TT68_ok.1 TT68_ok.2 rfl
theorem TT33_ok : TOk Tryd.prog TT33 ∧ PfOk TT33 PF := ⟨TOk_ext TT68_ok.1 TT33_f, PfOk_ext TT68_ok.2 fun _ => ⟨_, rfl⟩⟩
def TT79 : Tbl := ext TT33 79 (pureR order_closed_S)
theorem TT79_f : FOk Tryd.prog 79 (pureR order_closed_S) := order_closed_ok TT33_ok.1 TT33_ok.2
theorem TT79_ok : TOk Tryd.prog TT79 ∧ PfOk TT79 PF := ⟨TOk_ext TT33_ok.1 TT79_f, PfOk_ext TT33_ok.2 fun _ => ⟨_, rfl⟩⟩
def TT54 : Tbl := ext TT79 54 (pureR order_read_S)
theorem TT54_f : FOk Tryd.prog 54 (pureR order_read_S) := order_read_ok TT79_ok.1 TT79_ok.2 rfl rfl
theorem TT54_ok : TOk Tryd.prog TT54 ∧ PfOk TT54 PF := ⟨TOk_ext TT79_ok.1 TT54_f, PfOk_ext TT79_ok.2 fun _ => ⟨_, rfl⟩⟩
def TT81 : Tbl := ext TT54 81 (itR Tryd.prog (fun x => [Value.int .i64 x]) order_prefixes_1_C)
theorem TT81_f : FOk Tryd.prog 81 (itR Tryd.prog (fun x => [Value.int .i64 x]) order_prefixes_1_C) := order_prefixes_1_ok TT54_ok.1 TT54_ok.2
theorem TT81_ok : TOk Tryd.prog TT81 ∧ PfOk TT81 PF := ⟨TOk_ext TT54_ok.1 TT81_f, PfOk_ext TT54_ok.2 (fun h => by cases h)⟩
def TT80 : Tbl := ext TT81 80 (ownR col_res col_blk slices_AppendSeq_int_S)
theorem TT80_f : FOk Tryd.prog 80 (ownR col_res col_blk slices_AppendSeq_int_S) := slices_AppendSeq_int_ok TT81_ok.1 TT81_ok.2 rfl
theorem TT80_ok : TOk Tryd.prog TT80 ∧ PfOk TT80 PF := ⟨TOk_ext TT81_ok.1 TT80_f, PfOk_ext TT81_ok.2 (fun h => by cases h)⟩
def TT55 : Tbl := ext TT80 55 (ownR col_res col_blk slices_Collect_int_S)
theorem TT55_f : FOk Tryd.prog 55 (ownR col_res col_blk slices_Collect_int_S) := slices_Collect_int_ok TT80_ok.1 TT80_ok.2 rfl
theorem TT55_ok : TOk Tryd.prog TT55 ∧ PfOk TT55 PF := ⟨TOk_ext TT80_ok.1 TT55_f, PfOk_ext TT80_ok.2 (fun h => by cases h)⟩
def TT56 : Tbl := ext TT55 56 (pureR order_prefixes_S)
theorem TT56_f : FOk Tryd.prog 56 (pureR order_prefixes_S) := order_prefixes_ok TT55_ok.1 TT55_ok.2
theorem TT56_ok : TOk Tryd.prog TT56 ∧ PfOk TT56 PF := ⟨TOk_ext TT55_ok.1 TT56_f, PfOk_ext TT55_ok.2 fun _ => ⟨_, rfl⟩⟩
def TT18 : Tbl := ext TT56 18 (pureR order_Prefixes_S)
theorem TT18_f : FOk Tryd.prog 18 (pureR order_Prefixes_S) := order_Prefixes_ok TT56_ok.1 TT56_ok.2 rfl rfl rfl
theorem TT18_ok : TOk Tryd.prog TT18 ∧ PfOk TT18 PF := ⟨TOk_ext TT56_ok.1 TT18_f, PfOk_ext TT56_ok.2 fun _ => ⟨_, rfl⟩⟩
def TT57 : Tbl := ext TT18 57 (pureR order_line_S)
theorem TT57_f : FOk Tryd.prog 57 (pureR order_line_S) := order_line_ok TT18_ok.1 TT18_ok.2
theorem TT57_ok : TOk Tryd.prog TT57 ∧ PfOk TT57 PF := ⟨TOk_ext TT18_ok.1 TT57_f, PfOk_ext TT18_ok.2 fun _ => ⟨_, rfl⟩⟩
def TT19 : Tbl := ext TT57 19 (pureR order_Line_S)
theorem TT19_f : FOk Tryd.prog 19 (pureR order_Line_S) := order_Line_ok TT57_ok.1 TT57_ok.2 rfl rfl
theorem TT19_ok : TOk Tryd.prog TT19 ∧ PfOk TT19 PF := ⟨TOk_ext TT57_ok.1 TT19_f, PfOk_ext TT57_ok.2 fun _ => ⟨_, rfl⟩⟩
def TT20 : Tbl := ext TT19 20 (pureR order_Lines_S)
theorem TT20_f : FOk Tryd.prog 20 (pureR order_Lines_S) := order_Lines_ok TT19_ok.1 TT19_ok.2 rfl rfl rfl
theorem TT20_ok : TOk Tryd.prog TT20 ∧ PfOk TT20 PF := ⟨TOk_ext TT19_ok.1 TT20_f, PfOk_ext TT19_ok.2 fun _ => ⟨_, rfl⟩⟩
def TT22 : Tbl := ext TT20 22 (pureR order_IsLine_S)
theorem TT22_f : FOk Tryd.prog 22 (pureR order_IsLine_S) := order_IsLine_ok TT20_ok.1 TT20_ok.2 rfl
theorem TT22_ok : TOk Tryd.prog TT22 ∧ PfOk TT22 PF := ⟨TOk_ext TT20_ok.1 TT22_f, PfOk_ext TT20_ok.2 fun _ => ⟨_, rfl⟩⟩
def TT58 : Tbl := ext TT22 58 (pureR order_listed_S)
theorem TT58_f : FOk Tryd.prog 58 (pureR order_listed_S) := order_listed_ok TT22_ok.1 TT22_ok.2
theorem TT58_ok : TOk Tryd.prog TT58 ∧ PfOk TT58 PF := ⟨TOk_ext TT22_ok.1 TT58_f, PfOk_ext TT22_ok.2 fun _ => ⟨_, rfl⟩⟩
def TT24 : Tbl := ext TT58 24 (pureR order_Close_S)
theorem TT24_f : FOk Tryd.prog 24 (pureR order_Close_S) := order_Close_ok TT58_ok.1 TT58_ok.2 rfl rfl
theorem TT24_ok : TOk Tryd.prog TT24 ∧ PfOk TT24 PF := ⟨TOk_ext TT58_ok.1 TT24_f, PfOk_ext TT58_ok.2 fun _ => ⟨_, rfl⟩⟩
def TT25 : Tbl := ext TT24 25 (pureR order_Reduce_S)
theorem TT25_f : FOk Tryd.prog 25 (pureR order_Reduce_S) := order_Reduce_ok TT24_ok.1 TT24_ok.2 rfl rfl
theorem TT25_ok : TOk Tryd.prog TT25 ∧ PfOk TT25 PF := ⟨TOk_ext TT24_ok.1 TT25_f, PfOk_ext TT24_ok.2 fun _ => ⟨_, rfl⟩⟩
def TT26 : Tbl := ext TT25 26 (pureR ref07_Same_S)
theorem TT26_f : FOk Tryd.prog 26 (pureR ref07_Same_S) := ref07_Same_ok TT25_ok.1 TT25_ok.2
theorem TT26_ok : TOk Tryd.prog TT26 ∧ PfOk TT26 PF := ⟨TOk_ext TT25_ok.1 TT26_f, PfOk_ext TT25_ok.2 fun _ => ⟨_, rfl⟩⟩
def TT27 : Tbl := ext TT26 27 (pureR order_Before_S)
theorem TT27_f : FOk Tryd.prog 27 (pureR order_Before_S) := order_Before_ok TT26_ok.1 TT26_ok.2 rfl
theorem TT27_ok : TOk Tryd.prog TT27 ∧ PfOk TT27 PF := ⟨TOk_ext TT26_ok.1 TT27_f, PfOk_ext TT26_ok.2 fun _ => ⟨_, rfl⟩⟩
def TT28 : Tbl := ext TT27 28 (pureR order_Levels_S)
theorem TT28_f : FOk Tryd.prog 28 (pureR order_Levels_S) := order_Levels_ok TT27_ok.1 TT27_ok.2 rfl rfl
theorem TT28_ok : TOk Tryd.prog TT28 ∧ PfOk TT28 PF := ⟨TOk_ext TT27_ok.1 TT28_f, PfOk_ext TT27_ok.2 fun _ => ⟨_, rfl⟩⟩
def TT59 : Tbl := ext TT28 59 (ancR (from_S 10))
theorem TT59_f : FOk Tryd.prog 59 (ancR (from_S 10)) := from_ok TT28_ok.1 TT28_ok.2
theorem TT59_ok : TOk Tryd.prog TT59 ∧ PfOk TT59 PF := ⟨TOk_ext TT28_ok.1 TT59_f, PfOk_ext TT28_ok.2 (fun h => by cases h)⟩
def TT60 : Tbl := ext TT59 60 (cloneR 1 eI default)
theorem TT60_f : FOk Tryd.prog 60 (cloneR 1 eI default) := slices_Clone_int_ok TT59_ok.1 TT59_ok.2
theorem TT60_ok : TOk Tryd.prog TT60 ∧ PfOk TT60 PF := ⟨TOk_ext TT59_ok.1 TT60_f, PfOk_ext TT59_ok.2 (fun h => by cases h)⟩
def TT29 : Tbl := ext TT60 29 (pureR order_Chain_S)
theorem TT29_f : FOk Tryd.prog 29 (pureR order_Chain_S) := order_Chain_ok TT60_ok.1 TT60_ok.2 rfl rfl rfl
theorem TT29_ok : TOk Tryd.prog TT29 ∧ PfOk TT29 PF := ⟨TOk_ext TT60_ok.1 TT29_f, PfOk_ext TT60_ok.2 fun _ => ⟨_, rfl⟩⟩
def TT87 : Tbl := ext TT29 87 (pureR math_bits_TrailingZeros64_S)
theorem TT87_f : FOk Tryd.prog 87 (pureR math_bits_TrailingZeros64_S) := math_bits_TrailingZeros64_ok TT29_ok.1 TT29_ok.2
theorem TT87_ok : TOk Tryd.prog TT87 ∧ PfOk TT87 PF := ⟨TOk_ext TT29_ok.1 TT87_f, PfOk_ext TT29_ok.2 fun _ => ⟨_, rfl⟩⟩
def TT82 : Tbl := ext TT87 82 (pureR math_bits_TrailingZeros_S)
theorem TT82_f : FOk Tryd.prog 82 (pureR math_bits_TrailingZeros_S) := math_bits_TrailingZeros_ok TT87_ok.1 TT87_ok.2 rfl
theorem TT82_ok : TOk Tryd.prog TT82 ∧ PfOk TT82 PF := ⟨TOk_ext TT87_ok.1 TT82_f, PfOk_ext TT87_ok.2 fun _ => ⟨_, rfl⟩⟩
def TT61 : Tbl := ext TT82 61 (pureR order_things_S)
theorem TT61_f : FOk Tryd.prog 61 (pureR order_things_S) := order_things_ok TT82_ok.1 TT82_ok.2 rfl
theorem TT61_ok : TOk Tryd.prog TT61 ∧ PfOk TT61 PF := ⟨TOk_ext TT82_ok.1 TT61_f, PfOk_ext TT82_ok.2 fun _ => ⟨_, rfl⟩⟩
def TT62 : Tbl := ext TT61 62 (pureR cmp_Or_int_S)
theorem TT62_f : FOk Tryd.prog 62 (pureR cmp_Or_int_S) := cmp_Or_int_ok TT61_ok.1 TT61_ok.2
theorem TT62_ok : TOk Tryd.prog TT62 ∧ PfOk TT62 PF := ⟨TOk_ext TT61_ok.1 TT62_f, PfOk_ext TT61_ok.2 fun _ => ⟨_, rfl⟩⟩
def TT83 : Tbl := ext TT62 83 (pureR cmp_isNaN_int_S)
theorem TT83_f : FOk Tryd.prog 83 (pureR cmp_isNaN_int_S) := cmp_isNaN_int_ok TT62_ok.1 TT62_ok.2
theorem TT83_ok : TOk Tryd.prog TT83 ∧ PfOk TT83 PF := ⟨TOk_ext TT62_ok.1 TT83_f, PfOk_ext TT62_ok.2 fun _ => ⟨_, rfl⟩⟩
def TT63 : Tbl := ext TT83 63 (pureR cmp_Compare_int_S)
theorem TT63_f : FOk Tryd.prog 63 (pureR cmp_Compare_int_S) := cmp_Compare_int_ok TT83_ok.1 TT83_ok.2 rfl
theorem TT63_ok : TOk Tryd.prog TT63 ∧ PfOk TT63 PF := ⟨TOk_ext TT83_ok.1 TT63_f, PfOk_ext TT83_ok.2 fun _ => ⟨_, rfl⟩⟩
def TT64 : Tbl := ext TT63 64 (pureR slices_Compare_int_S)
theorem TT64_f : FOk Tryd.prog 64 (pureR slices_Compare_int_S) := slices_Compare_int_ok TT63_ok.1 TT63_ok.2 rfl
theorem TT64_ok : TOk Tryd.prog TT64 ∧ PfOk TT64 PF := ⟨TOk_ext TT63_ok.1 TT64_f, PfOk_ext TT63_ok.2 fun _ => ⟨_, rfl⟩⟩
def TT30 : Tbl := ext TT64 30 (pureR order_Antichain_S)
theorem TT30_f : FOk Tryd.prog 30 (pureR order_Antichain_S) := order_Antichain_ok TT64_ok.1 TT64_ok.2 rfl rfl rfl rfl rfl
theorem TT30_ok : TOk Tryd.prog TT30 ∧ PfOk TT30 PF := ⟨TOk_ext TT64_ok.1 TT30_f, PfOk_ext TT64_ok.2 fun _ => ⟨_, rfl⟩⟩
def TT65 : Tbl := ext TT30 65 (ancR (follow_S 10))
theorem TT65_f : FOk Tryd.prog 65 (ancR (follow_S 10)) := follow_ok TT30_ok.1 TT30_ok.2
theorem TT65_ok : TOk Tryd.prog TT65 ∧ PfOk TT65 PF := ⟨TOk_ext TT30_ok.1 TT65_f, PfOk_ext TT30_ok.2 (fun h => by cases h)⟩
def TT31 : Tbl := ext TT65 31 (pureR order_Cover_S)
theorem TT31_f : FOk Tryd.prog 31 (pureR order_Cover_S) := order_Cover_ok TT65_ok.1 TT65_ok.2 rfl rfl rfl
theorem TT31_ok : TOk Tryd.prog TT31 ∧ PfOk TT31 PF := ⟨TOk_ext TT65_ok.1 TT31_f, PfOk_ext TT65_ok.2 fun _ => ⟨_, rfl⟩⟩
def TT84 : Tbl := ext TT31 84 (ancR index_S)
theorem TT84_f : FOk Tryd.prog 84 (ancR index_S) := index_ok TT31_ok.1 TT31_ok.2
theorem TT84_ok : TOk Tryd.prog TT84 ∧ PfOk TT84 PF := ⟨TOk_ext TT31_ok.1 TT84_f, PfOk_ext TT31_ok.2 (fun h => by cases h)⟩
def TT67 : Tbl := ext TT84 67 (ancR contains_S)
theorem TT67_f : FOk Tryd.prog 67 (ancR contains_S) := contains_ok TT84_ok.1 TT84_ok.2 rfl
theorem TT67_ok : TOk Tryd.prog TT67 ∧ PfOk TT67 PF := ⟨TOk_ext TT84_ok.1 TT67_f, PfOk_ext TT84_ok.2 (fun h => by cases h)⟩
def TT66 : Tbl := ext TT67 66 (ancR (extend_S 10))
theorem TT66_f : FOk Tryd.prog 66 (ancR (extend_S 10)) := extend_ok TT67_ok.1 TT67_ok.2 rfl
theorem TT66_ok : TOk Tryd.prog TT66 ∧ PfOk TT66 PF := ⟨TOk_ext TT67_ok.1 TT66_f, PfOk_ext TT67_ok.2 (fun h => by cases h)⟩
def TT32 : Tbl := ext TT66 32 (pureR order_Cycle_S)
theorem TT32_f : FOk Tryd.prog 32 (pureR order_Cycle_S) := order_Cycle_ok TT66_ok.1 TT66_ok.2 rfl rfl rfl
theorem TT32_ok : TOk Tryd.prog TT32 ∧ PfOk TT32 PF := ⟨TOk_ext TT66_ok.1 TT32_f, PfOk_ext TT66_ok.2 fun _ => ⟨_, rfl⟩⟩
def TT34 : Tbl := ext TT32 34 (pureR order_Valid_S)
theorem TT34_f : FOk Tryd.prog 34 (pureR order_Valid_S) := order_Valid_ok TT32_ok.1 TT32_ok.2 rfl
theorem TT34_ok : TOk Tryd.prog TT34 ∧ PfOk TT34 PF := ⟨TOk_ext TT32_ok.1 TT34_f, PfOk_ext TT32_ok.2 fun _ => ⟨_, rfl⟩⟩
def TT36 : Tbl := ext TT34 36 (pureR ref07_Ints_S)
theorem TT36_f : FOk Tryd.prog 36 (pureR ref07_Ints_S) := ref07_Ints_ok TT34_ok.1 TT34_ok.2
theorem TT36_ok : TOk Tryd.prog TT36 ∧ PfOk TT36 PF := ⟨TOk_ext TT34_ok.1 TT36_f, PfOk_ext TT34_ok.2 fun _ => ⟨_, rfl⟩⟩
def TT11 : Tbl := ext TT36 11 (pureR law07_sane_S)
theorem TT11_f : FOk Tryd.prog 11 (pureR law07_sane_S) := law07_sane_ok TT36_ok.1 TT36_ok.2 rfl rfl rfl rfl rfl rfl rfl rfl rfl rfl rfl rfl rfl rfl rfl rfl
theorem TT11_ok : TOk Tryd.prog TT11 ∧ PfOk TT11 PF := ⟨TOk_ext TT36_ok.1 TT11_f, PfOk_ext TT36_ok.2 fun _ => ⟨_, rfl⟩⟩
def TT37 : Tbl := ext TT11 37 (pureR ref07_pick_S)
theorem TT37_f : FOk Tryd.prog 37 (pureR ref07_pick_S) := ref07_pick_ok TT11_ok.1 TT11_ok.2
theorem TT37_ok : TOk Tryd.prog TT37 ∧ PfOk TT37 PF := ⟨TOk_ext TT11_ok.1 TT37_f, PfOk_ext TT11_ok.2 fun _ => ⟨_, rfl⟩⟩
def TT17 : Tbl := ext TT37 17 (ownR ref07_Loose_res ref07_Loose_blk ref07_Loose_S)
theorem TT17_f : FOk Tryd.prog 17 (ownR ref07_Loose_res ref07_Loose_blk ref07_Loose_S) := ref07_Loose_ok TT37_ok.1 TT37_ok.2 rfl
theorem TT17_ok : TOk Tryd.prog TT17 ∧ PfOk TT17 PF := ⟨TOk_ext TT37_ok.1 TT17_f, PfOk_ext TT37_ok.2 (fun h => by cases h)⟩
def TT12 : Tbl := ext TT17 12 (pureR ref07_Made_S)
theorem TT12_f : FOk Tryd.prog 12 (pureR ref07_Made_S) := ref07_Made_ok TT17_ok.1 TT17_ok.2 rfl rfl
theorem TT12_ok : TOk Tryd.prog TT12 ∧ PfOk TT12 PF := ⟨TOk_ext TT17_ok.1 TT12_f, PfOk_ext TT17_ok.2 fun _ => ⟨_, rfl⟩⟩
def TT13 : Tbl := ext TT12 13 (pureR law07_pick_S)
theorem TT13_f : FOk Tryd.prog 13 (pureR law07_pick_S) := law07_pick_ok TT12_ok.1 TT12_ok.2
theorem TT13_ok : TOk Tryd.prog TT13 ∧ PfOk TT13 PF := ⟨TOk_ext TT12_ok.1 TT13_f, PfOk_ext TT12_ok.2 fun _ => ⟨_, rfl⟩⟩
def TT23 : Tbl := ext TT13 23 (pureR law07_in_S)
theorem TT23_f : FOk Tryd.prog 23 (pureR law07_in_S) := law07_in_ok TT13_ok.1 TT13_ok.2
theorem TT23_ok : TOk Tryd.prog TT23 ∧ PfOk TT23 PF := ⟨TOk_ext TT13_ok.1 TT23_f, PfOk_ext TT13_ok.2 fun _ => ⟨_, rfl⟩⟩
def TT21 : Tbl := ext TT23 21 (pureR law07_chosen_S)
theorem TT21_f : FOk Tryd.prog 21 (pureR law07_chosen_S) := law07_chosen_ok TT23_ok.1 TT23_ok.2 rfl rfl rfl
theorem TT21_ok : TOk Tryd.prog TT21 ∧ PfOk TT21 PF := ⟨TOk_ext TT23_ok.1 TT21_f, PfOk_ext TT23_ok.2 fun _ => ⟨_, rfl⟩⟩
def TT70 : Tbl := ext TT21 70 (pureR law07_paired_S)
theorem TT70_f : FOk Tryd.prog 70 (pureR law07_paired_S) := law07_paired_ok TT21_ok.1 TT21_ok.2
theorem TT70_ok : TOk Tryd.prog TT70 ∧ PfOk TT70 PF := ⟨TOk_ext TT21_ok.1 TT70_f, PfOk_ext TT21_ok.2 fun _ => ⟨_, rfl⟩⟩
def TT35 : Tbl := ext TT70 35 (pureR law07_round_S)
theorem TT35_f : FOk Tryd.prog 35 (pureR law07_round_S) := law07_round_ok TT70_ok.1 TT70_ok.2 rfl
theorem TT35_ok : TOk Tryd.prog TT35 ∧ PfOk TT35 PF := ⟨TOk_ext TT70_ok.1 TT35_f, PfOk_ext TT70_ok.2 fun _ => ⟨_, rfl⟩⟩
end Go.Proofs.YtlmboonbfhkfnaaDoor
namespace Go.Proofs.YtlmboonbfhkfnaaDoor
open Go Go.Eng
set_option maxRecDepth 100000
theorem op_3 : Opn Tryd.prog 3 eI okI := Op_int Tryd.underlying3
theorem op1_3 : Opn1 Tryd.prog 3 eI := .inr ⟨by rfl, fun _ => ⟨rfl, rfl⟩⟩
theorem opv_3 : OpV Tryd.prog 3 eI okI := OpV_of op_3 op1_3 fun _ => one_int Tryd.underlying3
def okA46 (x : Int × Int) : Prop := okI x.1 ∧ okI x.2
theorem op_46 : Opn Tryd.prog 46 eA46 okA46 := by
  refine Op_array (β := Int × Int × Unit) (fs := [(3, 0), (3, 1)]) Tryd.underlying46 (by kernel_rfl) (by kernel_rfl) (OpFs_cons (sz := 1) op_3 (by kernel_rfl) rfl (OpFs_cons (sz := 1) op_3 (by kernel_rfl) rfl OpFs_nil)) (fun p => (p.1, p.2.1)) (fun _ => rfl) ?_
  intro p h
  exact ⟨h.1, h.2.1⟩
theorem op1_46 : Opn1 Tryd.prog 46 eA46 := .inl ⟨by rfl, fun _ => rfl⟩
theorem op_22 : Opn Tryd.prog 22 (eL 2 eA46 default) (okL okA46) := Op_slice Tryd.underlying22 (by kernel_rfl) (by decide) op_46 op1_46
theorem op1_22 : Opn1 Tryd.prog 22 (eL 2 eA46 default) := .inr ⟨by rfl, fun _ => ⟨rfl, rfl⟩⟩
theorem opv_22 : OpV Tryd.prog 22 (eL 2 eA46 default) (okL okA46) := OpV_of op_22 op1_22 fun _ => one_slice Tryd.underlying22
end Go.Proofs.YtlmboonbfhkfnaaDoor
