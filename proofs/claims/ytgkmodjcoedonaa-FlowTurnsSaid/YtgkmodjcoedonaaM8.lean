import Derived.Test.YtgkmodjcoedonaaM7
set_option linter.unusedVariables false
set_option linter.unusedSimpArgs false
set_option linter.unusedSectionVars false
namespace Go.Proofs.Ytgkmodjcoedonaa
open Go Go.Eng
set_option maxHeartbeats 0
set_option maxRecDepth 100000

    def law27_FlowTurns_b1 (a4 : Int) (y2 : TNet) (s4 : Int × TNet × TNet) : Option (Ct (Int × TNet × TNet) Bool) := cn (decide (s4.1 < (y2.Edges.length : Int))) (ix y2.Edges default s4.1 fun e5 =>
    lt ([(⟨e5.To, e5.From, e5.Capacity⟩ : TEdge)] : List TEdge) fun l6 => ap s4.2.1.Edges l6 fun l7 => bd (law27_pick_F a4 (y2.Edges.length : Int)) fun y8 =>
    gd ((y2.Edges.length : Int) ≠ 0) (ix y2.Edges default (Int.tmod (wr (s4.1 + y8)) (y2.Edges.length : Int)) fun e9 => lt ([e9] : List TEdge) fun l10 =>
    ap s4.2.2.Edges l10 fun l11 => some (.nx ((wr (s4.1 + 1)), (⟨s4.2.1.N, l7⟩ : TNet), (⟨s4.2.2.N, l11⟩ : TNet))))) (some (.bk (s4.1, s4.2.1, s4.2.2)))
theorem W_blaw27_FlowTurns_b1 {a4 : Int} {y2 : TNet} {s4 : Int × TNet × TNet} {Φ : Ct (Int × TNet × TNet) Bool → Prop} (h : W (law27_FlowTurns_b1 a4 y2 s4) Φ) : W (cn (decide (s4.1 < (y2.Edges.length : Int))) (ix y2.Edges default s4.1 fun e5 => lt ([(⟨e5.To, e5.From, e5.Capacity⟩ : TEdge)] : List TEdge) fun l6 => ap s4.2.1.Edges l6 fun l7 =>
    bd (law27_pick_F a4 (y2.Edges.length : Int)) fun y8 => gd ((y2.Edges.length : Int) ≠ 0) (ix y2.Edges default (Int.tmod (wr (s4.1 + y8)) (y2.Edges.length : Int)) fun e9 =>
    lt ([e9] : List TEdge) fun l10 => ap s4.2.2.Edges l10 fun l11 =>
    some (.nx ((wr (s4.1 + 1)), (⟨s4.2.1.N, l7⟩ : TNet), (⟨s4.2.2.N, l11⟩ : TNet))))) (some (.bk (s4.1, s4.2.1, s4.2.2)))) Φ := h
def law27_FlowTurns_F (a0 : Int) (a1 : List (Int × Int × Int)) (a2 : Int) (a3 : Int) (a4 : Int) : Option Bool := bd (law27_sane_F ) fun y1 =>
    cn (!y1) (some false) (bd (ref27_Made_F a0 a1) fun y2 => bd (law27_ends_F y2 a2 a3) fun y3 =>
    bd (lp (law27_FlowTurns_b1 a4 y2) FU (0, (⟨y2.N, []⟩ : TNet), (⟨y2.N, []⟩ : TNet))) fun c12 => smK c12 (fun s13 => bd (law27_greatest_F y2 y3.1 y3.2) fun y15 =>
    bd (law27_greatest_F s13.2.1 y3.2 y3.1) fun y16 => bd (law27_greatest_F s13.2.2 y3.1 y3.2) fun y17 => jn (fun p18 : Bool => some p18) fun k19 =>
    cn y15.2.2 (cn y16.2.2 (cn y17.2.2 (cn (y15.1 == y16.1) (cn (y15.1 == y17.1) (k19 (y15.2.1 ==
    y17.2.1)) (k19 false)) (k19 false)) (k19 false)) (k19 false)) (k19 false)) (fun r14 => some r14))
def law27_FlowTurns_S : List AV → AV → Prop := fun args r => ∃ a0 a1 a2 a3 a4, args = [eI a0, (eL 3 eA23 default) a1, eI a2, eI a3, eI a4] ∧ W (law27_FlowTurns_F a0 a1 a2 a3 a4) fun y => r = (eB y)
theorem law27_FlowTurns_ok {T : Tbl} (hT : TOk Try.prog T) (hpf : PfOk T PF) (h14 : T 14 = pureR law27_sane_S) (h15 : T 15 = pureR ref27_Made_S) (h16 : T 16 = pureR law27_ends_S) (h27 : T 27 = pureR law27_pick_S) (h43 : T 43 = pureR law27_greatest_S) : FOk Try.prog 12 (pureR law27_FlowTurns_S) := by
  refine FOk_pure hT hpf Try.func12 rfl Try.ntmps12 Try.results12 (by decide) ?_
  rintro args r ⟨a0, a1, a2, a3, a4, rfl, h⟩
  refine ⟨nle rfl, ?_, ?_⟩
  · exact (loose_cons (loose_int _ _) (loose_cons (loose_lst fun _ => (lo_A23 _)) (loose_cons (loose_int _ _) (loose_cons (loose_int _ _) (loose_cons (loose_int _ _) loose_nil)))))
  rw [law27_FlowTurns_F.eq_1] at h
  refine HT_fr DC_ok rfl fun K hK => ?_; (conv => whnf)
  refine hK _ _ _ ?_; clear hK K
  refine HT_seq ?_
  refine HT_fr DC_ok rfl fun K hK => ?_; (conv => whnf)
  replace h := W_bd h
  refine law27_sane_call h14 h (WkL.refl _) (fun _ h => ?_); (conv => whnf)
  refine hK _ _ _ ?_; clear hK K
  refine HT_if fun K1 K2 hK1 hK2 => ?_; (conv => whnf)
  refine cond_lk h (fun _ h => ?_) (fun _ h => ?_)
  · refine hK1 ?_; clear hK1 hK2 K1 K2
    refine HT_fr DC_ok rfl fun K hK => ?_; (conv => whnf)
    refine hK _ _ _ ?_; clear hK K
    refine HT_ret ?_
    refine Then_r ?_
    replace h := W_some h
    refine PostP_r DC_ok fun K hK => ?_; (conv => whnf)
    refine hK _ ?_; clear hK K
    cases h
    exact Wk.refl _
  refine hK2 ?_; clear hK1 hK2 K1 K2
  refine HT_skip ?_
  refine Then_n ?_
  refine HT_fr DC_ok rfl fun K hK => ?_; (conv => whnf)
  replace h := W_bd h
  refine ref27_Made_call h15 h (WkL.refl _) (fun _ h => ?_); (conv => whnf)
  refine blkK_of rfl ?_; (conv => whnf)
  refine And.intro rfl (And.intro (nle rfl) (And.intro rfl ?_)); (conv => whnf)
  refine hK _ _ _ ?_; clear hK K
  refine HT_fr DC_ok rfl fun K hK => ?_; (conv => whnf)
  refine nlA rfl ?_; (conv => whnf)
  refine blkK_of rfl ?_; (conv => whnf)
  refine nlA rfl ?_; (conv => whnf)
  replace h := W_bd h
  refine law27_ends_call h16 h (WkL.refl _) (fun _ h => ?_); (conv => whnf)
  refine hK _ _ _ ?_; clear hK K
  refine HT_fr DC_ok rfl fun K hK => ?_; (conv => whnf)
  refine nlA rfl ?_; (conv => whnf)
  refine blkK_of rfl ?_; (conv => whnf)
  refine getK_of rfl ?_; (conv => whnf)
  refine blkK_of rfl ?_; (conv => whnf)
  refine And.intro rfl (And.intro (nle rfl) (And.intro rfl ?_)); (conv => whnf)
  refine hK _ _ _ ?_; clear hK K
  refine HT_fr DC_ok rfl fun K hK => ?_; (conv => whnf)
  refine nlA rfl ?_; (conv => whnf)
  refine blkK_of rfl ?_; (conv => whnf)
  refine getK_of rfl ?_; (conv => whnf)
  refine blkK_of rfl ?_; (conv => whnf)
  refine And.intro rfl (And.intro (nle rfl) (And.intro rfl ?_)); (conv => whnf)
  refine hK _ _ _ ?_; clear hK K
  refine HT_seq ?_
  refine HT_fr DC_ok rfl fun K hK => ?_; (conv => whnf)
  refine hK _ _ _ ?_; clear hK K
  refine HT_block ?_
  replace h := W_bd h
  refine HT_lpK (body := law27_FlowTurns_b1 _ _) rfl h [4, 11, 12, 13, 14, 15] [11] [14, 15] (fun kl kh ids b s => ⟨ofL ([(16, eI s.1)] ++ kl), ofH ([(nthN ids 0, .cells [eI s.2.1.N, .lst (.tok (b + 0)) 3 s.2.1.Edges.length (fun j => eTEdge (s.2.1.Edges.getD j default))]), (nthN ids 1, .cells [eI s.2.2.N, .lst (.tok (b + 64)) 3 s.2.2.Edges.length (fun j => eTEdge (s.2.2.Edges.getD j default))]), (b + 0, .cells []), (b + 64, .cells [])] ++ kh), b + 192⟩) ?_; (conv => whnf); refine And.intro ?_ (fun s m h => HT_st ?_)
  · refine weak_k ?_; (conv => whnf)
    exact And.intro rfl (And.intro (allL_c wkI (allL_c wkI (allL_c (WkR.ptr (fun _ => rfl)) (allL_c wkI (allL_c wkI (allL_c (WkR.ptr (fun _ => rfl)) (allL_c (WkR.ptr (fun _ => rfl)) allL_n))))))) (allL_c ⟨some _, rfl, BkR_c rfl (CkR_cons wkI (CkR_cons (WkR.nil (fun _ => rfl)) CkR_nil))⟩ (allL_c ⟨some _, rfl, BkR_c rfl (CkR_cons wkI (CkR_cons (WkR.nil (fun _ => rfl)) CkR_nil))⟩ (allL_c ⟨none, rfl, BkR_n⟩ (allL_c ⟨none, rfl, BkR_n⟩ (allL_c ⟨some _, rfl, BkR_c rfl (CkR_cons wkI (CkR_cons (wkr (loose_lst fun _ => (lo_TEdge _))) CkR_nil))⟩ allL_n))))))
  replace h := W_blaw27_FlowTurns_b1 (W_bd h)
  refine HT_seq ?_
  refine HT_fr DC_ok rfl fun K hK => ?_; (conv => whnf)
  refine nlA rfl ?_; (conv => whnf)
  refine blkK_of rfl ?_; (conv => whnf)
  refine getK_of rfl ?_; (conv => whnf)
  refine hK _ _ _ ?_; clear hK K
  refine HT_if fun K1 K2 hK1 hK2 => ?_; (conv => whnf)
  refine cond_lk h (fun _ h => ?_) (fun _ h => ?_)
  · refine hK1 ?_; clear hK1 hK2 K1 K2
    refine HT_skip ?_
    refine Then_n ?_
    refine HT_seq ?_
    refine HT_block ?_
    refine HT_fr DC_ok rfl fun K hK => ?_; (conv => whnf)
    refine nlA rfl ?_; (conv => whnf)
    refine blkK_of rfl ?_; (conv => whnf)
    refine getK_of rfl ?_; (conv => whnf)
    refine ix_lk h fun _ h => ?_; (conv => whnf)
    refine nlA rfl ?_; (conv => whnf)
    refine blkK_of rfl ?_; (conv => whnf)
    refine And.intro rfl (And.intro (nle rfl) (And.intro rfl ?_)); (conv => whnf)
    refine hK _ _ _ ?_; clear hK K
    refine HT_fr DC_ok rfl fun K hK => ?_; (conv => whnf)
    refine nlA rfl ?_; (conv => whnf)
    refine blkK_of rfl ?_; (conv => whnf)
    refine getK_of rfl ?_; (conv => whnf)
    refine nlA rfl ?_; (conv => whnf)
    refine blkK_of rfl ?_; (conv => whnf)
    refine getK_of rfl ?_; (conv => whnf)
    refine nlA rfl ?_; (conv => whnf)
    refine blkK_of rfl ?_; (conv => whnf)
    refine getK_of rfl ?_; (conv => whnf)
    refine nlA rfl ?_; (conv => whnf)
    refine blkK_of rfl ?_; (conv => whnf)
    refine getK_of rfl ?_; (conv => whnf)
    refine lt_lk (enc := eTEdge) (d := default) DC_ok h rfl rfl rfl ⟨nle rfl, nle rfl, rfl⟩ rfl ⟨⟨rfl, nle rfl⟩, trivial⟩ (fun h => ?_); (conv => whnf)
    refine ap_lk (enc := eTEdge) (d := default) DC_ok h (.inl rfl) rfl rfl rfl ⟨rfl, nle rfl, nle rfl, nle rfl, rfl⟩ (fun _ => rfl) (.inr (.inr ⟨_, _, rfl, rfl, rfl⟩)) (fun h => ?_); (conv => whnf)
    refine blkK_of rfl ?_; (conv => whnf)
    refine And.intro rfl (And.intro (nle rfl) (And.intro rfl ?_)); (conv => whnf)
    refine hK _ _ _ ?_; clear hK K
    refine HT_fD DC_ok mix_ok rfl (by kernel_rfl) fun K hK => ?_; (conv => whnf)
    refine nlA rfl ?_; (conv => whnf)
    refine blkK_of rfl ?_; (conv => whnf)
    refine getK_of rfl ?_; (conv => whnf)
    refine nlA rfl ?_; (conv => whnf)
    refine blkK_of rfl ?_; (conv => whnf)
    refine getK_of rfl ?_; (conv => whnf)
    refine nlA rfl ?_; (conv => whnf)
    refine blkK_of rfl ?_; (conv => whnf)
    refine getK_of rfl ?_; (conv => whnf)
    replace h := W_bd h
    refine law27_pick_call h27 h (WkL.refl _) (fun _ h => ?_); (conv => whnf)
    refine nlA rfl ?_; (conv => whnf)
    refine blkK_of rfl ?_; (conv => whnf)
    refine getK_of rfl ?_; (conv => whnf)
    refine gd_lk h fun _ h => ?_; (conv => whnf)
    refine ix_lk h fun _ h => ?_; (conv => whnf)
    refine nlA rfl ?_; (conv => whnf)
    refine lt_lk (enc := eTEdge) (d := default) DC_ok h rfl rfl rfl ⟨nle rfl, nle rfl, rfl⟩ rfl ⟨⟨rfl, nle rfl⟩, trivial⟩ (fun h => ?_); (conv => whnf)
    refine ap_lk (enc := eTEdge) (d := default) DC_ok h (.inl rfl) rfl rfl rfl ⟨rfl, nle rfl, nle rfl, nle rfl, rfl⟩ (fun _ => rfl) (.inr (.inr ⟨_, _, rfl, rfl, rfl⟩)) (fun h => ?_); (conv => whnf)
    refine blkK_of rfl ?_; (conv => whnf)
    refine And.intro rfl (And.intro (nle rfl) (And.intro rfl ?_)); (conv => whnf)
    refine hK _ _ _ ?_; clear hK K
    refine InBlock_n ?_
    refine Then_n ?_
    refine HT_f DC_ok rfl fun K hK => ?_; (conv => whnf)
    refine hK _ _ _ ?_; clear hK K
    refine Then_n ?_
    replace h := W_xnx h
    refine ⟨_, h, ?_⟩
    refine weak_k ?_; (conv => whnf)
    exact And.intro rfl (And.intro (allL_c wkI (allL_c wkI (allL_c (WkR.ptr (fun _ => rfl)) (allL_c wkI (allL_c wkI (allL_c (WkR.ptr (fun _ => rfl)) (allL_c (WkR.ptr (fun _ => rfl)) allL_n))))))) (allL_c ⟨some _, rfl, BkR_c rfl (CkR_cons wkI (CkR_cons (WkR.tok (fun _ => rfl) rfl (fun _ _ => Wk.refl _) (fun _ => (lo_TEdge _))) CkR_nil))⟩ (allL_c ⟨some _, rfl, BkR_c rfl (CkR_cons wkI (CkR_cons (WkR.tok (fun _ => rfl) rfl (fun _ _ => Wk.refl _) (fun _ => (lo_TEdge _))) CkR_nil))⟩ (allL_c ⟨some _, rfl, BkR_c rfl CkR_nil⟩ (allL_c ⟨some _, rfl, BkR_c rfl CkR_nil⟩ (allL_c ⟨some _, rfl, BkR_c rfl (CkR_cons wkI (CkR_cons (wkr (loose_lst fun _ => (lo_TEdge _))) CkR_nil))⟩ allL_n))))))
  refine hK2 ?_; clear hK1 hK2 K1 K2
  refine HT_exit ?_
  refine Then_e ?_
  refine Then_e ?_
  refine InBlock_e ?_
  replace h := W_xbk h
  replace h := W_inl h
  refine Then_n ?_
  refine HT_fr DC_ok rfl fun K hK => ?_; (conv => whnf)
  refine nlA rfl ?_; (conv => whnf)
  refine blkK_of rfl ?_; (conv => whnf)
  refine nlA rfl ?_; (conv => whnf)
  replace h := W_bd h
  refine law27_greatest_call h43 h (WkL.refl _) (fun _ h => ?_); (conv => whnf)
  refine hK _ _ _ ?_; clear hK K
  refine HT_fr DC_ok rfl fun K hK => ?_; (conv => whnf)
  refine nlA rfl ?_; (conv => whnf)
  refine blkK_of rfl ?_; (conv => whnf)
  refine nlA rfl ?_; (conv => whnf)
  replace h := W_bd h
  refine law27_greatest_call h43 h (WkL_cons (Wk_agg (WkL_cons (Wk.refl _) (WkL_cons Wk_free WkL_nil))) (WkL_cons (Wk.refl _) (WkL_cons (Wk.refl _) WkL_nil))) (fun _ h => ?_); (conv => whnf)
  refine hK _ _ _ ?_; clear hK K
  refine HT_fr DC_ok rfl fun K hK => ?_; (conv => whnf)
  refine nlA rfl ?_; (conv => whnf)
  refine blkK_of rfl ?_; (conv => whnf)
  refine nlA rfl ?_; (conv => whnf)
  replace h := W_bd h
  refine law27_greatest_call h43 h (WkL_cons (Wk_agg (WkL_cons (Wk.refl _) (WkL_cons Wk_free WkL_nil))) (WkL_cons (Wk.refl _) (WkL_cons (Wk.refl _) WkL_nil))) (fun _ h => ?_); (conv => whnf)
  refine hK _ _ _ ?_; clear hK K
  refine HT_fr DC_ok rfl fun K hK => ?_; (conv => whnf)
  replace h := W_jn h
  refine cond_lk h (fun _ h => ?_) (fun _ h => ?_) <;> (conv => whnf)
  · refine cond_lk h (fun _ h => ?_) (fun _ h => ?_) <;> (conv => whnf)
    · refine cond_lk h (fun _ h => ?_) (fun _ h => ?_) <;> (conv => whnf)
      · refine cond_lk h (fun _ h => ?_) (fun _ h => ?_) <;> (conv => whnf)
        · refine cond_lk h (fun _ h => ?_) (fun _ h => ?_) <;> (conv => whnf)
          · refine hK _ _ _ ?_; clear hK K
            refine HT_ret ?_
            replace h := W_some h
            refine PostP_r DC_ok fun K hK => ?_; (conv => whnf)
            refine hK _ ?_; clear hK K
            cases h
            exact Wk.refl _
          refine hK _ _ _ ?_; clear hK K
          refine HT_ret ?_
          replace h := W_some h
          refine PostP_r DC_ok fun K hK => ?_; (conv => whnf)
          refine hK _ ?_; clear hK K
          cases h
          exact Wk.refl _
        refine hK _ _ _ ?_; clear hK K
        refine HT_ret ?_
        replace h := W_some h
        refine PostP_r DC_ok fun K hK => ?_; (conv => whnf)
        refine hK _ ?_; clear hK K
        cases h
        exact Wk.refl _
      refine hK _ _ _ ?_; clear hK K
      refine HT_ret ?_
      replace h := W_some h
      refine PostP_r DC_ok fun K hK => ?_; (conv => whnf)
      refine hK _ ?_; clear hK K
      cases h
      exact Wk.refl _
    refine hK _ _ _ ?_; clear hK K
    refine HT_ret ?_
    replace h := W_some h
    refine PostP_r DC_ok fun K hK => ?_; (conv => whnf)
    refine hK _ ?_; clear hK K
    cases h
    exact Wk.refl _
  refine hK _ _ _ ?_; clear hK K
  refine HT_ret ?_
  replace h := W_some h
  refine PostP_r DC_ok fun K hK => ?_; (conv => whnf)
  refine hK _ ?_; clear hK K
  cases h
  exact Wk.refl _
end Go.Proofs.Ytgkmodjcoedonaa
namespace Go.Proofs.Ytgkmodjcoedonaa
open Go Go.Eng
set_option maxRecDepth 100000
def flipE (e : TEdge) : TEdge := ⟨e.To, e.From, e.Capacity⟩
theorem cutE_flip : ∀ (E : List TEdge) (p : Nat → Bool), cutE (E.map flipE) p = cutE E fun x => !p x
  | [], _ => rfl
  | e :: E, p => by
    simp only [List.map_cons, cutE, cutE_flip E p, flipE, Bool.not_not]
    congr 2
    rw [Bool.and_comm]
def turnE (E : List TEdge) (p k : Nat) : List TEdge := (List.range k).map fun i => E.getD ((i + p) % E.length) default
theorem turnE_all {E : List TEdge} {p : Nat} (hp : p < E.length) : turnE E p E.length = E.drop p ++ E.take p := by
  refine List.ext_getElem (by simp [turnE]; omega) fun i h1 h2 => ?_
  simp only [turnE, List.getElem_map, List.getElem_range]
  have hi : i < E.length := by simpa [turnE] using h1
  by_cases c : i < E.length - p
  · rw [List.getElem_append_left (by simpa using c), List.getElem_drop, Nat.mod_eq_of_lt (by omega), getD_ltD (by omega)]
    congr 1; omega
  · rw [List.getElem_append_right (by simp; omega), List.getElem_take]
    have : (i + p) % E.length = i + p - E.length := by
      rw [Nat.mod_eq_sub_mod (by omega), Nat.mod_eq_of_lt (by omega)]
    rw [this, getD_ltD (by omega)]
    congr 1; simp; omega
theorem turns_loop {n : TNet} (hn : MN n) {a4 : Int} (o4 : okI a4) : ∃ B T : TNet, (∃ i, lp (law27_FlowTurns_b1 a4 n) FU (0, (⟨n.N, []⟩ : TNet), (⟨n.N, []⟩ : TNet)) = some (.inl (i, B, T))) ∧ NV B ∧ NV T ∧ B.N = n.N ∧ T.N = n.N ∧ (∀ S, cutE B.Edges S = cutE n.Edges fun x => !S x) ∧ ∀ S, cutE T.Edges S = cutE n.Edges S := by
  have hel := hn.el; have hN := hn.nn
  obtain ⟨s', e, h1, h2, h3⟩ := lp_fold (body := law27_FlowTurns_b1 a4 n) (fun k z => z.1 = (k : Int) ∧ z.2.1 = ⟨n.N, (n.Edges.take k).map flipE⟩ ∧ z.2.2 = ⟨n.N, turnE n.Edges (pickZ a4 (n.Edges.length : Int)).toNat k⟩) n.Edges.length (by omega)
    (fun k z hk hz => by
      obtain ⟨i, B, T⟩ := z
      obtain ⟨rfl, rfl, rfl⟩ := hz
      obtain ⟨p1, p2⟩ := pickZ_lt a4 (n := (n.Edges.length : Int)) (by omega)
      unfold law27_FlowTurns_b1
      simp only [cn_dec]
      rw [if_pos (by omega), ix_n hk, lt_d, ap_p (by simp; omega), pick_law _ _ o4 (by omega), bd_s, gd_p _ (by omega)]
      generalize hp : pickZ a4 (n.Edges.length : Int) = p at p1 p2 ⊢
      have hlt := Int.emod_lt_of_pos ((k : Int) + p) (show (0 : Int) < (n.Edges.length : Int) by omega)
      have hnn := Int.emod_nonneg ((k : Int) + p) (show (n.Edges.length : Int) ≠ 0 by omega)
      rw [wr_id (x := (k : Int) + p) (by omega) (by omega), Int.tmod_eq_emod_of_nonneg (by omega), ix_p hnn hlt, lt_d, ap_p (by simp [turnE]; omega), wr_id (x := (k : Int) + 1) (by omega) (by omega)]
      refine ⟨_, rfl, by simp only; omega, ?_, ?_⟩
      · simp only
        rw [List.take_succ_eq_append_getElem hk, List.map_append, ← getD_ltD hk]; rfl
      · simp only
        congr 1
        simp only [turnE, List.range_succ, List.map_append, List.map_cons, List.map_nil]
        congr 3
        have : ((k : Int) + p) % (n.Edges.length : Int) = (((k + p.toNat) % n.Edges.length : Nat) : Int) := by
          rw [Int.natCast_emod, Int.natCast_add, Int.toNat_of_nonneg p1]
        rw [this, Int.toNat_natCast])
    (fun z hz => by
      obtain ⟨i, B, T⟩ := z
      obtain ⟨rfl, _, _⟩ := hz
      unfold law27_FlowTurns_b1
      simp only [cn_dec]
      rw [if_neg (by omega)])
    (0, ⟨n.N, []⟩, ⟨n.N, []⟩) ⟨rfl, by simp, by simp [turnE]⟩
  obtain ⟨i, B, T⟩ := s'
  simp only at h2 h3
  subst h2 h3
  refine ⟨_, _, ⟨i, e⟩, ?_, ?_, rfl, rfl, fun S => ?_, fun S => ?_⟩
  · refine ⟨hn.v.nn, by simp; omega, fun e he => ?_⟩
    rw [List.take_length] at he
    obtain ⟨e', he', rfl⟩ := List.mem_map.1 he
    have := hn.v.ev e' he'
    exact ⟨this.to, this.fr, fun h => this.ne h.symm, this.cp⟩
  · refine ⟨hn.v.nn, by simp [turnE]; omega, fun e he => ?_⟩
    simp only [turnE, List.mem_map, List.mem_range] at he
    obtain ⟨j, hj, rfl⟩ := he
    have : (j + (pickZ a4 (n.Edges.length : Int)).toNat) % n.Edges.length < n.Edges.length := Nat.mod_lt _ (by omega)
    rw [getD_ltD this]
    exact hn.v.ev _ (List.getElem_mem this)
  · simp only [List.take_length]; exact cutE_flip _ _
  · simp only
    by_cases c : n.Edges.length = 0
    · have : n.Edges = [] := List.length_eq_zero_iff.1 c
      rw [this]; rfl
    · obtain ⟨p1, p2⟩ := pickZ_lt a4 (n := (n.Edges.length : Int)) (by omega)
      rw [turnE_all (by omega), cutE_app]
      have : cutE n.Edges S = cutE (n.Edges.take (pickZ a4 (n.Edges.length : Int)).toNat) S + cutE (n.Edges.drop (pickZ a4 (n.Edges.length : Int)).toNat) S := by
        rw [← cutE_app, List.take_append_drop]
      omega
theorem plain12 (a0 : Int) (a1 : List (Int × Int × Int)) (a2 a3 a4 : Int) (o0 : okI a0) (o1 : okL okA23 a1) (o2 : okI a2) (o3 : okI a3) (o4 : okI a4) : law27_FlowTurns_F a0 a1 a2 a3 a4 = some true := by
  obtain ⟨n, en, hn⟩ := made_ok a0 a1 o0 o1
  obtain ⟨s, t, ee, he⟩ := ends_ok hn o2 o3
  obtain ⟨v, C, eg, hv⟩ := greatest_ok he
  obtain ⟨B, T, ⟨i, el⟩, hB, hT, nB, nT, cB, cT⟩ := turns_loop hn o4
  have hs := he.hs; have ht := he.ht
  obtain ⟨v1, C1, eg1, hv1⟩ := greatest_ok (n := B) (s := t) (t := s) ⟨hB, by omega, by omega, fun h => he.ne h.symm⟩
  obtain ⟨v2, C2, eg2, hv2⟩ := greatest_ok (n := T) (s := s) (t := t) ⟨hT, by omega, by omega, he.ne⟩
  have e1 : v = v1 := by
    have h1 := hv.le (fun x => !C1.testBit x) (by simp [hv1.ct]) (by simp [hv1.cs])
    have h2 := hv1.le (fun x => !C.testBit x) (by simp [hv.ct]) (by simp [hv.cs])
    rw [cB] at h2
    simp only [Bool.not_not] at h2
    rw [← hv.eq] at h2
    rw [← cB, ← hv1.eq] at h1
    omega
  have e2 : v = v2 ∧ C = C2 := by
    refine hv.uniq ⟨?_, hv2.cs, hv2.ct, ?_, fun S h1 h2 => ?_, fun S h1 h2 h3 => ?_, hv2.nn⟩
    · rw [← nT]; exact hv2.lt
    · rw [← cT]; exact hv2.eq
    · rw [← cT]; exact hv2.le S h1 h2
    · rw [← cT] at h3; exact hv2.mn S h1 h2 h3
  obtain ⟨e2, e3⟩ := e2
  subst e1 e2 e3
  unfold law27_FlowTurns_F
  rw [sane_ok, bd_s, Bool.not_true, cn_f, en, bd_s, ee, bd_s, el, bd_s, smK_l]
  simp only
  rw [eg, bd_s, eg1, bd_s, eg2, bd_s]
  simp only [jn_d, cn_t, beq_self_eq_true]
end Go.Proofs.Ytgkmodjcoedonaa
