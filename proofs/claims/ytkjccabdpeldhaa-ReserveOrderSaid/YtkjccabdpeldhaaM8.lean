import Derived.Test.YtkjccabdpeldhaaM6
import Derived.Test.YtkjccabdpeldhaaM7
set_option linter.unusedVariables false
set_option linter.unusedSimpArgs false
set_option linter.unusedSectionVars false
namespace Go.Proofs.Ytkjccabdpeldhaa
open Go Go.Eng
set_option maxHeartbeats 0
set_option maxRecDepth 100000
def law33_ReserveOrder_F (a0 : TNumbers) (a1 : Int) : Option Bool := bd (law33_sane_F ) fun y1 => cn (!y1) (some false) (bd (ref33_Made_F a0) fun y2 =>
    bd (reserve_Admit_F y2) fun y3 => bd (law33_pick_F a1 (wr ((y2.Calls.length : Int) + 1))) fun y4 => bd (ref33_Copy_F y2) fun y5 => slc y5.Calls 0 y4 fun l6 =>
    bd (reserve_Admit_F (⟨(⟨y5.Net.N, y5.Net.Edges⟩ : TNet), y5.Urgent, y5.Centres, y5.Faults, l6⟩ : TReserve)) fun y7 => jn (fun p8 : Bool =>
    cn p8 (some false) (jn (fun p10 : Bool => cn p10 (some true) (let v12 := (wr ((y2.Calls.length : Int) - 1)); bd (ref33_Copy_F y2) fun y13 => ix y13.Calls default v12 fun e14 =>
    lt ([e14] : List TOrdinary) fun l15 => slc y13.Calls 0 v12 fun l16 => ap l15 l16 fun l17 =>
    bd (reserve_Admit_F (⟨(⟨y13.Net.N, y13.Net.Edges⟩ : TNet), y13.Urgent, y13.Centres, y13.Faults, l17⟩ : TReserve)) fun y18 => jn (fun p19 : Bool => some p19) fun k20 =>
    cn (y18.2 == 0) (gd (0 ≤ v12) (cn ((Int.tmod (bshr .i64 y3.1.Admitted v12) 2) == 0) (k20 true) (let v21 := ((Int.tmod y18.1.Admitted 2) == 1);
    k20 v21))) (k20 false))) fun k11 => cn (y3.2 != 0) (k11 true) (k11 ((y2.Calls.length : Int) == 0)))) fun k9 => cn (y3.2 != y7.2) (k9 true) (gd (0 ≤ y4) (k9 (y7.1.Admitted !=
    (band .i64 y3.1.Admitted (wr ((bshl .i64 1 y4) - 1)))))))
def law33_ReserveOrder_S : List AV → AV → Prop := fun args r => ∃ a0 a1, args = [eTNumbers a0, eI a1] ∧ W (law33_ReserveOrder_F a0 a1) fun y => r = (eB y)
theorem law33_ReserveOrder_ok {T : Tbl} (hT : TOk Try.prog T) (hpf : PfOk T PF) (h11 : T 11 = pureR law33_sane_S) (h12 : T 12 = pureR ref33_Made_S) (h13 : T 13 = pureR reserve_Admit_S) (h16 : T 16 = pureR law33_pick_S) (h19 : T 19 = ownR ref33_Copy_res ref33_Copy_blk ref33_Copy_S) : FOk Try.prog 6 (pureR law33_ReserveOrder_S) := by
  refine FOk_pure hT hpf Try.func6 rfl Try.ntmps6 Try.results6 (by decide) ?_
  rintro args r ⟨a0, a1, rfl, h⟩
  refine ⟨nle rfl, ?_, ?_⟩
  · exact (loose_cons (lo_TNumbers _) (loose_cons (loose_int _ _) loose_nil))
  rw [law33_ReserveOrder_F.eq_1] at h
  refine HT_fr DC_ok rfl fun K hK => ?_; (conv => whnf)
  refine hK _ _ _ ?_; clear hK K
  refine HT_seq ?_
  refine HT_fr DC_ok rfl fun K hK => ?_; (conv => whnf)
  replace h := W_bd h
  refine law33_sane_call h11 h (WkL.refl _) (fun _ h => ?_); (conv => whnf)
  refine hK _ _ _ ?_; clear hK K
  refine HT_if fun K1 K2 hK1 hK2 => ?_; (conv => whnf)
  refine cond_lk h (fun _ h => ?_) (fun _ h => ?_)
  · refine hK1 ?_; clear hK1 hK2 K1 K2
    refine HT_fr DC_ok rfl fun K hK => ?_; (conv => whnf)
    refine hK _ _ _ ?_; clear hK K
    refine HT_ret ?_
    refine Then_r ?_
    replace h := W_some h
    refine PostP_r DC_ok fun K hK => ?_; (conv => whnf)
    refine hK _ ?_; clear hK K
    cases h
    exact Wk.refl _
  refine hK2 ?_; clear hK1 hK2 K1 K2
  refine HT_skip ?_
  refine Then_n ?_
  refine HT_fr DC_ok rfl fun K hK => ?_; (conv => whnf)
  refine nlA rfl ?_; (conv => whnf)
  refine blkK_of rfl ?_; (conv => whnf)
  refine nlA rfl ?_; (conv => whnf)
  replace h := W_bd h
  refine ref33_Made_call h12 h (WkL.refl _) (fun _ h => ?_); (conv => whnf)
  refine blkK_of rfl ?_; (conv => whnf)
  refine And.intro rfl (And.intro (nle rfl) (And.intro rfl ?_)); (conv => whnf)
  refine hK _ _ _ ?_; clear hK K
  refine HT_fr DC_ok rfl fun K hK => ?_; (conv => whnf)
  refine nlA rfl ?_; (conv => whnf)
  refine blkK_of rfl ?_; (conv => whnf)
  refine nlA rfl ?_; (conv => whnf)
  replace h := W_bd h
  refine reserve_Admit_call h13 h (WkL.refl _) (fun _ h => ?_); (conv => whnf)
  refine blkK_of rfl ?_; (conv => whnf)
  refine And.intro rfl (And.intro (nle rfl) (And.intro rfl ?_)); (conv => whnf)
  refine hK _ _ _ ?_; clear hK K
  refine HT_fr DC_ok rfl fun K hK => ?_; (conv => whnf)
  refine nlA rfl ?_; (conv => whnf)
  refine blkK_of rfl ?_; (conv => whnf)
  refine getK_of rfl ?_; (conv => whnf)
  replace h := W_bd h
  refine law33_pick_call h16 h (WkL.refl _) (fun _ h => ?_); (conv => whnf)
  refine hK _ _ _ ?_; clear hK K
  refine HT_fr DC_ok rfl fun K hK => ?_; (conv => whnf)
  refine nlA rfl ?_; (conv => whnf)
  refine blkK_of rfl ?_; (conv => whnf)
  refine nlA rfl ?_; (conv => whnf)
  refine callsK_own h19 h (fun y e => (⟨_, rfl, e⟩ : ref33_Copy_S _ _)) (WkL.refl _) (fun _ h => ?_); (conv => whnf)
  refine blkK_of rfl ?_; (conv => whnf)
  refine And.intro rfl (And.intro (nle rfl) (And.intro rfl ?_)); (conv => whnf)
  refine hK _ _ _ ?_; clear hK K
  refine HT_frzBK 9 5 (enc := eTOrdinary) (e := 56) default (ElOk_agg DC_ok rfl rfl (fun _ => rfl) (fun _ => rfl)) ?_; (conv => whnf); refine ⟨_, _, _, (Nat.ne_of_beq_eq_false rfl), rfl, rfl, rfl, rfl, ?_⟩; (conv => whnf)
  refine HT_fr DC_ok rfl fun K hK => ?_; (conv => whnf)
  refine nlA rfl ?_; (conv => whnf)
  refine blkK_of rfl ?_; (conv => whnf)
  refine getK_of rfl ?_; (conv => whnf)
  refine sl_lk h (.inl ⟨rfl, rfl⟩) (.inr ⟨_, rfl⟩) (fun h => ?_); (conv => whnf)
  refine blkK_of rfl ?_; (conv => whnf)
  refine And.intro rfl (And.intro (nle rfl) (And.intro rfl ?_)); (conv => whnf)
  refine hK _ _ _ ?_; clear hK K
  refine HT_frzBK 9 1 (enc := eTEdge) (e := 53) default (ElOk_agg DC_ok rfl rfl (fun _ => rfl) (fun _ => rfl)) ?_; (conv => whnf); refine ⟨_, _, _, (Nat.ne_of_beq_eq_false rfl), rfl, rfl, rfl, rfl, ?_⟩; (conv => whnf)
  refine HT_frzBK 9 2 (enc := eI) (e := 3) default (ElOk_one DC_ok rfl rfl rfl (fun _ => ⟨rfl, rfl⟩)) ?_; (conv => whnf); refine ⟨_, _, _, (Nat.ne_of_beq_eq_false rfl), rfl, rfl, rfl, rfl, ?_⟩; (conv => whnf)
  refine HT_frzBK 9 3 (enc := eI) (e := 3) default (ElOk_one DC_ok rfl rfl rfl (fun _ => ⟨rfl, rfl⟩)) ?_; (conv => whnf); refine ⟨_, _, _, (Nat.ne_of_beq_eq_false rfl), rfl, rfl, rfl, rfl, ?_⟩; (conv => whnf)
  refine HT_fr DC_ok rfl fun K hK => ?_; (conv => whnf)
  refine nlA rfl ?_; (conv => whnf)
  refine blkK_of rfl ?_; (conv => whnf)
  refine nlA rfl ?_; (conv => whnf)
  replace h := W_bd h
  refine reserve_Admit_call h13 h (WkL.refl _) (fun _ h => ?_); (conv => whnf)
  refine blkK_of rfl ?_; (conv => whnf)
  refine And.intro rfl (And.intro (nle rfl) (And.intro rfl ?_)); (conv => whnf)
  refine hK _ _ _ ?_; clear hK K
  refine HT_seq ?_
  refine HT_fd DC_ok mix_ok rfl (by kernel_rfl) fun K hK => ?_; (conv => whnf)
  replace h := W_jn h
  refine cond_lk h (fun _ h => ?_) (fun _ h => ?_) <;> (conv => whnf)
  · refine hK _ _ _ ?_; clear hK K
    refine HT_if fun K1 K2 hK1 hK2 => ?_; (conv => whnf)
    refine hK1 ?_; clear hK1 hK2 K1 K2
    replace h := W_cnT h
    refine HT_fr DC_ok rfl fun K hK => ?_; (conv => whnf)
    refine hK _ _ _ ?_; clear hK K
    refine HT_ret ?_
    refine Then_r ?_
    replace h := W_some h
    refine PostP_r DC_ok fun K hK => ?_; (conv => whnf)
    refine hK _ ?_; clear hK K
    cases h
    exact Wk.refl _
  refine nlA rfl ?_; (conv => whnf)
  refine blkK_of rfl ?_; (conv => whnf)
  refine getK_of rfl ?_; (conv => whnf)
  refine nlA rfl ?_; (conv => whnf)
  refine blkK_of rfl ?_; (conv => whnf)
  refine getK_of rfl ?_; (conv => whnf)
  refine gd_lk h fun _ h => ?_; (conv => whnf)
  refine hK _ _ _ ?_; clear hK K
  refine HT_if fun K1 K2 hK1 hK2 => ?_; (conv => whnf)
  refine cond_lk h (fun _ h => ?_) (fun _ h => ?_)
  · refine hK1 ?_; clear hK1 hK2 K1 K2
    refine HT_fr DC_ok rfl fun K hK => ?_; (conv => whnf)
    refine hK _ _ _ ?_; clear hK K
    refine HT_ret ?_
    refine Then_r ?_
    replace h := W_some h
    refine PostP_r DC_ok fun K hK => ?_; (conv => whnf)
    refine hK _ ?_; clear hK K
    cases h
    exact Wk.refl _
  refine hK2 ?_; clear hK1 hK2 K1 K2
  refine HT_skip ?_
  refine Then_n ?_
  refine HT_seq ?_
  refine HT_fr DC_ok rfl fun K hK => ?_; (conv => whnf)
  replace h := W_jn h
  refine cond_lk h (fun _ h => ?_) (fun _ h => ?_) <;> (conv => whnf)
  · refine hK _ _ _ ?_; clear hK K
    refine HT_if fun K1 K2 hK1 hK2 => ?_; (conv => whnf)
    refine hK1 ?_; clear hK1 hK2 K1 K2
    replace h := W_cnT h
    refine HT_fr DC_ok rfl fun K hK => ?_; (conv => whnf)
    refine hK _ _ _ ?_; clear hK K
    refine HT_ret ?_
    refine Then_r ?_
    replace h := W_some h
    refine PostP_r DC_ok fun K hK => ?_; (conv => whnf)
    refine hK _ ?_; clear hK K
    cases h
    exact Wk.refl _
  refine nlA rfl ?_; (conv => whnf)
  refine blkK_of rfl ?_; (conv => whnf)
  refine getK_of rfl ?_; (conv => whnf)
  refine hK _ _ _ ?_; clear hK K
  refine HT_if fun K1 K2 hK1 hK2 => ?_; (conv => whnf)
  refine cond_lk h (fun _ h => ?_) (fun _ h => ?_)
  · refine hK1 ?_; clear hK1 hK2 K1 K2
    refine HT_fr DC_ok rfl fun K hK => ?_; (conv => whnf)
    refine hK _ _ _ ?_; clear hK K
    refine HT_ret ?_
    refine Then_r ?_
    replace h := W_some h
    refine PostP_r DC_ok fun K hK => ?_; (conv => whnf)
    refine hK _ ?_; clear hK K
    cases h
    exact Wk.refl _
  refine hK2 ?_; clear hK1 hK2 K1 K2
  refine HT_skip ?_
  refine Then_n ?_
  refine HT_fr DC_ok rfl fun K hK => ?_; (conv => whnf)
  refine nlA rfl ?_; (conv => whnf)
  refine blkK_of rfl ?_; (conv => whnf)
  refine getK_of rfl ?_; (conv => whnf)
  refine hK _ _ _ ?_; clear hK K
  refine HT_fr DC_ok rfl fun K hK => ?_; (conv => whnf)
  refine nlA rfl ?_; (conv => whnf)
  refine blkK_of rfl ?_; (conv => whnf)
  refine nlA rfl ?_; (conv => whnf)
  refine callsK_own h19 h (fun y e => (⟨_, rfl, e⟩ : ref33_Copy_S _ _)) (WkL.refl _) (fun _ h => ?_); (conv => whnf)
  refine blkK_of rfl ?_; (conv => whnf)
  refine And.intro rfl (And.intro (nle rfl) (And.intro rfl ?_)); (conv => whnf)
  refine hK _ _ _ ?_; clear hK K
  refine HT_frzBK 13 5 (enc := eTOrdinary) (e := 56) default (ElOk_agg DC_ok rfl rfl (fun _ => rfl) (fun _ => rfl)) ?_; (conv => whnf); refine ⟨_, _, _, (Nat.ne_of_beq_eq_false rfl), rfl, rfl, rfl, rfl, ?_⟩; (conv => whnf)
  refine HT_fd DC_ok mix_ok rfl (by kernel_rfl) fun K hK => ?_; (conv => whnf)
  refine nlA rfl ?_; (conv => whnf)
  refine blkK_of rfl ?_; (conv => whnf)
  refine getK_of rfl ?_; (conv => whnf)
  refine ix_lk h fun _ h => ?_; (conv => whnf)
  refine nlA rfl ?_; (conv => whnf)
  refine lt_lk (enc := eTOrdinary) (d := default) DC_ok h rfl rfl rfl ⟨nle rfl, nle rfl, rfl⟩ rfl ⟨⟨rfl, nle rfl⟩, trivial⟩ (fun h => ?_); (conv => whnf)
  refine nlA rfl ?_; (conv => whnf)
  refine blkK_of rfl ?_; (conv => whnf)
  refine getK_of rfl ?_; (conv => whnf)
  refine sl_lk h (.inl ⟨rfl, rfl⟩) (.inr ⟨_, rfl⟩) (fun h => ?_); (conv => whnf)
  refine apf_lk (enc := eTOrdinary) (d := default) DC_ok h rfl rfl rfl ⟨rfl, nle rfl, nle rfl, nle rfl, rfl⟩ (fun _ => rfl) (fun h => ?_); (conv => whnf)
  refine blkK_of rfl ?_; (conv => whnf)
  refine And.intro rfl (And.intro (nle rfl) (And.intro rfl ?_)); (conv => whnf)
  refine hK _ _ _ ?_; clear hK K
  refine HT_frzBK 13 1 (enc := eTEdge) (e := 53) default (ElOk_agg DC_ok rfl rfl (fun _ => rfl) (fun _ => rfl)) ?_; (conv => whnf); refine ⟨_, _, _, (Nat.ne_of_beq_eq_false rfl), rfl, rfl, rfl, rfl, ?_⟩; (conv => whnf)
  refine HT_frzBK 13 2 (enc := eI) (e := 3) default (ElOk_one DC_ok rfl rfl rfl (fun _ => ⟨rfl, rfl⟩)) ?_; (conv => whnf); refine ⟨_, _, _, (Nat.ne_of_beq_eq_false rfl), rfl, rfl, rfl, rfl, ?_⟩; (conv => whnf)
  refine HT_frzBK 13 3 (enc := eI) (e := 3) default (ElOk_one DC_ok rfl rfl rfl (fun _ => ⟨rfl, rfl⟩)) ?_; (conv => whnf); refine ⟨_, _, _, (Nat.ne_of_beq_eq_false rfl), rfl, rfl, rfl, rfl, ?_⟩; (conv => whnf)
  refine HT_fr DC_ok rfl fun K hK => ?_; (conv => whnf)
  refine nlA rfl ?_; (conv => whnf)
  refine blkK_of rfl ?_; (conv => whnf)
  refine nlA rfl ?_; (conv => whnf)
  replace h := W_bd h
  refine reserve_Admit_call h13 h (WkL_cons (Wk_agg (WkL_cons (Wk.refl _) (WkL_cons (Wk.refl _) (WkL_cons (Wk.refl _) (WkL_cons (Wk.refl _) (WkL_cons (Wk.refl _) (WkL_cons Wk_free WkL_nil))))))) WkL_nil) (fun _ h => ?_); (conv => whnf)
  refine blkK_of rfl ?_; (conv => whnf)
  refine And.intro rfl (And.intro (nle rfl) (And.intro rfl ?_)); (conv => whnf)
  refine hK _ _ _ ?_; clear hK K
  refine HT_fr DC_ok rfl fun K hK => ?_; (conv => whnf)
  replace h := W_jn h
  refine cond_lk h (fun _ h => ?_) (fun _ h => ?_) <;> (conv => whnf)
  · refine nlA rfl ?_; (conv => whnf)
    refine blkK_of rfl ?_; (conv => whnf)
    refine getK_of rfl ?_; (conv => whnf)
    refine gd_lk h fun _ h => ?_; (conv => whnf)
    refine And.intro (by decide) ?_; (conv => whnf)
    refine cond_lk h (fun _ h => ?_) (fun _ h => ?_) <;> (conv => whnf)
    · refine hK _ _ _ ?_; clear hK K
      refine HT_ret ?_
      replace h := W_some h
      refine PostP_r DC_ok fun K hK => ?_; (conv => whnf)
      refine hK _ ?_; clear hK K
      cases h
      exact Wk.refl _
    refine nlA rfl ?_; (conv => whnf)
    refine blkK_of rfl ?_; (conv => whnf)
    refine getK_of rfl ?_; (conv => whnf)
    refine And.intro (by decide) ?_; (conv => whnf)
    refine hK _ _ _ ?_; clear hK K
    refine HT_ret ?_
    replace h := W_some h
    refine PostP_r DC_ok fun K hK => ?_; (conv => whnf)
    refine hK _ ?_; clear hK K
    cases h
    exact Wk.refl _
  refine hK _ _ _ ?_; clear hK K
  refine HT_ret ?_
  replace h := W_some h
  refine PostP_r DC_ok fun K hK => ?_; (conv => whnf)
  refine hK _ ?_; clear hK K
  cases h
  exact Wk.refl _
end Go.Proofs.Ytkjccabdpeldhaa
namespace Go.Proofs.Ytkjccabdpeldhaa
open Go Go.Eng
set_option maxRecDepth 100000
theorem tmod_two (n : Nat) : Int.tmod (n : Int) 2 = ((n % 2 : Nat) : Int) := by
  rw [Int.tmod_eq_emod_of_nonneg (by omega)]; omega
theorem tm_bit {s i : Nat} (hi : i ≤ 60) : Int.tmod (bshr .i64 (s : Int) (i : Int)) 2 = if s.testBit i = true then 1 else 0 := by
  rw [bshr_nat (by omega) hi, Int.toNat_natCast, tmod_two, Nat.shiftRight_eq_div_pow, Nat.testBit_eq_decide_div_mod_eq]
  have := Nat.mod_two_eq_zero_or_one (s / 2 ^ i)
  rcases this with q | q <;> simp [q]
def clR (r : TReserve) (K : List TOrdinary) : TReserve := ⟨r.Net, r.Urgent, r.Centres, r.Faults, K⟩
theorem RV.cls {r : TReserve} (h : RV r) {K : List TOrdinary} (hk : K.length ≤ 8) (hm : ∀ o ∈ K, o ∈ r.Calls) : RV (clR r K) where
  n := h.n
  el := h.el
  eg := h.eg
  ul := h.ul
  cl := h.cl
  cv := h.cv
  uv := h.uv
  ft := h.ft
  kl := hk
  kv o ho := h.kv o (hm o ho)
theorem lv_same {r : TReserve} {K : List TOrdinary} {s s' : Nat} (h : ∀ e, e < r.Net.Edges.length → useN K s' e K.length = useN r.Calls s e r.Calls.length) : lvE (clR r K) s' = lvE r s := by
  unfold lvE
  congr 1
  exact adj_congr fun x hx => (h x hx).symm
theorem safe_same {r : TReserve} {K : List TOrdinary} {s s' : Nat} (h : ∀ e, e < r.Net.Edges.length → useN K s' e K.length = useN r.Calls s e r.Calls.length) : SafeP (clR r K) s' ↔ SafeP r s := by
  have e1 : ∀ nd, mgR (clR r K) s' nd = mgR r s nd := fun nd => by
    unfold mgR netL; rw [lv_same h]; rfl
  have e2 : ∀ e, e < r.Net.Edges.length → capN (clR r K) s' e = capN r s e := fun e he => by
    unfold capN
    have := h e he
    simp only [clR]; omega
  unfold SafeP Car
  constructor
  · rintro ⟨q1, q2⟩
    exact ⟨fun e he => by rw [← e2 e he]; exact q1 e he, fun nd a b => by rw [← e1]; exact q2 nd a b⟩
  · rintro ⟨q1, q2⟩
    exact ⟨fun e he => by rw [e2 e he]; exact q1 e he, fun nd a b => by rw [e1]; exact q2 nd a b⟩
theorem use_high {cs : List TOrdinary} {s e : Nat} {n : Nat} (hs : ∀ i, n ≤ i → s.testBit i = false) : ∀ k, n ≤ k → useN cs s e k = useN cs s e n
  | 0, h => by have : n = 0 := by omega
               subst this; rfl
  | k + 1, h => by
    by_cases q : n = k + 1
    · rw [q]
    · simp only [useN]
      rw [use_high hs k (by omega), hs k (by omega)]
      simp
theorem use_take {cs : List TOrdinary} {s e n : Nat} (hn : n ≤ cs.length) : ∀ k, k ≤ n → useN (cs.take n) s e k = useN cs s e k
  | 0, _ => rfl
  | k + 1, h => by
    have : (cs.take n).getD k default = cs.getD k default := by
      rw [List.getD_eq_getElem?_getD, List.getD_eq_getElem?_getD, List.getElem?_take_of_lt (by omega)]
    simp only [useN]
    rw [use_take hn k (by omega), this]
theorem adm_or_bit {r : TReserve} {k i : Nat} (h : k < i) : (admN r k ||| 2 ^ k).testBit i = false := by
  rw [Nat.testBit_or, adm_bit_ge r k i (by omega), Nat.testBit_two_pow]; simp; omega
theorem adm_first {r : TReserve} {n : Nat} (hn : n ≤ r.Calls.length) : ∀ k, k ≤ n → admN (clR r (r.Calls.take n)) k = admN r k
  | 0, _ => rfl
  | k + 1, h => by
    have e := adm_first hn k (by omega)
    have hl : (r.Calls.take n).length = n := by rw [List.length_take]; omega
    have hs : SafeP (clR r (r.Calls.take n)) (admN (clR r (r.Calls.take n)) k ||| 2 ^ k) ↔ SafeP r (admN r k ||| 2 ^ k) := by
      rw [e]
      refine safe_same fun e he => ?_
      rw [hl, use_take hn n (Nat.le_refl _), use_high (n := n) (fun i hi => adm_or_bit (by omega)) r.Calls.length hn]
    by_cases q : SafeP r (admN r k ||| 2 ^ k)
    · simp only [admN]
      rw [if_pos q, if_pos (hs.2 q), e]
    · simp only [admN]
      rw [if_neg q, if_neg fun q2 => q (hs.1 q2), e]
theorem adm_mask (r : TReserve) {k m : Nat} (h : m ≤ k) : admN r k &&& (2 ^ m - 1) = admN r m := by
  refine Nat.eq_of_testBit_eq fun i => ?_
  rw [Nat.testBit_and, Nat.testBit_two_pow_sub_one, adm_take r h i, Bool.and_comm]
theorem plain6 (a0 : TNumbers) (a1 : Int) (o0 : okTNumbers a0) (o1 : okI a1) : law33_ReserveOrder_F a0 a1 = some true := by
  unfold law33_ReserveOrder_F
  rw [sane_ok, bd_s]
  simp only [Bool.not_true, cn_f, jn_d]
  obtain ⟨r, e, hr⟩ := made_ok a0 o0
  have h := hr.toRV
  have hkl := h.kl
  obtain ⟨i1, i2⟩ := pickZ_lt a1 (n := (r.Calls.length : Int) + 1) (by omega)
  obtain ⟨n, hn⟩ : ∃ n : Nat, pickZ a1 ((r.Calls.length : Int) + 1) = (n : Int) := ⟨_, (Int.toNat_of_nonneg i1).symm⟩
  rw [hn] at i2
  have hnl : n ≤ r.Calls.length := by omega
  have hp : (2 : Int) ^ n = ((2 ^ n : Nat) : Int) := by norm_cast
  have hp1 := Nat.two_pow_pos n
  have hp8 : 2 ^ n ≤ 2 ^ 8 := Nat.pow_le_pow_right (by omega) (by omega)
  have hlen := adm_lt r r.Calls.length
  have hlen8 : 2 ^ r.Calls.length ≤ 2 ^ 8 := Nat.pow_le_pow_right (by omega) (by omega)
  rw [e, bd_s, wr_id (x := (r.Calls.length : Int) + 1) (by omega) (by omega), h.copy]
  have hsub : sub r.Calls 0 (n : Int) = r.Calls.take n := by simp [sub]
  have hfirst : (⟨(⟨r.Net.N, r.Net.Edges⟩ : TNet), r.Urgent, r.Centres, r.Faults, r.Calls.take n⟩ : TReserve) = clR r (r.Calls.take n) := rfl
  have hv1 : RV (clR r (r.Calls.take n)) := h.cls (by rw [List.length_take]; omega) fun o ho => List.mem_of_mem_take ho
  have hs0 : ∀ K, SafeP (clR r K) 0 ↔ SafeP r 0 := fun K => safe_same fun e _ => by rw [use_0, use_0]
  have hl1 : (clR r (r.Calls.take n)).Calls.length = n := by simp only [clR]; rw [List.length_take]; omega
  have hmask : band .i64 ((admN r r.Calls.length : Nat) : Int) (wr (bshl .i64 1 (n : Int) - 1)) = ((admN r n : Nat) : Int) := by
    rw [bshl_one (by omega), hp, wr_id (by omega) (by omega), band_nat (by omega) (by omega) (by omega) (by omega), Int.toNat_natCast, show ((2 ^ n : Nat) : Int) - 1 = ((2 ^ n - 1 : Nat) : Int) by omega, Int.toNat_natCast, adm_mask r hnl]
  rcases admit_ok h with ⟨q1, q2⟩ | ⟨q1, q2⟩
  · rcases admit_ok hv1 with ⟨q3, q4⟩ | ⟨q3, q4⟩
    · rw [q2, bd_s, pick_law a1 _ o1 (by omega), bd_s, hn, bd_s, slc_p (by omega) (by omega) (by omega), hsub, hfirst, q4, bd_s]
      have hz : band .i64 0 (wr (bshl .i64 1 (n : Int) - 1)) = 0 := by
        rw [bshl_one (by omega), hp, wr_id (by omega) (by omega), band_nat (by omega) (by omega) (by omega) (by omega)]; simp
      rw [cn_bne, if_pos rfl, gd_p _ (by omega), hz]
      simp [cn_t, cn_f]
    · exact absurd ((hs0 _).1 q3) q1
  · rcases admit_ok hv1 with ⟨q3, q4⟩ | ⟨q3, q4⟩
    · exact absurd ((hs0 _).2 q1) q3
    rw [q2, bd_s, pick_law a1 _ o1 (by omega), bd_s, hn, bd_s, slc_p (by omega) (by omega) (by omega), hsub, hfirst, q4, bd_s]
    rw [hl1, adm_first hnl n (Nat.le_refl _)]
    rw [cn_bne, if_pos rfl, gd_p _ (by omega), hmask]
    simp only [bne_self_eq_false, cn_f]
    by_cases q : r.Calls.length = 0
    · rw [show ((r.Calls.length : Int) == 0) = true by rw [q]; rfl, cn_t]
    · rw [show ((r.Calls.length : Int) == 0) = false by simp; intro he; apply q; simp [he], cn_f]
      obtain ⟨z, hz⟩ : ∃ z, r.Calls.length = z + 1 := ⟨r.Calls.length - 1, by omega⟩
      have hw : wr ((r.Calls.length : Int) - 1) = (z : Int) := by rw [wr_id (by omega) (by omega)]; omega
      have hsub2 : sub r.Calls 0 (z : Int) = r.Calls.take z := by simp [sub]
      rw [hw, bd_s, ix_n (by omega), lt_d, slc_p (by omega) (by omega) (by omega), hsub2, ap_p (by rw [List.length_take, List.length_singleton]; omega)]
      have hK : (⟨(⟨r.Net.N, r.Net.Edges⟩ : TNet), r.Urgent, r.Centres, r.Faults, [r.Calls.getD z default] ++ r.Calls.take z⟩ : TReserve) = clR r (r.Calls.getD z default :: r.Calls.take z) := rfl
      rw [hK]
      have hkl2 : (r.Calls.getD z default :: r.Calls.take z).length = z + 1 := by rw [List.length_cons, List.length_take]; omega
      have hv2 : RV (clR r (r.Calls.getD z default :: r.Calls.take z)) := h.cls (by omega) fun o ho => by
        rcases List.mem_cons.1 ho with q | q
        · rw [q]; exact getD_mem (by omega)
        · exact List.mem_of_mem_take q
      rcases admit_ok hv2 with ⟨q5, _⟩ | ⟨q5, q6⟩
      · exact absurd ((hs0 _).2 q1) q5
      rw [q6, bd_s, cn_beq, if_pos rfl, gd_p _ (by omega)]
      have hl2 : (clR r (r.Calls.getD z default :: r.Calls.take z)).Calls.length = z + 1 := hkl2
      rw [hl2, tm_bit (by omega)]
      cases hb : (admN r r.Calls.length).testBit z
      · rw [if_neg (by simp), cn_beq, if_pos rfl]
      · rw [if_pos rfl, cn_beq, if_neg (by omega)]
        have hsz : SafeP r (2 ^ z) := (adm_safe q1 r.Calls.length).sub h fun i _ hi => by
          rw [Nat.testBit_two_pow] at hi
          have : z = i := by simpa using hi
          rw [← this]; exact hb
        have hs1 : SafeP (clR r (r.Calls.getD z default :: r.Calls.take z)) (admN (clR r (r.Calls.getD z default :: r.Calls.take z)) 0 ||| 2 ^ 0) := by
          refine (safe_same fun e he => ?_).2 hsz
          rw [hkl2, hz]
          have e1 : useN (r.Calls.getD z default :: r.Calls.take z) (admN (clR r (r.Calls.getD z default :: r.Calls.take z)) 0 ||| 2 ^ 0) e (z + 1) = useN (r.Calls.getD z default :: r.Calls.take z) (admN (clR r (r.Calls.getD z default :: r.Calls.take z)) 0 ||| 2 ^ 0) e 1 := use_high (n := 1) (fun i hi => adm_or_bit (by omega)) _ (by omega)
          have e2 : useN r.Calls (2 ^ z) e z = 0 := by
            have hx : ∀ k, k ≤ z → useN r.Calls (2 ^ z) e k = 0 := fun k => by
              induction k with
              | zero => exact fun _ => rfl
              | succ k ih =>
                intro hk
                have : (2 ^ z).testBit k = false := by rw [Nat.testBit_two_pow]; simp; omega
                simp only [useN]
                rw [ih (by omega), this]; simp
            exact hx z (Nat.le_refl _)
          rw [e1]
          simp only [useN]
          rw [e2]
          have t1 : (admN (clR r (r.Calls.getD z default :: r.Calls.take z)) 0 ||| 2 ^ 0).testBit 0 = true := by simp [admN]
          have t2 : (2 ^ z).testBit z = true := by rw [Nat.testBit_two_pow]; simp
          rw [t1, t2]
          rfl
        have hbit : (admN (clR r (r.Calls.getD z default :: r.Calls.take z)) (z + 1)).testBit 0 = true := by
          rw [adm_bit_lt _ (z + 1) 0 (by omega)]
          exact (adm_in 0).2 hs1
        rw [tmod_two]
        rw [Nat.testBit_zero] at hbit
        have : admN (clR r (r.Calls.getD z default :: r.Calls.take z)) (z + 1) % 2 = 1 := by simpa using hbit
        rw [this]; rfl
end Go.Proofs.Ytkjccabdpeldhaa
