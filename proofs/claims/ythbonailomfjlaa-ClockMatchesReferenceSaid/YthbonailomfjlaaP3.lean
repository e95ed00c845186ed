import Derived.Test.YthbonailomfjlaaL3
import Derived.Test.YthbonailomfjlaaPI
import Derived.Test.YthbonailomfjlaaPJ
namespace Go.Proofs.Ythbonailomfjlaa
open Go Go.Eng
set_option maxRecDepth 100000
theorem matches_b2 (c : TClock) (ls ts : List Int) (hl : ls.length = 2) (ht : ts.length = 2) (k : Nat) (hk : k < 2) : law05_ClockMatchesReference_b2 c ls ts (k : Int) = some (.nx ((k + 1 : Nat) : Int)) := by
  have w1 : wr ((k : Int) + 1) = ((k + 1 : Nat) : Int) := by rw [wr_id (by omega) (by omega)]; push_cast; rfl
  unfold law05_ClockMatchesReference_b2
  simp only [jn_d, cn_dec, w1]
  rw [if_pos (by omega)]
  simp only [ix_n (show k < ls.length by omega), ix_n (show k < ts.length by omega), at_ok, at_ref, before_ok, before_ref, after_ok, after_ref, bd_s]
  generalize ls.getD k default = l
  generalize ts.getD k default = t
  obtain ⟨z, e1, e2⟩ := reads_both c t
  rw [e1, bd_s, e2, bd_s]
  simp only [cn_bne, if_true, beq_self_eq_true, Bool.not_true, cn_f, bne_self_eq_false]
theorem matches_b1 (a5 a6 : Int) (o5 : okI a5) (o6 : okI a6) (cs : List TClock) (hc : cs.length = 2) (k : Nat) (hk : k < 2) : law05_ClockMatchesReference_b1 a5 a6 cs (k : Int) = some (.nx ((k + 1 : Nat) : Int)) := by
  have w1 : wr ((k : Int) + 1) = ((k + 1 : Nat) : Int) := by rw [wr_id (by omega) (by omega)]; push_cast; rfl
  unfold law05_ClockMatchesReference_b1
  simp only [cn_dec, w1]
  rw [if_pos (by omega), ix_n (by omega), valid_ok, bd_s, valid_ref, bd_s]
  simp only [beq_self_eq_true, Bool.not_true, cn_f]
  rw [pick_law a5 5000 o5 (by omega), bd_s, lt_d, pick_law a6 5000 o6 (by omega), bd_s, lt_d]
  generalize cs.getD k default = c
  obtain ⟨s', e, hs⟩ := lp_fold (body := law05_ClockMatchesReference_b2 c [a5, pickZ a5 5000] [a6, pickZ a6 5000]) (fun k s => s = (k : Int)) 2 (by decide)
    (fun k s hk hs => by subst hs; exact ⟨_, matches_b2 c _ _ rfl rfl k hk, rfl⟩)
    (fun s hs => by
      subst hs
      unfold law05_ClockMatchesReference_b2
      simp only [cn_dec]
      rw [if_neg (by omega)]) 0 rfl
  rw [e, bd_s, smK_l]
theorem plain3 (a0 : TClock) (a1 a2 : Int) (a3 : List Int) (a4 : List (Int × Int × Int)) (a5 a6 : Int) (a7 : List TSpell) (o0 : okTClock a0) (o1 : okI a1) (o2 : okI a2) (o3 : okL okI a3) (o4 : okL okA60 a4) (o5 : okI a5) (o6 : okI a6) (o7 : okL okTSpell a7) :
    law05_ClockMatchesReference_F a0 a1 a2 a3 a4 a5 a6 a7 = some true := by
  unfold law05_ClockMatchesReference_F
  rw [sane_ok, bd_s]
  simp only [Bool.not_true, cn_f]
  have hsp : ∃ z, ref05_Spread_F a1 a5 = some z := by
    by_cases h : inS a1 a5
    · exact ⟨_, spread_ref a1 a5 h⟩
    · exact ⟨_, spread_ref_out a1 a5 h⟩
  obtain ⟨z, hz⟩ := hsp
  rw [spread_both, hz, bd_s, bd_s]
  simp only [imin_eq]
  rw [slc_p (by omega) (by omega) (by omega)]
  obtain ⟨hln, _⟩ := sub_get (l := a7) (lo := 0) (hi := min (a7.length : Int) 20) (by omega) (by omega) (by omega)
  have hl : (sub a7 0 (min (a7.length : Int) 20)).length ≤ 1000 := by rw [hln]; omega
  obtain ⟨y, e1, e2⟩ := agree_both _ hl
  rw [e1, bd_s, slc_p (by omega) (by omega) (by omega), e2, bd_s]
  simp only [jn_d, cn_bne, if_true, beq_self_eq_true, Bool.and_self, Bool.not_true, cn_f, bne_self_eq_false]
  have hfew : ∃ c, law05_few_F a0 = some c := by
    unfold law05_few_F
    rw [imin_eq, slc_p (by omega) (by omega) (by omega)]
    exact ⟨_, rfl⟩
  obtain ⟨c, hc⟩ := hfew
  obtain ⟨m, hm, _⟩ := made_ok a1 a2 a3 a4 o1 o2 o3 o4
  rw [hc, bd_s, hm, bd_s, lt_d]
  obtain ⟨s', e, hs⟩ := lp_fold (body := law05_ClockMatchesReference_b1 a5 a6 [c, m]) (fun k s => s = (k : Int)) 2 (by decide)
    (fun k s hk hs => by subst hs; exact ⟨_, matches_b1 a5 a6 o5 o6 _ rfl k hk, rfl⟩)
    (fun s hs => by
      subst hs
      unfold law05_ClockMatchesReference_b1
      simp only [cn_dec]
      rw [if_neg (by omega)]) 0 rfl
  rw [e, bd_s, smK_l]
end Go.Proofs.Ythbonailomfjlaa
