import Derived.Test.YthbonailomfjlaaW4
namespace Go.Proofs.Ythbonailomfjlaa
open Go Go.Eng
set_option maxHeartbeats 0
set_option maxRecDepth 100000
attribute [local irreducible] forceN
/-- (*window).narrow: what it is handed, in place. -/
def clock_narrow_R : FSpec := fun args H base r H' => ∃ i lo hi l u, args = [.ptr i 0, eI l, eI u] ∧ H i = some (.cells [eI lo, eI hi]) ∧ r = .tup [] ∧ H' = upd H i (some (.cells [eI (imax lo l), eI (imin hi u)]))
theorem upd_same {H : Heap} {i : Nat} {b : Option AB} : upd H i b i = b := by simp [upd]
theorem clock_narrow_ok {T : Tbl} (hT : TOk Try.prog T) (hpf : PfOk T PF) : FOk Try.prog 45 clock_narrow_R := by
  refine FOk_of hT hpf Try.func45 rfl Try.ntmps45 Try.results45 (by decide) ?_
  rintro args H base r H' hlt ⟨i, lo, hi, l, u, rfl, hi0, rfl, rfl⟩
  have hi1 : i < base := hlt _ _ hi0
  refine ⟨Nat.le_of_ble_eq_true rfl, ?_⟩
  refine HT_fD DC_ok mix_ok rfl (by kernel_rfl) fun K hK => ?_
  rw [forceN_eq]; (conv => whnf)
  repeat' (first | (rw [forceN_eq]; (conv => whnf)) | (refine And.intro hi1 ?_; (conv => whnf)) | (refine blkK_of hi0 ?_; (conv => whnf)) | (refine blkK_of upd_same ?_; (conv => whnf)) | (refine getK_of rfl ?_; (conv => whnf)) | (refine And.intro rfl ?_; (conv => whnf)) | (refine And.intro (Nat.le_of_ble_eq_true rfl) ?_; (conv => whnf)) | refine hK _ _ _ ?_)
  refine ⟨.tup [], rfl, Fin_one (Wk.refl _) (loose_tup loose_nil) hi0 (fun j => ?_) (loose_cons (loose_int _ _) (loose_cons (loose_int _ _) loose_nil))⟩
  show upd (upd H i _) i _ j = _
  unfold upd
  split
  · rfl
  · rfl
theorem clock_narrow_call {T : Tbl} (hT : T 45 = clock_narrow_R) {i id : Nat} {lo hi l u : Int} {hp : Heap} {k : AV → Heap → Prop} (h0 : hp i = some (.cells [eI lo, eI hi])) (hk : k (.tup []) (upd hp i (some (.cells [eI (imax lo l), eI (imin hi u)])))) : callsK T 45 [.ptr i 0, eI l, eI u] hp id k :=
  callsK_of (WkL.refl _) (by rw [hT]; exact ⟨i, lo, hi, l, u, rfl, h0, rfl, rfl⟩) hk
end Go.Proofs.Ythbonailomfjlaa
