import Derived.Test.YthbonailomfjlaaL6
import Derived.Test.YthbonailomfjlaaPE
namespace Go.Proofs.Ythbonailomfjlaa
open Go Go.Eng
set_option maxRecDepth 100000
theorem okRs_iff : ∀ (l : List TReading) (last : Int), okRs last l ↔ (∀ r ∈ l, last < r.Local ∧ r.Local ≤ 10000000 ∧ 0 ≤ r.Low ∧ r.Low ≤ r.High ∧ r.High ≤ 10000000) ∧ l.Pairwise fun a b => a.Local < b.Local
  | [], last => by simp [okRs]
  | r :: l, last => by
    simp only [okRs, okRs_iff l r.Local, List.mem_cons, forall_eq_or_imp, List.pairwise_cons]
    constructor
    · rintro ⟨h1, h2, h3⟩
      exact ⟨⟨h1, fun a ha => ⟨by have := (h2 a ha).1; unfold okR at h1; omega, (h2 a ha).2⟩⟩, fun a ha => (h2 a ha).1, h3⟩
    · rintro ⟨⟨h1, h2⟩, h3, h4⟩
      exact ⟨h1, fun a ha => ⟨h3 a ha, (h2 a ha).2⟩, h4⟩
/-- Known less exactly. -/
def vagueR (r v : TReading) : Prop := v.Local = r.Local ∧ v.Low ≤ r.Low ∧ 0 ≤ v.Low ∧ r.High ≤ v.High ∧ v.High ≤ r.High + 100
theorem cLow_vague {d l : Int} {r v : TReading} (h : vagueR r v) : cLow d v l ≤ cLow d r l := by
  unfold vagueR at h; unfold cLow; rw [h.1]; omega
theorem cHigh_vague {d l : Int} {r v : TReading} (h : vagueR r v) : cHigh d r l ≤ cHigh d v l := by
  unfold vagueR at h; unfold cHigh; rw [h.1]; omega
theorem narrows_loop (c : TClock) (a5 : Int × Int) (o5 : okI a5.1 ∧ okI a5.2) (k : Int) (hc : VC c) :
    ∃ i F G, lp (law05_ClockNarrows_b1 a5 c k) FU (0, ⟨c.Drift, []⟩, ⟨c.Drift, []⟩) = some (.inl (i, ⟨c.Drift, F⟩, ⟨c.Drift, G⟩)) ∧ F.Sublist c.Readings ∧ G.map (·.Local) = c.Readings.map (·.Local) ∧ (∀ v ∈ G, ∃ r ∈ c.Readings, vagueR r v) := by
  obtain ⟨_, _, hl, hr⟩ := hc
  obtain ⟨s', e, hs⟩ := lp_fold (body := law05_ClockNarrows_b1 a5 c k) (fun j s => ∃ F G, s = ((j : Int), ⟨c.Drift, F⟩, ⟨c.Drift, G⟩) ∧ F.Sublist (c.Readings.take j) ∧ G.map (·.Local) = (c.Readings.take j).map (·.Local) ∧ (∀ v ∈ G, ∃ r ∈ c.Readings, vagueR r v)) c.Readings.length (by omega)
    (fun j s hj hs => by
      obtain ⟨F, G, rfl, f1, f2, f3⟩ := hs
      have hb := okRs_bd hr j hj
      have hmem : c.Readings.getD j default ∈ c.Readings := by
        rw [List.getD_eq_getElem?_getD, List.getElem?_eq_getElem hj]; exact List.getElem_mem hj
      have lF := f1.length_le
      have lG := congrArg List.length f2
      rw [List.length_take] at lF
      rw [List.length_map, List.length_map, List.length_take] at lG
      have w1 : wr ((j : Int) + 1) = (j : Int) + 1 := wr_id (by omega) (by omega)
      unfold law05_ClockNarrows_b1
      simp only [cn_dec, jn_d, cn_bne, w1]
      rw [if_pos (by omega), ix_n hj, take_getD c.Readings default j hj]
      generalize c.Readings.getD j default = r at hb hmem ⊢
      have fin : ∀ (v : TReading) (F' : List TReading), F'.Sublist (c.Readings.take j ++ [r]) → vagueR r v → ∃ s', (lt [v] fun l13 => ap G l13 fun l14 => (some (Ct.nx ((j : Int) + 1, (⟨c.Drift, F'⟩ : TClock), (⟨c.Drift, l14⟩ : TClock))) : Option (Ct (Int × TClock × TClock) Bool))) = some (.nx s') ∧
          ∃ F G, s' = (((j + 1 : Nat) : Int), ⟨c.Drift, F⟩, ⟨c.Drift, G⟩) ∧ F.Sublist (c.Readings.take j ++ [r]) ∧ G.map (·.Local) = (c.Readings.take j ++ [r]).map (·.Local) ∧ (∀ v ∈ G, ∃ r ∈ c.Readings, vagueR r v) := fun v F' hF hv => by
        rw [lt_d, ap_p (by simp; omega)]
        refine ⟨_, rfl, F', G ++ [v], by push_cast; rfl, hF, ?_, fun u hu => ?_⟩
        · rw [List.map_append, List.map_append, f2]; simp [hv.1]
        · rcases List.mem_append.1 hu with hu | hu
          · exact f3 u hu
          · rw [List.mem_singleton] at hu; subst hu; exact ⟨r, hmem, hv⟩
      by_cases c1 : (j : Int) = k
      · rw [if_pos c1, pick_law a5.1 100 o5.1 (by omega), bd_s, pick_law a5.2 100 o5.2 (by omega), bd_s]
        obtain ⟨p1, p2⟩ := pickZ_lt a5.1 (n := 100) (by omega)
        obtain ⟨q1, q2⟩ := pickZ_lt a5.2 (n := 100) (by omega)
        generalize pickZ a5.1 100 = p at p1 p2 ⊢
        generalize pickZ a5.2 100 = q at q1 q2 ⊢
        rw [wr_id (x := r.Low - p) (by omega) (by omega), wr_id (x := r.High + q) (by omega) (by omega), imax_eq]
        exact fin _ F (List.Sublist.trans f1 (List.sublist_append_left _ _)) (by unfold vagueR; dsimp only; omega)
      · rw [if_neg c1, lt_d, ap_p (by simp; omega)]
        exact fin r (F ++ [r]) (List.Sublist.append f1 (List.Sublist.refl _)) (by unfold vagueR; omega))
    (fun s hs => by
      obtain ⟨F, G, rfl, _⟩ := hs
      unfold law05_ClockNarrows_b1
      simp only [cn_dec]
      rw [if_neg (by omega)]) (0, ⟨c.Drift, []⟩, ⟨c.Drift, []⟩) ⟨[], [], rfl, by simp, by simp, fun v hv => by simp at hv⟩
  obtain ⟨F, G, rfl, f1, f2, f3⟩ := hs
  rw [List.take_length] at f1 f2
  exact ⟨_, F, G, e, f1, f2, f3⟩
theorem plain6 (a0 a1 : Int) (a2 : List Int) (a3 : List (Int × Int × Int)) (a4 : Int) (a5 : Int × Int) (a6 : Int) (o0 : okI a0) (o1 : okI a1) (o2 : okL okI a2) (o3 : okL okA60 a3) (o4 : okI a4) (o5 : okA48 a5) (o6 : okI a6) : law05_ClockNarrows_F a0 a1 a2 a3 a4 a5 a6 = some true := by
  unfold law05_ClockNarrows_F
  rw [sane_ok, bd_s]
  simp only [Bool.not_true, cn_f]
  obtain ⟨c, e, hm, hc⟩ := made_ok a0 a1 a2 a3 o0 o1 o2 o3
  rw [e, bd_s]
  simp only [cn_beq]
  by_cases h0 : (c.Readings.length : Int) = 0
  · rw [if_pos h0]
  rw [if_neg h0, pick_law a6 5000 o6 (by omega), bd_s, pick_law a4 _ o4 (by omega), bd_s]
  obtain ⟨l0, l1⟩ := pickZ_lt a6 (n := 5000) (by omega)
  generalize pickZ a6 5000 = l at l0 l1 ⊢
  generalize pickZ a4 (c.Readings.length : Int) = k
  obtain ⟨i, F, G, e2, f1, f2, f3⟩ := narrows_loop c a5 o5 k hc
  rw [e2, bd_s, smK_l]
  simp only [at_ok, bd_s, jn_d, cn_beq, cn_bne, cn_dec]
  have hl : inL l := ⟨l0, by omega⟩
  have hd : 0 ≤ c.Drift ∧ c.Drift ≤ 100 := ⟨hc.1, hc.2.1⟩
  by_cases g1 : VC c ∧ inL l ∧ aLow c.Drift c.Readings l ≤ aHigh c.Drift c.Readings l
  rotate_left
  · simp only [show atZ c l = (0, 0, 50) by unfold atZ; rw [if_neg g1]]
    rfl
  have hok := (okRs_iff c.Readings (-1)).1 hc.2.2.2
  have vF : VC ⟨c.Drift, F⟩ := ⟨hc.1, hc.2.1, Nat.le_trans f1.length_le hc.2.2.1, (okRs_iff F (-1)).2 ⟨fun r hr => hok.1 r (f1.subset hr), hok.2.sublist f1⟩⟩
  have pG : G.Pairwise fun a b => a.Local < b.Local := by
    have := List.pairwise_map.2 hok.2
    rw [← f2] at this
    exact List.pairwise_map.1 this
  have vG : VC ⟨c.Drift, G⟩ := by
    refine ⟨hc.1, hc.2.1, ?_, (okRs_iff G (-1)).2 ⟨fun v hv => ?_, pG⟩⟩
    · have := congrArg List.length f2
      rw [List.length_map, List.length_map] at this
      dsimp only
      rw [this]; exact hc.2.2.1
    · obtain ⟨r, hr, hv⟩ := f3 v hv
      have := hok.1 r hr
      obtain ⟨tr, _, _, _, _, _, b3⟩ := hm.course r hr
      unfold vagueR at hv
      omega
  have p1 := (aLow_le c.Drift c.Readings l _).1 (Int.le_refl _)
  have p3 := (le_aHigh c.Drift c.Readings l _).1 (Int.le_refl _)
  have k1 : aLow c.Drift F l ≤ aLow c.Drift c.Readings l := (aLow_le _ _ _ _).2 ⟨p1.1, fun r hr => p1.2 r (f1.subset hr)⟩
  have k2 : aHigh c.Drift c.Readings l ≤ aHigh c.Drift F l := (le_aHigh _ _ _ _).2 ⟨p3.1, fun r hr => p3.2 r (f1.subset hr)⟩
  have k3 : aLow c.Drift G l ≤ aLow c.Drift c.Readings l := (aLow_le _ _ _ _).2 ⟨p1.1, fun v hv => by
    obtain ⟨r, hr, hv⟩ := f3 v hv
    exact Int.le_trans (cLow_vague hv) (p1.2 r hr)⟩
  have k4 : aHigh c.Drift c.Readings l ≤ aHigh c.Drift G l := (le_aHigh _ _ _ _).2 ⟨p3.1, fun v hv => by
    obtain ⟨r, hr, hv⟩ := f3 v hv
    exact Int.le_trans (p3.2 r hr) (cHigh_vague hv)⟩
  have g2 : VC ⟨c.Drift, F⟩ ∧ inL l ∧ aLow c.Drift F l ≤ aHigh c.Drift F l := ⟨vF, hl, by omega⟩
  have g3 : VC ⟨c.Drift, G⟩ ∧ inL l ∧ aLow c.Drift G l ≤ aHigh c.Drift G l := ⟨vG, hl, by omega⟩
  have t1 : atZ c l = (aLow c.Drift c.Readings l, aHigh c.Drift c.Readings l, 0) := by unfold atZ; rw [if_pos g1]
  have t2 : atZ ⟨c.Drift, F⟩ l = (aLow c.Drift F l, aHigh c.Drift F l, 0) := by unfold atZ; rw [if_pos g2]
  have t3 : atZ ⟨c.Drift, G⟩ l = (aLow c.Drift G l, aHigh c.Drift G l, 0) := by unfold atZ; rw [if_pos g3]
  simp only [t1, t2, t3, if_true, if_pos k1, if_pos k3]
  rw [if_pos (show aHigh c.Drift F l ≥ aHigh c.Drift c.Readings l from k2)]
  congr 1
  exact decide_eq_true k4
end Go.Proofs.Ythbonailomfjlaa
