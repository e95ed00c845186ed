import Derived.Test.YthbonailomfjlaaL5
import Derived.Test.YthbonailomfjlaaPA
namespace Go.Proofs.Ythbonailomfjlaa
open Go Go.Eng
theorem getD_all {α : Type} {p : α → Prop} {l : List α} (h : ∀ a ∈ l, p a) (d : α) (k : Nat) (hk : k < l.length) : p (l.getD k d) := by
  rw [List.getD_eq_getElem?_getD, List.getElem?_eq_getElem hk]
  exact h _ (List.getElem_mem hk)
theorem exact_body (l : List Int) (d n : Int) (h : inS d n) (hl : ∀ e ∈ l, -100000000 ≤ e ∧ e ≤ 100000000) (k : Nat) (hk : k < l.length) (hk2 : l.length < 1000) :
    law05_ClockExact_b1 l d n (loS d n, hiS d n) (k : Int) = some (.nx ((k : Int) + 1)) := by
  have hb := h
  unfold inS at hb
  unfold law05_ClockExact_b1
  have he := getD_all hl default k hk
  have hk1 : ((k : Int)).toNat = k := by omega
  simp only [cn_if, decide_eq_true_eq]
  rw [if_pos (by omega)]
  simp only [jn_d, ix_p (show (0 : Int) ≤ (k : Int) by omega) (show (k : Int) < (l.length : Int) by omega), hk1]
  generalize l.getD k default = e at he ⊢
  have e1 : wr (1000 - d) = 1000 - d := wr_id (by omega) (by omega)
  have e2 : wr (1000 + d) = 1000 + d := wr_id (by omega) (by omega)
  have e3 : wr (1000 * n) = 1000 * n := wr_id (by omega) (by omega)
  have e4 : wr ((k : Int) + 1) = k + 1 := wr_id (by omega) (by omega)
  have m1 := mul_bd (a := 1000 - d) (b := e) (A := 1000) (B := 100000000) (by omega) (by omega) (by omega) (by omega)
  have m2 := mul_bd (a := 1000 + d) (b := e) (A := 1100) (B := 100000000) (by omega) (by omega) (by omega) (by omega)
  have e5 : wr ((1000 - d) * e) = (1000 - d) * e := wr_id (by omega) (by omega)
  have e6 : wr ((1000 + d) * e) = (1000 + d) * e := wr_id (by omega) (by omega)
  have e7 : wr ((1000 - d) * e - 1000) = (1000 - d) * e - 1000 := wr_id (by omega) (by omega)
  have e8 : wr ((1000 + d) * e + 1000) = (1000 + d) * e + 1000 := wr_id (by omega) (by omega)
  simp only [e1, e2, e3, e4, e5, e6, e7, e8]
  have h1 := le_hiS (x := e) h
  have h2 := loS_le (x := e) h
  rw [Int.mul_comm e] at h1 h2
  generalize (1000 - d) * e = p at h1 ⊢
  generalize (1000 + d) * e = q at h2 ⊢
  generalize loS d n = lo at h2 ⊢
  generalize hiS d n = hi at h1 ⊢
  by_cases c1 : e ≥ 0 <;> by_cases c2 : p - 1000 < 1000 * n <;> by_cases c3 : 1000 * n < q + 1000 <;> by_cases c4 : e ≥ lo <;> by_cases c5 : e ≤ hi <;> first | (exfalso; omega) | simp only [c1, c2, c3, c4, c5, if_true, if_false, decide_true, decide_false, Bool.true_beq, Bool.false_beq, Bool.not_true, Bool.not_false, Bool.false_eq_true] <;> rfl
theorem plain5 (a0 a1 a2 a3 a4 : Int) (o0 : okI a0) (o1 : okI a1) (o2 : okI a2) (o3 : okI a3) (o4 : okI a4) : law05_ClockExact_F a0 a1 a2 a3 a4 = some true := by
  unfold law05_ClockExact_F
  rw [sane_ok, bd_s]
  simp only [Bool.not_true, cn_f]
  rw [pick_law a0 101 o0 (by omega), bd_s, pick_law a2 10000001 o2 (by omega), bd_s]
  obtain ⟨d1, d2⟩ := pickZ_lt a0 (n := 101) (by omega)
  obtain ⟨n1, n2⟩ := pickZ_lt a2 (n := 10000001) (by omega)
  generalize pickZ a0 101 = d at d1 d2 ⊢
  generalize pickZ a2 10000001 = n at n1 n2 ⊢
  have e1 : wr (10000001 - n) = 10000001 - n := wr_id (by omega) (by omega)
  rw [e1, pick_law a3 (10000001 - n) o3 (by omega), bd_s]
  obtain ⟨m1, m2⟩ := pickZ_lt a3 (n := 10000001 - n) (by omega)
  generalize pickZ a3 (10000001 - n) = m at m1 m2 ⊢
  have hi : inS d n := ⟨d1, by omega, n1, by omega⟩
  have hl0 := loS_nonneg hi
  have hlh := loS_le_hiS hi
  have hh := hiS_bd hi
  rw [spread_ok d n hi, bd_s]
  simp only [jn_d, cn_if, decide_eq_true_eq]
  rw [if_neg (by omega), if_neg (by omega)]
  simp only [show ¬ hiS d n > 20000000 by omega, decide_false, Bool.false_eq_true, if_false]
  rw [pick_law a4 20000000 o4 (by omega), bd_s]
  have e2 : wr (hiS d n - loS d n) = hiS d n - loS d n := wr_id (by omega) (by omega)
  have e3 : wr (hiS d n - loS d n + 1) = hiS d n - loS d n + 1 := wr_id (by omega) (by omega)
  rw [e2, e3, pick_law a4 _ o4 (by omega), bd_s]
  obtain ⟨x1, x2⟩ := pickZ_lt a4 (n := 20000000) (by omega)
  obtain ⟨y1, y2⟩ := pickZ_lt a4 (n := hiS d n - loS d n + 1) (by omega)
  generalize pickZ a4 20000000 = x at x1 x2 ⊢
  generalize pickZ a4 (hiS d n - loS d n + 1) = y at y1 y2 ⊢
  have e4 : wr (loS d n - 1) = loS d n - 1 := wr_id (by omega) (by omega)
  have e5 : wr (hiS d n + 1) = hiS d n + 1 := wr_id (by omega) (by omega)
  have e6 : wr (loS d n + y) = loS d n + y := wr_id (by omega) (by omega)
  rw [e4, e5, e6, lt_d]
  obtain ⟨s', hs, _⟩ := lp_fold (body := law05_ClockExact_b1 [loS d n - 1, loS d n, hiS d n, hiS d n + 1, x, loS d n + y] d n (loS d n, hiS d n)) (fun k s => s = (k : Int)) 6 (by decide)
    (fun k s hk hs => by
      subst hs
      refine ⟨_, exact_body _ d n hi ?_ k hk (by simp), by omega⟩
      intro e he
      simp only [List.mem_cons, List.not_mem_nil, or_false] at he
      omega)
    (fun s hs => by subst hs; unfold law05_ClockExact_b1; simp [cn_if]) 0 rfl
  rw [hs, bd_s, smK_l]
  have h0 : inS 0 n := ⟨by omega, by omega, n1, by omega⟩
  have e7 : wr (n + m) = n + m := wr_id (by omega) (by omega)
  have hm : inS d (n + m) := ⟨d1, by omega, by omega, by omega⟩
  rw [spread_ok 0 n h0, bd_s, e7, spread_ok d (n + m) hm, bd_s]
  have e8 : wr (101 - d) = 101 - d := wr_id (by omega) (by omega)
  rw [e8, pick_law a1 _ o1 (by omega), bd_s]
  obtain ⟨t1, t2⟩ := pickZ_lt a1 (n := 101 - d) (by omega)
  generalize pickZ a1 (101 - d) = t at t1 t2 ⊢
  have e9 : wr (d + t) = d + t := wr_id (by omega) (by omega)
  have ht : inS (d + t) n := ⟨by omega, by omega, n1, by omega⟩
  rw [e9, spread_ok (d + t) n ht, bd_s]
  have g1 : loS 0 n = n := by
    have := (loS_le (x := n) h0).2 ⟨n1, by omega⟩
    have k := (loS_le (x := loS 0 n) h0).1 (Int.le_refl _)
    omega
  have g2 : hiS 0 n = n := by
    have := (le_hiS (x := n) h0).2 (by omega)
    have k := (le_hiS (x := hiS 0 n) h0).1 (Int.le_refl _)
    omega
  have p0 : 0 ≤ hiS d n := by omega
  have g3 : loS d n ≤ loS d (n + m) := by
    have k := (loS_le (x := loS d (n + m)) hm).1 (Int.le_refl _)
    exact (loS_le hi).2 ⟨k.1, by omega⟩
  have g4 : hiS d n ≤ hiS d (n + m) := by
    have k := (le_hiS (x := hiS d n) hi).1 (Int.le_refl _)
    exact (le_hiS hm).2 (by omega)
  have g5 : loS (d + t) n ≤ loS d n := by
    have k := (loS_le (x := loS d n) hi).1 (Int.le_refl _)
    refine (loS_le ht).2 ⟨k.1, ?_⟩
    have : loS d n * (1000 + (d + t)) = loS d n * (1000 + d) + loS d n * t := by rw [← Int.mul_add]; congr 1; omega
    have := Int.mul_nonneg hl0 t1
    omega
  have g6 : hiS d n ≤ hiS (d + t) n := by
    have k := (le_hiS (x := hiS d n) hi).1 (Int.le_refl _)
    refine (le_hiS ht).2 ?_
    have : hiS d n * (1000 - (d + t)) = hiS d n * (1000 - d) - hiS d n * t := by rw [← Int.mul_sub]; congr 1; omega
    have := Int.mul_nonneg p0 t1
    omega
  simp [g1, g2, g3, g4, g5, g6]
end Go.Proofs.Ythbonailomfjlaa
