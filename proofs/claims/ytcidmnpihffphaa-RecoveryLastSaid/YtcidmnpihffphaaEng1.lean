import Derived.Test.YtcidmnpihffphaaEngZ
import Derived.Laws.IdiomRangeMap
namespace Go.Eng
open Go.RowKit (Below)
set_option maxHeartbeats 400000
/-- One object of the world set. -/
def setO (w : World) (r : Nat) (o : Obj) : World := { w with heap := w.heap.setIfInBounds r o }
theorem setO_other {w : World} {r c : Nat} {o : Obj} (h : c ≠ r) : (setO w r o).heap[c]? = w.heap[c]? := by
  show (w.heap.setIfInBounds r o)[c]? = _
  rw [Array.getElem?_setIfInBounds_ne (Ne.symm h)]
theorem setO_same {w : World} {r : Nat} {o : Obj} (h : r < w.heap.size) : (setO w r o).heap[r]? = some o := by
  show (w.heap.setIfInBounds r o)[r]? = _
  simp [h]
theorem setO_size {w : World} {r : Nat} {o : Obj} : (setO w r o).heap.size = w.heap.size := by
  show (w.heap.setIfInBounds r o).size = _
  simp
theorem next_map {P : Program} {w : World} {ty : TypeId} {r bm : Nat} {seen : Array Nat} {es : Array MapEntry} {clock : Nat} (hr : w.heap[r]? = some (.mapIter (some bm) clock seen clock)) (hb : w.heap[bm]? = some (.map es clock)) (hold : ∀ x ∈ es.toList, x.born < clock) :
    ((leftOf es seen).size = 0 ∧ (Instr.next (.pointer (some ⟨r, 0, none⟩)) false ty).run P w = .ok (.tuple #[.bool false]) w) ∨
    ∃ e ∈ (leftOf es seen).toList, ∃ w1 : World, (w1 = w ∨ w1 = w.drew) ∧ (Instr.next (.pointer (some ⟨r, 0, none⟩)) false ty).run P w = .ok (.tuple #[.bool true, e.key, e.val]) (setO w1 r (.mapIter (some bm) clock (seen.push e.born) clock)) := by
  simp only [Instr.next, getObj, Sem.run_bind, Sem.run, hr, hb, Result.andThen, next_test_false seen es clock clock hold (Nat.le_refl _), Bool.false_eq_true, if_false]
  unfold leftOf
  have hmem : ∀ x ∈ (Array.filter (fun e => !seen.contains e.born) es).toList, x.born < clock := fun x hx => hold x (by simp at hx ⊢; exact hx.1)
  generalize Array.filter (fun e => !seen.contains e.born) es = L at hmem ⊢
  have e1 : L.filter (fun x => decide (x.born < clock)) = L := Array.filter_eq_self.2 (fun x hx => by simpa using hmem x (by simpa using hx))
  have e2 : L.filter (fun x => decide (x.born ≥ clock)) = #[] := by
    rw [Array.filter_eq_empty_iff]
    intro x hx
    have := hmem x (by simpa using hx)
    simp
    omega
  simp only [e1, e2, Array.append_empty]
  by_cases h0 : L.size = 0
  · left
    have : L = #[] := Array.eq_empty_of_size_eq_zero h0
    subst this
    refine ⟨rfl, ?_⟩
    simp [choose, Sem.run, Question.forced]
  · right
    have hne : L.isEmpty = false := by simp [Array.isEmpty, h0]
    simp only [hne, Bool.false_eq_true, if_false, Array.empty_append, Array.size_map]
    have hch : ∃ (j : Nat) (w1 : World), j < L.size ∧ (w1 = w ∨ w1 = w.drew) ∧ (choose (Question.mapNext L.size)).run P w = .ok j w1 := by
      by_cases hf : L.size ≤ 1
      · exact ⟨0, w, by omega, .inl rfl, by simp [choose, Sem.run, Question.forced, hf]⟩
      · exact ⟨_, w.drew, Nat.mod_lt _ (by omega), .inr rfl, by
          simp only [choose, Sem.run, Question.forced, decide_eq_true_eq, hf, if_false, Question.cut]
          rfl⟩
    obtain ⟨j, w1, hj, hal, hrun⟩ := hch
    refine ⟨L[j], by simp, w1, hal, ?_⟩
    have hh : w1.heap = w.heap := by rcases hal with rfl | rfl <;> rfl
    have hset : ∀ (o' : Obj), (setObj r o').run P w1 = .ok () (setO w1 r o') := fun o' => by
      simp only [setObj, Sem.run, hh, hr]
      simp only [setO, hh]
    simp only [hrun, Array.getElem?_map, Array.getElem?_eq_getElem hj, Option.map_some, Sem.run_bind, hset, Result.andThen]
    rfl
theorem entry_map {P : Program} {w : World} {r bm since : Nat} {seen : Array Nat} {es : Array MapEntry} {clock : Nat} {e : MapEntry} (hr : w.heap[r]? = some (.mapIter (some bm) since (seen.push e.born) clock)) (hb : w.heap[bm]? = some (.map es clock)) (he : e ∈ es.toList) (hn : (es.toList.map (·.born)).Nodup) :
    (Instr.entry (.pointer (some ⟨r, 0, none⟩))).run P w = .ok (.tuple #[e.key, e.val]) w := by
  have hf : es.find? (·.born == e.born) = some e := by rw [← Array.find?_toList]; exact find_born e es.toList hn he
  simp only [Instr.entry, getObj, Sem.run_bind, Sem.run, hr, hb, Result.andThen, Array.back?_push, bne_self_eq_false, Bool.false_eq_true, if_false, hf]
  rfl
theorem next_nil {P : Program} {w : World} {ty : TypeId} {r a b : Nat} {s : Array Nat} (hr : w.heap[r]? = some (.mapIter none a s b)) : (Instr.next (.pointer (some ⟨r, 0, none⟩)) false ty).run P w = .ok (.tuple #[.bool false]) w := by
  simp only [Instr.next, getObj, Sem.run_bind, Sem.run, hr, Result.andThen]
  rfl
/-- Fewer blocks are ours. -/
theorem HRel.shrink {β : Beta} {H : Heap} {w : World} {B B' : Bd} (h : HRel β H w B) (k : ∀ i b l, H i = some b → β i = some l → 0 < l.k → B' l.c) (ky : ∀ c, β.ys c → B' c) : HRel β H w B' where
  fz := h.fz
  own i cs hi := by
    obtain ⟨l, h1, h2, h3⟩ := h.own i cs hi
    exact ⟨l, h1, h2, fun hk => ⟨k i _ l hi h1 hk, (h3 hk).2⟩⟩
  map i es clk hi := by
    obtain ⟨l, h1, h2, h3, h4⟩ := h.map i es clk hi
    exact ⟨l, h1, h2, k i _ l hi h1 h2, h4⟩
  sep := h.sep
  ys c hc := ⟨ky c hc, (h.ys c hc).2⟩
  yo := h.yo
  gh := h.gh
  gh1 := h.gh1
  mps i sz es clk ho hi := by
    obtain ⟨l, h1, h2, h3, h4⟩ := h.mps i sz es clk ho hi
    exact ⟨l, h1, h2, k i _ l hi h1 h2, h4⟩
  mp1 := h.mp1
/-- One block that is not ours is set. -/
theorem HRel.setO {β : Beta} {H : Heap} {w w1 : World} {B : Bd} {r : Nat} {o : Obj} (h : HRel β H w B) (hw : w1 = w ∨ w1 = w.drew) (hr : ¬ B r) (hc : ∀ q, w.cell? ⟨r, q, none⟩ = none) : HRel β H (setO w1 r o) B := by
  have hh : w1.heap = w.heap := by rcases hw with rfl | rfl <;> rfl
  have hblk : ∀ c, c ≠ r → (Go.Eng.setO w1 r o).heap[c]? = w.heap[c]? := fun c hc => by rw [setO_other hc, hh]
  refine h.world (fun c q v hv => ?_) (fun i b l hi hl hk => hblk _ fun e => hr (e ▸ (h.lt_of_own hi hl hk).2)) ⟨?_, ?_, ?_, ?_, ?_, fun k hk => hblk k fun e => ?_⟩
  · have h1 := h.fz c q v hv
    have : c ≠ r := fun e => by subst e; rw [hc] at h1; cases h1
    exact (World.cell?_of_block (w := w) (a := ⟨c, q, none⟩) (hblk c this)).trans h1
  · rcases hw with rfl | rfl <;> rfl
  · rcases hw with rfl | rfl <;> rfl
  · rcases hw with rfl | rfl <;> rfl
  · rw [setO_size, hh]; exact Nat.le_refl _
  · rcases hw with rfl | rfl
    · exact Nat.le_refl _
    · exact Nat.le_succ _
  · subst e
    have := Classical.not_not.1 hk
    exact hr (h.ys _ this).1
def IsOp (o : Oper) (op : Op) (t : Tmp) : Prop := o.op = op ∧ o.dst = some t ∧ o.guard = none
section
variable {P : Program} {ro : Option Nat}
theorem ops_step {ops : Array Oper} {i : Nat} {is : List Nat} {o : Oper} {op : Op} {t : Tmp} {a : Act} {w w' : World} {v : Value} {Q : Exit → Act → World → Prop} (ho : ops[i]? = some o) (h : IsOp o op t) (hd : ∀ c, op ≠ .defer c) (hrun : (execOp a.eval o).run P w = .ok (.value v) w') (k : wpOpsIn (fen ro) 0 P ops Q is (a.put (some t) v) w') : wpOpsIn (fen ro) 0 P ops Q (i :: is) a w := by
  obtain ⟨h1, h2, h3⟩ := h
  have w1 : Region.wanted o (yielded ops a.tmps) = true := by simp [Region.wanted, h3]
  simp only [wpOpsIn, ho, w1, if_true]
  exact wp_value (fun c hc => hd c (by rw [← h1]; exact hc)) hrun (by rw [h2]; exact k)
theorem ops_end {ops : Array Oper} {a : Act} {w : World} {Q : Exit → Act → World → Prop} (h : Q .normal a w) : wpOpsIn (fen ro) 0 P ops Q [] a w := h
theorem eval_put {a : Act} {t : Tmp} {v : Value} (h : t < a.tmps.size) : (a.put (some t) v).eval (.tmp t) = v := by simp [Act.put, Act.eval, h]
theorem eval_put_ne {a : Act} {t u : Tmp} {v : Value} (h : u ≠ t) : (a.put (some t) v).eval (.tmp u) = a.eval (.tmp u) := by
  simp only [Act.put, Act.eval, Array.getD_eq_getD_getElem?]
  rw [Array.getElem?_setIfInBounds_ne (Ne.symm h)]
theorem run_move {o : Oper} {t : Tmp} {x : Operand} {a : Act} {w : World} (h : IsOp o (.move x) t) : (execOp a.eval o).run P w = .ok (.value (a.eval x)) w := by
  unfold execOp; rw [h.1]; rfl
theorem run_assign {o : Oper} {t : Tmp} {x : Operand} {a : Act} {w : World} (h : IsOp o (.assign x) t) : (execOp a.eval o).run P w = .ok (.value (a.eval x)) w := by
  unfold execOp; rw [h.1]; rfl
theorem run_extract {o : Oper} {t : Tmp} {x : Operand} {i : Nat} {a : Act} {w : World} {vs : Array Value} {v : Value} (h : IsOp o (.extract x i) t) (hx : a.eval x = .tuple vs) (hv : (vs[i]? : Option Value) = some v) : (execOp a.eval o).run P w = .ok (.value v) w := by
  unfold execOp; rw [h.1]
  simp only [hx, Instr.extract, hv]
  rfl
theorem run_of {o : Oper} {a : Act} {w w' : World} {v : Value} {s : Sem Value} (h : execOp a.eval o = (do pure (.value (← s)))) (hs : s.run P w = .ok v w') : (execOp a.eval o).run P w = .ok (.value v) w' := by
  rw [h]; simp only [Sem.run_bind, hs]; rfl
end
theorem put_top {β : Beta} {sl : Nat → AV} {a : Act} {N t0 : Nat} {v : Value} (hs : ∀ t, V β (sl t) (a.tmps.getD t undef)) (hN : a.tmps.size = N) (h0 : t0 < N) (ht : sl t0 = .top) (t : Nat) : V β (sl t) ((a.put (some t0) v).tmps.getD t undef) := by
  have := put_V (β := β) (N := N) hs hN (d := some t0) (fun u hu => by cases hu; exact h0) (r := .top) (v := v) (by simp [V]) t
  simp only [putA, supd] at this
  by_cases e : t = t0
  · subst e; rw [ht]; simp [V]
  · rwa [upd_other _ _ e] at this
/-- A frame for a loop over a map: the iterator's block and the map's are not ours. -/
def Fr.lp (F : Fr) (ri lm : Nat) (l63 : Loc) (w : World) : Fr := ⟨fun c => F.B c ∧ c ≠ ri ∧ c ≠ lm, w, ⟨fun j => if j = 63 then some l63 else F.β0.loc j, F.β0.fz, F.β0.ys⟩, 0⟩
theorem Fr.lp_ok {F : Fr} {ri lm : Nat} {l63 : Loc} {w : World} (h : F.ok true false) : (F.lp ri lm l63 w).ok true true := fun _ => ⟨fun i hi => by
  show i < 64
  simp only [Fr.lp] at hi
  by_cases e : i = 63
  · omega
  · rw [if_neg e] at hi
    have := (h rfl).1 i hi
    simp only [cond_false] at this
    omega, rfl⟩
theorem Rep.unlp {F : Fr} {N ri lm : Nat} {l63 : Loc} {w w0 : World} {σ : AS} {a : Act} (h : Rep (F.lp ri lm l63 w0) N σ a w) (hF : F.ok true false) (hb : BelowP F.B F.w0 w) (ht : F.B.top w.heap.size) : Rep F N σ a w := by
  obtain ⟨β, ds, g1, g2, g3, g4, g5, g6, g7, g8, g9⟩ := h
  obtain ⟨f1, f2⟩ := hF rfl
  refine ⟨β, ds, ⟨⟨fun j l hl => ?_, fun c o v hv => g1.le.fz c o v hv⟩, fun j _ => .inr (by omega), by omega, fun c o hc => ?_⟩, g2, g3.shrink (fun j b l hj hl hk => ⟨(g3.lt_of_own hj hl hk).2.1.1, (g3.lt_of_own hj hl hk).2.2⟩) (fun c hc => ⟨(g3.ys c hc).1.1.1, (g3.ys c hc).1.2⟩), g4, hb, ht, g7, ⟨g8.nodup, fun D hD => ⟨(g8.at_ D hD).1.1, (g8.at_ D hD).2⟩⟩, g9⟩
  · have h3 := f1 j (by rw [hl]; simp)
    simp only [cond_false] at h3
    refine g1.le.loc j l ?_
    show (if j = 63 then some l63 else F.β0.loc j) = some l
    rw [if_neg (by omega)]; exact hl
  · rcases g1.fz c o hc with e | e
    · exact .inl e
    · exact .inr e.1
theorem cell_iter {w : World} {r o : Nat} {a : Option Nat} {b c : Nat} {s : Array Nat} (h : w.heap[r]? = some (.mapIter a b s c)) : w.cell? ⟨r, o, none⟩ = none := by simp [World.cell?, h]
theorem cell_map {w : World} {r o : Nat} {es : Array MapEntry} {c : Nat} (h : w.heap[r]? = some (.map es c)) : w.cell? ⟨r, o, none⟩ = none := by simp [World.cell?, h]
theorem Rep.relp {F : Fr} {N ri lm : Nat} {l63 : Loc} {w w0 : World} {σ : AS} {a : Act} (h : Rep (F.lp ri lm l63 w0) N σ a w) : Rep (F.lp ri lm l63 w) N σ a w := by
  obtain ⟨β, ds, g1, g2, g3, g4, g5, g6, g7, g8, g9⟩ := h
  exact ⟨β, ds, ⟨g1.le, g1.dom, g1.b, g1.fz⟩, g2, g3, g4, BelowP.refl _ _, g6, g7, g8, g9⟩
theorem Rep.lp18 {F : Fr} {N ri lm : Nat} {l63 : Loc} {w w0 : World} {σ : AS} {a : Act} {t : Tmp} (h : Rep (F.lp ri lm l63 w0) N σ a w) (hc : l63.c = ri) (ho : l63.o = 0) (ht : σ.sl t = .ptr 63 0) : a.eval (.tmp t) = .pointer (some ⟨ri, 0, none⟩) := by
  obtain ⟨β, ds, g1, g2, g3⟩ := h
  have := g2 t
  rw [ht] at this
  simp only [V] at this
  obtain ⟨l, e1, e2⟩ := this
  have e4 : (F.lp ri lm l63 w0).β0.loc 63 = some l63 := by simp [Fr.lp]
  have e3 : β 63 = some l63 := g1.le.loc 63 l63 e4
  rw [e3] at e1; cases e1
  show a.tmps.getD t undef = _
  rw [e2, hc, ho]
theorem Rep.put_top {F : Fr} {N : Nat} {w : World} {σ : AS} {a : Act} {t : Tmp} {v : Value} (h : Rep F N σ a w) (hN : t < N) (ht : σ.sl t = .top) : Rep F N σ (a.put (some t) v) w := by
  obtain ⟨β, ds, g1, g2, g3, g4, g5, g6, g7, g8, g9⟩ := h
  exact ⟨β, ds, g1, Go.Eng.put_top g2 g9 hN ht, g3, g4, g5, g6, by rw [put_defers]; exact g7, g8, by rw [put_size]; exact g9⟩
theorem Rep.put_int {F : Fr} {N : Nat} {w : World} {sl : Nat → AV} {hp : Heap} {b : Nat} {a : Act} {t : Tmp} {k : Int} (h : Rep F N ⟨sl, hp, b⟩ a w) (hN : t < N) : Rep F N ⟨putA sl (some t) (.int .i64 k), hp, b⟩ (a.put (some t) (.int .i64 k)) w := by
  obtain ⟨β, ds, g1, g2, g3, g4, g5, g6, g7, g8, g9⟩ := h
  exact ⟨β, ds, g1, put_V (d := some t) (r := .int .i64 k) (v := .int .i64 k) g2 g9 (fun u hu => by cases hu; exact hN) (by simp [V]), g3, g4, g5, g6, by rw [put_defers]; exact g7, g8, by rw [put_size]; exact g9⟩
theorem Rep.setO {F : Fr} {N ri lm : Nat} {l63 : Loc} {w w0 w1 : World} {σ : AS} {a : Act} {o : Obj} (h : Rep (F.lp ri lm l63 w0) N σ a w) (hw : w1 = w ∨ w1 = w.drew) (hc : ∀ q, w.cell? ⟨ri, q, none⟩ = none) : Rep (F.lp ri lm l63 (Go.Eng.setO w1 ri o)) N σ a (Go.Eng.setO w1 ri o) := by
  obtain ⟨β, ds, g1, g2, g3, g4, g5, g6, g7, g8, g9⟩ := h
  have hh : w1.heap = w.heap := by rcases hw with rfl | rfl <;> rfl
  refine ⟨β, ds, ⟨g1.le, g1.dom, g1.b, g1.fz⟩, g2, g3.setO hw (fun e => e.1.2.1 rfl) hc, g4, BelowP.refl _ _, ?_, g7, ⟨g8.nodup, fun D hD => ⟨(g8.at_ D hD).1, ?_⟩⟩, g9⟩
  · rw [setO_size, hh]; exact g6
  · rw [setO_other (g8.at_ D hD).1.2.1, hh]; exact (g8.at_ D hD).2
theorem BelowP.setO {B : Bd} {a w w1 : World} {r : Nat} {o : Obj} (h : BelowP B a w) (hw : w1 = w ∨ w1 = w.drew) (hr : B r) : BelowP B a (Go.Eng.setO w1 r o) := by
  refine h.trans ⟨?_, ?_, ?_, ?_, ?_, fun k hk => ?_⟩
  · rcases hw with rfl | rfl <;> rfl
  · rcases hw with rfl | rfl <;> rfl
  · rcases hw with rfl | rfl <;> rfl
  · rw [setO_size]; rcases hw with rfl | rfl <;> exact Nat.le_refl _
  · rcases hw with rfl | rfl
    · exact Nat.le_refl _
    · exact Nat.le_succ _
  · have hkr : k ≠ r := fun e => hk (by rw [e]; exact hr)
    rw [setO_other hkr]; rcases hw with rfl | rfl <;> rfl
/-- Into the loop. -/
theorem Rep.tolp {F : Fr} {N : Nat} {σ : AS} {a : Act} {w : World} {i : Nat} {es : List (Nat × AV × AV)} {clk : Nat} {l : Loc} {ents : Array MapEntry} {o : Obj} {t : Tmp} {β : Beta} {ds : List Nat}
    (h : Since F β σ.b ∧ (∀ t, V β (σ.sl t) (a.tmps.getD t undef)) ∧ HRel β σ.hp w (F.Bx ds) ∧ (∀ j, β j ≠ none → j < σ.b) ∧ BelowP F.B F.w0 w ∧ F.B.top w.heap.size ∧ a.defers = ds.map mark ∧ Marks F ds w ∧ a.tmps.size = N)
    (hm : σ.hp i = some (.map es clk)) (hl : β i = some l) (hk : 0 < l.k) (hh : w.heap[l.c]? = some (.map ents clk)) (_ho : o = .mapIter (some l.c) clk #[] clk) (hN : t < N) :
    Rep ⟨fun c => F.B c ∧ c ≠ w.heap.size ∧ c ≠ l.c, w.alloc o, F.β0, F.b0⟩ N ⟨putA σ.sl (some t) (.ptr σ.b 0), upd σ.hp i none, σ.b + 64⟩ (a.put (some t) (.pointer (some ⟨w.heap.size, 0, none⟩))) (w.alloc o) := by
  obtain ⟨g1, g2, g3, g4, g5, g6, g7, g8, g9⟩ := h
  have hnb : β σ.b = none := by
    cases e : β σ.b with
    | none => rfl
    | some x => have := g4 σ.b (by rw [e]; simp); omega
  have hle : Beta.le β (β.put σ.b ⟨w.heap.size, 0, 0⟩) := ⟨fun j x hx => by
    show upd β.loc σ.b _ j = some x
    rw [upd_other _ _ (fun e => by subst e; rw [hnb] at hx; cases hx)]; exact hx, fun _ _ _ h => h⟩
  have hlt : l.c < w.heap.size := (Array.getElem?_eq_some_iff.1 hh).1
  have hcell : ∀ c o v, β.fz c o = some v → c ≠ w.heap.size ∧ c ≠ l.c := fun c q v hv => by
    have h1 := g3.fz c q v hv
    refine ⟨fun e => ?_, fun e => ?_⟩
    · have := cell_lt h1; omega
    · subst e; rw [cell_map hh] at h1; cases h1
  have hkeep : BelowP (fun c => w.heap.size ≤ c) w (w.alloc o) := BelowP.alloc w (Nat.le_refl _) o
  have h3 : HRel (β.put σ.b ⟨w.heap.size, 0, 0⟩) (upd σ.hp i none) (w.alloc o) (Bd.x (fun c => F.B c ∧ c ≠ w.heap.size ∧ c ≠ l.c) ds) := by
    refine HRel.mono (HRel.keep (HRel.shrink (g3.drop i) (fun j b x hj hx hxk => ?_) (fun c hc => ?_)) hkeep) hle rfl rfl
    · have hji : j ≠ i := fun e => by subst e; simp at hj
      rw [upd_other _ _ hji] at hj
      have h1 := g3.lt_of_own hj hx hxk
      exact ⟨⟨h1.2.1, by have := h1.1; omega, g3.sep j i b _ x l hji hj hm hx hl hxk hk⟩, h1.2.2⟩
    · have h1 := g3.ys c hc
      exact ⟨⟨h1.1.1, by have := h1.2; omega, fun e => g3.yo i _ l hm hl hk (e ▸ hc)⟩, h1.1.2⟩
  have hsz : (w.alloc o).heap.size = w.heap.size + 1 := by show (w.heap.push o).size = _; simp
  refine ⟨β.put σ.b ⟨w.heap.size, 0, 0⟩, ds, ⟨g1.le.trans hle, fun j hj => ?_, by have := g1.b; show F.b0 ≤ σ.b + 64; omega, fun c q hc => ?_⟩, ?_, h3, fun j hj => ?_, BelowP.refl _ _, fun c hc => ?_, ?_, ⟨g8.nodup, fun D hD => ?_⟩, ?_⟩
  · by_cases e : j = σ.b
    · exact .inr (by have := g1.b; show F.b0 ≤ j; omega)
    · exact g1.dom j (by
        have : (β.put σ.b ⟨w.heap.size, 0, 0⟩) j = β j := upd_other _ _ e
        rw [this] at hj; exact hj)
  · rcases g1.fz c q hc with e | e
    · exact .inl e
    · refine .inr ⟨e, ?_⟩
      cases hv : β.fz c q with
      | none => exact absurd hv hc
      | some v => exact hcell c q v hv
  · exact put_V (d := some t) (r := .ptr σ.b 0) (v := .pointer (some ⟨w.heap.size, 0, none⟩)) (fun t => V_mono hle _ _ (g2 t)) g9 (fun u hu => by cases hu; exact hN) (by
      simp only [V]
      exact ⟨⟨w.heap.size, 0, 0⟩, upd_same _ _ _, rfl⟩)
  · show j < σ.b + 64
    by_cases e : j = σ.b
    · omega
    · have : (β.put σ.b ⟨w.heap.size, 0, 0⟩) j = β j := upd_other _ _ e
      rw [this] at hj
      have := g4 j hj; omega
  · rw [hsz] at hc; exact ⟨g6 c (by omega), by omega, by omega⟩
  · rw [put_defers]; exact g7
  · have h1 := g8.at_ D hD
    have h2 : D < w.heap.size := (Array.getElem?_eq_some_iff.1 h1.2).1
    exact ⟨⟨h1.1, by omega, fun e => by subst e; rw [hh] at h1; cases h1.2⟩, (hkeep.block D (by simp; exact h2)).trans h1.2⟩
  · rw [put_size]; exact g9
theorem ents_of {β : Beta} {es : List (Nat × Int × Int)} {ents : Array MapEntry} (h : MRel β (encM .i64 (encE eI es)) ents) : ents.toList.map (·.born) = es.map (·.1) ∧ (∀ e ∈ ents.toList, ∃ p ∈ es, p.1 = e.born ∧ e.key = .int .i64 p.2.1 ∧ e.val = .int .i64 p.2.2) := by
  have hlen : ents.size = es.length := by rw [h.len]; simp [encM, encE]
  have hat : ∀ (j : Nat) (p : Nat × Int × Int), es[j]? = some p → ∃ e : MapEntry, ents[j]? = some e ∧ e.born = p.1 ∧ e.key = .int .i64 p.2.1 ∧ e.val = .int .i64 p.2.2 := fun j p hp => by
    obtain ⟨e, h1, h2, h3, h4⟩ := h.rel j (p.1, .int .i64 p.2.1, eI p.2.2) (by simp [encM, encE, hp])
    refine ⟨e, h1, h2, ?_, ?_⟩
    · simpa [V] using h3
    · simpa [V, eI] using h4
  refine ⟨List.ext_getElem? fun j => ?_, fun e he => ?_⟩
  · rw [List.getElem?_map, List.getElem?_map]
    cases hp : es[j]? with
    | none =>
      have : ents.toList[j]? = none := by
        rw [List.getElem?_eq_none_iff] at hp ⊢
        rw [Array.length_toList]; omega
      rw [this]; rfl
    | some p =>
      obtain ⟨e, h1, h2, _⟩ := hat j p hp
      rw [Array.getElem?_toList, h1]; simp [h2]
  · obtain ⟨j, hj⟩ := List.mem_iff_getElem?.1 he
    rw [Array.getElem?_toList] at hj
    have hlt : j < es.length := by rw [← hlen]; exact (Array.getElem?_eq_some_iff.1 hj).1
    obtain ⟨e', h1, h2, h3, h4⟩ := hat j es[j] (List.getElem?_eq_getElem hlt)
    rw [hj] at h1; cases h1
    exact ⟨es[j], List.getElem_mem hlt, h2.symm, h3, h4⟩
/-- What the invariant of a loop over a map holds. -/
structure LpI {S : Type} (F : Fr) (N ri lm : Nat) (l63 : Loc) (ents : Array MapEntry) (es : List (Nat × Int × Int)) (clk : Nat) (I : S → AS) (step : S → Int → Int → S) (s0 : S) (n : Nat) (done : List (Nat × Int × Int)) (seen : Array Nat) (a : Act) (w : World) : Prop where
  n : n = (leftOf ents seen).size
  sn : seen.toList = done.map (·.1)
  nd : (done.map (·.1)).Nodup
  sub : ∀ p ∈ done, p ∈ es
  rep : Rep (F.lp ri lm l63 w) N (I (done.foldl (fun s p => step s p.2.1 p.2.2) s0)) a w
  it : w.heap[ri]? = some (.mapIter (some lm) clk seen clk)
  mp : w.heap[lm]? = some (.map ents clk)
  bl : BelowP F.B F.w0 w
  top : F.B.top w.heap.size
theorem nodup_fst {α β : Type} {l : List (α × β)} (h : (l.map (·.1)).Nodup) : l.Nodup := by
  induction l with
  | nil => exact List.nodup_nil
  | cons x l ih =>
    simp only [List.map_cons, List.nodup_cons] at h ⊢
    exact ⟨fun hx => h.1 (List.mem_map_of_mem hx), ih h.2⟩
theorem fst_inj {α β : Type} {l : List (α × β)} (h : (l.map (·.1)).Nodup) {p q : α × β} (hp : p ∈ l) (hq : q ∈ l) (e : p.1 = q.1) : p = q := by
  induction l with
  | nil => cases hp
  | cons x l ih =>
    simp only [List.map_cons, List.nodup_cons] at h
    rcases List.mem_cons.1 hp with rfl | hp' <;> rcases List.mem_cons.1 hq with rfl | hq'
    · rfl
    · exact absurd (e ▸ List.mem_map_of_mem hq') h.1
    · exact absurd (e ▸ List.mem_map_of_mem hp') h.1
    · exact ih h.2 hp' hq'
/-- A loop over a map that the body leaves alone: in whatever order. -/
theorem HT_rmap {E : Env} {N : Nat} {S : Type} {m : GM Int} {i : Nat} {T kT eT : TypeId} {id0 id1 id2 B0 B1 : Nat} {o17 o18 o19 o20 o21 o22 o23 o9 o10 : Oper} {tm t17 t18 t19 t20 t21 t22 t23 t9 t10 : Tmp} {y : Code} {σ : AS} {Q : Exit → AS → Prop}
    (hcl : E.cl = true) (hrd : E.rd = false)
    (h17 : IsOp o17 (.move (.tmp tm)) t17) (h18 : IsOp o18 (.range T (.tmp t17)) t18) (h19 : IsOp o19 (.next (.tmp t18) false) t19) (h20 : IsOp o20 (.extract (.tmp t19) 0) t20)
    (h21 : IsOp o21 (.entry (.tmp t18)) t21) (h22 : IsOp o22 (.extract (.tmp t21) 0) t22) (h23 : IsOp o23 (.extract (.tmp t21) 1) t23) (h9 : IsOp o9 (.assign (.tmp t22)) t9) (h10 : IsOp o10 (.assign (.tmp t23)) t10)
    (hT : E.P.underlying T = some (.map kT eT)) (hN : t17 < N ∧ t18 < N ∧ t19 < N ∧ t20 < N ∧ t21 < N ∧ t22 < N ∧ t23 < N ∧ t9 < N ∧ t10 < N) (hne : t21 ≠ t22 ∧ t22 ≠ t23 ∧ t23 ≠ t9)
    (hi : σ.sl tm = .mp i) (hm : σ.hp i = some (abM eI m)) (hS : (∀ p ∈ m.es, p.1 < m.clk) ∧ (m.es.map (·.1)).Nodup)
    (I : S → AS) (s0 : S) (step : S → Int → Int → S)
    (h0 : ∃ L, WeakN 32 L ⟨putA (putA σ.sl (some t17) .top) (some t18) (.ptr σ.b 0), upd σ.hp i none, σ.b + 64⟩ (I s0))
    (hI : ∀ s, (I s).sl t18 = .ptr 63 0) (hI2 : ∀ s, (I s).sl t19 = .top ∧ (I s).sl t20 = .top ∧ (I s).sl t21 = .top ∧ (I s).sl t22 = .top ∧ (I s).sl t23 = .top)
    (hy : ∀ s b k v, (b, k, v) ∈ m.es → HT { E with rd := true } N y ⟨putA (putA (I s).sl (some t9) (.int .i64 k)) (some t10) (.int .i64 v), (I s).hp, (I s).b⟩ (fun e σ' => (e = .normal ∨ e = .exit B1) ∧ ∃ L, Weak L σ' (I (step s k v))))
    (hend : ∀ L' : List (Nat × Int × Int), L'.Perm m.es → Q .normal (I (L'.foldl (fun s p => step s p.2.1 p.2.2) s0))) :
    HT E N (.seq (.region id0 #[o17, o18] false) (.block B0 (.loop (.seq (.region id1 #[o19, o20] false) (.seq (.cond (.tmp t20) .skip (.exit B0)) (.block B1 (.seq (.region id2 #[o21, o22, o23, o9, o10] false) y))))))) σ Q := by
  intro ro F a w hro hF hr
  have hF' : F.ok true false := by rw [hcl, hrd] at hF; exact hF
  obtain ⟨n17, n18, n19, n20, n21, n22, n23, n9, n10⟩ := hN
  obtain ⟨hne1, hne2, hne3⟩ := hne
  obtain ⟨β, ds, hr⟩ := hr
  obtain ⟨g1, g2, g3, g4, g5, g6, g7, g8, g9⟩ := id hr
  obtain ⟨l, hl, hk, hB, ents, hh, hmr⟩ := g3.map i _ _ hm
  obtain ⟨hb1, hb2⟩ := ents_of hmr
  have hv : a.eval (.tmp tm) = .map (some l.c) := by
    have := g2 tm
    rw [hi] at this
    simp only [V] at this
    obtain ⟨l', e1, e2⟩ := this
    rw [hl] at e1; cases e1; exact e2
  have hr1 : Since F β (AS.mk (putA σ.sl (some t17) .top) σ.hp σ.b).b ∧ (∀ t, V β ((AS.mk (putA σ.sl (some t17) .top) σ.hp σ.b).sl t) ((a.put (some t17) (.map (some l.c))).tmps.getD t undef)) ∧ HRel β (AS.mk (putA σ.sl (some t17) .top) σ.hp σ.b).hp w (F.Bx ds) ∧ (∀ j, β j ≠ none → j < (AS.mk (putA σ.sl (some t17) .top) σ.hp σ.b).b) ∧ BelowP F.B F.w0 w ∧ F.B.top w.heap.size ∧ (a.put (some t17) (.map (some l.c))).defers = ds.map mark ∧ Marks F ds w ∧ (a.put (some t17) (.map (some l.c))).tmps.size = N :=
    ⟨g1, put_V (d := some t17) (r := .top) (v := .map (some l.c)) g2 g9 (fun u hu => by cases hu; exact n17) (by simp [V]), g3, g4, g5, g6, by rw [put_defers]; exact g7, g8, by rw [put_size]; exact g9⟩
  have r1 := Rep.tolp (o := .mapIter (some l.c) m.clk #[] m.clk) hr1 hm hl hk hh rfl n18
  obtain ⟨L, hw⟩ := h0
  have r2 := WeakN.rep (rd := false) (Nat.le_refl _) hw (F := ⟨fun c => F.B c ∧ c ≠ w.heap.size ∧ c ≠ l.c, w.alloc (.mapIter (some l.c) m.clk #[] m.clk), F.β0, F.b0⟩) hF' r1
  have hv2 : ((a.put (some t17) (.map (some l.c))).put (some t18) (.pointer (some ⟨w.heap.size, 0, none⟩))).eval (.tmp t18) = .pointer (some ⟨w.heap.size, 0, none⟩) := eval_put (by rw [put_size, g9]; exact n18)
  refine wpIn_seq (wpIn_region ?_)
  show wpOpsIn (fen ro) 0 E.P #[o17, o18] _ [0, 1] a w
  refine ops_step (o := o17) (v := .map (some l.c)) (w' := w) rfl h17 nofun (by rw [run_move h17, hv]) ?_
  refine ops_step (o := o18) (v := .pointer (some ⟨w.heap.size, 0, none⟩)) (w' := w.alloc (.mapIter (some l.c) m.clk #[] m.clk)) rfl h18 nofun ?_ (ops_end ?_)
  · refine run_of (s := Instr.range T (.map (some l.c))) ?_ (run_range_map w T kT eT l.c ents m.clk hT hh)
    unfold execOp; rw [h18.1]
    simp only [eval_put (v := Value.map (some l.c)) (show t17 < a.tmps.size by rw [g9]; exact n17)]
  generalize ha2 : (a.put (some t17) (.map (some l.c))).put (some t18) (.pointer (some ⟨w.heap.size, 0, none⟩)) = a2 at r2 hv2 ⊢
  clear ha2 hr1 r1
  obtain ⟨β2, ds2, k1, k2, k3, k4, k5, k6, k7, k8, k9⟩ := r2
  have hv18 := k2 t18
  rw [hI s0] at hv18
  simp only [V] at hv18
  obtain ⟨l63, e63, e63'⟩ := hv18
  have hv3 : a2.tmps.getD t18 undef = .pointer (some ⟨w.heap.size, 0, none⟩) := hv2
  rw [hv3] at e63'
  have hc : l63.c = w.heap.size := by injection e63' with e; injection e with e; injection e with e1 e2; exact e1.symm
  have ho : l63.o = 0 := by injection e63' with e; injection e with e; injection e with e1 e2; omega
  have hBri : F.B w.heap.size := g6 _ (Nat.le_refl _)
  have hlt : l.c < w.heap.size := (Array.getElem?_eq_some_iff.1 hh).1
  have hold : ∀ x ∈ ents.toList, x.born < m.clk := fun x hx => by
    obtain ⟨p, hp, e, _⟩ := hb2 x hx
    rw [← e]; exact hS.1 p hp
  have hnd : (ents.toList.map (·.born)).Nodup := by rw [hb1]; exact hS.2
  have hkeep : BelowP F.B w (w.alloc (.mapIter (some l.c) m.clk #[] m.clk)) := BelowP.of g6 (BelowP.alloc w (Nat.le_refl _) _)
  have J0 : LpI F N w.heap.size l.c l63 ents m.es m.clk I step s0 (leftOf ents #[]).size [] #[] a2 (w.alloc (.mapIter (some l.c) m.clk #[] m.clk)) :=
    ⟨rfl, rfl, List.nodup_nil, nofun, ⟨β2, ds2, ⟨⟨fun j x hx => by
      simp only [Fr.lp] at hx
      by_cases e : j = 63
      · subst e; rw [if_pos rfl] at hx; cases hx; exact e63
      · rw [if_neg e] at hx; exact k1.le.loc j x hx, k1.le.fz⟩, fun j _ => .inr (Nat.zero_le _), Nat.zero_le _, k1.fz⟩, k2, k3, k4, BelowP.refl _ _, k6, k7, k8, k9⟩,
      heap_alloc_new _ _, (heap_alloc_old _ _ hlt).trans hh, g5.trans hkeep, g6.mono (hkeep.size)⟩
  generalize (w.alloc (.mapIter (some l.c) m.clk #[] m.clk)) = w1 at J0 ⊢
  generalize w.heap.size = ri at hc hBri J0
  generalize l.c = lm at J0
  clear hr g2 g3 g4 g5 g6 g7 g8 g9 g1 k1 k2 k3 k4 k5 k6 k7 k8 k9 hkeep hv2 hv3 e63' hv hw
  refine wpIn_block (wpIn_loop_ghost (fun n a w => ∃ done seen, LpI F N ri lm l63 ents m.es m.clk I step s0 n done seen a w) _ ⟨[], #[], J0⟩ fun n a w ⟨done, seen, J⟩ => ?_)
  have hsz : a.tmps.size = N := by obtain ⟨_, _, _, _, _, _, _, _, _, _, h⟩ := J.rep; exact h
  have hv18 := J.rep.lp18 hc ho (hI _)
  rcases next_map (P := E.P) (ty := o19.type) J.it J.mp hold with ⟨z, hrun⟩ | ⟨e, he, w2, hw2, hrun⟩
  · refine wpIn_seq (wpIn_region ?_)
    show wpOpsIn (fen ro) 0 E.P #[o19, o20] _ [0, 1] a w
    refine ops_step (o := o19) (v := .tuple #[.bool false]) (w' := w) rfl h19 nofun (run_of (s := Instr.next (.pointer (some ⟨ri, 0, none⟩)) false o19.type) (by unfold execOp; rw [h19.1]; simp only [hv18]) hrun) ?_
    refine ops_step (o := o20) (v := .bool false) (w' := w) rfl h20 nofun (run_extract h20 (eval_put (by rw [hsz]; exact n19)) rfl) (ops_end ?_)
    refine wpIn_seq (wpIn_cond_false (eval_put (by rw [put_size, hsz]; exact n20)) (wpIn_exit ?_))
    simp only [Exit.then, Exit.inBlock, if_true]
    refine ⟨_, hend done ?_, Rep.unlp ((J.rep.put_top n19 (hI2 _).1).put_top n20 (hI2 _).2.1) hF' J.bl J.top⟩
    refine (List.perm_ext_iff_of_nodup (nodup_fst J.nd) (nodup_fst hS.2)).2 fun p => ⟨J.sub p, fun hp => ?_⟩
    have h1 : p.1 ∈ ents.toList.map (·.born) := by rw [hb1]; exact List.mem_map_of_mem hp
    obtain ⟨e, he, heb⟩ := List.mem_map.1 h1
    have h2 : seen.contains e.born = true := by
      cases hcn : seen.contains e.born with
      | true => rfl
      | false =>
        have : e ∈ leftOf ents seen := Array.mem_filter.2 ⟨Array.mem_toList_iff.1 he, by rw [hcn]; rfl⟩
        have := Array.size_pos_of_mem this
        omega
    have h3 : p.1 ∈ done.map (·.1) := by
      rw [← J.sn, ← heb]
      exact Array.mem_toList_iff.2 (by simpa using h2)
    obtain ⟨q, hq, hqp⟩ := List.mem_map.1 h3
    have := fst_inj hS.2 (J.sub q hq) hp hqp
    rw [← this]; exact hq
  · obtain ⟨p, hp, hpb, hpk, hpv⟩ := hb2 e (mem_left he).1
    have hlm : lm ≠ ri := fun h => by
      have h1 := J.it; have h2 := J.mp
      rw [h, h1] at h2; cases h2
    have hh2 : w2.heap = w.heap := by rcases hw2 with rfl | rfl <;> rfl
    have hri : ri < w2.heap.size := by rw [hh2]; exact (Array.getElem?_eq_some_iff.1 J.it).1
    have it2 := setO_same (w := w2) (o := .mapIter (some lm) m.clk (seen.push e.born) m.clk) hri
    have mp2 : (setO w2 ri (.mapIter (some lm) m.clk (seen.push e.born) m.clk)).heap[lm]? = some (.map ents m.clk) := by rw [setO_other hlm, hh2]; exact J.mp
    have rep2 := J.rep.setO (o := .mapIter (some lm) m.clk (seen.push e.born) m.clk) hw2 (fun q => cell_iter J.it)
    have bl2 := J.bl.setO (o := .mapIter (some lm) m.clk (seen.push e.born) m.clk) hw2 hBri
    have sz2 : (setO w2 ri (.mapIter (some lm) m.clk (seen.push e.born) m.clk)).heap.size = w.heap.size := by rw [setO_size, hh2]
    generalize setO w2 ri (.mapIter (some lm) m.clk (seen.push e.born) m.clk) = w3 at hrun it2 mp2 rep2 bl2 sz2
    have rep3 := (rep2.put_top n19 (hI2 _).1 (v := .tuple #[.bool true, e.key, e.val])).put_top n20 (hI2 _).2.1 (v := .bool true)
    have hv3 := rep3.lp18 hc ho (hI _)
    refine wpIn_seq (wpIn_region ?_)
    show wpOpsIn (fen ro) 0 E.P #[o19, o20] _ [0, 1] a w
    refine ops_step (o := o19) (v := .tuple #[.bool true, e.key, e.val]) (w' := w3) rfl h19 nofun (run_of (s := Instr.next (.pointer (some ⟨ri, 0, none⟩)) false o19.type) (by unfold execOp; rw [h19.1]; simp only [hv18]) hrun) ?_
    refine ops_step (o := o20) (v := .bool true) (w' := w3) rfl h20 nofun (run_extract h20 (eval_put (by rw [hsz]; exact n19)) rfl) (ops_end ?_)
    refine wpIn_seq (wpIn_cond_true (eval_put (by rw [put_size, hsz]; exact n20)) (wpIn_skip ?_))
    refine wpIn_block (wpIn_seq (wpIn_region ?_))
    generalize (a.put (some t19) (.tuple #[.bool true, e.key, e.val])).put (some t20) (.bool true) = a3 at rep3 hv3 ⊢
    have hsz3 : a3.tmps.size = N := by obtain ⟨_, _, _, _, _, _, _, _, _, _, h⟩ := rep3; exact h
    show wpOpsIn (fen ro) 0 E.P #[o21, o22, o23, o9, o10] _ [0, 1, 2, 3, 4] a3 w3
    refine ops_step (o := o21) (v := .tuple #[e.key, e.val]) (w' := w3) rfl h21 nofun (run_of (s := Instr.entry (.pointer (some ⟨ri, 0, none⟩))) (by unfold execOp; rw [h21.1]; simp only [hv3]) (entry_map it2 mp2 (mem_left he).1 hnd)) ?_
    refine ops_step (o := o22) (v := .int .i64 p.2.1) (w' := w3) rfl h22 nofun (run_extract h22 (eval_put (by rw [hsz3]; exact n21)) (by rw [hpk]; rfl)) ?_
    refine ops_step (o := o23) (v := .int .i64 p.2.2) (w' := w3) rfl h23 nofun (run_extract h23 (by rw [eval_put_ne hne1]; exact eval_put (by rw [hsz3]; exact n21)) (by rw [hpv]; rfl)) ?_
    refine ops_step (o := o9) (v := .int .i64 p.2.1) (w' := w3) rfl h9 nofun (by rw [run_assign h9, eval_put_ne hne2, eval_put (by rw [put_size, hsz3]; exact n22)]) ?_
    refine ops_step (o := o10) (v := .int .i64 p.2.2) (w' := w3) rfl h10 nofun (by rw [run_assign h10, eval_put_ne hne3, eval_put (by rw [put_size, put_size, hsz3]; exact n23)]) (ops_end ?_)
    have rep4 := ((((rep3.put_top n21 (hI2 _).2.2.1 (v := .tuple #[e.key, e.val])).put_top n22 (hI2 _).2.2.2.1 (v := .int .i64 p.2.1)).put_top n23 (hI2 _).2.2.2.2 (v := .int .i64 p.2.2)).put_int n9 (k := p.2.1)).put_int n10 (k := p.2.2)
    refine wpIn_mono (hy _ p.1 p.2.1 p.2.2 hp ro _ _ w3 (fun h => by cases h) (by show Fr.ok _ E.cl true; rw [hcl]; exact Fr.lp_ok hF') rep4) fun e' a' w' hq => ?_
    obtain ⟨σ', ⟨he', L', hw'⟩, r'⟩ := hq
    have r5 := Weak.rep hw' (Fr.lp_ok hF') r'
    have b5 : BelowP (fun c => F.B c ∧ c ≠ ri ∧ c ≠ lm) w3 w' := by obtain ⟨_, _, _, _, _, _, h, _⟩ := r5; exact h
    have key : ∃ m', m' < n ∧ ∃ done seen, LpI F N ri lm l63 ents m.es m.clk I step s0 m' done seen a' w' := by
      refine ⟨(leftOf ents (seen.push e.born)).size, by rw [J.n]; exact left_shrinks ents seen e he, done ++ [p], seen.push e.born, rfl, by simp [J.sn, hpb], ?_, fun q hq => ?_, by rw [List.foldl_append]; exact r5.relp, (b5.block ri fun h => h.2.1 rfl).trans it2, (b5.block lm fun h => h.2.2 rfl).trans mp2, bl2.trans (b5.weaken fun c h => h.1), J.top.mono (by rw [← sz2]; exact b5.size)⟩
      · rw [List.map_append, List.nodup_append]
        refine ⟨J.nd, by simp, fun x hx y hy => ?_⟩
        simp at hy; subst hy
        intro hxp; subst hxp
        have h1 := (mem_left he).2
        rw [← J.sn, hpb] at hx
        have : seen.contains e.born = true := by simpa using Array.mem_toList_iff.1 hx
        rw [this] at h1; cases h1
      · rcases List.mem_append.1 hq with h | h
        · exact J.sub q h
        · simp at h; subst h; exact hp
    rcases he' with rfl | rfl
    · exact key
    · simp only [Exit.inBlock, if_true]; exact key
theorem Rep.put_any {F : Fr} {N : Nat} {w : World} {sl : Nat → AV} {hp : Heap} {b : Nat} {a : Act} {t : Tmp} {v : Value} (h : Rep F N ⟨sl, hp, b⟩ a w) (hN : t < N) : Rep F N ⟨putA sl (some t) .top, hp, b⟩ (a.put (some t) v) w := by
  obtain ⟨β, ds, g1, g2, g3, g4, g5, g6, g7, g8, g9⟩ := h
  exact ⟨β, ds, g1, put_V (d := some t) (r := .top) (v := v) g2 g9 (fun u hu => by cases hu; exact hN) (by simp [V]), g3, g4, g5, g6, by rw [put_defers]; exact g7, g8, by rw [put_size]; exact g9⟩
theorem Rep.alloc {F : Fr} {N : Nat} {w : World} {σ : AS} {a : Act} {o : Obj} (h : Rep F N σ a w) : Rep F N σ a (w.alloc o) := by
  obtain ⟨β, ds, g1, g2, g3, g4, g5, g6, g7, g8, g9⟩ := h
  have hkeep : BelowP (fun c => w.heap.size ≤ c) w (w.alloc o) := BelowP.alloc w (Nat.le_refl _) o
  exact ⟨β, ds, g1, g2, g3.keep hkeep, g4, g5.trans (BelowP.of g6 hkeep), g6.mono hkeep.size, g7, ⟨g8.nodup, fun D hD => ⟨(g8.at_ D hD).1, (hkeep.block D (by
    have := (Array.getElem?_eq_some_iff.1 (g8.at_ D hD).2).1
    simp; exact this)).trans (g8.at_ D hD).2⟩⟩, g9⟩
/-- A loop over a nil map. -/
theorem HT_rmapN {E : Env} {N : Nat} {T kT eT : TypeId} {id0 id1 B0 : Nat} {o17 o18 o19 o20 : Oper} {tm t17 t18 t19 t20 : Tmp} {y : Code} {σ : AS} {Q : Exit → AS → Prop}
    (h17 : IsOp o17 (.move (.tmp tm)) t17) (h18 : IsOp o18 (.range T (.tmp t17)) t18) (h19 : IsOp o19 (.next (.tmp t18) false) t19) (h20 : IsOp o20 (.extract (.tmp t19) 0) t20)
    (hT : E.P.underlying T = some (.map kT eT)) (hN : t17 < N ∧ t18 < N ∧ t19 < N ∧ t20 < N) (hi : σ.sl tm = .nilm)
    (hend : Q .normal ⟨putA (putA (putA (putA σ.sl (some t17) .top) (some t18) .top) (some t19) .top) (some t20) .top, σ.hp, σ.b⟩) :
    HT E N (.seq (.region id0 #[o17, o18] false) (.block B0 (.loop (.seq (.region id1 #[o19, o20] false) (.seq (.cond (.tmp t20) .skip (.exit B0)) y))))) σ Q := by
  intro ro F a w hro hF hr
  obtain ⟨n17, n18, n19, n20⟩ := hN
  have hsz : a.tmps.size = N := by obtain ⟨_, _, _, _, _, _, _, _, _, _, h⟩ := hr; exact h
  have hv : a.eval (.tmp tm) = .map none := by
    obtain ⟨β, ds, g1, g2, _⟩ := hr
    have := g2 tm
    rw [hi] at this
    simp only [V] at this; exact this
  have r1 := ((Rep.put_any (sl := σ.sl) (hp := σ.hp) (b := σ.b) (v := .map none) hr n17).put_any n18 (v := .pointer (some ⟨w.heap.size, 0, none⟩))).alloc (o := .mapIter none 0 #[] 0)
  have hv2 : ((a.put (some t17) (.map none)).put (some t18) (.pointer (some ⟨w.heap.size, 0, none⟩))).eval (.tmp t18) = .pointer (some ⟨w.heap.size, 0, none⟩) := eval_put (by rw [put_size, hsz]; exact n18)
  refine wpIn_seq (wpIn_region ?_)
  show wpOpsIn (fen ro) 0 E.P #[o17, o18] _ [0, 1] a w
  refine ops_step (o := o17) (v := .map none) (w' := w) rfl h17 nofun (by rw [run_move h17, hv]) ?_
  refine ops_step (o := o18) (v := .pointer (some ⟨w.heap.size, 0, none⟩)) (w' := w.alloc (.mapIter none 0 #[] 0)) rfl h18 nofun ?_ (ops_end ?_)
  · refine run_of (s := Instr.range T (.map none)) ?_ (run_range_nilMap w T kT eT hT)
    unfold execOp; rw [h18.1]
    simp only [eval_put (v := Value.map none) (show t17 < a.tmps.size by rw [hsz]; exact n17)]
  refine wpIn_block (wpIn_loop_ghost (fun _ a w' => a.tmps.size = N ∧ a.eval (.tmp t18) = .pointer (some ⟨w.heap.size, 0, none⟩) ∧ w'.heap[w.heap.size]? = some (.mapIter none 0 #[] 0) ∧ Rep F N ⟨putA (putA σ.sl (some t17) .top) (some t18) .top, σ.hp, σ.b⟩ a w') 0 ⟨by rw [put_size, put_size]; exact hsz, hv2, heap_alloc_new _ _, r1⟩ fun n a w' ⟨hs, hv, hh, r⟩ => ?_)
  refine wpIn_seq (wpIn_region ?_)
  show wpOpsIn (fen ro) 0 E.P #[o19, o20] _ [0, 1] a w'
  refine ops_step (o := o19) (v := .tuple #[.bool false]) (w' := w') rfl h19 nofun (run_of (s := Instr.next (.pointer (some ⟨w.heap.size, 0, none⟩)) false o19.type) (by unfold execOp; rw [h19.1]; simp only [hv]) (next_nil hh)) ?_
  refine ops_step (o := o20) (v := .bool false) (w' := w') rfl h20 nofun (run_extract h20 (eval_put (by rw [hs]; exact n19)) rfl) (ops_end ?_)
  refine wpIn_seq (wpIn_cond_false (eval_put (by rw [put_size, hs]; exact n20)) (wpIn_exit ?_))
  simp only [Exit.then, Exit.inBlock, if_true]
  exact ⟨_, hend, (r.put_any n19).put_any n20⟩
end Go.Eng
