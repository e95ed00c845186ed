import Derived.Test.YtcidmnpihffphaaEngB
namespace Go.Eng
open Go.RowKit (Below)

section
variable {P : Program} {β : Beta} {w : World}

theorem evA_V {sl : Nat → AV} {a : Act} (hs : ∀ t, V β (sl t) (a.tmps.getD t undef)) (x : Operand) : V β (evA sl x) (a.eval x) := by
  cases x with
  | tmp t => exact hs t
  | const v => exact V_ofVal β v
  | global g => simp [evA, V]
  | func f => exact ⟨[], [], rfl, by simp [Vs], by simp [Vs]⟩

theorem evAs_V {sl : Nat → AV} {a : Act} (hs : ∀ t, V β (sl t) (a.tmps.getD t undef)) : ∀ xs : List Operand, Vs β (xs.map (evA sl)) (xs.map a.eval)
  | [] => by simp [Vs]
  | x :: xs => ⟨_, _, rfl, evA_V hs x, evAs_V hs xs⟩

theorem run_und {t : TypeId} {d : TypeDesc} (h : P.underlying t = some d) : (underlying t).run P w = .ok d w := run_underlying h w

theorem run_size {t : TypeId} {n : Nat} (h : szT P t = some n) : (sizeOf t).run P w = .ok n w := by
  unfold szT at h
  cases hi : P.info? t with
  | none => simp [hi] at h
  | some i => simp [hi] at h; simp [sizeOf, typeInfo, hi, h]

theorem run_isAgg' {t : TypeId} {b : Bool} (h : aggT P t = some b) : (isAgg t).run P w = .ok b w := by
  unfold aggT at h
  split at h <;> simp at h <;> subst h
  · rename_i hu; simp [isAgg, run_und hu]
  · rename_i hu; simp [isAgg, run_und hu]
  · rename_i d h1 h2 hu
    simp only [isAgg, Sem.run_bind, run_und hu, Result.andThen_ok]
    cases d <;> simp_all

theorem part_ok {t : TypeId} {cs : List AV} {vs : List Value} {off : Nat} {r : AV} (h : partA P t cs off = some r) (hv : Vs β cs vs) :
    ∃ v, (part t vs.toArray off).run P w = .ok v w ∧ V β r v := by
  unfold partA at h
  split at h
  · rename_i ha
    cases hn : szT P t with
    | none => simp [hn] at h
    | some n =>
      simp only [hn, Option.bind_some] at h
      split at h
      · rename_i hle
        cases h
        refine ⟨.agg (vs.toArray.extract off (off + n)), by simp [part, run_isAgg' ha, run_size hn], (vs.drop off).take n, ?_, Vs_take (Vs_drop hv off) n⟩
        simp
      · simp at h
  · rename_i ha
    obtain ⟨v, h1, h2⟩ := Vs_get hv off r h
    exact ⟨v, by simp [part, run_isAgg' ha, h1], h2⟩
  · simp at h

/-- Turn 'V' of a known form into an equation. -/
theorem V_int {k : IntKind} {n : Int} {v : Value} (h : V β (.int k n) v) : v = .int k n := by simpa [V] using h
theorem V_bool {b : Bool} {v : Value} (h : V β (.bool b) v) : v = .bool b := by simpa [V] using h

theorem bin_ok {op : BinOp} {x y r : AV} {u v : Value} (t _yt : TypeId) (ox oy : Operand) (h : binA op x y = some r) (hx : V β x u) (hy : V β y v) :
    ∃ z, (do eqGuard op t ox oy u v; binOp op t u v : Sem Value).run P w = .ok z w ∧ V β r z := by
  unfold binA at h
  split at h <;> (try (simp at h; done))
  all_goals
    have hu := V_int hx; have hv := V_int hy; subst hu; subst hv
  all_goals
    split at h <;> (try (simp at h; done))
    rename_i hk
  all_goals first
    | (subst hk; cases h; exact ⟨_, by simp [eqGuard, binOp, Op.intArith, Op.intBits, Op.intCmp]; rfl, by simp [V]⟩)
    | (have hlt := Int.not_lt.2 hk; cases h; exact ⟨_, by simp [eqGuard, binOp, Op.shift, hlt]; rfl, by simp [V]⟩)
    | (have hb := hk.2; have hk := hk.1; subst hk; cases h; exact ⟨_, by simp [eqGuard, binOp, Op.intDiv, hb]; rfl, by simp [V]⟩)

theorem un_ok {op : UnOp} {x r : AV} {u : Value} (h : unA op x = some r) (hx : V β x u) : ∃ z, (Op.unary op u).run P w = .ok z w ∧ V β r z := by
  unfold unA at h
  split at h <;> (try (simp at h; done))
  · cases V_int hx; cases h; exact ⟨_, by simp [Op.unary, Op.intArith]; rfl, by simp [V]⟩
  · cases V_int hx; cases h; exact ⟨_, by simp [Op.unary, Op.intBits]; rfl, by simp [V]⟩
  · cases V_bool hx; cases h; exact ⟨_, by simp [Op.unary]; rfl, by simp [V]⟩

theorem conv_ok {s d : TypeId} {x r : AV} {u : Value} (h : convA P s d x = some r) (hx : V β x u) : ∃ z, (convert s d u).run P w = .ok z w ∧ V β r z := by
  unfold convA at h
  split at h <;> (try (simp at h; done))
  rename_i k hs hd
  cases V_int hx; cases h
  exact ⟨_, by simp [convert, run_und hs, run_und hd, Conv.intToInt]; rfl, by simp [V]⟩

theorem V_agg {cs : List AV} {v : Value} (h : V β (.agg cs) v) : ∃ vs : List Value, v = .agg vs.toArray ∧ Vs β cs vs := h

theorem field_ok {t : TypeId} {x r : AV} {u : Value} {f : Nat} (h : fieldA P t x f = some r) (hx : V β x u) : ∃ z, (Instr.field t u f).run P w = .ok z w ∧ V β r z := by
  unfold fieldA at h
  split at h <;> (try (simp at h; done))
  rename_i fs cs hu
  obtain ⟨vs, rfl, hv⟩ := V_agg hx
  cases hf : fs[f]? with
  | none => simp [hf] at h
  | some fd =>
    simp only [hf, Option.bind_some] at h
    obtain ⟨v, h1, h2⟩ := part_ok (w := w) h hv
    exact ⟨v, by simp [Instr.field, run_und hu, hf, asAgg, h1], h2⟩

theorem index_ok {t : TypeId} {x i r : AV} {u v : Value} (h : indexA P t x i = some r) (hx : V β x u) (hi : V β i v) : ∃ z, (Instr.index t u v).run P w = .ok z w ∧ V β r z := by
  unfold indexA at h
  split at h <;> (try (simp at h; done))
  rename_i len e cs k n hu
  obtain ⟨vs, rfl, hv⟩ := V_agg hx
  cases V_int hi
  split at h <;> (try (simp at h; done))
  rename_i hn
  cases hz : szT P e with
  | none => simp [hz] at h
  | some sz =>
    simp only [hz, Option.bind_some] at h
    obtain ⟨z, h1, h2⟩ := part_ok (w := w) h hv
    exact ⟨z, by simp [Instr.index, asIntOf, run_und hu, hn, run_size hz, h1], h2⟩

theorem V_ptr {i o : Nat} {v : Value} (h : V β (.ptr i o) v) : ∃ l, β i = some l ∧ v = .pointer (some ⟨l.c, l.o + o, none⟩) := h

theorem add_none (c o n : Nat) : (⟨c, o, none⟩ : Addr).add n = ⟨c, o + n, none⟩ := by
  unfold Addr.add; split <;> simp_all

theorem V_ep {cs : List AV} {o : Nat} {v : Value} (h : V β (.ep cs o) v) : ∃ (c q : Nat) (vs : List Value), v = .pointer (some ⟨c, q + o, none⟩) ∧ laid β.fz c q vs ∧ Vs β cs vs := by simpa only [V] using h
theorem V_lst {m : LM} {sz n : Nat} {f : Nat → AV} {v : Value} (h : V β (.lst m sz n f) v) : ∃ (base : Option Addr) (cap : Nat), v = .slice base n cap ∧ n ≤ cap ∧ LMok β m sz n base cap ∧
      ∀ j, j < n → ∃ (c o : Nat) (u : Value), base = some ⟨c, o, none⟩ ∧ u.cells.size = sz ∧ laid β.fz c (o + j * sz) u.cells.toList ∧ V β (f j) u := by simpa only [V] using h

theorem cells_ok {x : AV} {v : Value} {xs : List AV} (h : x.cells = some xs) (hv : V β x v) : Vs β xs v.cells.toList := by
  cases x <;> simp only [AV.cells, Option.some.injEq, reduceCtorEq] at h <;> subst h
  case agg cs => simp only [V] at hv; obtain ⟨vs, rfl, h⟩ := hv; simpa [Value.cells] using h
  all_goals
    have hh := hv
    simp only [V] at hh
    refine ⟨v, [], ?_, hv, by simp [Vs]⟩
  case lst => obtain ⟨_, _, rfl, _⟩ := hh; rfl
  case fn => obtain ⟨_, _, rfl, _⟩ := hh; rfl
  case ep => obtain ⟨_, _, _, rfl, _⟩ := hh; rfl
  case ptr => obtain ⟨_, _, rfl⟩ := hh; rfl
  case mp => obtain ⟨_, _, rfl⟩ := hh; rfl
  case yld => obtain ⟨_, _, rfl⟩ := hh; rfl
  case sl => obtain ⟨_, _, h | h⟩ := hh; (obtain ⟨_, _, _, rfl⟩ := h; rfl); (obtain ⟨_, _, rfl⟩ := h; rfl)
  case so => obtain ⟨_, _, h | h⟩ := hh; (obtain ⟨_, _, rfl⟩ := h; rfl); (obtain ⟨_, _, _, rfl⟩ := h; rfl)
  all_goals subst hh; rfl

theorem fieldAddr_ok {t : TypeId} {x r : AV} {u : Value} {f : Nat} (h : fieldAddrA P t x f = some r) (hx : V β x u) : ∃ z, (Instr.fieldAt t u f).run P w = .ok z w ∧ V β r z := by
  unfold fieldAddrA at h
  split at h <;> (try (simp at h; done))
  · rename_i fs i o hu
    obtain ⟨l, hl, rfl⟩ := V_ptr hx
    cases hf : fs[f]? with
    | none => simp [hf] at h
    | some fd =>
      simp only [hf, Option.bind_some] at h
      cases hz : szT P fd.type with
      | none => simp [hz] at h
      | some n =>
        simp only [hz, Option.bind_some] at h
        split at h <;> (try (simp at h; done))
        rename_i hn
        cases h
        exact ⟨_, by simp [Instr.fieldAt, run_und hu, hf, Instr.sureAddr, fieldPlace, run_size hz, hn, add_none]; rfl, by simp only [V]; exact ⟨l, hl, by simp [Nat.add_assoc]⟩⟩
  · rename_i fs cs o hu
    obtain ⟨c, q, vs, rfl, h1, h2⟩ := V_ep hx
    cases hf : fs[f]? with
    | none => simp [hf] at h
    | some fd =>
      simp only [hf, Option.bind_some] at h
      cases hz : szT P fd.type with
      | none => simp [hz] at h
      | some n =>
        simp only [hz, Option.bind_some] at h
        split at h <;> (try (simp at h; done))
        rename_i hn
        cases h
        exact ⟨_, by simp [Instr.fieldAt, run_und hu, hf, Instr.sureAddr, fieldPlace, run_size hz, hn, add_none]; rfl, by simp only [V]; exact ⟨c, q, vs, by simp [Nat.add_assoc], h1, h2⟩⟩

theorem indexAddr_ok {t : TypeId} {x i r : AV} {u v : Value} (h : indexAddrA P t x i = some r) (hx : V β x u) (hi : V β i v) : ∃ z, (Instr.indexAt t u v).run P w = .ok z w ∧ V β r z := by
  unfold indexAddrA at h
  split at h <;> (try (simp at h; done))
  · rename_i len e id o k n hu
    obtain ⟨l, hl, rfl⟩ := V_ptr hx
    cases V_int hi
    split at h <;> (try (simp at h; done))
    rename_i hn
    cases hz : szT P e with
    | none => simp [hz] at h
    | some sz =>
      simp only [hz, Option.bind_some] at h
      cases h
      exact ⟨_, by simp [Instr.indexAt, asIntOf, run_und hu, Instr.sureAddr, hn, run_size hz, add_none]; rfl, by simp only [V]; exact ⟨l, hl, by simp [Nat.add_assoc]⟩⟩
  · rename_i len e cs o k n hu
    obtain ⟨c, q, vs, rfl, h1, h2⟩ := V_ep hx
    cases V_int hi
    split at h <;> (try (simp at h; done))
    rename_i hn
    cases hz : szT P e with
    | none => simp [hz] at h
    | some sz =>
      simp only [hz, Option.bind_some] at h
      cases h
      exact ⟨_, by simp [Instr.indexAt, asIntOf, run_und hu, Instr.sureAddr, hn, run_size hz, add_none]; rfl, by simp only [V]; exact ⟨c, q, vs, by simp [Nat.add_assoc], h1, h2⟩⟩
  · rename_i e id o len cap s k n hu
    simp only [V] at hx
    obtain ⟨l, hl, hx⟩ := hx
    cases V_int hi
    split at h <;> (try (simp at h; done))
    rename_i hn
    cases hz : szT P e with
    | none => simp [hz] at h
    | some sz =>
      simp only [hz, Option.bind_some] at h
      split at h <;> (try (simp at h; done))
      cases h
      rcases hx with ⟨h0, _, _⟩ | ⟨_, _, rfl⟩
      · omega
      · exact ⟨_, by simp [Instr.indexAt, asIntOf, run_und hu, hn, run_size hz, add_none]; rfl, by simp only [V]; exact ⟨l, hl, by simp [Nat.add_assoc]⟩⟩
  · rename_i e id o len s k n hu
    simp only [V] at hx
    obtain ⟨l, hl, hx⟩ := hx
    cases V_int hi
    split at h <;> (try (simp at h; done))
    rename_i hn
    cases hz : szT P e with
    | none => simp [hz] at h
    | some sz =>
      simp only [hz, Option.bind_some] at h
      split at h <;> (try (simp at h; done))
      cases h
      rcases hx with ⟨h0, _⟩ | ⟨m, _, _, rfl⟩
      · omega
      · exact ⟨_, by simp [Instr.indexAt, asIntOf, run_und hu, hn, run_size hz, add_none]; rfl, by simp only [V]; exact ⟨l, hl, by simp [Nat.add_assoc]⟩⟩
  · rename_i e m s len f k n hu
    obtain ⟨base, cap, rfl, hcap, _, hel⟩ := V_lst hx
    cases V_int hi
    split at h <;> (try (simp at h; done))
    rename_i hn
    cases hz : szT P e with
    | none => simp [hz] at h
    | some sz =>
      simp only [hz, Option.bind_some] at h
      split at h <;> (try (simp at h; done))
      rename_i hs
      subst hs
      obtain ⟨cs, hcs, rfl⟩ := Option.map_eq_some_iff.1 h
      obtain ⟨c, o, u, rfl, h1, h2, h3⟩ := hel n.toNat (by omega)
      exact ⟨_, by simp [Instr.indexAt, asIntOf, run_und hu, hn, run_size hz, add_none]; rfl, by simp only [V]; exact ⟨c, _, u.cells.toList, by simp, h2, cells_ok hcs h3⟩⟩

theorem len_ok {t ty : TypeId} {x r : AV} {u : Value} (at_ : Array TypeId) (h0 : at_[0]? = some t) (h : lenA P t x = some r) (hx : V β x u) : ∃ z, (Builtin.len_ at_ ty #[u]).run P w = .ok z w ∧ V β r z := by
  unfold lenA at h
  split at h <;> (try (simp at h; done)) <;> cases h
  · rename_i id o n m s hu
    obtain ⟨l, hl, hx⟩ := hx
    rcases hx with ⟨rfl, rfl, a, rfl⟩ | ⟨_, _, rfl⟩
    · exact ⟨_, by simp [Builtin.len_, h0, run_und hu]; rfl, by simp [V, goInt]⟩
    · exact ⟨_, by simp [Builtin.len_, h0, run_und hu]; rfl, by simp [V, goInt]⟩
  · rename_i id o n s hu
    obtain ⟨l, hl, hx⟩ := hx
    rcases hx with ⟨rfl, a, rfl⟩ | ⟨m, _, _, rfl⟩
    · exact ⟨_, by simp [Builtin.len_, h0, run_und hu]; rfl, by simp [V, goInt]⟩
    · exact ⟨_, by simp [Builtin.len_, h0, run_und hu]; rfl, by simp [V, goInt]⟩
  · rename_i m s n f hu
    obtain ⟨base, cap, rfl, _⟩ := V_lst hx
    exact ⟨_, by simp [Builtin.len_, h0, run_und hu]; rfl, by simp [V, goInt]⟩
  · rename_i hu
    simp only [V] at hx; subst hx
    exact ⟨_, by simp [Builtin.len_, h0, run_und hu]; rfl, by simp [V, goInt]⟩
  · rename_i s hu
    simp only [V] at hx; subst hx
    exact ⟨_, by simp [Builtin.len_, h0, run_und hu]; rfl, by simp [V, goInt]⟩
  · rename_i n e hu
    exact ⟨_, by simp [Builtin.len_, h0, run_und hu]; rfl, by simp [V, goInt]⟩

end
end Go.Eng
