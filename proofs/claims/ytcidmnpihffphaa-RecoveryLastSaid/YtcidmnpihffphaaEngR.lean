import Derived.Test.YtcidmnpihffphaaEngQ
namespace Go.Eng
open Go.RowKit (Below)

section
variable {P : Program} {D : DT}

theorem getK_ok {cs : List AV} {o : Nat} {k : AV → Prop} (h : getK cs o k) : ∃ r, cs[o]? = some r ∧ k r := by
  obtain ⟨a, h1, h2⟩ := getK_inv h; exact ⟨a, h1, (forceA1_eq a k) ▸ h2⟩

theorem partK_ok (hD : DOk P D) {t : TypeId} {cs : List AV} {o : Nat} {k : AV → Prop} (h : partK D t cs o k) : ∃ r, partA P t cs o = some r ∧ k r := by
  unfold partK at h
  cases hd : D t with
  | none => simp [hd] at h
  | some d =>
    simp only [hd] at h
    have td := hD t d hd
    unfold partA
    rw [td.agg, td.size]
    cases ha : d.k.agg with
    | true =>
      simp only [ha, forceL_eq] at h
      simp only [Option.bind_some, h.1, if_true]
      exact ⟨_, rfl, h.2⟩
    | false =>
      simp only [ha] at h
      exact getK_ok h

theorem binK_ok {op : BinOp} {x y : AV} {k : AV → Prop} (h : binK op x y k) : ∃ r, binA op x y = some r ∧ k r := by
  unfold binK at h
  split at h
  · split at h <;> (try exact h.elim)
    split at h <;> (try exact h.elim)
    rename_i e
    subst e
    exact ⟨_, by simp [binA, h.1], h.2⟩
  · split at h <;> (try exact h.elim)
    split at h <;> (try exact h.elim)
    rename_i e
    subst e
    exact ⟨_, by simp [binA, h.1], h.2⟩
  · split at h <;> (try exact h.elim)
    exact ⟨_, by simp [binA, h.1], h.2⟩
  · split at h <;> (try exact h.elim)
    exact ⟨_, by simp [binA, h.1], h.2⟩
  · split at h <;> (try exact h.elim)
    rename_i r e
    exact ⟨r, e, h⟩

theorem binKK_ok {op : BinOp} {t : TypeId} {x y : AV} {k : AV → Prop} (h : binKK P op t x y k) : ∃ r, (binA op x y = some r ∨ EqR P op t x y r) ∧ k r := by
  have L : ∀ {op}, binK op x y k → ∃ r, (binA op x y = some r ∨ EqR P op t x y r) ∧ k r := fun h => let ⟨r, e, hk⟩ := binK_ok h; ⟨r, .inl e, hk⟩
  have M : ∀ {op}, eqK P op t x y k → ∃ r, (binA op x y = some r ∨ EqR P op t x y r) ∧ k r := fun h => let ⟨r, e, hk⟩ := eqK_inv h; ⟨r, .inr e, hk⟩
  unfold binKK at h
  split at h
  · split at h
    · exact L h
    · simp only [forceA_eq] at h; exact M h
  · split at h
    · exact L h
    · simp only [forceA_eq] at h; exact M h
  · exact L h

theorem convK_ok (hD : DOk P D) {s d : TypeId} {x : AV} {k : AV → Prop} (h : convK D s d x k) : ∃ r, convA P s d x = some r ∧ k r := by
  unfold convK at h
  split at h <;> (try exact h.elim)
  rename_i h1 h2
  split at h <;> (try exact h.elim)
  have t1 := (hD _ _ h1).k
  have t2 := (hD _ _ h2).k
  simp only [TKok] at t1 t2
  exact ⟨_, by simp [convA, t1, t2], h⟩

theorem field_get {F : Array Field} {fs : List (Nat × Nat)} (e : F.toList.map (fun f => (f.type, f.offset)) = fs) {f ft off : Nat} (h : fs[f]? = some (ft, off)) : ∃ fd, F[f]? = some fd ∧ fd.type = ft ∧ fd.offset = off := by
  subst e
  rw [List.getElem?_map] at h
  obtain ⟨fd, h1, h2⟩ := Option.map_eq_some_iff.1 h
  cases h2
  exact ⟨fd, by simpa using h1, rfl, rfl⟩

theorem fieldK_ok (hD : DOk P D) {t : TypeId} {x : AV} {f : Nat} {k : AV → Prop} (h : fieldK D t x f k) : ∃ r, fieldA P t x f = some r ∧ k r := by
  unfold fieldK at h
  split at h <;> (try exact h.elim)
  rename_i h1
  split at h <;> (try exact h.elim)
  split at h <;> (try exact h.elim)
  rename_i ft off hf
  have t1 := (hD _ _ h1).k
  simp only [TKok] at t1
  obtain ⟨F, e1, e2⟩ := t1
  obtain ⟨fd, g1, rfl, rfl⟩ := field_get e2 hf
  obtain ⟨r, r1, r2⟩ := partK_ok hD h
  exact ⟨r, by simp [fieldA, e1, g1, r1], r2⟩

theorem fieldAddrK_ok (hD : DOk P D) {t : TypeId} {x : AV} {f : Nat} {k : AV → Prop} (h : fieldAddrK D t x f k) : ∃ r, fieldAddrA P t x f = some r ∧ k r := by
  unfold fieldAddrK at h
  split at h <;> (try exact h.elim)
  rename_i h1
  split at h <;> (try exact h.elim)
  all_goals
    split at h <;> (try exact h.elim)
    rename_i ft off hf
    split at h <;> (try exact h.elim)
    rename_i d hd
    split at h <;> (try exact h.elim)
    rename_i hz
    have t1 := (hD _ _ h1).k
    simp only [TKok] at t1
    obtain ⟨F, e1, e2⟩ := t1
    obtain ⟨fd, g1, rfl, rfl⟩ := field_get e2 hf
    exact ⟨_, by simp [fieldAddrA, e1, g1, (hD _ _ hd).size, hz], h⟩

theorem indexK_ok (hD : DOk P D) {t : TypeId} {x i : AV} {k : AV → Prop} (h : indexK D t x i k) : ∃ r, indexA P t x i = some r ∧ k r := by
  unfold indexK at h
  split at h <;> (try exact h.elim)
  rename_i h1
  split at h <;> (try exact h.elim)
  rename_i d hd
  split at h <;> (try exact h.elim)
  have t1 := (hD _ _ h1).k
  simp only [TKok] at t1
  obtain ⟨r, r1, r2⟩ := partK_ok hD h.2
  exact ⟨r, by simp [indexA, t1, h.1, (hD _ _ hd).size, r1], r2⟩

theorem indexAddrK_ok (hD : DOk P D) {t : TypeId} {x i : AV} {k : AV → Prop} (h : indexAddrK D t x i k) : ∃ r, indexAddrA P t x i = some r ∧ k r := by
  unfold indexAddrK at h
  split at h <;> (try exact h.elim)
  · rename_i h1
    split at h <;> (try exact h.elim)
    rename_i d hd
    split at h <;> (try exact h.elim)
    all_goals
      have t1 := (hD _ _ h1).k
      simp only [TKok] at t1
      exact ⟨_, by simp [indexAddrA, t1, h.1, (hD _ _ hd).size], h.2⟩
  · rename_i h1
    split at h <;> (try exact h.elim)
    rename_i d hd
    have t1 := (hD _ _ h1).k
    simp only [TKok] at t1
    split at h <;> (try exact h.elim)
    · split at h <;> (try exact h.elim)
      rename_i e; subst e
      exact ⟨_, by simp [indexAddrA, t1, h.1, (hD _ _ hd).size], h.2⟩
    · split at h <;> (try exact h.elim)
      rename_i e; subst e
      exact ⟨_, by simp [indexAddrA, t1, h.1, (hD _ _ hd).size], h.2⟩
    · split at h <;> (try exact h.elim)
      rename_i e; subst e
      obtain ⟨hg, h⟩ := h
      split at h <;> (try exact h.elim)
      rename_i cs hcs
      rw [forceL_eq] at h
      exact ⟨_, by simp [indexAddrA, t1, hg, (hD _ _ hd).size, hcs], h⟩

theorem boundK_ok {x : Option AV} {d : Nat} {k : Nat → Prop} (h : boundK x d k) : ∃ n, boundA x d = some n ∧ k n := by
  unfold boundK at h
  split at h <;> (try exact h.elim)
  · exact ⟨_, rfl, h⟩
  · exact ⟨_, by simp [boundA, h.1], h.2⟩

theorem sliceK_ok (hD : DOk P D) {t : TypeId} {x : AV} {lo hi mx : Option AV} {k : AV → Prop} (h : sliceK D t x lo hi mx k) : ∃ r, (∃ r0, sliceA P t x lo hi mx = some r0 ∧ Wk r0 r) ∧ k r := by
  unfold sliceK at h
  split at h <;> (try exact h.elim)
  rename_i hne
  have hc : ¬ (mx.isSome = true ∧ hi.isNone = true) := by
    rintro ⟨a, b⟩
    obtain ⟨m, rfl⟩ := Option.isSome_iff_exists.1 a
    simp only [Option.isNone_iff_eq_none] at b
    subst b
    exact hne m rfl rfl
  split at h <;> (try exact h.elim)
  rename_i h1
  split at h <;> (try exact h.elim)
  rename_i d hd
  have t1 := (hD _ _ h1).k
  have t2 := (hD _ _ hd).size
  simp only [TKok] at t1
  unfold sliceA
  rw [if_neg hc]
  split at h <;> (try exact h.elim)
  · split at h <;> (try exact h.elim)
    rename_i e; subst e
    obtain ⟨m, e1, h⟩ := boundK_ok h
    obtain ⟨g, e2, h⟩ := boundK_ok h
    obtain ⟨l, e3, h⟩ := boundK_ok h
    exact ⟨_, ⟨_, by simp [t1, t2, e1, e2, e3, h.1], Wk.refl _⟩, h.2⟩
  · split at h <;> (try exact h.elim)
    rename_i e; subst e
    split at h
    · obtain ⟨g, e2, h⟩ := boundK_ok h
      obtain ⟨l, e3, h⟩ := boundK_ok h
      exact ⟨_, ⟨_, by simp [t1, t2, e2, e3, h.1], Wk.refl _⟩, h.2⟩
    · obtain ⟨m, e1, h⟩ := boundK_ok h
      obtain ⟨g, e2, h⟩ := boundK_ok h
      obtain ⟨l, e3, h⟩ := boundK_ok h
      exact ⟨_, ⟨_, by simp [t1, t2, e1, e2, e3, h.1], Wk.refl _⟩, h.2⟩
  · split at h <;> (try exact h.elim)
    rename_i e; subst e
    obtain ⟨g, l, r, e2, e3, h, hk⟩ := lslK_inv h
    refine ⟨r, ?_, hk⟩
    rcases h with ⟨rfl, g1, g2, g3⟩ | ⟨x, rfl, e1, g1, g2, g3⟩
    · exact ⟨_, by simp [t1, t2, e2, e3, g1, g2], g3⟩
    · refine ⟨_, ?_, g3⟩
      simp only [t1, t2, e1, e2, e3, Option.bind_some]
      rw [if_pos ⟨g1, trivial, g2, trivial⟩]
  · obtain ⟨m, e1, h⟩ := boundK_ok h
    obtain ⟨g, e2, h⟩ := boundK_ok h
    obtain ⟨l, e3, h⟩ := boundK_ok h
    refine ⟨_, ⟨_, ?_, Wk.refl _⟩, h.2⟩
    simp only [t1, t2, e1, e2, e3, Option.bind_some]
    rw [if_pos h.1]

theorem mapM_places (hD : DOk P D) : ∀ {F : List Field} {pl : List (Nat × Nat)}, placesD D (F.map fun f => (f.type, f.offset)) = some pl → F.mapM (fun f => (szT P f.type).map fun s => (f.offset, s)) = some pl
  | [], pl, h => by simpa [placesD] using h
  | f :: F, pl, h => by
    simp only [placesD, List.map_cons, List.mapM_cons] at h ⊢
    obtain ⟨y, hy, h1⟩ := bind_some' h
    obtain ⟨ys, hys, h2⟩ := bind_some' h1
    obtain ⟨d, hd, e⟩ := Option.map_eq_some_iff.1 hy
    rw [mapM_places hD (F := F) (pl := ys) (by simpa [placesD] using hys), (hD _ _ hd).size]
    subst e
    simpa using h2

theorem buildK_ok (hD : DOk P D) {t : TypeId} {parts : List (Nat × AV)} {k : AV → Prop} (h : buildK D t parts k) : ∃ r, buildA P t parts = some r ∧ k r := by
  unfold buildK at h
  split at h <;> (try exact h.elim)
  · rename_i h1
    have t1 := (hD _ _ h1).k
    have t2 := (hD _ _ h1).zero
    simp only [TKok] at t1
    obtain ⟨F, e1, rfl⟩ := t1
    split at h <;> (try exact h.elim)
    rename_i pl hpl
    have hp := mapM_places hD hpl
    split at h <;> (try exact h.elim)
    rename_i cs hcs
    rw [forceL_eq] at h
    exact ⟨_, by simp only [buildA, e1, t2, Option.bind_some]; rw [hp]; simp [hcs], h⟩
  · rename_i h1
    have t1 := (hD _ _ h1).k
    have t2 := (hD _ _ h1).zero
    simp only [TKok] at t1
    split at h <;> (try exact h.elim)
    rename_i d hd
    split at h <;> (try exact h.elim)
    rename_i cs hcs
    rw [forceL_eq] at h
    exact ⟨_, by simp [buildA, t1, t2, (hD _ _ hd).size, hcs], h⟩

theorem lenK_ok (hD : DOk P D) {t : TypeId} {x : AV} {k : AV → Prop} (h : lenK D t x k) : ∃ r, lenA P t x = some r ∧ k r := by
  unfold lenK at h
  split at h <;> (try exact h.elim)
  · rename_i h1
    have t1 := (hD _ _ h1).k
    simp only [TKok] at t1
    split at h <;> (try exact h.elim)
    all_goals exact ⟨_, by simp [lenA, t1], h⟩
  · rename_i h1
    have t1 := (hD _ _ h1).k
    simp only [TKok] at t1
    split at h <;> (try exact h.elim)
    exact ⟨_, by simp [lenA, t1], h⟩
  · rename_i h1
    have t1 := (hD _ _ h1).k
    simp only [TKok] at t1
    exact ⟨_, by simp [lenA, t1], h⟩

theorem lenKK_ok (hD : DOk P D) {lim : Nat} {t : TypeId} {x : AV} {hp : Heap} {k : AV → Prop} (h : lenKK D P lim t x hp k) : ∃ r, lenR P lim t x hp r ∧ k r := by
  unfold lenKK at h
  split at h
  · exact lenmK_inv h
  · obtain ⟨r, e, hk⟩ := lenK_ok hD h
    exact ⟨r, .inl e, hk⟩
theorem loadK_ok (hD : DOk P D) {lim : Nat} {t : TypeId} {p : AV} {hp : Heap} {k : AV → Prop} (h : loadK D lim t p hp k) : ∃ r, loadA P lim t p hp = some r ∧ k r := by
  unfold loadK at h
  split at h <;> (try exact h.elim)
  · obtain ⟨hl, h⟩ := h
    obtain ⟨cs, hb, h⟩ := blkK_inv h
    obtain ⟨r, r1, r2⟩ := partK_ok hD h
    exact ⟨r, by simp [loadA, hl, hb, r1], r2⟩
  · obtain ⟨r, r1, r2⟩ := partK_ok hD h
    exact ⟨r, by simp [loadA, r1], r2⟩

theorem storeK_ok (hD : DOk P D) {t : TypeId} {p v : AV} {hp : Heap} {k : AV → Heap → Prop} (h : storeK D t p v hp k) : ∃ r H', storeA P t p v hp = some (r, H') ∧ k r H' := by
  unfold storeK at h
  split at h <;> (try exact h.elim)
  rename_i d hd
  split at h <;> (try exact h.elim)
  split at h <;> (try exact h.elim)
  rename_i xs hxs
  obtain ⟨cs, hb, h1, h2, h3, h4⟩ := blkK_inv h
  rw [forceL_eq] at h4
  refine ⟨_, _, ?_, h4⟩
  simp only [storeA, hxs, hb, (hD _ _ hd).size, Option.bind_some]
  rw [if_pos ⟨h1, h2, h3⟩]

theorem minK_ok {l : List AV} {k : AV → Prop} (h : minK l k) : ∃ r, minA l = some r ∧ k r := by
  unfold minK at h; split at h <;> (try exact h.elim)
  rename_i r e; rw [forceA_eq] at h; exact ⟨r, e, h⟩
theorem maxK_ok {l : List AV} {k : AV → Prop} (h : maxK l k) : ∃ r, maxA l = some r ∧ k r := by
  unfold maxK at h; split at h <;> (try exact h.elim)
  rename_i r e; rw [forceA_eq] at h; exact ⟨r, e, h⟩
end

theorem opK_ok {c : Ctx} {D : DT} (hD : DOk c.P D) {i : Nat} {o : Oper} {sl : Nat → AV} {hp : Heap} {k : AV → Heap → Prop} (h : opK c D i o sl hp k) :
    ∃ r H', effR (opA c i o sl) hp (c.b + i * 64) r H' ∧ k r H' := by
  have pureK : ∀ {x : AV → Prop}, opA c i o sl = .pure x → (∃ r, x r ∧ k r hp) → ∃ r H', effR (opA c i o sl) hp (c.b + i * 64) r H' ∧ k r H' := by
    rintro x e ⟨r, hx, hk⟩; exact ⟨r, hp, by rw [e]; exact ⟨hx, rfl⟩, hk⟩
  obtain ⟨dst, op, type, pos, after, guard⟩ := o
  cases op <;> simp only [opK] at h <;> (try exact h.elim)
  case move x => rw [forceA_eq] at h; exact pureK rfl ⟨_, rfl, h⟩
  case assign x => rw [forceA_eq] at h; exact pureK rfl ⟨_, rfl, h⟩
  case pick q a b =>
    split at h <;> (try exact h.elim)
    rename_i t ht
    refine pureK rfl ?_
    simp only [ht]
    cases t
    · exact ⟨_, rfl, by simpa [forceA_eq] using h⟩
    · exact ⟨_, rfl, by simpa [forceA_eq] using h⟩
  case alloc t =>
    split at h <;> (try exact h.elim)
    rename_i d hd
    exact ⟨_, _, ⟨_, ⟨_, (hD _ _ hd).zero, rfl, rfl⟩, rfl⟩, h⟩
  case box t x =>
    split at h <;> (try exact h.elim)
    rename_i z hz
    rw [forceL_eq] at h
    exact ⟨_, _, ⟨_, ⟨_, hz, rfl, rfl⟩, rfl⟩, h⟩
  case build t ps => exact pureK rfl (buildK_ok hD h)
  case buildSlice t n ps =>
    rw [partsT_eq] at h
    obtain ⟨r, b, e, hk⟩ := bsK_inv h
    exact ⟨r, _, ⟨b, e, rfl⟩, hk⟩
  case load t p =>
    obtain ⟨r, e, hk⟩ := loadK_ok hD h
    exact ⟨r, _, ⟨e, rfl⟩, hk⟩
  case store t p v => exact storeK_ok hD h
  case nilCheck x =>
    split at h <;> (try exact h.elim)
    · rename_i e; exact pureK rfl ⟨_, ⟨rfl, by simp only [e]⟩, by rw [e]; exact h⟩
    · rename_i e; exact pureK rfl ⟨_, ⟨rfl, by simp only [e]⟩, by rw [e]; exact h⟩
    · rename_i e; exact pureK rfl ⟨_, ⟨rfl, by simp only [e]⟩, by rw [e]; exact h⟩
  case binOp op t x y u => exact pureK rfl (binKK_ok h)
  case unOp op t x =>
    split at h <;> (try exact h.elim)
    rename_i v e
    exact pureK rfl ⟨v, e, h⟩
  case convert s d x => exact pureK rfl (convK_ok hD h)
  case makeFunc fn first caps =>
    cases fn <;> simp only at h <;> (try exact h.elim)
    rw [forceT_eq, forceT_eq] at h
    exact pureK rfl ⟨_, rfl, h⟩
  case makeSlice t l m =>
    simp only [forceA_eq] at h
    obtain ⟨r0, r, b, e, hw, hk⟩ := mksK_inv h
    exact ⟨r, _, ⟨b, ⟨r0, e, hw⟩, rfl⟩, hk⟩
  case makeMap t rv =>
    cases rv with
    | some _ => exact h.elim
    | none => exact ⟨_, _, ⟨_, ⟨rfl, rfl⟩, rfl⟩, h⟩
  case lookup t x n ok =>
    simp only [forceA_eq] at h
    obtain ⟨r, e, hk⟩ := mlookK_inv h
    exact ⟨r, _, ⟨e, rfl⟩, hk⟩
  case mapUpdate t m n v =>
    simp only [forceA_eq] at h
    obtain ⟨r, H', e, hk⟩ := updK_inv h
    exact ⟨r, H', e, hk⟩
  case mapEntry t m n =>
    simp only [forceA_eq] at h
    obtain ⟨r, H', e, hk⟩ := entK_inv h
    exact ⟨r, H', e, hk⟩
  case entryStore t m s v =>
    simp only [forceA_eq] at h
    obtain ⟨r, H', e, hk⟩ := estK_inv h
    exact ⟨r, H', e, hk⟩
  case slice t x lo hi mx => exact pureK rfl (sliceK_ok hD h)
  case fieldAddr t x f => exact pureK rfl (fieldAddrK_ok hD h)
  case field t x f => exact pureK rfl (fieldK_ok hD h)
  case indexAddr t x j => exact pureK rfl (indexAddrK_ok hD h)
  case index t x j => exact pureK rfl (indexK_ok hD h)
  case extract x j =>
    split at h <;> (try exact h.elim)
    rename_i vs e
    split at h <;> (try exact h.elim)
    rename_i v hv
    rw [forceA_eq] at h
    exact pureK rfl ⟨v, by simp only [e, hv], h⟩
  case call cl =>
    obtain ⟨callee, args, argTypes⟩ := cl
    cases callee with
    | invoke r m => simp only at h
    | builtin b =>
      cases b <;> simp only at h <;> (try exact h.elim)
      case len =>
        split at h <;> (try exact h.elim)
        rename_i x t tl e1 e2
        obtain ⟨r, e, hk⟩ := lenKK_ok hD h
        exact ⟨r, hp, ⟨by simp only [e1, e2]; exact e, rfl⟩, hk⟩
      case delete =>
        split at h <;> (try exact h.elim)
        rename_i m n t _ e1 e2
        simp only [forceA_eq] at h
        obtain ⟨r, H', e, hk⟩ := delK_inv h
        exact ⟨r, H', by simp only [opA, effR, e1, e2]; exact e, hk⟩
      case min => exact pureK rfl (minK_ok h)
      case max => exact pureK rfl (maxK_ok h)
      case append =>
        split at h
        · rename_i hfr
          split at h <;> (try exact h.elim)
          rename_i s x t u e1 e2
          simp only [forceA_eq] at h
          obtain ⟨r, blk, e, hk⟩ := appendFK_inv h
          exact ⟨r, _, by simp only [opA, hfr, if_true, effR, e1, e2]; exact ⟨blk, e, rfl⟩, hk⟩
        · rename_i hfr
          split at h <;> (try exact h.elim)
          rename_i s x t u e1 e2
          simp only [forceA_eq] at h
          obtain ⟨r0, r, H', e, hw, hk⟩ := appendK_inv h
          exact ⟨r, H', by simp only [opA, hfr, Bool.false_eq_true, if_false, effR, e1, e2]; exact ⟨r0, e, hw⟩, hk⟩
    | value f =>
      have dyn : (∀ g, f ≠ .func g) → (match evA sl f with
          | .fn g first caps => forceT (first ++ args.toList.map (evA sl) ++ caps) fun as => callsK c.T g as hp (c.b + i * 64) fun v hp' => forceA v fun v => k v hp'
          | .yld j => forceT (args.toList.map (evA sl)) fun as => yldK c.P j as hp fun v hp' => forceA v fun v => k v hp'
          | _ => False) → ∃ r H', effR (opA c i ⟨dst, .call ⟨.value f, args, argTypes⟩, type, pos, after, guard⟩ sl) hp (c.b + i * 64) r H' ∧ k r H' := by
        intro hf h
        have hcall : opA c i ⟨dst, .call ⟨.value f, args, argTypes⟩, type, pos, after, guard⟩ sl = .write (callR c i (evA sl f) (args.toList.map (evA sl))) := by
          cases f with
          | func g => exact absurd rfl (hf g)
          | _ => rfl
        split at h <;> (try exact h.elim)
        case h_2 j e =>
          rw [forceT_eq] at h
          obtain ⟨r, H', e0, hk⟩ := yldK_inv h
          rw [forceA_eq] at hk
          exact ⟨r, H', by rw [hcall, e]; exact e0, hk⟩
        rename_i g first caps e
        rw [forceT_eq] at h
        obtain ⟨args', r, H', e0, e2, hk⟩ := callsK_inv h
        rw [forceA_eq] at hk
        refine ⟨r, H', ?_, hk⟩
        have : opA c i ⟨dst, .call ⟨.value f, args, argTypes⟩, type, pos, after, guard⟩ sl = .write (callR c i (evA sl f) (args.toList.map (evA sl))) := by
          cases f with
          | func g => exact absurd rfl (hf g)
          | _ => rfl
        rw [this, e]
        exact ⟨args', e0, e2⟩
      cases f with
      | func g =>
        simp only at h
        cases hp' : c.pf g with
        | true =>
          simp only [hp', forceT_eq] at h
          obtain ⟨args', r, H', e0, e, hk⟩ := callpK_inv h
          rw [forceA_eq] at hk
          exact ⟨r, hp, by simp only [opA, hp', if_true, effR]; exact ⟨⟨args', H', e0, e⟩, trivial⟩, hk⟩
        | false =>
          simp only [hp', forceT_eq] at h
          obtain ⟨args', r, H', e0, e, hk⟩ := callsK_inv h
          rw [forceA_eq] at hk
          refine ⟨r, H', ?_, hk⟩
          have : opA c i ⟨dst, .call ⟨.value (.func g), args, argTypes⟩, type, pos, after, guard⟩ sl = .write (callR c i (.fn g [] []) (args.toList.map (evA sl))) := by simp only [opA, hp']; rfl
          rw [this]
          exact ⟨args', by simpa using e0, e⟩
      | tmp t => exact dyn (fun g e => by cases e) h
      | const v => exact dyn (fun g e => by cases e) h
      | global g => exact dyn (fun g e => by cases e) h

theorem beq_not {x w : Bool} (h : (x == w) = false) : x = !w := by cases x <;> cases w <;> simp_all

/-- The lexical run, brought forward by reduction. -/
def runF (c : Ctx) (D : DT) (ops : Array Oper) : List Oper → Nat → (Nat → AV) → Heap → ((Nat → AV) → Heap → Prop) → Prop
  | [], _, sl, hp, K => K sl hp
  | o :: os, i, sl, hp, K =>
    match o.guard with
    | none => opK c D i o sl hp fun r H' => runF c D ops os (i + 1) (putA sl o.dst r) H' K
    | some (j, want) =>
      match (ops[j]?).bind (·.dst) with
      | none => False
      | some t =>
        match sl t with
        | .und => runF c D ops os (i + 1) (putA sl o.dst .und) hp K
        | .bool x =>
          match want with
          | true => cond x (opK c D i o (supd sl t (.bool true)) hp fun r H' => runF c D ops os (i + 1) (putA (supd sl t (.bool true)) o.dst r) H' K)
            (runF c D ops os (i + 1) (putA (supd sl t (.bool false)) o.dst .und) hp K)
          | false => cond x (runF c D ops os (i + 1) (putA (supd sl t (.bool true)) o.dst .und) hp K)
            (opK c D i o (supd sl t (.bool false)) hp fun r H' => runF c D ops os (i + 1) (putA (supd sl t (.bool false)) o.dst r) H' K)
        | _ => False

theorem runF_V {c : Ctx} {D : DT} (hD : DOk c.P D) (ops : Array Oper) {K : (Nat → AV) → Heap → Prop} : ∀ (os : List Oper) (i : Nat) (sl : Nat → AV) (hp : Heap), runF c D ops os i sl hp K → runV c ops os i sl hp K
  | [], _, _, _, h => h
  | o :: os, i, sl, hp, h => by
    have exec : opK c D i o sl hp (fun r H' => runF c D ops os (i + 1) (putA sl o.dst r) H' K) → ∃ r H', effR (opA c i o sl) hp (c.b + i * 64) r H' ∧ runV c ops os (i + 1) (putA sl o.dst r) H' K := by
      intro h
      obtain ⟨r, H', e, hk⟩ := opK_ok hD h
      exact ⟨r, H', e, runF_V hD ops os _ _ _ hk⟩
    simp only [runF] at h
    simp only [runV, wantA]
    cases hg : o.guard with
    | none => simp only [hg] at h ⊢; exact exec h
    | some g =>
      obtain ⟨j, want⟩ := g
      simp only [hg] at h ⊢
      cases ht : (ops[j]?).bind (·.dst) with
      | none => simp only [ht] at h
      | some t =>
        simp only [ht] at h ⊢
        cases hs : sl t with
        | und => simp only [hs] at h ⊢; exact runF_V hD ops os _ _ _ h
        | bool x =>
          simp only [hs] at h ⊢
          cases want <;> cases x
          · rw [supd_self hs] at h; exact exec h
          · rw [supd_self hs] at h; exact runF_V hD ops os _ _ _ h
          · rw [supd_self hs] at h; exact runF_V hD ops os _ _ _ h
          · rw [supd_self hs] at h; exact exec h
        | _ => simp only [hs] at h

def oneF (c : Ctx) (D : DT) (ops : Array Oper) (i : Nat) (sl : Nat → AV) (hp : Heap) (K : (Nat → AV) → Heap → Prop) : Prop := match ops[i]? with
  | none => False
  | some o => match o.guard with
    | none => opK c D i o sl hp fun r H' => K (putA sl o.dst r) H'
    | some (j, want) =>
      match (ops[j]?).bind (·.dst) with
      | none => False
      | some t =>
        match sl t with
        | .und => K (putA sl o.dst .und) hp
        | .bool x =>
          match want with
          | true => cond x (opK c D i o (supd sl t (.bool true)) hp fun r H' => K (putA (supd sl t (.bool true)) o.dst r) H') (K (putA (supd sl t (.bool false)) o.dst .und) hp)
          | false => cond x (K (putA (supd sl t (.bool true)) o.dst .und) hp) (opK c D i o (supd sl t (.bool false)) hp fun r H' => K (putA (supd sl t (.bool false)) o.dst r) H')
        | _ => False
def runPF (c : Ctx) (D : DT) (ops : Array Oper) : Pl → (Nat → AV) → Heap → ((Nat → AV) → Heap → Prop) → Prop
  | .nil, sl, hp, K => K sl hp
  | .step k r, sl, hp, K => oneF c D ops k sl hp fun sl hp => runPF c D ops r sl hp K
  | .two k1 k2 r1 r2, sl, hp, K => (oneF c D ops k1 sl hp fun sl hp => runPF c D ops r1 sl hp K) ∧ oneF c D ops k2 sl hp fun sl hp => runPF c D ops r2 sl hp K
theorem oneF_V {c : Ctx} {D : DT} (hD : DOk c.P D) (ops : Array Oper) {i : Nat} {sl : Nat → AV} {hp : Heap} {K K' : (Nat → AV) → Heap → Prop} (h : oneF c D ops i sl hp K) (hk : ∀ sl hp, K sl hp → K' sl hp) : oneV c ops i sl hp K' := by
  unfold oneF at h
  unfold oneV
  cases ho : ops[i]? with
  | none => rw [ho] at h; exact h.elim
  | some o =>
    rw [ho] at h
    simp only at h ⊢
    have exec : opK c D i o sl hp (fun r H' => K (putA sl o.dst r) H') → ∃ r H', effR (opA c i o sl) hp (c.b + i * 64) r H' ∧ K' (putA sl o.dst r) H' := by
      intro h
      obtain ⟨r, H', e, hk'⟩ := opK_ok hD h
      exact ⟨r, H', e, hk _ _ hk'⟩
    simp only [wantA]
    cases hg : o.guard with
    | none => simp only [hg] at h ⊢; exact exec h
    | some g =>
      obtain ⟨j, want⟩ := g
      simp only [hg] at h ⊢
      cases ht : (ops[j]?).bind (·.dst) with
      | none => simp only [ht] at h
      | some t =>
        simp only [ht] at h ⊢
        cases hs : sl t with
        | und => simp only [hs] at h ⊢; exact hk _ _ h
        | bool x =>
          simp only [hs] at h ⊢
          cases want <;> cases x
          · rw [supd_self hs] at h; exact exec h
          · rw [supd_self hs] at h; exact hk _ _ h
          · rw [supd_self hs] at h; exact hk _ _ h
          · rw [supd_self hs] at h; exact exec h
        | _ => simp only [hs] at h
theorem runPF_V {c : Ctx} {D : DT} (hD : DOk c.P D) (ops : Array Oper) {K : (Nat → AV) → Heap → Prop} : ∀ (p : Pl) (sl : Nat → AV) (hp : Heap), runPF c D ops p sl hp K → runPV c ops p sl hp K
  | .nil, _, _, h => h
  | .step _ r, _, _, h => oneF_V hD ops h fun _ _ h => runPF_V hD ops r _ _ h
  | .two _ _ r1 r2, _, _, h => ⟨oneF_V hD ops h.1 fun _ _ h => runPF_V hD ops r1 _ _ h, oneF_V hD ops h.2 fun _ _ h => runPF_V hD ops r2 _ _ h⟩

section
variable {E : Env} {N : Nat} {D : DT}

/-- A region, then the rest. -/
theorem HT_fr (hD : DOk E.P D) {id : Nat} {ops : Array Oper} {y : Code} {σ : AS} {Q : Exit → AS → Prop} (hd : dstOk N ops = true)
    (h : ∀ K : (Nat → AV) → Heap → Nat → Prop, (∀ sl hp b, HT E N y ⟨sl, hp, b⟩ Q → K sl hp b) →
      forceN σ.b fun b => runF ⟨E.P, E.T, E.pf, b, ops.size, b + ops.size * 64, built ops⟩ D ops ops.toList 0 σ.sl σ.hp fun sl hp => K sl hp (b + ops.size * 64)) : HT E N (.seq (.region id ops false) y) σ Q :=
  HT_seq (HT_region hd (runF_V hD _ _ _ _ _ (by have := h (fun sl hp b => HT E N y ⟨sl, hp, b⟩ Q) fun _ _ _ h => h; rw [forceN_eq] at this; exact this)))
theorem HT_fd (hD : DOk E.P D) {id : Nat} {ops : Array Oper} {y : Code} {σ : AS} {Q : Exit → AS → Prop} (hm : E.P.follows .mixedOrders = true) (hd : dstOk N ops = true) (hB : lexI E.pf (built ops) ops ops.size 0 (Array.replicate ops.size false) = true)
    (h : ∀ K : (Nat → AV) → Heap → Nat → Prop, (∀ sl hp b, HT E N y ⟨sl, hp, b⟩ Q → K sl hp b) →
      forceN σ.b fun b => runF ⟨E.P, E.T, E.pf, b, ops.size, b, built ops⟩ D ops ops.toList 0 σ.sl σ.hp fun sl hp => K sl hp (b + ops.size * 64)) : HT E N (.seq (.region id ops true) y) σ Q :=
  HT_seq (HT_draw hm hd hB (runF_V hD _ _ _ _ _ (by have := h (fun sl hp b => HT E N y ⟨sl, hp, b⟩ Q) fun _ _ _ h => h; rw [forceN_eq] at this; exact this)))
theorem HT_fdP (p : Pl) (hD : DOk E.P D) {id : Nat} {ops : Array Oper} {y : Code} {σ : AS} {Q : Exit → AS → Prop} (hm : E.P.follows .mixedOrders = true) (hd : dstOk N ops = true) (hB : okPl E.pf (built ops) ops p ops.size (Array.replicate ops.size false) = true)
    (h : ∀ K : (Nat → AV) → Heap → Nat → Prop, (∀ sl hp b, HT E N y ⟨sl, hp, b⟩ Q → K sl hp b) →
      forceN σ.b fun b => runPF ⟨E.P, E.T, E.pf, b, ops.size, b, built ops⟩ D ops p σ.sl σ.hp fun sl hp => K sl hp (b + ops.size * 64)) : HT E N (.seq (.region id ops true) y) σ Q :=
  HT_seq (HT_plan p hm hd hB (runPF_V hD _ _ _ _ (by have := h (fun sl hp b => HT E N y ⟨sl, hp, b⟩ Q) fun _ _ _ h => h; rw [forceN_eq] at this; exact this)))
theorem HT_fDP (p : Pl) (hD : DOk E.P D) {id : Nat} {ops : Array Oper} {σ : AS} {Q : Exit → AS → Prop} (hm : E.P.follows .mixedOrders = true) (hd : dstOk N ops = true) (hB : okPl E.pf (built ops) ops p ops.size (Array.replicate ops.size false) = true)
    (h : ∀ K : (Nat → AV) → Heap → Nat → Prop, (∀ sl hp b, Q .normal ⟨sl, hp, b⟩ → K sl hp b) →
      forceN σ.b fun b => runPF ⟨E.P, E.T, E.pf, b, ops.size, b, built ops⟩ D ops p σ.sl σ.hp fun sl hp => K sl hp (b + ops.size * 64)) : HT E N (.region id ops true) σ Q :=
  HT_plan p hm hd hB (runPF_V hD _ _ _ _ (by have := h (fun sl hp b => Q .normal ⟨sl, hp, b⟩) fun _ _ _ h => h; rw [forceN_eq] at this; exact this))
/-- A region alone. -/
theorem HT_f (hD : DOk E.P D) {id : Nat} {ops : Array Oper} {σ : AS} {Q : Exit → AS → Prop} (hd : dstOk N ops = true)
    (h : ∀ K : (Nat → AV) → Heap → Nat → Prop, (∀ sl hp b, Q .normal ⟨sl, hp, b⟩ → K sl hp b) →
      forceN σ.b fun b => runF ⟨E.P, E.T, E.pf, b, ops.size, b + ops.size * 64, built ops⟩ D ops ops.toList 0 σ.sl σ.hp fun sl hp => K sl hp (b + ops.size * 64)) : HT E N (.region id ops false) σ Q :=
  HT_region hd (runF_V hD _ _ _ _ _ (by have := h (fun sl hp b => Q .normal ⟨sl, hp, b⟩) fun _ _ _ h => h; rw [forceN_eq] at this; exact this))
theorem HT_fD (hD : DOk E.P D) {id : Nat} {ops : Array Oper} {σ : AS} {Q : Exit → AS → Prop} (hm : E.P.follows .mixedOrders = true) (hd : dstOk N ops = true) (hB : lexI E.pf (built ops) ops ops.size 0 (Array.replicate ops.size false) = true)
    (h : ∀ K : (Nat → AV) → Heap → Nat → Prop, (∀ sl hp b, Q .normal ⟨sl, hp, b⟩ → K sl hp b) →
      forceN σ.b fun b => runF ⟨E.P, E.T, E.pf, b, ops.size, b, built ops⟩ D ops ops.toList 0 σ.sl σ.hp fun sl hp => K sl hp (b + ops.size * 64)) : HT E N (.region id ops true) σ Q :=
  HT_draw hm hd hB (runF_V hD _ _ _ _ _ (by have := h (fun sl hp b => Q .normal ⟨sl, hp, b⟩) fun _ _ _ h => h; rw [forceN_eq] at this; exact this))
end

/-- The results, brought to constructors. -/
def resK (D : DT) (lim : Nat) (sl : Nat → AV) (hp : Heap) : List ResultVar → (List AV → Prop) → Prop
  | [], k => k []
  | .tmp t :: rs, k => forceA2 (sl t) fun a => resK D lim sl hp rs fun l => k (a :: l)
  | .cell a t :: rs, k => loadK D lim t (sl a) hp fun v => resK D lim sl hp rs fun l => k (v :: l)
def retOf : List AV → AV
  | [x] => x
  | l => .tup l
theorem resK_ok {P : Program} {D : DT} (hD : DOk P D) {σ : AS} : ∀ (rs : List ResultVar) (k : List AV → Prop), resK D σ.b σ.sl σ.hp rs k → ∃ l, rs.mapM (res1 P σ.b σ) = some l ∧ k l
  | [], k, h => ⟨[], rfl, h⟩
  | .tmp t :: rs, k, h => by
    simp only [resK, forceA2_eq] at h
    obtain ⟨l, e, hk⟩ := resK_ok hD rs _ h
    exact ⟨σ.sl t :: l, by simp [List.mapM_cons, res1, e], hk⟩
  | .cell a t :: rs, k, h => by
    simp only [resK] at h
    obtain ⟨v, e1, h⟩ := loadK_ok hD h
    obtain ⟨l, e, hk⟩ := resK_ok hD rs _ h
    exact ⟨v :: l, by simp [List.mapM_cons, res1, e, e1], hk⟩
theorem resA_end {P : Program} {D : DT} (hD : DOk P D) {rs : Array ResultVar} {σ : AS} {k : AV → Prop}
    (h : resK D σ.b σ.sl σ.hp rs.toList fun l => k (retOf l)) : ∃ r0, resA P rs σ = some r0 ∧ k r0 := by
  obtain ⟨l, e, hk⟩ := resK_ok hD rs.toList _ h
  exact ⟨retOf l, by unfold resA; rw [e]; cases l with
    | nil => rfl
    | cons x l => cases l <;> rfl, hk⟩
end Go.Eng
