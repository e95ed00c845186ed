import Derived.Test.YtcidmnpihffphaaEngU
namespace Go.Eng
open Go
/-! Slices of ours whose elements are a list of which only the name is known. -/
theorem frzG_aux {E : Env} {N : Nat} {c : Code} {σ : AS} {Q : Exit → AS → Prop} (i : Nat) {cs : List AV} (hi : σ.hp i = some (.cells cs)) (sl' : Nat → AV)
    (hg : ∀ (β β' : Beta) (l : Loc) (vs : List Value), Beta.le β β' → β i = some l → Vs β' cs vs → laid β'.fz l.c l.o vs → ∀ (t : Nat) (v : Value), V β (σ.sl t) v → V β' (sl' t) v)
    (h : HT E N c ⟨sl', upd σ.hp i none, σ.b + 64⟩ Q) : HT E N c σ Q := fun ro F a w hro hF hr => by
  obtain ⟨β, ds, h0, h1, h2, h3, h4⟩ := hr
  obtain ⟨l, hl, hlen, hblk⟩ := h2.own i cs hi
  have hgn : β σ.b = none := by
    cases e : β σ.b with
    | none => rfl
    | some x => exact absurd (h3 σ.b (by rw [e]; simp)) (Nat.lt_irrefl _)
  obtain ⟨β', f1, f2, f3, f4, f5, f6⟩ := h2.freezeRaw (m := cs.length) hi hl hgn hlen
  obtain ⟨vs, hvs, hcell⟩ : ∃ vs : List Value, Vs β cs vs ∧ ∀ (j : Nat) (v : Value), vs[j]? = some v → w.cell? ⟨l.c, l.o + j, none⟩ = some v := by
    have key : ∀ (j : Nat) (a : AV), cs[j]? = some a → ∃ v, w.cell? ⟨l.c, l.o + j, none⟩ = some v ∧ V β a v := fun j a ha => h2.cell hi hl ha
    refine ⟨(List.range cs.length).map fun j => (w.cell? ⟨l.c, l.o + j, none⟩).getD undef, Vs_of_get (by simp) fun j a ha => ?_, fun j v hv => ?_⟩
    · obtain ⟨v, x, y⟩ := key j a ha
      have hj : j < cs.length := (List.getElem?_eq_some_iff.1 ha).1
      exact ⟨v, by simp [hj, x], y⟩
    · have hj : j < cs.length := by
        have := (List.getElem?_eq_some_iff.1 hv).1; simpa using this
      obtain ⟨v', x, y⟩ := key j cs[j] (List.getElem?_eq_some_iff.2 ⟨hj, rfl⟩)
      simp [hj, x] at hv; rw [x, hv]
  refine h ro F a w hro hF ⟨β', ds, ⟨Beta.le.trans h0.le f1, fun j hj => ?_, Nat.le_trans h0.b (Nat.le_add_right _ _), fun c o hc => ?_⟩, fun t => ?_, ?_, fun j hj => ?_, h4⟩
  · rcases f2 j hj with e | e
    · exact h0.dom j e
    · exact .inr (e ▸ h0.b)
  · rcases f6 c o hc with e | e
    · exact h0.fz c o e
    · exact .inr e.1
  · refine hg β β' l vs f1 hl (Vs_mono f1 _ _ hvs) (fun j v hv => ?_) _ _ (h1 t)
    have hj : j < cs.length := by
      have := (List.getElem?_eq_some_iff.1 hv).1; rw [← Vs_length hvs] at this; exact this
    rw [f5 j hj]; exact hcell j v hv
  · refine f4.sub fun j b hb => ?_
    have hne : j ≠ σ.b := fun e => by
      subst e
      simp only [upd] at hb
      split at hb
      · cases hb
      · obtain ⟨x, hx⟩ := h2.locOf hb; rw [hgn] at hx; cases hx
    rw [upd_other _ _ hne]; exact hb
  · rcases f2 j hj with e | e
    · exact Nat.lt_of_lt_of_le (h3 j e) (Nat.le_add_right _ _)
    · subst e; show σ.b < σ.b + 64; omega
theorem frzB_aux {E : Env} {N : Nat} {c : Code} {σ : AS} {Q : Exit → AS → Prop} (i b : Nat) (hib : b ≠ i) {cs bs bs' : List AV} (hi : σ.hp i = some (.cells cs)) (hb : σ.hp b = some (.cells bs)) (hbl : bs'.length ≤ bs.length)
    (hbr : ∀ (β' : Beta) (l : Loc) (vs : List Value), β' i = some l → Vs β' cs vs → laid β'.fz l.c l.o vs → ∀ (j : Nat) (a' : AV), bs'[j]? = some a' → ∃ a, bs[j]? = some a ∧ ∀ v, V β' a v → V β' a' v) (sl' : Nat → AV)
    (hg : ∀ (β β' : Beta) (l : Loc) (vs : List Value), Beta.le β β' → β i = some l → Vs β' cs vs → laid β'.fz l.c l.o vs → ∀ (t : Nat) (v : Value), V β (σ.sl t) v → V β' (sl' t) v)
    (h : HT E N c ⟨sl', upd (upd σ.hp i none) b (some (.cells bs')), σ.b + 64⟩ Q) : HT E N c σ Q := fun ro F a w hro hF hr => by
  obtain ⟨β, ds, h0, h1, h2, h3, h4⟩ := hr
  obtain ⟨l, hl, hlen, hblk⟩ := h2.own i cs hi
  have hgn : β σ.b = none := by
    cases e : β σ.b with
    | none => rfl
    | some x => exact absurd (h3 σ.b (by rw [e]; simp)) (Nat.lt_irrefl _)
  obtain ⟨β', f1, f2, f3, f4, f5, f6⟩ := h2.freezeRaw (m := cs.length) hi hl hgn hlen
  obtain ⟨vs, hvs, hcell⟩ : ∃ vs : List Value, Vs β cs vs ∧ ∀ (j : Nat) (v : Value), vs[j]? = some v → w.cell? ⟨l.c, l.o + j, none⟩ = some v := by
    have key : ∀ (j : Nat) (a : AV), cs[j]? = some a → ∃ v, w.cell? ⟨l.c, l.o + j, none⟩ = some v ∧ V β a v := fun j a ha => h2.cell hi hl ha
    refine ⟨(List.range cs.length).map fun j => (w.cell? ⟨l.c, l.o + j, none⟩).getD undef, Vs_of_get (by simp) fun j a ha => ?_, fun j v hv => ?_⟩
    · obtain ⟨v, x, y⟩ := key j a ha
      have hj : j < cs.length := (List.getElem?_eq_some_iff.1 ha).1
      exact ⟨v, by simp [hj, x], y⟩
    · have hj : j < cs.length := by
        have := (List.getElem?_eq_some_iff.1 hv).1; simpa using this
      obtain ⟨v', x, y⟩ := key j cs[j] (List.getElem?_eq_some_iff.2 ⟨hj, rfl⟩)
      simp [hj, x] at hv; rw [x, hv]
  refine h ro F a w hro hF ⟨β', ds, ⟨Beta.le.trans h0.le f1, fun j hj => ?_, Nat.le_trans h0.b (Nat.le_add_right _ _), fun c o hc => ?_⟩, fun t => ?_, ?_, fun j hj => ?_, h4⟩
  · rcases f2 j hj with e | e
    · exact h0.dom j e
    · exact .inr (e ▸ h0.b)
  · rcases f6 c o hc with e | e
    · exact h0.fz c o e
    · exact .inr e.1
  · refine hg β β' l vs f1 hl (Vs_mono f1 _ _ hvs) (fun j v hv => ?_) _ _ (h1 t)
    have hj : j < cs.length := by
      have := (List.getElem?_eq_some_iff.1 hv).1; rw [← Vs_length hvs] at this; exact this
    rw [f5 j hj]; exact hcell j v hv
  · have f4' : HRel β' (upd σ.hp i none) w (F.Bx ds) := by
      refine f4.sub fun j b hb => ?_
      have hne : j ≠ σ.b := fun e => by
        subst e
        simp only [upd] at hb
        split at hb
        · cases hb
        · obtain ⟨x, hx⟩ := h2.locOf hb; rw [hgn] at hx; cases hx
      rw [upd_other _ _ hne]; exact hb
    refine f4'.recell (cs := bs) (by rw [upd_other _ _ hib]; exact hb) hbl (hbr β' l vs (f1.loc _ _ hl) (Vs_mono f1 _ _ hvs) fun j v hv => ?_)
    have hj : j < cs.length := by
      have := (List.getElem?_eq_some_iff.1 hv).1; rw [← Vs_length hvs] at this; exact this
    rw [f5 j hj]; exact hcell j v hv
  · rcases f2 j hj with e | e
    · exact Nat.lt_of_lt_of_le (h3 j e) (Nat.le_add_right _ _)
    · subst e; show σ.b < σ.b + 64; omega
theorem HT_frz1 {E : Env} {N : Nat} {c : Code} {σ : AS} {Q : Exit → AS → Prop} (t i : Nat) {n sz : Nat} {cs : List AV} (f : Nat → AV) {e : TypeId} (hs : σ.sl t = .so i 0 n sz) (hi : σ.hp i = some (.cells cs)) (hsz : szT E.P e = some sz)
    (hf : ∀ j, j < n → partA E.P e cs (j * sz) = some (f j) ∧ okE E.P e sz (f j)) (h : HT E N c ⟨supd σ.sl t (.lst .free sz n f), upd σ.hp i none, σ.b + 64⟩ Q) : HT E N c σ Q := by
  refine frzG_aux i hi _ (fun β β' l vs hle hl hvs hlaid q v hv => ?_) h
  rw [supd_ap]
  split
  · rename_i e'; subst e'
    rw [hs] at hv
    simp only [V] at hv ⊢
    obtain ⟨l', e1, e2⟩ := hv
    rw [hl] at e1; cases e1
    rcases e2 with ⟨rfl, a, rfl⟩ | ⟨mm, h1, h2, rfl⟩
    · exact ⟨_, _, rfl, Nat.le_refl _, trivial, fun j hj => by omega⟩
    · refine ⟨_, _, rfl, h1, trivial, fun j hj => ?_⟩
      obtain ⟨hp, hok⟩ := hf j hj
      obtain ⟨u, u1, u2, u3⟩ := part_elem hsz hvs hp hok
      refine ⟨_, _, u, rfl, u1, fun k v hk => ?_, u3⟩
      rw [u2] at hk
      rw [Nat.add_zero, Nat.add_assoc]
      exact hlaid _ _ (getElem?_take_drop _ _ _ _ _ hk)
  · exact V_mono hle _ _ hv
/-- An element type: its size; its elements are of one cell, or aggregates of their cells. -/
structure ElOk (P : Program) {α : Type} (enc : α → AV) (e : TypeId) (sz : Nat) : Prop where
  size : szT P e = some sz
  len : ∀ x, (ceE enc x).length = sz
  kind : (aggT P e = some true ∧ ∀ x, enc x = .agg (ceE enc x)) ∨ (aggT P e = some false ∧ sz = 1 ∧ ∀ x, ceE enc x = [enc x] ∧ (enc x).flat = true)
theorem ElOk_agg {P : Program} {D : DT} (hD : DOk P D) {α : Type} {enc : α → AV} {e : TypeId} {d : TD} (h : D e = some d) (ha : d.k.agg = true) (hl : ∀ x, (ceE enc x).length = d.size) (hx : ∀ x, enc x = .agg (ceE enc x)) : ElOk P enc e d.size :=
  ⟨(hD _ _ h).size, hl, .inl ⟨by rw [(hD _ _ h).agg, ha], hx⟩⟩
theorem ElOk_one {P : Program} {D : DT} (hD : DOk P D) {α : Type} {enc : α → AV} {e : TypeId} {d : TD} (h : D e = some d) (ha : d.k.agg = false) (h1 : d.size = 1) (hx : ∀ x, ceE enc x = [enc x] ∧ (enc x).flat = true) : ElOk P enc e 1 :=
  ⟨h1 ▸ (hD _ _ h).size, fun x => by rw [(hx x).1]; rfl, .inr ⟨by rw [(hD _ _ h).agg, ha], rfl, hx⟩⟩
theorem ElOk.part {P : Program} {α : Type} {enc : α → AV} {d : α} {e : TypeId} {sz : Nat} (h : ElOk P enc e sz) (l : List α) : ∀ j, j < l.length → partA P e (flE (ceE enc) l) (j * sz) = some (enc (l.getD j d)) ∧ okE P e sz (enc (l.getD j d)) := fun j hj => by
  have hg : l[j]? = some (l.getD j d) := by rw [List.getD_eq_getElem?_getD, List.getElem?_eq_getElem hj]; rfl
  unfold partA okE
  rcases h.kind with ⟨ha, hx⟩ | ⟨ha, h1, hx⟩
  · rw [ha, h.size]
    refine ⟨?_, fun h => by cases h⟩
    have hle : j * sz + sz ≤ (flE (ceE enc) l).length := by
      rw [flE_len h.len]
      have := Nat.mul_le_mul_right sz (show j + 1 ≤ l.length from hj)
      rw [Nat.add_mul] at this; omega
    simp only [Option.bind_some, hle, if_true]
    rw [flE_part h.len hg, ← hx]
  · rw [ha]
    subst h1
    refine ⟨?_, fun _ => ⟨by trivial, (hx _).2⟩⟩
    have := flE_get h.len (q := 0) hg (by omega)
    rw [Nat.add_zero] at this
    show (flE (ceE enc) l)[j * 1]? = _
    rw [this, (hx _).1]; rfl
/-- A slice of ours, frozen: by the slot in which it lies. -/
theorem HT_frzSK {E : Env} {N : Nat} {c : Code} {σ : AS} {Q : Exit → AS → Prop} (t : Nat) {α : Type} {enc : α → AV} (d : α) {e : TypeId} {sz : Nat} (he : ElOk E.P enc e sz)
    (h : forceN (ptrId (σ.sl t)) fun i => ∃ (n : Nat) (l : List α), σ.sl t = .so i 0 n sz ∧ n = l.length ∧ σ.hp i = some (.cells (flE (ceE enc) l)) ∧ HT E N c ⟨supd σ.sl t (.lst .free sz l.length fun j => enc (l.getD j d)), upd σ.hp i none, σ.b + 64⟩ Q) : HT E N c σ Q := by
  rw [forceN_eq] at h
  obtain ⟨_, l, h1, rfl, h2, h3⟩ := h
  exact HT_frz1 t _ _ h1 h2 he.size (he.part l) h3
theorem so_lst {P : Program} {β' : Beta} {l : Loc} {i n sz : Nat} {cs : List AV} {vs : List Value} {f : Nat → AV} {e : TypeId} (hl : β' i = some l) (hvs : Vs β' cs vs) (hlaid : laid β'.fz l.c l.o vs) (hsz : szT P e = some sz)
    (hf : ∀ j, j < n → partA P e cs (j * sz) = some (f j) ∧ okE P e sz (f j)) {v : Value} (hv : V β' (.so i 0 n sz) v) : V β' (.lst .free sz n f) v := by
  simp only [V] at hv ⊢
  obtain ⟨l', e1, e2⟩ := hv
  rw [hl] at e1; cases e1
  rcases e2 with ⟨rfl, a, rfl⟩ | ⟨mm, h1, h2, rfl⟩
  · exact ⟨_, _, rfl, Nat.le_refl _, trivial, fun j hj => by omega⟩
  · refine ⟨_, _, rfl, h1, trivial, fun j hj => ?_⟩
    obtain ⟨hp, hok⟩ := hf j hj
    obtain ⟨u, u1, u2, u3⟩ := part_elem hsz hvs hp hok
    refine ⟨_, _, u, rfl, u1, fun k v hk => ?_, u3⟩
    rw [u2] at hk
    rw [Nat.add_zero, Nat.add_assoc]
    exact hlaid _ _ (getElem?_take_drop _ _ _ _ _ hk)
def soId : AV → Nat
  | .so i _ _ _ => i
  | _ => 0
def cellAt (hp : Heap) (i q : Nat) : AV := match hp i with
  | some (.cells cs) => (cs[q]?).getD .top
  | _ => .top
/-- A slice of ours that a cell of a box holds, frozen. -/
theorem HT_frzBK {E : Env} {N : Nat} {c : Code} {σ : AS} {Q : Exit → AS → Prop} (t q : Nat) {α : Type} {enc : α → AV} (d : α) {e : TypeId} {sz : Nat} (he : ElOk E.P enc e sz)
    (h : forceN (ptrId (σ.sl t)) fun b => forceN (soId (cellAt σ.hp b q)) fun i => ∃ (bs : List AV) (n : Nat) (l : List α), b ≠ i ∧ σ.hp b = some (.cells bs) ∧ bs[q]? = some (.so i 0 n sz) ∧ n = l.length ∧ σ.hp i = some (.cells (flE (ceE enc) l)) ∧
      forceL (bs.set q (.lst .free sz l.length fun j => enc (l.getD j d))) fun bs' => HT E N c ⟨σ.sl, upd (upd σ.hp i none) b (some (.cells bs')), σ.b + 64⟩ Q) : HT E N c σ Q := by
  simp only [forceN_eq, forceL_eq] at h
  obtain ⟨bs, _, l, h1, h2, h3, rfl, h4, h5⟩ := h
  refine frzB_aux _ _ h1 h4 h2 (by simp) (fun β' lc vs g1 g2 g3 j a' ha => ?_) σ.sl (fun β β' l vs hle _ _ _ t v hv => V_mono hle _ _ hv) h5
  rw [List.getElem?_set] at ha
  split at ha
  · rename_i ej; subst ej
    split at ha
    · cases ha; exact ⟨_, h3, fun v hv => so_lst g1 g2 g3 he.size (he.part l) hv⟩
    · cases ha
  · exact ⟨a', ha, fun v hv => hv⟩
/-- A list of ours that grows. -/
theorem apo_lk {P : Program} {D : DT} {n : Nat} (hD : DOk P D) {α β : Type} {enc : α → AV} {d : α} {t u : TypeId} {e e' : TypeId} {de : TD} {s1 s2 b1 b2 : Nat} {z1 z2 : List AV} {m' : LM} {sz : Nat} {l x : List α} {i id : Nat} {hp : Heap} {k : AV → Heap → Prop} {f : List α → Option β} {Φ : β → Prop}
    (h : W (ap l x f) Φ) (ht : D t = some ⟨.slice e, s1, z1, b1⟩) (hu : D u = some ⟨.slice e', s2, z2, b2⟩) (he : D e = some de)
    (h0 : de.size = sz ∧ 0 < sz ∧ 0 < de.bytes ∧ de.bytes ≤ 1048576 ∧ de.zero.length = sz) (hfl : ∀ y, (ceE enc y).all AV.flat = true) (hln : ∀ y, (ceE enc y).length = sz) (hc : ∀ y, (enc y).cells ≠ none)
    (hi : hp i = some (.cells (flE (ceE enc) l))) (hn : l.length = n)
    (hk : W (f (l ++ x)) Φ → k (.so id 0 (l ++ x).length sz) (upd (upd hp i none) id (some (.cells (flE (ceE enc) (l ++ x)))))) :
    appendK P t u (.so i 0 n sz) (.lst m' sz x.length fun j => enc (x.getD j d)) id hp k := by
  subst hn
  unfold ap at h
  obtain ⟨hlen, h⟩ := W_gd h
  have k1 := (hD _ _ ht).k
  have k2 := (hD _ _ hu).k
  simp only [TKok] at k1 k2
  obtain ⟨rfl, h1, h2, h3, h4⟩ := h0
  have hde := hD _ _ he
  have hxs : ((List.range x.length).flatMap fun j => cellsL (enc (x.getD j d))) = flE (ceE enc) x := by
    unfold flE
    rw [List.flatMap_def, List.flatMap_def]
    congr 1
    refine List.ext_getElem? fun j => ?_
    by_cases hj : j < x.length
    · simp [hj]
    · simp [hj]
  have hall : (flE (ceE enc) x).all AV.flat = true := by
    simp only [List.all_eq_true, flE, List.mem_flatMap]
    rintro a ⟨y, _, hy⟩
    exact List.all_eq_true.1 (hfl y) a hy
  rw [List.length_append] at hk
  rw [flE_app] at hk
  refine appendK_own trivial (fun j hj => hc _) ?_ (hk h)
  unfold appendA
  simp only [k1, k2, hde.size, hde.bytes, hde.zero, Option.bind_some, lenS, cellsOf, if_true, hxs, hall, h1, h2, h3, h4, and_self]
  simp only [hi]
  have e1 := flE_len hln l
  rw [← e1]
  simp only [true_and, hlen, if_true, Nat.le_refl, List.take_length]
/-- A list of ours that begins. -/
theorem apn_lk {P : Program} {D : DT} (hD : DOk P D) {α : Type} {enc : α → AV} {d : α} {t u : TypeId} {e e' : TypeId} {de : TD} {s1 s2 b1 b2 : Nat} {z1 z2 : List AV} {m' : LM} {sz : Nat} {l : List α} {id : Nat} {hp : Heap} {k : AV → Heap → Prop}
    (ht : D t = some ⟨.slice e, s1, z1, b1⟩) (hu : D u = some ⟨.slice e', s2, z2, b2⟩) (he : D e = some de)
    (h0 : de.size = sz ∧ 0 < sz ∧ 0 < de.bytes ∧ de.bytes ≤ 1048576 ∧ de.zero.length = sz) (hfl : ∀ y, (ceE enc y).all AV.flat = true) (hc : ∀ y, (enc y).cells ≠ none)
    (hl2 : l.length ≤ 1048576) (hk : k (.so id 0 l.length sz) (upd hp id (some (.cells (flE (ceE enc) l))))) :
    appendK P t u .nils (.lst m' sz l.length fun j => enc (l.getD j d)) id hp k := by
  have k1 := (hD _ _ ht).k
  have k2 := (hD _ _ hu).k
  simp only [TKok] at k1 k2
  obtain ⟨rfl, h1, h2, h3, h4⟩ := h0
  have hde := hD _ _ he
  have hxs : ((List.range l.length).flatMap fun j => cellsL (enc (l.getD j d))) = flE (ceE enc) l := by
    unfold flE
    rw [List.flatMap_def, List.flatMap_def]
    congr 1
    refine List.ext_getElem? fun j => ?_
    by_cases hj : j < l.length
    · simp [hj]
    · simp [hj]
  have hall : (flE (ceE enc) l).all AV.flat = true := by
    simp only [List.all_eq_true, flE, List.mem_flatMap]
    rintro a ⟨y, _, hy⟩
    exact List.all_eq_true.1 (hfl y) a hy
  refine appendK_own trivial (fun j hj => hc _) ?_ hk
  unfold appendA
  simp only [k1, k2, hde.size, hde.bytes, hde.zero, Option.bind_some, lenS, cellsOf, if_true, hxs, hall, h1, h2, h3, h4, and_self, hl2]
/-- A prefix and a later part of one list of ours, put together where they lie. -/
theorem aps_lk {P : Program} {D : DT} (hD : DOk P D) {α : Type} {enc : α → AV} {t u : TypeId} {e e' : TypeId} {de : TD} {s1 s2 b1 b2 : Nat} {z1 z2 : List AV} {sz : Nat} {l : List α} {i id n a b m : Nat} {hp : Heap} {k : AV → Heap → Prop}
    (ht : D t = some ⟨.slice e, s1, z1, b1⟩) (hu : D u = some ⟨.slice e', s2, z2, b2⟩) (he : D e = some de)
    (h0 : de.size = sz ∧ 0 < sz ∧ 0 < de.bytes ∧ de.bytes ≤ 1048576 ∧ de.zero.length = sz) (hfl : ∀ y, (ceE enc y).all AV.flat = true) (hln : ∀ y, (ceE enc y).length = sz)
    (hi : hp i = some (.cells (flE (ceE enc) l))) (hn : l.length = n) (ha : a ≤ n) (hb : b + m = n) (hl2 : a + m ≤ 1048576) {l' : List α} (hl' : l' = l.take a ++ l.drop b)
    (hk : k (.so id 0 l'.length sz) (upd (upd hp i none) id (some (.cells (flE (ceE enc) l'))))) :
    appendK P t u (.so i 0 a sz) (.so i (0 + b * sz) m sz) id hp k := by
  subst hl' hn
  have k1 := (hD _ _ ht).k
  have k2 := (hD _ _ hu).k
  simp only [TKok] at k1 k2
  obtain ⟨rfl, h1, h2, h3, h4⟩ := h0
  have hde := hD _ _ he
  have hall : ∀ x : List α, (flE (ceE enc) x).all AV.flat = true := fun x => by
    simp only [List.all_eq_true, flE, List.mem_flatMap]
    rintro a ⟨y, _, hy⟩
    exact List.all_eq_true.1 (hfl y) a hy
  have e1 := flE_len hln l
  have e2 : ((flE (ceE enc) l).drop (0 + b * de.size)).take (m * de.size) = flE (ceE enc) (l.drop b) := by
    rw [Nat.zero_add, flE_drop hln, flE_take hln, List.take_of_length_le (by simp; omega)]
  have e3 : (flE (ceE enc) l).take (a * de.size) = flE (ceE enc) (l.take a) := flE_take hln l a
  have e4 : (l.take a ++ l.drop b).length = a + m := by simp; omega
  have hm := Nat.mul_le_mul_right de.size (show a ≤ l.length by omega)
  have hm2 : b * de.size + m * de.size = l.length * de.size := by rw [← Nat.add_mul, hb]
  rw [e4, flE_app] at hk
  refine appendK_own trivial trivial ?_ hk
  unfold appendA
  simp only [k1, k2, hde.size, hde.bytes, hde.zero, Option.bind_some, lenS, cellsOf, hi]
  rw [if_pos ⟨trivial, by omega⟩]
  simp only [Option.bind_some, e2, hall, h1, h2, h3, h4, and_self, if_true]
  rw [if_pos ⟨trivial, trivial, by omega, hl2⟩, e3]
/-- An element (or a part of it) written where it lies. -/
def st {α β : Type} (l : List α) (i : Int) (x : α) (f : List α → Option β) : Option β := f (l.set i.toNat x)
theorem W_st {α β : Type} {l : List α} {i : Int} {x : α} {f : List α → Option β} {Φ : β → Prop} (h : W (st l i x f) Φ) : W (f (l.set i.toNat x)) Φ := h
theorem st_d {α β : Type} (l : List α) (i : Int) (x : α) (f : List α → Option β) : st l i x f = f (l.set i.toNat x) := rfl
theorem st_lk {α β : Type} {enc : α → AV} {d : α} {sz : Nat} {l : List α} {i : Int} {n q m : Nat} {x : α} {xs : List AV} {f : List α → Option β} {Φ : β → Prop} {k : List AV → Prop} (h : W (st l i x f) Φ) (hsz : ∀ x, (ceE enc x).length = sz) (hn : l.length = n) (hi : 0 ≤ i ∧ i < (n : Int)) (hm : xs.length = m) (hq : q + m ≤ sz)
    (hx : splice (ceE enc (l.getD i.toNat d)) q xs = ceE enc x) (hf : xs.all AV.flat = true) (hk : W (f (l.set i.toNat x)) Φ → k (flE (ceE enc) (l.set i.toNat x))) :
    xs.length = m ∧ 0 + i.toNat * sz + q + m ≤ (flE (ceE enc) l).length ∧ xs.all AV.flat = true ∧ forceL (splice (flE (ceE enc) l) (0 + i.toNat * sz + q) xs) k :=
  st_flN (d := d) hsz hn hi hm hq hx hf (hk (W_st h))
attribute [irreducible] st
theorem W_lt {α β : Type} {l : List α} {f : List α → Option β} {Φ : β → Prop} (h : W (lt l f) Φ) : W (f l) Φ := by unfold lt at h; exact h
/-- A list that is made. -/
theorem mks_lk {P : Program} {D : DT} (hD : DOk P D) {α β : Type} {enc : α → AV} (d : α) {t e : TypeId} {de : TD} {s1 b1 : Nat} {z1 : List AV} {n : Int} {id : Nat} {k : AV → AB → Prop} {f : List α → Option β} {Φ : β → Prop} {k1 k2 : IntKind}
    (h : W (gd (0 ≤ n ∧ n ≤ 1048576) (lt (List.replicate n.toNat d) f)) Φ) (ht : D t = some ⟨.slice e, s1, z1, b1⟩) (he : D e = some de) (h0 : 0 < de.size ∧ de.bytes ≤ 1048576 ∧ de.zero.length = de.size) (hz : de.zero = ceE enc d)
    (hk : W (f (List.replicate n.toNat d)) Φ → k (.so id 0 (List.replicate n.toNat d).length de.size) (.cells (flE (ceE enc) (List.replicate n.toNat d)))) : mksK P t (.int k1 n) (.int k2 n) id k := by
  obtain ⟨hn, h⟩ := W_gd h
  unfold lt at h
  have q1 := (hD _ _ ht).k
  simp only [TKok] at q1
  have hde := hD _ _ he
  have hz2 : zerosA de.zero n.toNat = flE (ceE enc) (List.replicate n.toNat d) := by
    unfold zerosA flE
    rw [List.flatMap_def, List.map_replicate, hz]
  have e := hk h
  rw [List.length_replicate, ← hz2] at e
  refine mksK_of (r0 := .sl id 0 n.toNat n.toNat de.size) ?_ (fun β v hv => ?_) e
  · simp only [makeSliceA, q1, hde.size, hde.zero, hde.bytes, Option.bind_some]
    rw [if_pos ⟨hn.1, Int.le_refl _, hn.2, h0.2.1, h0.1, h0.2.2⟩]
  · simp only [V] at hv ⊢
    obtain ⟨l, h1, h2⟩ := hv
    refine ⟨l, h1, ?_⟩
    rcases h2 with ⟨a, _, b⟩ | ⟨a, b, c⟩
    · exact .inl ⟨a, b⟩
    · exact .inr ⟨_, a, b, c⟩
theorem WkR.soN {L : Ren} {i i' o n n' z : Nat} (h : ∀ loc, rloc loc L i' = loc i) (hn : n = n') : WkR L (.so i o n z) (.so i' o n' z) := by subst hn; exact WkR.so h
theorem Wk_tokso {g sz : Nat} {f : Nat → AV} : Wk (.lst (.tok g) sz 0 f) (.so g 0 0 sz) := fun β v hv => by
  simp only [V] at hv ⊢
  obtain ⟨base, cap, rfl, h2, ⟨l, h3, h4⟩, _⟩ := hv
  refine ⟨l, h3, ?_⟩
  rcases h4 with rfl | ⟨o, rfl, h5, h6⟩
  · exact .inl ⟨trivial, _, rfl⟩
  · exact .inr ⟨cap, Nat.zero_le _, by omega, by rw [h5]; simp⟩
theorem lenset {α : Type} {l : List α} {n j : Nat} {x : α} (h : l.length = n) : (l.set j x).length = n := by rw [List.length_set]; exact h
/-- A test of a place. -/
theorem gd_lkN {α : Type} {i : Int} {m n : Nat} {x : Option α} {Φ : α → Prop} {K : Prop} (h : W (gd (0 ≤ i ∧ i < (m : Int)) x) Φ) (hn : m = n) (k : 0 ≤ i ∧ i < (n : Int) → W x Φ → K) : (0 ≤ i ∧ i < (n : Int)) ∧ K := by
  subst hn; exact gd_lk h k
theorem WkR.nilso {L : Ren} {g sz : Nat} (h : ∀ loc, rloc loc L g = some ⟨0, 0, 0⟩) : WkR L .nils (.so g 0 0 sz) := fun β v hv => by
  simp only [V] at hv ⊢
  subst hv
  exact ⟨_, h _, .inl ⟨trivial, none, rfl⟩⟩
theorem BkR_nr {L : Ren} {hp : Heap} {i : Nat} {α : Type} {ce : α → List AV} : BkR L hp i none (.cells (flE ce [])) := rfl
theorem BkR_r {L : Ren} {hp : Heap} {i o : Nat} {α : Type} {ce : α → List AV} {l : List α} (h : hp o = some (.cells (flE ce l))) (hl : ∀ x, ∀ a ∈ ce x, a.loose) : BkR L hp i (some o) (.cells (flE ce l)) := BkR_c h (CkR_all (loose_fl hl l))
theorem weak_r {sl : Nat → AV} {hp : Heap} {b b' : Nat} {l : List (Nat × AV)} {hs hr : List (Nat × AB)}
    (h : forceS sl l fun ps => forceR ((0, some 0) :: (renP ps ++ renH (renP ps) hp hs)) fun L => renOk L b' = true ∧ allL (fun p => WkR L p.1 p.2) ps ∧ allL (fun p => ∃ o, lookR L p.1 = some o ∧ BkR L hp p.1 o p.2) (hs ++ hr)) : ∃ L, Weak L ⟨sl, hp, b⟩ ⟨ofL l, ofH (hs ++ hr), b'⟩ := by
  rw [forceS_eq, forceR_eq] at h
  exact ⟨_, weak_of _ (allL_map (β := AV × AV) (p := fun p => WkR _ p.1 p.2) h.2.1) h.2.2 h.1⟩
section
variable {E : Env} {N : Nat}
/-- HT_lpK with rows of elements. -/
theorem HT_lpR {S R : Type} {c : Code} {σ : AS} {Q : Exit → AS → Prop} {body : S → Option (Ct S R)} {n : Nat} {s : S} {Φ : S ⊕ R → Prop} (hcl : E.cl = true) (h : W (lp body n s) Φ) (ts hsl rsl bsl : List Nat)
    (I : List (Nat × AV) → List (Nat × AB) → List (Nat × AB) → List Nat → Nat → S → AS)
    (H : forceP (keepL σ ts) fun kl => forceHs (keepH σ hsl) fun kh => forceHs (keepH σ rsl) fun kr => forceNs (bsl.map fun t => ptrId (σ.sl t)) fun ids => forceN σ.b fun b =>
      (∃ L, Weak L σ (I kl kh kr ids b s)) ∧ ∀ (s : S) (m : Nat), W (bd (body s) fun c => ctK c (lp body m) (fun s => some (.inl s)) (fun r => some (.inr r))) Φ →
        HT E N c (I kl kh kr ids b s) (Then (fun σ' => ∃ s', W (lp body m s') Φ ∧ ∃ L, Weak L σ' (I kl kh kr ids b s')) Q)) : HT E N (.loop c) σ Q := by
  rw [forceP_eq, forceHs_eq, forceHs_eq, forceNs_eq, forceN_eq] at H
  exact HT_lp hcl h (fun _ s => I _ _ _ _ _ s) H.1 H.2
theorem HT_jnR {V β : Type} {x y : Code} {σ : AS} {Q : Exit → AS → Prop} {f : V → Option β} {g : (V → Option β) → Option β} {Φ : β → Prop} (hcl : E.cl = true) (h : W (jn f g) Φ) (ts hsl rsl bsl : List Nat)
    (I : List (Nat × AV) → List (Nat × AB) → List (Nat × AB) → List Nat → Nat → V → AS)
    (H : forceP (keepL σ ts) fun kl => forceHs (keepH σ hsl) fun kh => forceHs (keepH σ rsl) fun kr => forceNs (bsl.map fun t => ptrId (σ.sl t)) fun ids => forceN σ.b fun b =>
      (∀ s : V, W (f s) Φ → HT E N y (I kl kh kr ids b s) Q) ∧ ∀ k : V → Option β, W (g k) Φ →
        HT E N x σ (Then (fun σ' => ∃ s, W (k s) Φ ∧ ∃ L, Weak L σ' (I kl kh kr ids b s)) Q)) : HT E N (.seq x y) σ Q := by
  rw [forceP_eq, forceHs_eq, forceHs_eq, forceNs_eq, forceN_eq] at H
  refine HT_seq ((H.2 f (W_jn h)).mono fun e σ' q => ?_)
  cases e with
  | normal => obtain ⟨s, h1, L, h2⟩ := q; exact HT_weak hcl h2 (H.1 s h1)
  | _ => exact q
end
end Go.Eng
