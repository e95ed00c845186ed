import Derived.Test.YtcidmnpihffphaaEngE
namespace Go.Eng
open Go.RowKit (Below)

section
variable {P : Program} {β : Beta} {w : World}

theorem choose_list {p : Nat → Value → Prop} : ∀ {cs : List AV} {off : Nat}, (∀ (j : Nat) (a : AV), cs[j]? = some a → ∃ v : Value, p (off + j) v ∧ V β a v) →
    ∃ vs : List Value, Vs β cs vs ∧ ∀ (j : Nat) (v : Value), vs[j]? = some v → p (off + j) v
  | [], off, _ => ⟨[], by simp [Vs], by simp⟩
  | a :: cs, off, h => by
    obtain ⟨v, h1, h2⟩ := h 0 a rfl
    obtain ⟨vs, h3, h4⟩ := choose_list (cs := cs) (off := off + 1) fun j b hb => by
      obtain ⟨u, hu, hv⟩ := h (j + 1) b (by simpa using hb)
      exact ⟨u, by rw [show off + 1 + j = off + (j + 1) by omega]; exact hu, hv⟩
    refine ⟨v :: vs, ⟨v, vs, rfl, h2, h3⟩, fun j u hu => ?_⟩
    cases j with
    | zero => simp at hu; subst hu; exact h1
    | succ j => rw [show off + (j + 1) = off + 1 + j by omega]; exact h4 j u (by simpa using hu)

/-- All cells of a known block. -/
theorem HRel.cellsList {H : Heap} {B : Bd} (h : HRel β H w B) {i : Nat} {cs : List AV} (hi : H i = some (.cells cs)) :
    ∃ (l : Loc) (vs : List Value), β i = some l ∧ Vs β cs vs ∧ ∀ (j : Nat) (v : Value), vs[j]? = some v → w.cell? ⟨l.c, l.o + j, none⟩ = some v := by
  obtain ⟨l, hl⟩ := h.locOf hi
  obtain ⟨vs, h1, h2⟩ := choose_list (β := β) (cs := cs) (off := 0) (p := fun j v => w.cell? ⟨l.c, l.o + j, none⟩ = some v) fun j a ha => by
    obtain ⟨v, x, y⟩ := h.cell hi hl ha
    exact ⟨v, by simpa using x, y⟩
  exact ⟨l, vs, hl, h1, fun j v hv => by simpa using h2 j v hv⟩

theorem loadCellsFrom_run (c o : Nat) : ∀ (vs : List Value) (i : Nat) (acc : Array Value), (∀ (j : Nat) (v : Value), vs[j]? = some v → w.cell? ⟨c, o + (i + j), none⟩ = some v) →
    (loadCellsFrom ⟨c, o, none⟩ i vs.length acc).run P w = .ok (acc ++ vs.toArray) w
  | [], i, acc, _ => by simp [loadCellsFrom]
  | v :: vs, i, acc, h => by
    have h0 := h 0 v rfl
    simp only [Nat.add_zero] at h0
    simp only [List.length_cons, loadCellsFrom, Sem.run_bind, add_none, run_load, h0, Result.andThen_ok]
    rw [loadCellsFrom_run c o vs (i + 1) _ fun j u hu => by
      have := h (j + 1) u (by simpa using hu)
      rw [show o + (i + 1 + j) = o + (i + (j + 1)) by omega]; exact this]
    simp

theorem loadCells_run {c o : Nat} {vs : List Value} (h : ∀ (j : Nat) (v : Value), vs[j]? = some v → w.cell? ⟨c, o + j, none⟩ = some v) {n : Nat} (hn : n = vs.length) :
    (loadCells ⟨c, o, none⟩ n).run P w = .ok vs.toArray w := by
  subst hn
  unfold loadCells
  rw [loadCellsFrom_run c o vs 0 #[] (by simpa using h)]
  simp

theorem getElem?_take_drop {α : Type} (l : List α) (o n j : Nat) (x : α) (h : ((l.drop o).take n)[j]? = some x) : l[o + j]? = some x := by
  rw [List.getElem?_take] at h
  split at h
  · simpa using h
  · simp at h

theorem laid_load {β : Beta} {H : Heap} {B : Bd} (hH : HRel β H w B) {c o : Nat} {vs : List Value} (h : laid β.fz c o vs) : ∀ (j : Nat) (v : Value), vs[j]? = some v → w.cell? ⟨c, o + j, none⟩ = some v :=
  fun j v hj => hH.fz _ _ _ (h j v hj)

theorem loadPart {c o off : Nat} {vs : List Value} {cs : List AV} (hvs : Vs β cs vs) (hcell : ∀ (j : Nat) (v : Value), vs[j]? = some v → w.cell? ⟨c, o + j, none⟩ = some v) {t : TypeId} {r : AV} (h : partA P t cs off = some r) :
    ∃ z, (Instr.loadAt t (.pointer (some ⟨c, o + off, none⟩))).run P w = .ok z w ∧ V β r z := by
  unfold partA at h
  split at h
  · rename_i ha
    obtain ⟨n, hn, h⟩ := bind_some' h
    split at h <;> (try (simp at h; done))
    rename_i hle
    cases h
    have hlen := Vs_length hvs
    have hrun := loadCells_run (P := P) (w := w) (c := c) (o := o + off) (vs := (vs.drop off).take n) (n := n)
      (fun j v hj => by have := hcell _ _ (getElem?_take_drop _ _ _ _ _ hj); rw [Nat.add_assoc]; exact this)
      (by simp; omega)
    exact ⟨_, by simp [Instr.loadAt, Instr.sureAddr, loadVar, run_isAgg' ha, run_size hn, hrun]; rfl, by simp only [V]; exact ⟨(vs.drop off).take n, by simp, Vs_take (Vs_drop hvs off) n⟩⟩
  · rename_i ha
    obtain ⟨v, h1, h2⟩ := Vs_get hvs off r h
    have := hcell _ _ h1
    exact ⟨v, by simp [Instr.loadAt, Instr.sureAddr, loadVar, run_isAgg' ha, this], h2⟩
  · simp at h

theorem load_ok {H : Heap} {B : Bd} {lim : Nat} (hH : HRel β H w B) {t : TypeId} {p r : AV} {u : Value} (h : loadA P lim t p H = some r) (hp : V β p u) :
    ∃ z, (Instr.loadAt t u).run P w = .ok z w ∧ V β r z := by
  unfold loadA at h
  split at h <;> (try (simp at h; done))
  · rename_i i o
    split at h <;> (try (simp at h; done))
    split at h <;> (try (simp at h; done))
    rename_i cs hi
    obtain ⟨l, hl, rfl⟩ := V_ptr hp
    obtain ⟨l', vs, hl', hvs, hcell⟩ := hH.cellsList hi
    rw [hl] at hl'; cases hl'
    exact loadPart hvs hcell h
  · rename_i cs o
    obtain ⟨c, q, vs, rfl, h1, h2⟩ := V_ep hp
    exact loadPart h2 (laid_load hH h1) h

/-- The map with one place more. -/
theorem le_put {id : Nat} {l : Loc} (h : β id = none) : Beta.le β (β.put id l) :=
  ⟨fun i x hx => by
    have : i ≠ id := fun e => by rw [e, h] at hx; cases hx
    rw [put_other _ _ this]; exact hx, fun _ _ _ h => h⟩
theorem put_dom {id : Nat} {l : Loc} (j : Nat) (hj : (β.put id l) j ≠ none) : β j ≠ none ∨ j = id := by
  by_cases e : j = id
  · exact .inr e
  · rw [put_other _ _ e] at hj; exact .inl hj
theorem HRel.put {H : Heap} {B : Bd} (h : HRel β H w B) {id : Nat} (l : Loc) (hid : β id = none) : HRel (β.put id l) H w B := h.mono (le_put hid) rfl rfl

theorem heap_none {H : Heap} {B : Bd} (hH : HRel β H w B) {id : Nat} (h : β id = none) : H id = none := by
  cases hi : H id with
  | none => rfl
  | some b => obtain ⟨l, hl⟩ := hH.locOf hi; rw [h] at hl; cases hl

/-- A new block, its first cells known. -/
theorem HRel.new {H : Heap} {B : Bd} (hH : HRel β H w B) (hB : B.top w.heap.size) {id : Nat} (hid : β id = none) {cs : List AV} {vs sp : List Value} (hv : Vs β cs vs) (e : TypeId) :
    HRel (β.put id ⟨w.heap.size, 0, vs.length + sp.length⟩) (upd H id (some (.cells cs))) (w.alloc (.cells (vs ++ sp).toArray e)) B := by
  have hle := le_put (l := ⟨w.heap.size, 0, vs.length + sp.length⟩) hid
  have h1 : HRel β H (w.alloc (.cells (vs ++ sp).toArray e)) B := hH.keep (BelowP.alloc w (Nat.le_refl _) _)
  have hlen := Vs_length hv
  refine (h1.put _ hid).add (l := ⟨w.heap.size, 0, vs.length + sp.length⟩) (put_same _ _ _) (by simp; omega) (fun _ => ⟨hB.at, fun o _ _ => hH.fz_none (Nat.le_refl _) o, (vs ++ sp).toArray, e, ?_, by simp, fun j a ha => ?_⟩) ?_ (fun _ hy => absurd (hH.ys _ hy).2 (by simp))
  · show (w.heap.push _)[w.heap.size]? = _
    simp
  · obtain ⟨v, x, y⟩ := Vs_get hv j a ha
    have hj : j < vs.length := (List.getElem?_eq_some_iff.1 x).1
    exact ⟨v, by simp [List.getElem?_append_left hj, x], V_mono hle _ _ y⟩
  · intro _ j b lj hj hb hlj hk
    rw [put_other _ _ hj] at hlj
    have := (hH.lt_of_own hb hlj hk).1
    simp; omega

/-- A new block, its first cells frozen, the others ours. -/
theorem HRel.newF {H : Heap} {B : Bd} (hH : HRel β H w B) (hB : B.top w.heap.size) {id : Nat} (hid : β id = none) (vs sp : List Value) (e : TypeId) :
    ∃ β', Beta.le β β' ∧ (∀ j, β' j ≠ none → β j ≠ none ∨ j = id) ∧ β' id = some ⟨w.heap.size, vs.length, sp.length⟩ ∧ laid β'.fz w.heap.size 0 vs ∧
      HRel β' (upd H id (some (.cells []))) (w.alloc (.cells (vs ++ sp).toArray e)) B ∧ (∀ c o, β'.fz c o ≠ none → β.fz c o ≠ none ∨ B c) := by
  let φ : Nat → Nat → Option Value := fun c o => if c = w.heap.size then vs[o]? else β.fz c o
  let β' : Beta := ⟨upd β.loc id (some ⟨w.heap.size, vs.length, sp.length⟩), φ, β.ys⟩
  have hle : Beta.le β β' := ⟨fun j x hx => by
      have : j ≠ id := fun e => by rw [e, hid] at hx; cases hx
      show upd β.loc id _ j = _
      rw [upd_other _ _ this]; exact hx, fun c o v hv => by
      show φ c o = some v
      have : c ≠ w.heap.size := fun e => by rw [e, hH.fz_none (Nat.le_refl _)] at hv; cases hv
      simp only [φ, if_neg this]; exact hv⟩
  have hnew : (w.alloc (.cells (vs ++ sp).toArray e)).heap[w.heap.size]? = some (.cells (vs ++ sp).toArray e (0, 0)) := by
    show (w.heap.push _)[w.heap.size]? = _
    simp
  refine ⟨β', hle, fun j hj => ?_, by show upd β.loc id _ id = _; simp, fun k v hk => ?_, ?_, fun c o hc => ?_⟩
  · by_cases e : j = id
    · exact .inr e
    · left; change upd β.loc id _ j ≠ none at hj; rw [upd_other _ _ e] at hj; exact hj
  · show φ w.heap.size (0 + k) = some v
    simp only [φ, if_true, Nat.zero_add]; exact hk
  · have h0 : HRel β H (w.alloc (.cells (vs ++ sp).toArray e)) B := hH.keep (BelowP.alloc w (Nat.le_refl _) _)
    have h1 : HRel β' H (w.alloc (.cells (vs ++ sp).toArray e)) B := by
      constructor
      · intro c o v hv
        change φ c o = some v at hv
        by_cases hc : c = w.heap.size
        · subst hc
          simp only [φ, if_true] at hv
          have ho : o < vs.length := (List.getElem?_eq_some_iff.1 hv).1
          simp only [World.cell?, hnew]
          simp [List.getElem?_append_left ho, hv]
        · simp only [φ, if_neg hc] at hv
          exact h0.fz _ _ _ hv
      · intro j xs hj
        obtain ⟨lj, e1, e2, e3⟩ := h0.own j xs hj
        refine ⟨lj, hle.loc _ _ e1, e2, fun hk => ?_⟩
        obtain ⟨a1, a2, full, e, a3, a4, a5⟩ := e3 hk
        refine ⟨a1, fun o ho1 ho2 => ?_, full, e, a3, a4, fun k a ha => let ⟨v, x, y⟩ := a5 k a ha; ⟨v, x, V_mono hle _ _ y⟩⟩
        show φ lj.c o = none
        have : lj.c ≠ w.heap.size := by have := (hH.lt_of_own hj e1 hk).1; omega
        simp only [φ, if_neg this]; exact a2 o ho1 ho2
      · intro j es clk hj
        obtain ⟨lj, e1, e2, e3, ents, e4, e5⟩ := h0.map j es clk hj
        exact ⟨lj, hle.loc _ _ e1, e2, e3, ents, e4, e5.mono hle⟩
      · intro a b ba bb la lb hne' ha hb ea eb pa pb
        obtain ⟨l1, f1⟩ := h0.locOf ha
        obtain ⟨l2, f2⟩ := h0.locOf hb
        have := same_loc hle f1 ea; subst this
        have := same_loc hle f2 eb; subst this
        exact h0.sep a b ba bb _ _ hne' ha hb f1 f2 pa pb
      · exact h0.ys
      · intro j b lj hj ej pj
        obtain ⟨l1, f1⟩ := h0.locOf hj
        have := same_loc hle f1 ej; subst this
        exact h0.yo j b _ hj f1 pj
      · intro j S G s hj
        obtain ⟨lj, f1, f2, f3, f4, f5⟩ := h0.gh j S G s hj
        refine ⟨lj, hle.loc _ _ f1, f2, f3, fun c o v hc hv => ?_, fun c o v hv => hle.fz c o v (f5 c o v hv)⟩
        change φ c o = some v at hv
        have : c ≠ w.heap.size := by have := (hH.ys c hc).2; omega
        simp only [φ, if_neg this] at hv
        exact f4 c o v hc hv
      · exact h0.gh1
      · intro j sz es clk ho hj
        obtain ⟨lj, e1, e2, e3, ents, e4, e5, e6⟩ := h0.mps j sz es clk ho hj
        refine ⟨lj, hle.loc _ _ e1, e2, e3, ents, e4, e5.mono hle, e6.mono (fun _ h => h) (fun c q hc hq => ?_) fun _ _ => rfl⟩
        show φ c q = none
        have : c ≠ w.heap.size := by have := (hH.ys c hc).2; omega
        simp only [φ, if_neg this]; exact hq
      · exact h0.mp1
    refine h1.add (l := ⟨w.heap.size, vs.length, sp.length⟩) (by show upd β.loc id _ id = _; simp) (by simp) (fun hk => ⟨hB.at, fun o ho1 ho2 => ?_, _, e, hnew, by simp, fun k a ha => by simp at ha⟩) (fun hk j b lj hj hb hlj hkj => ?_) (fun _ hy => absurd (hH.ys _ hy).2 (by simp))
    · show φ w.heap.size o = none
      simp only at ho1
      simp only [φ, if_true]
      exact List.getElem?_eq_none ho1
    · obtain ⟨l1, f1⟩ := hH.locOf hb
      have := same_loc hle f1 hlj; subst this
      have := (hH.lt_of_own hb f1 hkj).1
      simp only; omega
  · by_cases hh : c = w.heap.size
    · exact .inr (hh ▸ hB.at)
    · left; change φ c o ≠ none at hc; simp only [φ, if_neg hh] at hc; exact hc

theorem box_ok {H : Heap} {B : Bd} (hH : HRel β H w B) (hB : B.top w.heap.size) {id : Nat} (hid : β id = none) {t : TypeId} {x : AV} {u : Value} {z : List AV} (h : x.cells = some z) (hx : V β x u) :
    ∃ β' w', (Instr.box t u).run P w = .ok (.pointer (some ⟨w.heap.size, 0, none⟩)) w' ∧ Beta.le β β' ∧ (∀ j, β' j ≠ none → β j ≠ none ∨ j = id) ∧ V β' (.ptr id 0) (.pointer (some ⟨w.heap.size, 0, none⟩)) ∧
      HRel β' (upd H id (some (.cells z))) w' B ∧ BelowP (fun c => w.heap.size ≤ c) w w' ∧ β'.fz = β.fz := by
  have hv := cells_ok h hx
  have hn := hH.new hB hid (sp := []) hv t
  refine ⟨_, w.alloc (.cells (u.cells.toList ++ []).toArray t), ?_, le_put hid, put_dom, by simp only [V]; exact ⟨_, put_same _ _ _, by simp⟩, hn, BelowP.alloc _ (Nat.le_refl _) _, rfl⟩
  simp [Instr.box, newVar, newRow]

theorem alloc_ok {H : Heap} {B : Bd} (hH : HRel β H w B) (hB : B.top w.heap.size) {id : Nat} (hid : β id = none) {t : TypeId} {z : List AV} (h : zeroT P t = some z) :
    ∃ β' w', (Instr.alloc t true (.tuple #[])).run P w = .ok (.pointer (some ⟨w.heap.size, 0, none⟩)) w' ∧ Beta.le β β' ∧ (∀ j, β' j ≠ none → β j ≠ none ∨ j = id) ∧ V β' (.ptr id 0) (.pointer (some ⟨w.heap.size, 0, none⟩)) ∧
      HRel β' (upd H id (some (.cells z))) w' B ∧ BelowP (fun c => w.heap.size ≤ c) w w' ∧ β'.fz = β.fz := by
  obtain ⟨v, hz, hv⟩ := zeroT_ok (β := β) (w := w) h
  have hn := hH.new hB hid (sp := []) hv t
  refine ⟨_, w.alloc (.cells (v.cells.toList ++ []).toArray t), ?_, le_put hid, put_dom, by simp only [V]; exact ⟨_, put_same _ _ _, by simp⟩, hn, BelowP.alloc _ (Nat.le_refl _) _, rfl⟩
  simp [Instr.alloc, hz, newVar, newRow]

theorem Vs_replicate {zs : List AV} {vs : List Value} (h : Vs β zs vs) : ∀ n : Nat, Vs β (zerosA zs n) (List.replicate n vs).flatten
  | 0 => by simp [zerosA, Vs]
  | n + 1 => by
    have := Vs_append h (Vs_replicate h n)
    simpa [zerosA, List.replicate_succ] using this

theorem flatten_len (vs : List Value) (n : Nat) : ((List.replicate n vs).flatten).length = n * vs.length := by simp

theorem fill_len (sz : Nat) : ∀ (parts : List (Nat × AV)) (cs cs' : List AV), fillA (fun i => some (i * sz, sz)) cs parts = some cs' → cs'.length = cs.length := by
  intro parts
  induction parts with
  | nil => intro cs cs' h; simp [fillA] at h; rw [h]
  | cons p parts ih =>
    intro cs cs' h
    obtain ⟨i, x⟩ := p
    simp only [fillA] at h
    split at h <;> (try (simp at h; done))
    split at h <;> (try (simp at h; done))
    rename_i hh; rename_i e3 _
    rw [ih _ _ h, splice_len]
    obtain ⟨rfl, hle⟩ := hh
    simp only [Option.some.injEq, Prod.mk.injEq] at e3
    obtain ⟨rfl, _⟩ := e3
    exact hle

theorem buildCells_ok {t : TypeId} {len : Nat} {parts : List (Nat × AV)} {ps : Array (Nat × Value)} {e : TypeId} {sz : Nat} {cs : List AV}
    (h : buildCellsA P t len parts = some (e, sz, cs)) (h1 : parts.map (·.1) = ps.toList.map (·.1)) (h2 : Vs β (parts.map (·.2)) (ps.toList.map (·.2))) :
    szT P e = some sz ∧ 0 < sz ∧ cs.length = len * sz ∧ ∃ vs : List Value, Vs β cs vs ∧ (Instr.buildSlice t len ps).run P w = .ok (.slice (some ⟨w.heap.size, 0, none⟩) len len) (w.alloc (.cells (vs ++ []).toArray e)) := by
  unfold buildCellsA at h
  split at h <;> (try (simp at h; done))
  rename_i e hu
  obtain ⟨sz, hsz, h⟩ := bind_some' h
  obtain ⟨z, hz, h⟩ := bind_some' h
  split at h <;> (try (simp at h; done))
  rename_i hc
  obtain ⟨hbig, hpos, hzl⟩ := hc
  obtain ⟨cs, hcs, he⟩ := Option.map_eq_some_iff.1 h
  cases he
  obtain ⟨v, hzv, hv⟩ := zeroT_ok (β := β) (w := w) hz
  have hvl := Vs_length hv
  have hcsz : v.cells.size = sz := by rw [← hzl, hvl]; simp
  obtain ⟨vs', hf, hv'⟩ := fill_ok (pl := fun i => some (i * sz, sz)) (fun i p e => e) parts ps.toList hcs (Vs_replicate hv len) h1 h2
  refine ⟨hsz, hpos, ?_, vs', hv', ?_⟩
  · rw [fill_len _ _ _ _ hcs]; simp [zerosA, hzl]
  have hzero : ((Array.range (len * sz)).map fun i => v.cells[i % v.cells.size]!) = ((List.replicate len v.cells.toList).flatten).toArray := by
    apply Array.toList_inj.1
    have := zeros_eq v.cells (by omega) len
    rw [hcsz] at this ⊢
    simpa using this
  have hnb : ¬ (2 ^ 24 < len * sz) := by omega
  by_cases h0 : len * sz = 0
  · have hl0 : len = 0 := by
      rcases Nat.mul_eq_zero.1 h0 with h | h
      · exact h
      · omega
    subst hl0
    simp at hf
    have hr0 : Array.range 0 = #[] := rfl
    simp [Instr.buildSlice, run_und hu, run_size hsz, hf, newRow, hr0]
  · simp only [Instr.buildSlice, Sem.run_bind, run_und hu, run_size hsz, Result.andThen_ok]
    simp only [gt_iff_lt, hnb, if_false, h0, Sem.run_bind, hzv, Result.andThen_ok, Sem.run_pure]
    rw [hzero, hf]
    simp [newRow]

/-- An element of a row of cells, as a value. -/
theorem part_elem {e : TypeId} {sz : Nat} (hsz : szT P e = some sz) {cs : List AV} {vs : List Value} (hv : Vs β cs vs) {off : Nat} {r : AV} (h : partA P e cs off = some r) (hok : okE P e sz r) :
    ∃ u : Value, u.cells.size = sz ∧ u.cells.toList = (vs.drop off).take sz ∧ V β r u := by
  have hl := Vs_length hv
  unfold partA at h
  split at h
  · rw [hsz] at h
    simp only [Option.bind_some] at h
    split at h <;> (try (simp at h; done))
    cases h
    refine ⟨.agg ((vs.drop off).take sz).toArray, by simp [Value.cells]; omega, by simp [Value.cells], by simp only [V]; exact ⟨_, rfl, Vs_take (Vs_drop hv off) sz⟩⟩
  · rename_i ha
    obtain ⟨rfl, hflat⟩ := hok ha
    obtain ⟨u, h1, h2⟩ := Vs_get hv off r h
    have hlt : off < vs.length := (List.getElem?_eq_some_iff.1 h1).1
    have htk : (vs.drop off).take 1 = [u] := by
      rw [List.drop_eq_getElem_cons hlt, List.take_succ_cons, List.take_zero]
      rw [List.getElem?_eq_some_iff] at h1; obtain ⟨_, h1⟩ := h1; rw [h1]
    have hc : r.cells = some [r] := by cases r <;> first | rfl | simp [AV.flat] at hflat
    obtain ⟨u', us, e1, e2, e3⟩ := cells_ok hc h2
    simp only [Vs] at e3
    subst e3
    have hu : u.cells = #[u] := by
      have hone := flat_ok hflat h2
      cases r <;> simp only [AV.flat, Bool.false_eq_true] at hflat
      all_goals
        have h3 := h2
        simp only [V] at h3
      case ptr => obtain ⟨l, _, rfl⟩ := h3; rfl
      case ep => obtain ⟨_, _, _, rfl, _⟩ := h3; rfl
      case sl => obtain ⟨l, _, h⟩ := h3; rcases h with ⟨_, _, a, rfl⟩ | ⟨_, _, rfl⟩ <;> rfl
      case so => obtain ⟨l, _, h⟩ := h3; rcases h with ⟨_, a, rfl⟩ | ⟨_, _, _, rfl⟩ <;> rfl
      case lst => obtain ⟨_, _, rfl, _⟩ := h3; rfl
      case mp => obtain ⟨l, _, rfl⟩ := h3; rfl
      case yld => obtain ⟨l, _, rfl⟩ := h3; rfl
      case fn => obtain ⟨l, m, rfl, _⟩ := h3; rfl
      all_goals subst h3; rfl
    exact ⟨u, by simp [hu], by rw [htk, hu], h2⟩
  · simp at h

theorem buildSlice_ok {H : Heap} {B : Bd} (hH : HRel β H w B) (hB : B.top w.heap.size) {id : Nat} (hid : β id = none) {t : TypeId} {len : Nat} {parts : List (Nat × AV)} {ps : Array (Nat × Value)} {r : AV} {blk : AB}
    (h : buildSliceR P t len parts id r blk) (h1 : parts.map (·.1) = ps.toList.map (·.1)) (h2 : Vs β (parts.map (·.2)) (ps.toList.map (·.2))) :
    ∃ β' w' v, (Instr.buildSlice t len ps).run P w = .ok v w' ∧ Beta.le β β' ∧ (∀ j, β' j ≠ none → β j ≠ none ∨ j = id) ∧ V β' r v ∧ HRel β' (upd H id (some blk)) w' B ∧ BelowP (fun c => w.heap.size ≤ c) w w' ∧ (∀ c o, β'.fz c o ≠ none → β.fz c o ≠ none ∨ B c) := by
  obtain ⟨e, sz, cs, hb, hr⟩ := h
  obtain ⟨hsz, hpos, hlen, vs, hv, hrun⟩ := buildCells_ok (P := P) (w := w) hb h1 h2
  have hvl := Vs_length hv
  rcases hr with ⟨rfl, rfl⟩ | ⟨f, rfl, rfl, hf⟩
  · have hn := hH.new hB hid (sp := []) hv e
    refine ⟨_, _, _, hrun, le_put hid, put_dom, ?_, hn, BelowP.alloc _ (Nat.le_refl _) _, fun c o h => .inl h⟩
    simp only [V]
    exact ⟨_, put_same _ _ _, .inr ⟨Nat.le_refl _, by simp; omega, by simp⟩⟩
  · obtain ⟨β', g1, g2, g3, g4, g5, g6⟩ := hH.newF hB hid vs [] e
    refine ⟨β', _, _, hrun, g1, g2, ?_, g5, BelowP.alloc _ (Nat.le_refl _) _, g6⟩
    simp only [V]
    refine ⟨_, _, rfl, Nat.le_refl _, rfl, fun j hj => ?_⟩
    obtain ⟨hp, hok⟩ := hf j hj
    obtain ⟨u, u1, u2, u3⟩ := part_elem hsz hv hp hok
    refine ⟨_, _, u, rfl, u1, fun k v hk => ?_, V_mono g1 _ _ u3⟩
    rw [u2] at hk
    have := g4 _ _ (getElem?_take_drop _ _ _ _ _ hk)
    rw [Nat.zero_add] at this
    rw [Nat.zero_add]; exact this

end
end Go.Eng
