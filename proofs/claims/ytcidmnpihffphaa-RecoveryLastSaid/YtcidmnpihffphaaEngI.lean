import Derived.Test.YtcidmnpihffphaaEngH
namespace Go.Eng
open Go.RowKit (Below)

section
variable {P : Program} {β : Beta} {w : World}

/-- How a map of places grows at an operation. -/
structure Ext (β β' : Beta) (B : Bd) (id : Nat) : Prop where
  le : Beta.le β β'
  dom : ∀ j, β' j ≠ none → β j ≠ none ∨ j = id
  fz : ∀ c o, β'.fz c o ≠ none → β.fz c o ≠ none ∨ B c
theorem Ext.refl (β : Beta) (B : Bd) (id : Nat) : Ext β β B id := ⟨Beta.le.refl _, fun _ h => .inl h, fun _ _ h => .inl h⟩
theorem Ext.put {id : Nat} {l : Loc} (hid : β id = none) (B : Bd) : Ext β (β.put id l) B id := ⟨le_put hid, put_dom, fun _ _ h => .inl h⟩

/-- A new array for an appended slice of ours. -/
theorem append_new_ok {H : Heap} {B : Bd} (hH : HRel β H w B) (hB : B.top w.heap.size) {id : Nat} (hid : β id = none) {cs : List AV} {vs : List Value} {e : TypeId} {zv : Value} {n sz cap : Nat} (hv : Vs β cs vs) (hl : cs.length = n * sz) (hz : zv.cells.size = sz) (hcap : n ≤ cap) :
    ∃ β', Ext β β' B id ∧ V β' (.so id 0 n sz) (.slice (some ⟨w.heap.size, 0, none⟩) n cap) ∧
      HRel β' (upd H id (some (.cells cs))) (w.drew.alloc (.cells (vs ++ (Builtin.zeroCells zv.cells (cap - n)).toList).toArray e)) B ∧
      BelowP B w (w.drew.alloc (.cells (vs ++ (Builtin.zeroCells zv.cells (cap - n)).toList).toArray e)) := by
  have hn := hH.drew.new hB hid (sp := (Builtin.zeroCells zv.cells (cap - n)).toList) hv e
  refine ⟨_, Ext.put hid B, ?_, hn, BelowP.of hB (BelowP.allocDrew w (Nat.le_refl w.heap.size) _)⟩
  simp only [V]
  refine ⟨_, put_same _ _ _, .inr ⟨cap, hcap, ?_, by simp⟩⟩
  have := Vs_length hv
  simp only [Array.length_toList, zeroCells_size, hz]
  have h1 := Nat.mul_le_mul_right sz hcap
  rw [Nat.sub_mul]
  omega

/-- A new array for an appended list. -/
theorem append_newF_ok {H : Heap} {B : Bd} (hH : HRel β H w B) (hB : B.top w.heap.size) {id : Nat} (hid : β id = none) {us : Nat → Value} {fr : Nat → AV} {e : TypeId} {zv : Value} {n sz cap : Nat} (hu : ∀ j, j < n → (us j).cells.toList.length = sz ∧ V β (fr j) (us j)) (hz : zv.cells.size = sz) (hcap : n ≤ cap)
    {vs : List Value} (hvs : vs = (List.range n).flatMap fun j => (us j).cells.toList) :
    ∃ β', Ext β β' B id ∧ V β' (.lst (.tok id) sz n fr) (.slice (some ⟨w.heap.size, 0, none⟩) n cap) ∧
      HRel β' (upd H id (some (.cells []))) (w.drew.alloc (.cells (vs ++ (Builtin.zeroCells zv.cells (cap - n)).toList).toArray e)) B ∧
      BelowP B w (w.drew.alloc (.cells (vs ++ (Builtin.zeroCells zv.cells (cap - n)).toList).toArray e)) := by
  obtain ⟨β', g1, g2, g3, g4, g5, g6⟩ := hH.drew.newF hB hid vs (Builtin.zeroCells zv.cells (cap - n)).toList e
  have hlen : vs.length = n * sz := by rw [hvs]; exact flat_len n fun j hj => (hu j hj).1
  refine ⟨β', ⟨g1, g2, g6⟩, ?_, g5, BelowP.of hB (BelowP.allocDrew w (Nat.le_refl w.heap.size) _)⟩
  refine lst_of (us := us) hcap ⟨_, g3, .inr ⟨0, rfl, by rw [hlen, Nat.zero_add], ?_⟩⟩ (fun j hj => ⟨(hu j hj).1, V_mono g1 _ _ (hu j hj).2⟩) fun _ => ⟨_, _, rfl, by rw [← hvs]; exact g4⟩
  simp only [Array.length_toList, zeroCells_size, hz]
  have h1 := Nat.mul_le_mul_right sz hcap
  rw [Nat.sub_mul]
  omega

theorem append_ok {H H' : Heap} {B : Bd} (hH : HRel β H w B) (hB : B.top w.heap.size) {id : Nat} (hid : β id = none) {t u ty : TypeId} {s x r : AV} {sv xv : Value} (hoks : cellsOk s) (hok : cellsOk x) (h : appendA P t u s x id H = some (r, H')) (hs : V β s sv) (hx : V β x xv) :
    ∃ β' w' v, (Builtin.append_ #[t, u] ty #[sv, xv]).run P w = .ok v w' ∧ Ext β β' B id ∧ V β' r v ∧ HRel β' H' w' B ∧ BelowP B w w' := by
  unfold appendA at h
  split at h <;> (try (simp at h; done))
  rename_i e d ht hu
  obtain ⟨sz, hsz, h1⟩ := bind_some' h
  obtain ⟨by_, hby, h2⟩ := bind_some' h1
  obtain ⟨k, hk, h3⟩ := bind_some' h2
  obtain ⟨xs, hxs, h4⟩ := bind_some' h3
  obtain ⟨z, hz, h5⟩ := bind_some' h4
  clear h h1 h2 h3 h4
  rename _ => h
  split at h <;> (try (simp at h; done))
  rename_i hc
  obtain ⟨hpos, hb0, hb, hflat, hzl⟩ := hc
  obtain ⟨zv, hzv, hzV⟩ := zeroT_ok (β := β) (w := w) hz
  have hzall := zero_all (P := P) hz hzv
  have hzsz : zv.cells.size = sz := by rw [← hzl, Vs_length hzV]; simp
  obtain ⟨news, hnv, hnl, hlenx, hfirst⟩ := cellsOf_ok (P := P) hH hxs hk hok hx
  have hnewsl : news.length = k * sz := by rw [← Vs_length hnv, hnl]
  have hlenAll : ∀ w', (w' = w ∨ w' = w.drew) → (Builtin.lenOf xv).run P w' = .ok k w' := fun w' h => by
    rcases h with rfl | rfl
    · exact hlenx
    · obtain ⟨_, _, _, h1, _⟩ := cellsOf_ok (P := P) hH.drew hxs hk hok hx; exact h1
  have hnewAll : ∀ w', (w' = w ∨ w' = w.drew) → (Builtin.firstCells sz k xv).run P w' = .ok news.toArray w' := fun w' h => by
    rcases h with rfl | rfl
    · exact hfirst k rfl
    · obtain ⟨news2, hv2, _, _, h2⟩ := cellsOf_ok (P := P) hH.drew hxs hk hok hx
      rw [h2 k rfl, first_drew xv k _ _ (hfirst k rfl) (h2 k rfl)]
  -- a new array
  have realloc : ∀ {H0 : Heap} {n m : Nat} {base : Option Addr} {ocs : List AV} {olds : List Value}, HRel β H0 w B → Vs β ocs olds → ocs.length = n * sz → m < n + k → n + k ≤ 1048576 →
      (∀ w', (w' = w ∨ w' = w.drew) → (Builtin.firstCells sz n (.slice base n m)).run P w' = .ok olds.toArray w') →
      ∃ β' w' v, (Builtin.append_ #[t, u] ty #[.slice base n m, xv]).run P w = .ok v w' ∧ Ext β β' B id ∧ V β' (.so id 0 (n + k) sz) v ∧ HRel β' (upd H0 id (some (.cells (ocs ++ xs)))) w' B ∧ BelowP B w w' := by
    intro H0 n m base ocs olds hH0 hov hol hmk hnk hold
    obtain ⟨cap, hcap, hrun⟩ := append_new (P := P) (w := w) (ty := ty) (base := base) (n := n) (m := m) (k := k) (x := xv) (olds := olds) (news := news) ht hu hsz hby hb0 hb hnk hmk hzall hlenAll hold hnewAll
    obtain ⟨β', b1, b2, b3, b4⟩ := append_new_ok hH0 hB hid (e := e) (Vs_append hov hnv) (by rw [List.length_append, hol, hnl, Nat.add_mul]) hzsz hcap
    exact ⟨β', _, _, hrun, b1, b2, b3, b4⟩
  have nonews : k = 0 → xs = [] ∧ news = [] := fun hk0 => by
    subst hk0
    exact ⟨List.eq_nil_of_length_eq_zero (by rw [hnl]; simp), List.eq_nil_of_length_eq_zero (by rw [hnewsl]; simp)⟩
  split at h <;> (try (simp at h; done))
  · -- a nil slice
    split at h <;> (try (simp at h; done))
    rename_i hk'
    cases h
    simp only [V] at hs; subst hs
    by_cases hk0 : k = 0
    · obtain ⟨rfl, rfl⟩ := nonews hk0
      subst hk0
      exact ⟨_, w, .slice none 0 0, append_in ht hu hsz (Nat.le_refl _) hlenx (hfirst 0 rfl) (fun a h => by cases h) (fun _ => rfl), Ext.put hid B, by unfold V; exact ⟨_, put_same _ _ _, .inl ⟨rfl, none, rfl⟩⟩, hH.loc0 hid, BelowP.refl _ _⟩
    · have := realloc (H0 := H) (n := 0) (m := 0) (base := none) (ocs := []) (olds := []) hH (by simp [Vs]) (by simp) (by omega) (by omega) (fun w' _ => by simp [Builtin.firstCells])
      simpa using this
  · -- an open slice
    rename_i i o n s'
    split at h <;> (try (simp at h; done))
    rename_i cs hi
    split at h <;> (try (simp at h; done))
    rename_i hc
    obtain ⟨rfl, rfl, htop, hnk⟩ := hc
    cases h
    have hHt := hH.trim hi (n * s')
    have hit : upd H i (some (AB.cells (cs.take (n * s')))) i = some (.cells (cs.take (n * s'))) := by simp
    have eH : upd H i none = upd (upd H i (some (AB.cells (cs.take (n * s'))))) i none := by funext j; unfold upd; split <;> rfl
    rw [eH]
    have htop' : n * s' = (cs.take (n * s')).length := by rw [List.length_take]; omega
    generalize upd H i (some (AB.cells (cs.take (n * s')))) = H1 at hHt hit ⊢
    generalize cs.take (n * s') = cs at hHt hit htop' ⊢
    simp only [V] at hs
    obtain ⟨l, hl, hs⟩ := hs
    obtain ⟨l', vs, hl', hvs, hcell⟩ := hHt.cellsList hit
    rw [hl] at hl'; cases hl'
    have hvl := Vs_length hvs
    have hHd : HRel β (upd H1 i none) w B := hHt.drop i
    rcases hs with ⟨rfl, a, rfl⟩ | ⟨m, hle, hext, rfl⟩
    · have hc0 : cs = [] := List.eq_nil_of_length_eq_zero (by omega)
      subst hc0
      by_cases hk0 : k = 0
      · obtain ⟨rfl, rfl⟩ := nonews hk0
        subst hk0
        exact ⟨_, w, .slice a 0 0, append_in ht hu hsz (Nat.le_refl _) hlenx (hfirst 0 rfl) (fun a h => by simp [storeCells]) (fun _ => rfl), Ext.put hid B, by unfold V; exact ⟨_, put_same _ _ _, .inl ⟨rfl, a, rfl⟩⟩, hHd.loc0 hid, BelowP.refl _ _⟩
      · have := realloc (n := 0) (m := 0) (base := a) (ocs := []) (olds := []) hHd (by simp [Vs]) (by simp) (by omega) (by omega) (fun w' _ => by cases a <;> simp [Builtin.firstCells, loadCells, loadCellsFrom])
        simpa using this
    · by_cases hfit : n + k ≤ m
      · have hk1 := Nat.mul_le_mul_right s' hfit
        rw [Nat.add_mul] at hk1
        by_cases hposl : 0 < l.k
        · obtain ⟨l', hl', hclen, hblk⟩ := hHt.own i cs hit
          rw [hl] at hl'; cases hl'
          obtain ⟨hBl, hun, full, e', hw, hsz', hc⟩ := hblk hposl
          obtain ⟨w', r1, r2, r3, r4⟩ := storeCells_run (P := P) (c := l.c) (o := l.o + 0 + n * s') (e := e') news 0 w full hw (by omega) (Vs_flat hflat hnv)
          have hrun := append_in (P := P) (w := w) (ty := ty) (base := some ⟨l.c, l.o + 0, none⟩) ht hu hsz hfit hlenx (hfirst k rfl) (w' := w') (fun a h => by cases h; rw [add_none]; exact r1) (fun h => by cases h)
          have hH2 := hHt.write (cs' := cs ++ xs) hit hl hposl hw r2 (by rw [splV_size]; exact hsz') (by rw [List.length_append]; omega) (fun q hq => by rw [splV_get _ _ _ _ (by omega), if_neg (by omega)]) (fun j a ha => by
              rw [splV_get _ _ _ _ (by omega)]
              rw [List.getElem?_append] at ha
              by_cases hj : j < cs.length
              · rw [if_pos hj] at ha
                rw [if_neg (by omega)]
                exact hc j a ha
              · rw [if_neg hj] at ha
                obtain ⟨v, x, y⟩ := Vs_get hnv _ _ ha
                have hjl : j - cs.length < news.length := (List.getElem?_eq_some_iff.1 x).1
                exact ⟨v, by rw [if_pos (by omega), show l.o + j - (l.o + 0 + n * s' + 0) = j - cs.length by omega]; exact x, y⟩) r3 (r4 _ (hHt.yo i _ l hit hl hposl))
          have hH3 := hH2.rename (i := i) (id := id) (cs := cs ++ xs) (l := l) (by simp) hl hid
          have e1 : upd (upd H1 i (some (AB.cells (cs ++ xs)))) i none = upd H1 i none := by funext j; unfold upd; split <;> rfl
          rw [e1] at hH3
          refine ⟨_, w', _, hrun, Ext.put hid B, ?_, hH3, r4 B hBl⟩
          simp only [V]
          exact ⟨_, put_same _ _ _, .inr ⟨m, hfit, hext, rfl⟩⟩
        · have hm0 : m = 0 := by
            rcases Nat.eq_zero_or_pos m with h | h
            · exact h
            · have := Nat.mul_le_mul h (Nat.le_refl s'); omega
          subst hm0
          have hk0 : k = 0 := by omega
          have hn0 : n = 0 := by omega
          obtain ⟨rfl, rfl⟩ := nonews hk0
          subst hk0 hn0
          have hc0 : cs = [] := List.eq_nil_of_length_eq_zero (by omega)
          subst hc0
          exact ⟨_, w, _, append_in ht hu hsz (Nat.le_refl _) hlenx (hfirst 0 rfl) (w' := w) (fun a h => by simp [storeCells]) (fun h => by cases h), Ext.put hid B, by unfold V; exact ⟨_, put_same _ _ _, .inl ⟨rfl, _, rfl⟩⟩, hHd.loc0 hid, BelowP.refl _ _⟩
      · refine realloc hHd hvs htop'.symm (by omega) hnk fun w' hw' => ?_
        have hcell' : ∀ (j : Nat) (v : Value), vs[j]? = some v → w'.cell? ⟨l.c, l.o + j, none⟩ = some v := by rcases hw' with rfl | rfl; exact hcell; exact hcell
        exact loadCells_run (P := P) (w := w') (c := l.c) (o := l.o + 0) (vs := vs) (n := n * s') (fun j v hj => by rw [Nat.add_zero]; exact hcell' _ _ hj) (by omega)
  · -- a slice of known capacity
    rename_i i o n m s'
    split at h <;> (try (simp at h; done))
    rename_i cs hi
    split at h <;> (try (simp at h; done))
    rename_i hc
    obtain ⟨rfl, hext, hnm, hnk⟩ := hc
    simp only [V] at hs
    obtain ⟨l, hl, hs⟩ := hs
    obtain ⟨l', vs, hl', hvs, hcell⟩ := hH.cellsList hi
    rw [hl] at hl'; cases hl'
    have hvl := Vs_length hvs
    split at h
    · rename_i hfit
      cases h
      have hk1 := Nat.mul_le_mul_right s' hfit
      rw [Nat.add_mul] at hk1
      have same : k = 0 → ∀ sv', sv' = sv → (∃ b, sv' = .slice b n m) → V β (.sl i o n m s') sv' → ∃ β' w' v, (Builtin.append_ #[t, u] ty #[sv, xv]).run P w = .ok v w' ∧ Ext β β' B id ∧ V β' (.sl i o (n + k) m s') v ∧ HRel β' (upd H i (some (AB.cells (splice cs (o + n * s') xs)))) w' B ∧ BelowP B w w' := by
        rintro hk0 _ rfl ⟨b, rfl⟩ hV
        obtain ⟨rfl, rfl⟩ := nonews hk0
        subst hk0
        refine ⟨β, w, _, append_in ht hu hsz (by omega) hlenx (hfirst 0 rfl) (fun a h => by simp [storeCells]) (fun _ => rfl), Ext.refl _ _ _, hV, ?_, BelowP.refl _ _⟩
        have e : upd H i (some (AB.cells (splice cs (o + n * s') []))) = H := by
          funext j; unfold upd
          split
          · rename_i e; subst e; rw [hi]; simp [splice, List.take_append_drop]
          · rfl
        rw [e]; exact hH
      by_cases hk0 : k = 0
      · refine same hk0 sv rfl ?_ (by simp only [V]; exact ⟨l, hl, hs⟩)
        rcases hs with ⟨rfl, rfl, a, rfl⟩ | ⟨_, _, rfl⟩
        · exact ⟨_, rfl⟩
        · exact ⟨_, rfl⟩
      · rcases hs with ⟨rfl, rfl, a, rfl⟩ | ⟨_, hext', rfl⟩
        · omega
        · have hposl : 0 < l.k := by
            have : 1 * s' ≤ m * s' := Nat.mul_le_mul_right _ (by omega)
            omega
          obtain ⟨w', r1, r2, r3⟩ := own_store (P := P) hH hi hl (o := o + n * s') (xs := xs) (by rw [hnl]; omega) hposl hflat hnv
          have hrun := append_in (P := P) (w := w) (ty := ty) (base := some ⟨l.c, l.o + o, none⟩) ht hu hsz hfit hlenx (hfirst k rfl) (w' := w') (fun a h => by cases h; rw [add_none, Nat.add_assoc]; exact r1) (fun h => by cases h)
          exact ⟨β, w', _, hrun, Ext.refl _ _ _, by simp only [V]; exact ⟨l, hl, .inr ⟨hfit, hext', rfl⟩⟩, r2, r3⟩
    · rename_i hfit
      cases h
      have hnm' := Nat.mul_le_mul_right s' hnm
      have hsv : ∃ b, sv = .slice b n m := by
        rcases hs with ⟨rfl, rfl, a, rfl⟩ | ⟨_, _, rfl⟩
        · exact ⟨a, rfl⟩
        · exact ⟨_, rfl⟩
      have hold : ∀ w', (w' = w ∨ w' = w.drew) → (Builtin.firstCells s' n sv).run P w' = .ok ((vs.drop o).take (n * s')).toArray w' := by
        intro w' hw'
        have hcell' : ∀ (j : Nat) (v : Value), vs[j]? = some v → w'.cell? ⟨l.c, l.o + j, none⟩ = some v := by rcases hw' with rfl | rfl; exact hcell; exact hcell
        rcases hs with ⟨rfl, _, a, rfl⟩ | ⟨_, _, rfl⟩
        · cases a <;> simp [Builtin.firstCells, loadCells, loadCellsFrom]
        · exact loadCells_run (P := P) (w := w') (c := l.c) (o := l.o + o) (vs := (vs.drop o).take (n * s')) (n := n * s') (fun j v hj => by rw [Nat.add_assoc]; exact hcell' _ _ (getElem?_take_drop _ _ _ _ _ hj)) (by simp; omega)
      obtain ⟨b, rfl⟩ := hsv
      exact realloc hH (Vs_take (Vs_drop hvs o) _) (by rw [List.length_take, List.length_drop]; omega) (by omega) hnk hold
  · -- a full list
    rename_i s' n f
    split at h <;> (try (simp at h; done))
    rename_i hc
    obtain ⟨rfl, hk0, hnk⟩ := hc
    cases h
    obtain ⟨base, cap, us, rfl, hcap, hm, hus, hlaid⟩ := lst_vals hs
    simp only [LMok] at hm
    have hm := hm.symm
    subst hm
    have hoc : ((List.range n).flatMap fun j => cellsL (f j)).length = n * s' := flat_len n fun j hj => by
      have h1 := hoks j hj
      unfold cellsL
      cases hc : (f j).cells with
      | none => exact absurd hc h1
      | some cs => have := Vs_length (cells_ok hc (hus j hj).2); rw [(hus j hj).1] at this; exact this
    have hov := flat_Vs (sz := s') n hoks (fun j hj => (hus j hj).2)
    exact realloc hH hov hoc (by omega) hnk fun w' hw' => by
      rcases hw' with rfl | rfl
      · exact lst_first (_m := .cap) hH (fun j hj => (hus j hj).1) hlaid
      · exact lst_first (_m := .cap) hH.drew (fun j hj => (hus j hj).1) hlaid


theorem LstOf.vals {H : Heap} {B : Bd} (_hH : HRel β H w B) {sz n : Nat} {f : Nat → AV} {s : AV} {sv : Value} (hl : LstOf sz s n f) (hs : V β s sv) :
    ∃ (base : Option Addr) (cap : Nat) (us : Nat → Value), sv = .slice base n cap ∧ n ≤ cap ∧ (∀ j, j < n → (us j).cells.toList.length = sz ∧ V β (f j) (us j)) ∧
      (0 < n → ∃ c o, base = some ⟨c, o, none⟩ ∧ laid β.fz c o ((List.range n).flatMap fun j => (us j).cells.toList)) ∧ (∀ m, s = .lst m sz n f → LMok β m sz n base cap) ∧ (s = .nils → base = none ∧ cap = 0) := by
  cases hl with
  | nil f =>
    simp only [V] at hs
    subst hs
    exact ⟨none, 0, fun _ => undef, rfl, Nat.le_refl _, fun j hj => by omega, fun h => by omega, fun m h => (by cases h), fun _ => ⟨rfl, rfl⟩⟩
  | lst m n f =>
    obtain ⟨base, cap, us, h1, h2, h3, h4, h5⟩ := lst_vals hs
    exact ⟨base, cap, us, h1, h2, h4, h5, fun m' h => (by cases h; exact h3), fun h => (by cases h)⟩

theorem flat_cells {a : AV} {u : Value} (h : flatC a = true) (hv : V β a u) : ∀ v ∈ u.cells.toList, v.oneCell' = true := by
  unfold flatC at h
  split at h
  · rename_i cs hc
    exact Vs_flat h (cells_ok hc hv)
  · cases h

theorem appendT_ok {H H' : Heap} {B : Bd} (hH : HRel β H w B) (hB : B.top w.heap.size) {id : Nat} (hid : β id = none) {t u ty : TypeId} {s x r : AV} {sv xv : Value} (h : appendT P t u s x id H r H') (hs : V β s sv) (hx : V β x xv) :
    ∃ β' w' v, (Builtin.append_ #[t, u] ty #[sv, xv]).run P w = .ok v w' ∧ Ext β β' B id ∧ V β' r v ∧ HRel β' H' w' B ∧ BelowP B w w' := by
  obtain ⟨e, e', sz, by_, z, n, k, f, fx, fr, ht, hu, hsz, hby, hz, hpos, hb0, hb, hzl, hnk, hls, hlx, hflat, rfl, hr1, hr2, hcase⟩ := h
  obtain ⟨zv, hzv, hzV⟩ := zeroT_ok (β := β) (w := w) hz
  have hzall := zero_all (P := P) hz hzv
  have hzsz : zv.cells.size = sz := by rw [← hzl, Vs_length hzV]; simp
  obtain ⟨bx, cx, ux, rfl, hcx, hux, hlaidx, _, _⟩ := hlx.vals hH hx
  obtain ⟨bs, cap, us, rfl, hcap, hus, hlaids, hms, hnil⟩ := hls.vals hH hs
  have hlenAll : ∀ w', (w' = w ∨ w' = w.drew) → (Builtin.lenOf (.slice bx k cx)).run P w' = .ok k w' := fun w' _ => by simp [Builtin.lenOf]
  have hnewAll : ∀ w', (w' = w ∨ w' = w.drew) → (Builtin.firstCells sz k (.slice bx k cx)).run P w' = .ok ((List.range k).flatMap fun j => (ux j).cells.toList).toArray w' := fun w' h => by
    rcases h with rfl | rfl
    · exact lst_first (_m := .free) hH (fun j hj => (hux j hj).1) hlaidx
    · exact lst_first (_m := .free) hH.drew (fun j hj => (hux j hj).1) hlaidx
  have holdAll : ∀ w', (w' = w ∨ w' = w.drew) → (Builtin.firstCells sz n (.slice bs n cap)).run P w' = .ok ((List.range n).flatMap fun j => (us j).cells.toList).toArray w' := fun w' h => by
    rcases h with rfl | rfl
    · exact lst_first (_m := .free) hH (fun j hj => (hus j hj).1) hlaids
    · exact lst_first (_m := .free) hH.drew (fun j hj => (hus j hj).1) hlaids
  -- the values of the whole
  let ur : Nat → Value := fun j => if j < n then us j else ux (j - n)
  have hur : ∀ j, j < n + k → (ur j).cells.toList.length = sz ∧ V β (fr j) (ur j) := fun j hj => by
    by_cases h : j < n
    · simp only [ur, if_pos h]; rw [hr1 j h]; exact hus j h
    · simp only [ur, if_neg h]
      have := hr2 (j - n) (by omega)
      rw [show n + (j - n) = j by omega] at this
      rw [this]; exact hux _ (by omega)
  have hurv : ((List.range n).flatMap fun j => (us j).cells.toList) ++ ((List.range k).flatMap fun j => (ux j).cells.toList) = (List.range (n + k)).flatMap fun j => (ur j).cells.toList := by
    rw [List.range_add, List.flatMap_append]
    congr 1
    · rw [List.flatMap_def, List.flatMap_def]
      congr 1
      refine List.map_congr_left fun j hj => ?_
      have : j < n := by simpa using hj
      simp only [ur, if_pos this]
    · rw [List.flatMap_map, List.flatMap_def, List.flatMap_def]
      congr 1
      refine List.map_congr_left fun j hj => ?_
      simp only [ur]
      rw [if_neg (by omega), show n + j - n = j by omega]
  have realloc : ∀ {H0 : Heap}, HRel β H0 w B → cap < n + k → ∃ β' w' v, (Builtin.append_ #[t, u] ty #[.slice bs n cap, .slice bx k cx]).run P w = .ok v w' ∧ Ext β β' B id ∧ V β' (.lst (.tok id) sz (n + k) fr) v ∧ HRel β' (upd H0 id (some (.cells []))) w' B ∧ BelowP B w w' := by
    intro H0 hH0 hc
    obtain ⟨cap', hcap', hrun⟩ := append_new (P := P) (w := w) (ty := ty) (base := bs) (n := n) (m := cap) (k := k) ht hu hsz hby hb0 hb hnk hc hzall hlenAll holdAll hnewAll
    obtain ⟨β', b1, b2, b3, b4⟩ := append_newF_ok hH0 hB hid (e := e) hur hzsz hcap' hurv
    exact ⟨β', _, _, hrun, b1, b2, b3, b4⟩
  -- nothing to append: the same slice, full
  have same : ∀ {H0 : Heap}, HRel β H0 w B → k = 0 → cap = n → ∃ β' w' v, (Builtin.append_ #[t, u] ty #[.slice bs n cap, .slice bx k cx]).run P w = .ok v w' ∧ Ext β β' B id ∧ V β' (.lst (.tok id) sz (n + k) fr) v ∧ HRel β' (upd H0 id (some (.cells []))) w' B ∧ BelowP B w w' := by
    rintro H0 hH0 rfl rfl
    refine ⟨_, w, _, append_in ht hu hsz (Nat.le_refl _) (hlenAll w (.inl rfl)) (hnewAll w (.inl rfl)) (fun a h => by simp [storeCells]) (fun _ => rfl), Ext.put hid B, ?_, hH0.loc0 hid, BelowP.refl _ _⟩
    exact lst_of (us := us) (Nat.le_refl _) ⟨_, put_same _ _ _, .inl rfl⟩ (fun j hj => ⟨(hus j hj).1, by rw [hr1 j hj]; exact V_mono (le_put hid) _ _ (hus j hj).2⟩) hlaids
  rcases hcase with ⟨rfl, rfl⟩ | ⟨rfl, rfl⟩ | ⟨g, cs, rfl, hg, rfl⟩
  · obtain ⟨rfl, rfl⟩ := hnil rfl
    cases hls
    by_cases hk : k = 0
    · exact same hH hk rfl
    · exact realloc hH (by omega)
  · have := hms .cap rfl
    simp only [LMok] at this
    by_cases hk : k = 0
    · exact same hH hk this
    · exact realloc hH (by omega)
  · obtain ⟨l, hl, hm⟩ := hms (.tok g) rfl
    by_cases hfit : n + k ≤ cap
    · rcases hm with hm | ⟨o, rfl, ho, hcapk⟩
      · exact same (hH.drop g) (by omega) hm
      · have hk1 := Nat.mul_le_mul_right sz hfit
        rw [Nat.add_mul] at hk1
        have hnewl : ((List.range k).flatMap fun j => (ux j).cells.toList).length = k * sz := flat_len k fun j hj => (hux j hj).1
        by_cases hposl : 0 < l.k
        · obtain ⟨l', hl', hclen, hblk⟩ := hH.own g cs hg
          rw [hl] at hl'; cases hl'
          obtain ⟨hBl, hun, full, e0, hw, hsz', hc⟩ := hblk hposl
          have hone : ∀ v ∈ ((List.range k).flatMap fun j => (ux j).cells.toList), v.oneCell' = true := fun v hv => by
            obtain ⟨j, hj, hv⟩ := List.mem_flatMap.1 hv
            have hj : j < k := by simpa using hj
            exact flat_cells (hflat j hj) (hux j hj).2 v hv
          obtain ⟨w', r1, r2, r3, r4⟩ := storeCells_run (P := P) (c := l.c) (o := l.o) (e := e0) _ 0 w full hw (by rw [hnewl]; omega) hone
          have hrun := append_in (P := P) (w := w) (ty := ty) (base := some ⟨l.c, o, none⟩) ht hu hsz hfit (hlenAll w (.inl rfl)) (hnewAll w (.inl rfl)) (w' := w') (fun a h => by cases h; rw [add_none, ← ho]; exact r1) (fun h => by cases h)
          have hH2 := hH.write (cs' := []) hg hl hposl hw r2 (by rw [splV_size]; exact hsz') (by simp) (fun q hq => by rw [splV_get _ _ _ _ (by rw [hnewl]; omega), if_neg (by rw [hnewl]; omega)]) (fun j a ha => by simp at ha) r3 (r4 _ (hH.yo g _ l hg hl hposl))
          obtain ⟨β', f1, f2, f3, f4, f5, f6⟩ := hH2.freezeRaw (i := g) (cs := []) (l := l) (by simp) hl hid (m := k * sz) (by omega)
          have e1 : upd (upd H g (some (AB.cells []))) g none = upd H g none := by funext j; unfold upd; split <;> rfl
          rw [e1] at f4
          refine ⟨β', w', _, hrun, ⟨f1, f2, f6⟩, ?_, f4, r4 B hBl⟩
          refine lst_of (us := ur) hfit ⟨_, f3, .inr ⟨o, rfl, by simp only; rw [ho, Nat.add_mul]; omega, by simp only; rw [Nat.add_mul]; omega⟩⟩ (fun j hj => ⟨(hur j hj).1, V_mono f1 _ _ (hur j hj).2⟩) fun _ => ⟨_, _, rfl, ?_⟩
          rw [← hurv]
          refine laid_append.2 ⟨?_, ?_⟩
          · rcases Nat.eq_zero_or_pos n with rfl | hn
            · simp [laid]
            · obtain ⟨c, o', e2, h2⟩ := hlaids hn
              cases e2
              exact h2.mono f1.fz
          · rw [flat_len n (fun j hj => (hus j hj).1), ← ho]
            intro q v hq
            have hql : q < k * sz := by have := (List.getElem?_eq_some_iff.1 hq).1; rwa [hnewl] at this
            rw [f5 q hql]
            simp only [World.cell?, r2]
            have h5 := splV_get ((List.range k).flatMap fun j => (ux j).cells.toList) full l.o (l.o + q) (by rw [hnewl]; omega)
            rw [if_pos (by rw [hnewl]; omega), show l.o + q - l.o = q by omega, hq] at h5
            simpa using h5
        · have hcn : cap * sz ≤ n * sz := by omega
          have : cap ≤ n := Nat.le_of_mul_le_mul_right hcn hpos
          exact same (hH.drop g) (by omega) (by omega)
    · exact realloc (hH.drop g) (by omega)

theorem wrap_small {n : Int} (h0 : 0 ≤ n) (h1 : n ≤ 1048576) : IntKind.i64.wrap n = n := by
  rw [IntKind.wrap_i64]; omega

theorem makeSlice_ok {H : Heap} {B : Bd} (hH : HRel β H w B) (hB : B.top w.heap.size) {id : Nat} (hid : β id = none) {t : TypeId} {x y r : AV} {u v : Value} {blk : AB}
    (h : makeSliceA P t x y id = some (r, blk)) (hx : V β x u) (hy : V β y v) :
    ∃ β' w' z, (Instr.makeSlice t u v).run P w = .ok z w' ∧ Beta.le β β' ∧ (∀ j, β' j ≠ none → β j ≠ none ∨ j = id) ∧ V β' r z ∧ HRel β' (upd H id (some blk)) w' B ∧ BelowP (fun c => w.heap.size ≤ c) w w' ∧ β'.fz = β.fz := by
  unfold makeSliceA at h
  split at h <;> (try (simp at h; done))
  rename_i e _ n _ m hu
  cases V_int hx
  cases V_int hy
  obtain ⟨sz, hsz, h1⟩ := bind_some' h
  obtain ⟨z, hz, h2⟩ := bind_some' h1
  obtain ⟨by_, hby, h3⟩ := bind_some' h2
  clear h h1 h2
  split at h3 <;> (try (simp at h3; done))
  rename_i hc
  obtain ⟨hn, hnm, hm, hb, hpos, hzl⟩ := hc
  cases h3
  obtain ⟨zv, hzv, hzV⟩ := zeroT_ok (β := β) (w := w) hz
  have hzsz : zv.cells.size = sz := by rw [← hzl, Vs_length hzV]; simp
  obtain ⟨i, hi, rfl⟩ := bytes_ok hby
  obtain ⟨N, rfl⟩ := Int.eq_ofNat_of_zero_le hn
  obtain ⟨M, rfl⟩ := Int.eq_ofNat_of_zero_le (show 0 ≤ m by omega)
  have hv := Vs_replicate hzV M
  have hnew := hH.new hB hid (sp := []) hv e
  have hzero : ((Array.range (M * sz)).map fun i => zv.cells[i % zv.cells.size]!) = ((List.replicate M zv.cells.toList).flatten).toArray := by
    apply Array.toList_inj.1
    have := zeros_eq zv.cells (by omega) M
    rw [hzsz] at this ⊢
    simpa using this
  refine ⟨_, w.alloc (.cells (((List.replicate M zv.cells.toList).flatten) ++ []).toArray e), .slice (some ⟨w.heap.size, 0, none⟩) N M, ?_, le_put hid, put_dom, ?_, hnew, BelowP.alloc _ (Nat.le_refl _) _, rfl⟩
  · have w1 : IntKind.i64.wrap (N : Int) = N := wrap_small (by omega) (by omega)
    have w2 : IntKind.i64.wrap (M : Int) = M := wrap_small (by omega) (by omega)
    have hbm : (i.bytes : Int) * (M : Int) ≤ 1099511627776 := by
      have h1 : i.bytes * M ≤ 1099511627776 := Nat.le_trans (Nat.mul_le_mul hb (show M ≤ 1048576 by omega)) (by decide)
      have h2 : ((i.bytes * M : Nat) : Int) ≤ ((1099511627776 : Nat) : Int) := Int.ofNat_le.2 h1
      rw [Int.natCast_mul] at h2
      omega
    have hc1 : ¬ (2 ^ 48 < (i.bytes : Int) * (M : Int)) := by omega
    have hc2 : ¬ ((M : Int) < N) := by omega
    have hti : (typeInfo e).run P w = .ok i w := by simp [typeInfo, hi]
    by_cases h0 : M * sz = 0
    · have hM : M = 0 := by
        rcases Nat.mul_eq_zero.1 h0 with h | h
        · exact h
        · omega
      subst hM
      have hN : N = 0 := by omega
      subst hN
      have hr0 : Array.range 0 = #[] := rfl
      have hw0 : IntKind.i64.wrap 0 = 0 := by decide
      simp [Instr.makeSlice, run_und hu, asInt, asIntOf, hti, hw0, run_size hsz, newRow, hr0]
    · have e1 : (decide ((M : Int) < 0) || decide ((i.bytes : Int) * (M : Int) > 2 ^ 48)) = false := by simp; omega
      have e2 : (decide ((N : Int) < 0)) = false := by simp
      have e3 : (decide ((N : Int) > (M : Int))) = false := by simp; omega
      simp only [Instr.makeSlice, Sem.run_bind, run_und hu, Result.andThen_ok, asInt, asIntOf, Sem.run_pure, hti, w1, w2, e1, e2, e3, Bool.or_false, Bool.false_eq_true, if_false, run_askRoom, run_size hsz, Int.toNat_natCast, h0, hzv]
      rw [hzero]
      simp [newRow]
  · simp only [V]
    refine ⟨_, put_same _ _ _, .inr ⟨by omega, ?_, by simp⟩⟩
    have : zv.cells.toList.length = sz := by simpa using hzsz
    simp [hzsz]

theorem foldlM_ok (f : AV → AV → Option AV) (g : Value → Value → Sem Value) (hfg : ∀ (a b r : AV) (u v : Value), f a b = some r → V β a u → V β b v → ∃ z, (g u v).run P w = .ok z w ∧ V β r z) :
    ∀ (xs : List AV) (vs : List Value) (a r : AV) (u : Value), xs.foldlM f a = some r → Vs β xs vs → V β a u → ∃ z, (vs.foldlM g u).run P w = .ok z w ∧ V β r z
  | [], vs, a, r, u, h, hv, hu => by simp [Vs] at hv; subst hv; simp at h; subst h; exact ⟨u, by simp, hu⟩
  | x :: xs, _, a, r, u, h, hv, hu => by
    obtain ⟨v, vs', rfl, h1, h2⟩ := hv
    simp only [List.foldlM_cons] at h
    obtain ⟨b, hb, h⟩ := bind_some' h
    obtain ⟨z, hz, hzv⟩ := hfg _ _ _ _ _ hb hu h1
    obtain ⟨z2, hz2, hzv2⟩ := foldlM_ok f g hfg xs vs' b r z h h2 hzv
    exact ⟨z2, by simp [List.foldlM_cons, hz, hz2], hzv2⟩

theorem min_ok {xs : List AV} {vs : Array Value} {r : AV} (tys : Array TypeId) (ty : TypeId) (h : minA xs = some r) (hv : Vs β xs vs.toList) : ∃ z, (Builtin.min_ tys ty vs).run P w = .ok z w ∧ V β r z := by
  cases xs with
  | nil => simp [minA] at h
  | cons x xs =>
    obtain ⟨v, vs', hcons, h1, h2⟩ := hv
    simp only [minA] at h
    obtain ⟨z, hz, hzv⟩ := foldlM_ok (P := P) (w := w) (β := β) _ Builtin.min2 (fun a b r u v hab ha hb => by
      split at hab <;> (try (simp at hab; done))
      cases hab; cases V_int ha; cases V_int hb
      exact ⟨_, by simp [Builtin.min2]; rfl, by simp [V]⟩) xs vs' x r v h h2 h1
    exact ⟨z, by simp only [Builtin.min_, hcons]; exact hz, hzv⟩

theorem max_ok {xs : List AV} {vs : Array Value} {r : AV} (tys : Array TypeId) (ty : TypeId) (h : maxA xs = some r) (hv : Vs β xs vs.toList) : ∃ z, (Builtin.max_ tys ty vs).run P w = .ok z w ∧ V β r z := by
  cases xs with
  | nil => simp [maxA] at h
  | cons x xs =>
    obtain ⟨v, vs', hcons, h1, h2⟩ := hv
    simp only [maxA] at h
    obtain ⟨z, hz, hzv⟩ := foldlM_ok (P := P) (w := w) (β := β) _ Builtin.max2 (fun a b r u v hab ha hb => by
      split at hab <;> (try (simp at hab; done))
      cases hab; cases V_int ha; cases V_int hb
      exact ⟨_, by simp [Builtin.max2]; rfl, by simp [V]⟩) xs vs' x r v h h2 h1
    exact ⟨z, by simp only [Builtin.max_, hcons]; exact hz, hzv⟩

end
end Go.Eng
