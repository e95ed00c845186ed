import Derived.Test.YtcidmnpihffphaaEngF
namespace Go.Eng
open Go.RowKit (Below)

section
variable {P : Program} {β : Beta} {w : World}

/-- A row of cells written anew. -/
def wrow (w : World) (c : Nat) (full : Array Value) (e : TypeId) : World := { w with heap := w.heap.setIfInBounds c (.cells full e (0, 0)) }

theorem wrow_at {c : Nat} {full : Array Value} {e : TypeId} (h : c < w.heap.size) : (wrow w c full e).heap[c]? = some (.cells full e (0, 0)) := by
  simp [wrow, h]
theorem wrow_other {c k : Nat} {full : Array Value} {e : TypeId} (h : k ≠ c) : (wrow w c full e).heap[k]? = w.heap[k]? := by
  simp [wrow, Array.getElem?_setIfInBounds_ne (Ne.symm h)]
theorem wrow_wrow {c : Nat} {f g : Array Value} {e : TypeId} : wrow (wrow w c f e) c g e = wrow w c g e := by
  simp [wrow]
theorem wrow_below {c : Nat} {B : Bd} {full : Array Value} {e : TypeId} (h : B c) : BelowP B w (wrow w c full e) :=
  ⟨rfl, rfl, rfl, by simp [wrow], Nat.le_refl _, fun k hk => wrow_other (fun e => hk (e ▸ h))⟩

theorem setCell_row {c k : Nat} {full : Array Value} {e : TypeId} (h : w.heap[c]? = some (.cells full e (0, 0))) (v : Value) :
    w.setCell ⟨c, k, none⟩ v = wrow w c (full.setIfInBounds k v) e := by
  obtain ⟨hlt, hh⟩ := Array.getElem?_eq_some_iff.1 h
  have hE : w.heap.modify c (fun | .cells c elem frozen => .cells (if (none : Option Nat).isSome then c else c.setIfInBounds k v) elem frozen | o => o) = w.heap.setIfInBounds c (.cells (full.setIfInBounds k v) e (0, 0)) := by
    apply Array.ext_getElem?
    intro i
    rw [Array.getElem?_modify]
    by_cases e : c = i
    · subst e
      rw [if_pos rfl, h, Array.getElem?_setIfInBounds_self_of_lt hlt]; rfl
    · rw [if_neg e, Array.getElem?_setIfInBounds_ne e]
  unfold World.setCell wrow
  exact congrArg (fun hp => { w with heap := hp }) hE

def splV (full : Array Value) (k : Nat) : List Value → Array Value
  | [] => full
  | v :: vs => splV (full.setIfInBounds k v) (k + 1) vs

theorem splV_size : ∀ (vs : List Value) (full : Array Value) (k : Nat), (splV full k vs).size = full.size
  | [], _, _ => rfl
  | v :: vs, full, k => by rw [splV, splV_size vs]; simp

theorem splV_get : ∀ (vs : List Value) (full : Array Value) (k j : Nat), k + vs.length ≤ full.size →
    (splV full k vs)[j]? = if k ≤ j ∧ j < k + vs.length then vs[j - k]? else full[j]?
  | [], full, k, j, _ => by
    have : ¬ (k ≤ j ∧ j < k + 0) := by omega
    simp only [splV, List.length_nil]; rw [if_neg this]
  | v :: vs, full, k, j, h => by
    simp only [List.length_cons] at h
    rw [splV, splV_get vs _ _ _ (by simp; omega)]
    by_cases h1 : k + 1 ≤ j ∧ j < k + 1 + vs.length
    · rw [if_pos h1, if_pos (by simp; omega)]
      rw [show j - k = (j - (k + 1)) + 1 by omega]
      simp
    · rw [if_neg h1]
      by_cases h2 : j = k
      · subst h2
        rw [if_pos (by simp)]
        have : j < full.size := by omega
        simp [this]
      · rw [if_neg (by simp; omega), Array.getElem?_setIfInBounds_ne (by omega)]

theorem storeCells_run {c o : Nat} {e : TypeId} : ∀ (vs : List Value) (i : Nat) (w : World) (full : Array Value), w.heap[c]? = some (.cells full e (0, 0)) → o + i + vs.length ≤ full.size → (∀ v ∈ vs, v.oneCell' = true) →
    ∃ w', (storeCells ⟨c, o, none⟩ vs i).run P w = .ok () w' ∧ w'.heap[c]? = some (.cells (splV full (o + i) vs) e (0, 0)) ∧ (∀ k, k ≠ c → w'.heap[k]? = w.heap[k]?) ∧ ∀ B : Bd, B c → BelowP B w w'
  | [], i, w, full, h, _, _ => ⟨w, by simp [storeCells], h, fun _ _ => rfl, fun B _ => BelowP.refl _ _⟩
  | v :: vs, i, w, full, h, hl, h1 => by
    simp only [List.length_cons] at hl
    obtain ⟨hlt, _⟩ := Array.getElem?_eq_some_iff.1 h
    have hcell : w.cell? ⟨c, o + i, none⟩ = some (full[o + i]'(by omega)) := by
      simp only [World.cell?, h]; simp
    have hfr : w.frozen? ⟨c, o + i, none⟩ = false := by simp [World.frozen?, h]
    obtain ⟨w', r1, r2, r3, r4⟩ := storeCells_run (c := c) (o := o) (e := e) vs (i + 1) (wrow w c (full.setIfInBounds (o + i) v) e) (full.setIfInBounds (o + i) v) (wrow_at hlt) (by simp; omega) fun u hu => h1 u (by simp [hu])
    refine ⟨w', ?_, ?_, fun k hk => (r3 k hk).trans (wrow_other hk), fun B hB => (wrow_below hB).trans (r4 B hB)⟩
    · simp only [storeCells, Sem.run_bind, add_none, run_store P w _ _ _ (h1 v (by simp)), hcell, hfr, Bool.false_eq_true, if_false, Result.andThen_ok, setCell_row h]
      exact r1
    · rw [r2]; rfl

/-- An owned block written: its new cells. -/
theorem HRel.write {H : Heap} {w' : World} {B : Bd} (hH : HRel β H w B) {i : Nat} {cs cs' : List AV} {l : Loc} (hi : H i = some (.cells cs)) (hl : β i = some l) (hk : 0 < l.k) {full0 full : Array Value} {e0 e : TypeId}
    (hw0 : w.heap[l.c]? = some (.cells full0 e0 (0, 0))) (hw : w'.heap[l.c]? = some (.cells full e (0, 0))) (hs : l.o + l.k ≤ full.size) (hlen : cs'.length ≤ l.k) (hout : ∀ o, o < l.o ∨ l.o + l.k ≤ o → full[o]? = full0[o]?)
    (hc : ∀ (j : Nat) (a : AV), cs'[j]? = some a → ∃ v : Value, (full[l.o + j]? : Option Value) = some v ∧ V β a v) (ho : ∀ k, k ≠ l.c → w'.heap[k]? = w.heap[k]?) (hy : BelowP (fun c => ¬ β.ys c) w w') :
    HRel β (upd H i (some (.cells cs'))) w' B := by
  have hB := (hH.lt_of_own hi hl hk).2
  obtain ⟨l', hl', _, hblk⟩ := hH.own i cs hi
  rw [hl] at hl'; cases hl'
  obtain ⟨_, hun, _⟩ := hblk hk
  have hfz : ∀ c o v, β.fz c o = some v → w'.cell? ⟨c, o, none⟩ = some v := fun c o v hv => by
    have h0 := hH.fz c o v hv
    by_cases hc : c = l.c
    · subst hc
      have : o < l.o ∨ l.o + l.k ≤ o := by
        rcases Nat.lt_or_ge o l.o with h | h
        · exact .inl h
        · rcases Nat.lt_or_ge o (l.o + l.k) with h' | h'
          · rw [hun o h h'] at hv; cases hv
          · exact .inr h'
      simp only [World.cell?, hw0] at h0
      simp only [World.cell?, hw]
      rw [hout o this]; exact h0
    · exact (World.cell?_of_block (w := w) (a := ⟨c, o, none⟩) (ho c hc)).trans h0
  have h1 : HRel β (upd H i none) w' B := by
    refine (hH.drop i).world hfz (fun j b lj hj hlj hkj => ?_) hy
    by_cases e : j = i
    · subst e; simp at hj
    · rw [upd_other _ _ e] at hj
      exact ho _ (hH.sep j i b _ lj l e hj hi hlj hl hkj hk)
  have h2 := h1.add (id := i) (l := l) (cs := cs') hl hlen (fun _ => ⟨hB, hun, full, e, hw, hs, hc⟩) (fun _ j b lj hj hb hlj hkj => by
    rw [upd_other _ _ hj] at hb
    exact hH.sep j i b _ lj l hj hb hi hlj hl hkj hk) fun _ => hH.yo i _ l hi hl hk
  have e : upd (upd H i none) i (some (AB.cells cs')) = upd H i (some (.cells cs')) := by
    funext j; unfold upd; split <;> rfl
  rw [e] at h2; exact h2

/-- Of an owned block the first cells alone are told. -/
theorem HRel.trim {H : Heap} {B : Bd} (hH : HRel β H w B) {i : Nat} {cs : List AV} (hi : H i = some (.cells cs)) (m : Nat) : HRel β (upd H i (some (.cells (cs.take m)))) w B := by
  obtain ⟨l, hl, hlen, hblk⟩ := hH.own i cs hi
  have h2 := (hH.drop i).add (id := i) (l := l) (cs := cs.take m) hl (by rw [List.length_take]; omega) (fun hk => let ⟨hB, hu, full, e, p, q, r⟩ := hblk hk; ⟨hB, hu, full, e, p, q, fun j a ha => r j a (by
      rw [List.getElem?_take] at ha; split at ha
      · exact ha
      · cases ha)⟩) (fun hk j b lj hj hb hlj hkj => by
      rw [upd_other _ _ hj] at hb
      exact hH.sep j i b _ lj l hj hb hi hlj hl hkj hk) (fun hk => hH.yo i _ l hi hl hk)
  have e : upd (upd H i none) i (some (AB.cells (cs.take m))) = upd H i (some (.cells (cs.take m))) := by
    funext j; unfold upd; split <;> rfl
  rw [e] at h2; exact h2
/-- Of an owned block's cells less is told. -/
theorem HRel.recell {H : Heap} {B : Bd} (hH : HRel β H w B) {i : Nat} {cs cs' : List AV} (hi : H i = some (.cells cs)) (hle : cs'.length ≤ cs.length) (hr : ∀ (j : Nat) (a' : AV), cs'[j]? = some a' → ∃ a, cs[j]? = some a ∧ ∀ v, V β a v → V β a' v) : HRel β (upd H i (some (.cells cs'))) w B := by
  obtain ⟨l, hl, hlen, hblk⟩ := hH.own i cs hi
  have h2 := (hH.drop i).add (id := i) (l := l) (cs := cs') hl (by omega) (fun hk => let ⟨hB, hu, full, e, p, q, r⟩ := hblk hk; ⟨hB, hu, full, e, p, q, fun j a ha => by
      obtain ⟨a0, h1, h2⟩ := hr j a ha
      obtain ⟨v, h3, h4⟩ := r j a0 h1
      exact ⟨v, h3, h2 v h4⟩⟩) (fun hk j b lj hj hb hlj hkj => by
      rw [upd_other _ _ hj] at hb
      exact hH.sep j i b _ lj l hj hb hi hlj hl hkj hk) (fun hk => hH.yo i _ l hi hl hk)
  have e : upd (upd H i none) i (some (AB.cells cs')) = upd H i (some (.cells cs')) := by
    funext j; unfold upd; split <;> rfl
  rw [e] at h2; exact h2
theorem Vs_flat {xs : List AV} {vs : List Value} (h : xs.all AV.flat = true) (hv : Vs β xs vs) : ∀ v ∈ vs, v.oneCell' = true := by
  induction xs generalizing vs with
  | nil => simp [Vs] at hv; subst hv; simp
  | cons x xs ih =>
    obtain ⟨v, vs', rfl, h1, h2⟩ := hv
    simp only [List.all_cons, Bool.and_eq_true] at h
    intro u hu
    rcases List.mem_cons.1 hu with rfl | hu
    · exact flat_ok h.1 h1
    · exact ih h.2 h2 u hu

/-- Cells laid over others, as lists. -/
theorem splice_get {cs xs : List AV} {o : Nat} (h : o + xs.length ≤ cs.length) (j : Nat) : (splice cs o xs)[j]? = if o ≤ j ∧ j < o + xs.length then xs[j - o]? else cs[j]? := by
  unfold splice
  rw [List.append_assoc, List.getElem?_append]
  have e1 : (cs.take o).length = o := by simp; omega
  rw [e1]
  by_cases h1 : j < o
  · rw [if_pos h1, if_neg (by omega), List.getElem?_take_of_lt h1]
  · rw [if_neg h1, List.getElem?_append]
    by_cases h2 : j - o < xs.length
    · rw [if_pos h2, if_pos (by omega)]
    · rw [if_neg h2, if_neg (by omega), List.getElem?_drop]
      congr 1; omega

/-- What a store of xs at o leaves in an owned block. -/
theorem own_store {H : Heap} {B : Bd} (hH : HRel β H w B) {i : Nat} {cs xs : List AV} {vs : List Value} (hi : H i = some (.cells cs))  {l : Loc} (hl : β i = some l) {o : Nat} (hle : o + xs.length ≤ cs.length) (hpos : 0 < l.k)
    (hf : xs.all AV.flat = true) (hv : Vs β xs vs) :
    ∃ w', (storeCells ⟨l.c, l.o + o, none⟩ vs 0).run P w = .ok () w' ∧ HRel β (upd H i (some (.cells (splice cs o xs))) ) w' B ∧ BelowP B w w' := by
  obtain ⟨l', hl', hlen, hblk⟩ := hH.own i cs hi
  rw [hl] at hl'; cases hl'
  obtain ⟨hB, _, full, e, hw, hs, hc⟩ := hblk hpos
  have hvl := Vs_length hv
  obtain ⟨w', r1, r2, r3, r4⟩ := storeCells_run (P := P) (o := l.o + o) vs 0 w full hw (by omega) (Vs_flat hf hv)
  refine ⟨w', r1, hH.write hi hl hpos hw r2 (by rw [splV_size]; exact hs) (by rw [splice_len hle]; exact hlen) (fun q hq => by rw [splV_get _ _ _ _ (by omega), if_neg (by omega)]) (fun j a ha => ?_) r3 (r4 _ (hH.yo i _ l hi hl hpos)), r4 B hB⟩
  rw [splice_get hle] at ha
  rw [splV_get _ _ _ _ (by omega)]
  by_cases h1 : o ≤ j ∧ j < o + xs.length
  · rw [if_pos h1] at ha
    rw [if_pos (by omega)]
    obtain ⟨v, x, y⟩ := Vs_get hv _ _ ha
    exact ⟨v, by rw [show l.o + j - (l.o + o + 0) = j - o by omega]; exact x, y⟩
  · rw [if_neg h1] at ha
    rw [if_neg (by omega)]
    exact hc j a ha

theorem store_ok {H H' : Heap} {B : Bd} (hH : HRel β H w B) {t : TypeId} {p x r : AV} {u v : Value} (h : storeA P t p x H = some (r, H')) (hp : V β p u) (hx : V β x v) :
    ∃ w', (Instr.storeAt t u v).run P w = .ok () w' ∧ r = .und ∧ HRel β H' w' B ∧ BelowP B w w' := by
  unfold storeA at h
  split at h <;> (try (simp at h; done))
  rename_i i o xs e1
  split at h <;> (try (simp at h; done))
  rename_i cs hi
  obtain ⟨n, hn, h⟩ := bind_some' h
  split at h <;> (try (simp at h; done))
  rename_i hc
  obtain ⟨hxl, hle, hf⟩ := hc
  cases h
  obtain ⟨l, hl, rfl⟩ := V_ptr hp
  have hv := cells_ok e1 hx
  have hvl := Vs_length hv
  have hsz : v.cells.size = n := by rw [← hxl, hvl]; simp
  by_cases hpos : 0 < l.k
  · obtain ⟨w', r1, r2, r3⟩ := own_store (P := P) hH hi hl (o := o) (xs := xs) (by omega) hpos hf hv
    exact ⟨w', by simp [Instr.storeAt, Instr.sureAddr, storeVar, run_size hn, hsz, r1], rfl, r2, r3⟩
  · obtain ⟨l', hl', hlen, _⟩ := hH.own i cs hi
    rw [hl] at hl'; cases hl'
    have hx0 : xs = [] := List.eq_nil_of_length_eq_zero (by omega)
    subst hx0
    have hv0 : v.cells.toList = [] := by cases hh : v.cells.toList with | nil => rfl | cons a b => rw [hh] at hvl; simp at hvl
    refine ⟨w, by simp [Instr.storeAt, Instr.sureAddr, storeVar, run_size hn, hsz, hv0, storeCells], rfl, ?_, BelowP.refl _ _⟩
    have e : upd H i (some (AB.cells (splice cs o [])))  = H := by
      funext j; unfold upd
      split
      · rename_i e; subst e; rw [hi]; simp [splice, List.take_append_drop]
      · rfl
    rw [e]; exact hH

end
end Go.Eng
