import Derived.Test.YtcidmnpihffphaaEngG
namespace Go.Eng
open Go.RowKit (Below)

section
variable {P : Program} {β : Beta} {w : World}

theorem growBy_le (n : Nat) : ∀ (r c : Nat), Builtin.growBy n r c ≤ max c (2 * n + 192)
  | 0, c => by simp [Builtin.growBy]; omega
  | r + 1, c => by
    unfold Builtin.growBy
    split
    · omega
    · have := growBy_le n r (c + (c + 768) / 4)
      omega

theorem nextcap_le (n c : Nat) (h : c < n) : Builtin.nextslicecap n c ≤ 2 * n + 192 := by
  unfold Builtin.nextslicecap
  split
  · omega
  · split
    · omega
    · have := growBy_le n 4 c; omega

theorem laid_append {φ : Nat → Nat → Option Value} {c o : Nat} {a b : List Value} : laid φ c o (a ++ b) ↔ laid φ c o a ∧ laid φ c (o + a.length) b := by
  constructor
  · intro h
    refine ⟨fun k v hk => h k v ?_, fun k v hk => ?_⟩
    · have : k < a.length := (List.getElem?_eq_some_iff.1 hk).1
      rw [List.getElem?_append_left this]; exact hk
    · rw [Nat.add_assoc]; refine h _ v ?_
      rw [List.getElem?_append_right (by omega)]; simpa using hk
  · rintro ⟨h1, h2⟩ k v hk
    rw [List.getElem?_append] at hk
    split at hk
    · exact h1 k v hk
    · have := h2 _ v hk
      rwa [show o + a.length + (k - a.length) = o + k by omega] at this
theorem laid_part {φ : Nat → Nat → Option Value} {c o : Nat} {vs : List Value} (h : laid φ c o vs) (d n : Nat) : laid φ c (o + d) ((vs.drop d).take n) := fun k v hk => by
  have := h _ v (getElem?_take_drop _ _ _ _ _ hk)
  rwa [← Nat.add_assoc] at this
theorem flat_len {α : Type} {sz : Nat} {g : Nat → List α} : ∀ n : Nat, (∀ j, j < n → (g j).length = sz) → ((List.range n).flatMap g).length = n * sz
  | 0, _ => by simp
  | n + 1, h1 => by
    rw [List.range_succ, List.flatMap_append, List.flatMap_singleton, List.length_append, flat_len n (fun j hj => h1 j (by omega)), h1 n (by omega), Nat.succ_mul]
theorem flat_laid {φ : Nat → Nat → Option Value} {c o sz : Nat} {g : Nat → List Value} : ∀ n : Nat, (∀ j, j < n → (g j).length = sz) → (∀ j, j < n → laid φ c (o + j * sz) (g j)) → laid φ c o ((List.range n).flatMap g)
  | 0, _, _ => by simp [laid]
  | n + 1, h1, h2 => by
    rw [List.range_succ, List.flatMap_append, List.flatMap_singleton]
    refine laid_append.2 ⟨flat_laid n (fun j hj => h1 j (by omega)) (fun j hj => h2 j (by omega)), ?_⟩
    rw [flat_len n (fun j hj => h1 j (by omega))]; exact h2 n (by omega)
theorem flat_part {α : Type} {sz : Nat} {g : Nat → List α} : ∀ n : Nat, (∀ j, j < n → (g j).length = sz) → ∀ j, j < n → (((List.range n).flatMap g).drop (j * sz)).take sz = g j
  | 0, _, j, hj => by omega
  | n + 1, h1, j, hj => by
    have hl := flat_len n (g := g) (fun j hj => h1 j (by omega))
    rw [List.range_succ, List.flatMap_append, List.flatMap_singleton]
    by_cases hjn : j < n
    · have h2 : j * sz + sz ≤ n * sz := by rw [← Nat.succ_mul]; exact Nat.mul_le_mul_right _ hjn
      rw [List.drop_append_of_le_length (by rw [hl]; omega), List.take_append_of_le_length (by rw [List.length_drop, hl]; omega)]
      exact flat_part n (fun j hj => h1 j (by omega)) j hjn
    · have : j = n := by omega
      subst this
      rw [← hl, List.drop_left, List.take_of_length_le (by rw [h1 j (by omega)]; exact Nat.le_refl _)]
theorem flat_Vs {sz : Nat} {f : Nat → AV} {us : Nat → Value} : ∀ n : Nat, (∀ j, j < n → (f j).cells ≠ none) → (∀ j, j < n → V β (f j) (us j)) → Vs β ((List.range n).flatMap fun j => cellsL (f j)) ((List.range n).flatMap fun j => (us j).cells.toList)
  | 0, _, _ => by simp [Vs]
  | n + 1, h1, h2 => by
    rw [List.range_succ, List.flatMap_append, List.flatMap_singleton, List.flatMap_append, List.flatMap_singleton]
    refine Vs_append (flat_Vs (sz := sz) n (fun j hj => h1 j (by omega)) (fun j hj => h2 j (by omega))) ?_
    have h3 := h1 n (by omega)
    unfold cellsL
    cases hc : (f n).cells with
    | none => exact absurd hc h3
    | some cs => exact cells_ok hc (h2 n (by omega))

/-- The cells of a list that never turns. -/
theorem lst_vals {m : LM} {sz n : Nat} {f : Nat → AV} {v : Value} (hx : V β (.lst m sz n f) v) :
    ∃ (base : Option Addr) (cap : Nat) (us : Nat → Value), v = .slice base n cap ∧ n ≤ cap ∧ LMok β m sz n base cap ∧ (∀ j, j < n → (us j).cells.toList.length = sz ∧ V β (f j) (us j)) ∧
      (0 < n → ∃ c o, base = some ⟨c, o, none⟩ ∧ laid β.fz c o ((List.range n).flatMap fun j => (us j).cells.toList)) := by
  obtain ⟨base, cap, h1, h2, h3, h4⟩ := V_lst hx
  have h5 : ∀ j, ∃ u : Value, j < n → ∃ c o, base = some ⟨c, o, none⟩ ∧ u.cells.size = sz ∧ laid β.fz c (o + j * sz) u.cells.toList ∧ V β (f j) u := fun j => by
    by_cases hj : j < n
    · obtain ⟨c, o, u, k⟩ := h4 j hj; exact ⟨u, fun _ => ⟨c, o, k⟩⟩
    · exact ⟨undef, fun h => absurd h hj⟩
  obtain ⟨us, hus⟩ := Classical.axiomOfChoice h5
  refine ⟨base, cap, us, h1, h2, h3, fun j hj => ?_, fun hn => ?_⟩
  · obtain ⟨c, o, _, k1, _, k3⟩ := hus j hj; exact ⟨by simpa using k1, k3⟩
  · obtain ⟨c, o, k0, _⟩ := hus 0 hn
    refine ⟨c, o, k0, flat_laid (sz := sz) n (fun j hj => ?_) (fun j hj => ?_)⟩
    · obtain ⟨_, _, _, k1, _⟩ := hus j hj; simpa using k1
    · obtain ⟨c', o', k0', _, k2, _⟩ := hus j hj
      rw [k0] at k0'; cases k0'; exact k2

/-- A list that never turns, made of its cells. -/
theorem lst_of {m : LM} {sz n cap : Nat} {f : Nat → AV} {base : Option Addr} {us : Nat → Value} (hcap : n ≤ cap) (hm : LMok β m sz n base cap) (hu : ∀ j, j < n → (us j).cells.toList.length = sz ∧ V β (f j) (us j))
    (hl : 0 < n → ∃ c o, base = some ⟨c, o, none⟩ ∧ laid β.fz c o ((List.range n).flatMap fun j => (us j).cells.toList)) : V β (.lst m sz n f) (.slice base n cap) := by
  simp only [V]
  refine ⟨base, cap, rfl, hcap, hm, fun j hj => ?_⟩
  obtain ⟨c, o, h1, h2⟩ := hl (by omega)
  refine ⟨c, o, us j, h1, by simpa using (hu j hj).1, ?_, (hu j hj).2⟩
  have := laid_part h2 (j * sz) sz
  rwa [flat_part n (fun j hj => (hu j hj).1) j hj] at this

theorem lst_first {H : Heap} {B : Bd} (hH : HRel β H w B) {_m : LM} {sz n cap : Nat} {base : Option Addr} {us : Nat → Value} (hu : ∀ j, j < n → (us j).cells.toList.length = sz)
    (hl : 0 < n → ∃ c o, base = some ⟨c, o, none⟩ ∧ laid β.fz c o ((List.range n).flatMap fun j => (us j).cells.toList)) :
    (Builtin.firstCells sz n (.slice base n cap)).run P w = .ok ((List.range n).flatMap fun j => (us j).cells.toList).toArray w := by
  rcases Nat.eq_zero_or_pos n with rfl | hn
  · cases base <;> simp [Builtin.firstCells, loadCells, loadCellsFrom]
  · obtain ⟨c, o, rfl, h2⟩ := hl hn
    exact loadCells_run (P := P) (laid_load hH h2) (flat_len n hu).symm

/-- The cells of a slice, in the world. -/
theorem cellsOf_ok {H : Heap} {B : Bd} (hH : HRel β H w B) {sz k : Nat} {x : AV} {v : Value} {xs : List AV} (h : cellsOf H sz x = some xs) (hk : lenS x = some k) (hok : cellsOk x) (hx : V β x v) :
    ∃ vs : List Value, Vs β xs vs ∧ xs.length = k * sz ∧ (Builtin.lenOf v).run P w = .ok k w ∧ (∀ n, n = k → (Builtin.firstCells sz n v).run P w = .ok vs.toArray w) := by
  cases x <;> simp only [lenS, Option.some.injEq] at hk <;> (try (cases hk; done)) <;> (try (simp at hk; done))
  case nils =>
    subst hk
    simp only [cellsOf, Option.some.injEq] at h; subst h
    simp only [V] at hx; subst hx
    exact ⟨[], by simp [Vs], by simp, by simp [Builtin.lenOf], fun n _ => by simp [Builtin.firstCells]⟩
  case sl i o n m s =>
    subst hk
    simp only [cellsOf] at h
    split at h <;> (try (simp at h; done))
    rename_i cs hi
    split at h <;> (try (simp at h; done))
    rename_i hc
    obtain ⟨rfl, hle⟩ := hc
    cases h
    simp only [V] at hx
    obtain ⟨l, hl, hx⟩ := hx
    obtain ⟨l', vs, hl', hvs, hcell⟩ := hH.cellsList hi
    rw [hl] at hl'; cases hl'
    have hvl := Vs_length hvs
    refine ⟨(vs.drop o).take (n * s), Vs_take (Vs_drop hvs o) _, by simp; omega, ?_, ?_⟩
    · rcases hx with ⟨rfl, _, a, rfl⟩ | ⟨_, _, rfl⟩ <;> simp [Builtin.lenOf]
    · rintro n' rfl
      rcases hx with ⟨rfl, _, a, rfl⟩ | ⟨_, _, rfl⟩
      · cases a with
        | none => simp [Builtin.firstCells]
        | some a => simp [Builtin.firstCells, loadCells, loadCellsFrom]
      · exact loadCells_run (P := P) (w := w) (c := l.c) (o := l.o + o) (vs := (vs.drop o).take (n' * s)) (n := n' * s)
          (fun j v hj => by have := hcell _ _ (getElem?_take_drop _ _ _ _ _ hj); rw [Nat.add_assoc]; exact this) (by simp; omega)
  case so i o n s =>
    subst hk
    simp only [cellsOf] at h
    split at h <;> (try (simp at h; done))
    rename_i cs hi
    split at h <;> (try (simp at h; done))
    rename_i hc
    obtain ⟨rfl, hle⟩ := hc
    cases h
    simp only [V] at hx
    obtain ⟨l, hl, hx⟩ := hx
    obtain ⟨l', vs, hl', hvs, hcell⟩ := hH.cellsList hi
    rw [hl] at hl'; cases hl'
    have hvl := Vs_length hvs
    refine ⟨(vs.drop o).take (n * s), Vs_take (Vs_drop hvs o) _, by simp; omega, ?_, ?_⟩
    · rcases hx with ⟨rfl, a, rfl⟩ | ⟨_, _, _, rfl⟩ <;> simp [Builtin.lenOf]
    · rintro n' rfl
      rcases hx with ⟨rfl, a, rfl⟩ | ⟨_, _, _, rfl⟩
      · cases a with
        | none => simp [Builtin.firstCells]
        | some a => simp [Builtin.firstCells, loadCells, loadCellsFrom]
      · exact loadCells_run (P := P) (w := w) (c := l.c) (o := l.o + o) (vs := (vs.drop o).take (n' * s)) (n := n' * s)
          (fun j v hj => by have := hcell _ _ (getElem?_take_drop _ _ _ _ _ hj); rw [Nat.add_assoc]; exact this) (by simp; omega)
  case lst m s n f =>
    subst hk
    simp only [cellsOf] at h
    split at h <;> (try (simp at h; done))
    rename_i hs
    subst hs
    cases h
    obtain ⟨base, cap, us, rfl, hcap, _, hu, hlaid⟩ := lst_vals hx
    refine ⟨_, flat_Vs (sz := s) n hok (fun j hj => (hu j hj).2), ?_, by simp [Builtin.lenOf], ?_⟩
    · refine flat_len n fun j hj => ?_
      have h1 := hok j hj
      unfold cellsL
      cases hc : (f j).cells with
      | none => exact absurd hc h1
      | some cs => have := Vs_length (cells_ok hc (hu j hj).2); rw [(hu j hj).1] at this; exact this
    · rintro n' rfl
      exact lst_first (_m := m) hH (fun j hj => (hu j hj).1) hlaid

theorem zeroCells_size (z : Array Value) (n : Nat) : (Builtin.zeroCells z n).size = n * z.size := by simp [Builtin.zeroCells]

theorem bytes_ok {t : TypeId} {b : Nat} (h : (P.info? t).map (·.bytes) = some b) : ∃ i, P.info? t = some i ∧ i.bytes = b := by
  cases hi : P.info? t with
  | none => simp [hi] at h
  | some i => simp [hi] at h; exact ⟨i, rfl, h⟩

/-- The case in which a new array is made. -/
theorem append_new {t u ty e : TypeId} {sz by_ n m k : Nat} {base : Option Addr} {x : Value} (ht : P.underlying t = some (.slice e)) {d : TypeId} (hu : P.underlying u = some (.slice d)) (hsz : szT P e = some sz) (hby : (P.info? e).map (·.bytes) = some by_)
    (hb0 : 0 < by_) (hb : by_ ≤ 1048576) (hnk : n + k ≤ 1048576) (hm : m < n + k) {zv : Value} (hz : ∀ w, (zeroValue e).run P w = .ok zv w) {olds news : List Value}
    (hlen : ∀ w', (w' = w ∨ w' = w.drew) → (Builtin.lenOf x).run P w' = .ok k w') (hold : ∀ w', (w' = w ∨ w' = w.drew) → (Builtin.firstCells sz n (.slice base n m)).run P w' = .ok olds.toArray w')
    (hnew : ∀ w', (w' = w ∨ w' = w.drew) → (Builtin.firstCells sz k x).run P w' = .ok news.toArray w') :
    ∃ cap, n + k ≤ cap ∧ (Builtin.append_ #[t, u] ty #[.slice base n m, x]).run P w =
      .ok (.slice (some ⟨w.heap.size, 0, none⟩) (n + k) cap) (w.drew.alloc (.cells ((olds ++ news) ++ (Builtin.zeroCells zv.cells (cap - (n + k))).toList).toArray e)) := by
  obtain ⟨i, hi, hib⟩ := bytes_ok hby
  let q : Question := .appendCap (n + k) m e
  refine ⟨q.cut (w.tape w.drawn q), ?_, ?_⟩
  · simp only [q, Question.cut]; omega
  · have h1 : ¬ (n + k ≤ m) := by omega
    have h2 : ¬ (((n + k : Nat) : Int) > IntKind.i64.max ∧ (false = true ∨ i.bytes = 0)) := by
      intro hh; rcases hh.2 with hh | hh
      · simp at hh
      · omega
    have h3 : ¬ (Builtin.nextslicecap (n + k) m * i.bytes > 2 ^ 48) := by
      have := nextcap_le (n + k) m hm
      have : Builtin.nextslicecap (n + k) m * i.bytes ≤ 2097600 * 1048576 := Nat.mul_le_mul (by omega) (by omega)
      omega
    have hun : ∀ w', (underlying t).run P w' = .ok (.slice e) w' := fun w' => run_und ht
    have hun2 : ∀ w', (underlying u).run P w' = .ok (.slice d) w' := fun w' => run_und hu
    have hs : ∀ w', (sizeOf e).run P w' = .ok sz w' := fun w' => run_size hsz
    have hti : ∀ w', (typeInfo e).run P w' = .ok i w' := fun w' => by simp [typeInfo, hi]
    have hforced : q.forced = false := rfl
    have hd : ({ w with drawn := w.drawn + 1 } : World) = w.drew := rfl
    unfold Builtin.append_
    simp only [List.getElem?_toArray, List.getElem?_cons_zero, List.getElem?_cons_succ]
    simp only [Sem.run_bind, hun, hs, hun2, Result.andThen_ok, Sem.run_pure, Bool.false_eq_true, if_false, hlen w (.inl rfl), h1, hti, Bool.not_false, if_true]
    have hq : (Question.appendCap (n + k) m e).forced = false := rfl
    simp only [newRow]
    have h4 : ¬ (9223372036854775807 < (n : Int) + (k : Int) ∧ i.bytes = 0) := by omega
    have h5 : ¬ (281474976710656 < Builtin.nextslicecap (n + k) m * i.bytes) := by omega
    simp [q, h4, h5, hti, hq, hold _ (.inr rfl), hnew _ (.inr rfl), hz]
    congr 2
    apply Array.toList_inj.1
    simp

theorem cells_drew (a : Addr) : w.drew.cell? a = w.cell? a := rfl

theorem HRel.drew {H : Heap} {B : Bd} (h : HRel β H w B) : HRel β H w.drew B :=
  h.world (fun c o v hv => h.fz c o v hv) (fun _ _ _ _ _ _ => rfl) ⟨rfl, rfl, rfl, Nat.le_refl _, Nat.le_succ _, fun _ _ => rfl⟩

theorem HRel.loc0 {H : Heap} {B : Bd} (hH : HRel β H w B) {id : Nat} (hid : β id = none) : HRel (β.put id ⟨0, 0, 0⟩) (upd H id (some (.cells []))) w B :=
  (hH.put ⟨0, 0, 0⟩ hid).add (l := ⟨0, 0, 0⟩) (put_same _ _ _) (by simp) (fun h => by simp at h) (fun h => by simp at h) (fun h => by simp at h)

/-- An owned block under another name. -/
theorem HRel.rename {H : Heap} {B : Bd} (hH : HRel β H w B) {i id : Nat} {cs : List AV} {l : Loc} (hi : H i = some (.cells cs)) (hl : β i = some l) (hid : β id = none) : HRel (β.put id l) (upd (upd H i none) id (some (.cells cs))) w B := by
  obtain ⟨l', hl', hlen, hblk⟩ := hH.own i cs hi
  rw [hl] at hl'; cases hl'
  have hle := le_put (β := β) (l := l) hid
  refine ((hH.drop i).put l hid).add (l := l) (put_same _ _ _) hlen (fun hk => ?_) (fun hk j b lj hj hb hlj hkj => ?_) fun hk => hH.yo i _ l hi hl hk
  · obtain ⟨hB, hu, full, e, p, q, r⟩ := hblk hk
    exact ⟨hB, hu, full, e, p, q, fun j a ha => let ⟨v, x, y⟩ := r j a ha; ⟨v, x, V_mono hle _ _ y⟩⟩
  · rw [put_other _ _ hj] at hlj
    have hji : j ≠ i := fun e => by subst e; simp at hb
    rw [upd_other _ _ hji] at hb
    exact hH.sep j i b _ lj l hji hb hi hlj hl hkj hk

theorem append_in {t u ty e : TypeId} {sz n m k : Nat} {base : Option Addr} {x : Value} (ht : P.underlying t = some (.slice e)) {d : TypeId} (hu : P.underlying u = some (.slice d)) (hsz : szT P e = some sz) (hm : n + k ≤ m) {news : List Value}
    (hlen : (Builtin.lenOf x).run P w = .ok k w) (hnew : (Builtin.firstCells sz k x).run P w = .ok news.toArray w) {w' : World}
    (hst : ∀ a, base = some a → (storeCells (a.add (n * sz)) news 0).run P w = .ok () w') (hno : base = none → w' = w) :
    (Builtin.append_ #[t, u] ty #[.slice base n m, x]).run P w = .ok (.slice base (n + k) m) w' := by
  unfold Builtin.append_
  simp only [List.getElem?_toArray, List.getElem?_cons_zero, List.getElem?_cons_succ]
  simp only [Sem.run_bind, run_und ht, run_und hu, run_size hsz, Result.andThen_ok, Sem.run_pure, Bool.false_eq_true, if_false, hlen, hm, if_true, Bool.not_false, hnew]
  cases base with
  | none => rw [hno rfl]; simp
  | some a => simp [hst a rfl]

/-- Both worlds of a draw load the same cells. -/
theorem first_drew {sz : Nat} : ∀ (y : Value) (n : Nat) (a b : Array Value), (Builtin.firstCells sz n y).run P w = .ok a w → (Builtin.firstCells sz n y).run P w.drew = .ok b w.drew → a = b := by
  intro y n a b ha hb
  have key : ∀ (m i : Nat) (ad : Addr) (acc a b : Array Value), (loadCellsFrom ad i m acc).run P w = .ok a w → (loadCellsFrom ad i m acc).run P w.drew = .ok b w.drew → a = b := by
    intro m
    induction m with
    | zero => intro i ad acc a b ha hb; simp [loadCellsFrom] at ha hb; rw [← ha, ← hb]
    | succ m ih =>
      intro i ad acc a b ha hb
      simp only [loadCellsFrom, Sem.run_bind, run_load, cells_drew] at ha hb
      cases hcell : w.cell? (ad.add i) with
      | some v => simp only [hcell, Result.andThen_ok] at ha hb; exact ih _ _ _ _ _ ha hb
      | none =>
        simp only [hcell] at ha hb
        have hfar : w.drew.farLoad P (ad.add i) (Mode.plain == Mode.atomic) = w.farLoad P (ad.add i) (Mode.plain == Mode.atomic) := rfl
        rw [hfar] at hb
        cases hf : w.farLoad P (ad.add i) (Mode.plain == Mode.atomic) with
        | ok v => obtain ⟨v, _⟩ := v; simp only [hf, Result.andThen_ok] at ha hb; exact ih _ _ _ _ _ ha hb
        | error x => simp only [hf, Result.andThen_halt] at ha; cases ha
  cases y <;> simp only [Builtin.firstCells] at ha hb <;> (try (simp at ha; done))
  case slice ad l c =>
    cases ad with
    | none => simp at ha hb; rw [ha, hb]
    | some ad => exact key _ _ _ _ _ _ ha hb
  case string => simp at ha hb; rw [← ha, ← hb]

theorem zero_all {e : TypeId} {z : List AV} {zv : Value} (hz : zeroT P e = some z) (hzv : (zeroValue e).run P w = .ok zv w) : ∀ w, (zeroValue e).run P w = .ok zv w := by
  intro w2
  obtain ⟨zv2, h1, _⟩ := zeroT_ok (β := ⟨fun _ => none, fun _ _ => none, fun _ => False⟩) (w := w2) hz
  unfold zeroT at hz
  obtain ⟨i, hi, _⟩ := bind_some' hz
  cases hzz : i.zero with
  | none => simp [zeroValue, typeInfo, hi, hzz] at hzv
  | some zz => simp [zeroValue, typeInfo, hi, hzz] at hzv h1 ⊢; rw [hzv]

end
end Go.Eng
