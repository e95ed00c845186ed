import Derived.Test.YtcidmnpihffphaaEngI
import Derived.MapKept
namespace Go.Eng
open Go.RowKit (Below)
open Go.MapKept
universe u v
variable {P : Program} {β : Beta} {w : World}

theorem mapT_ok {t : TypeId} {q : IntKind} {e : TypeId} (h : mapT P t = some (q, e)) : ∃ k, P.underlying t = some (.map k e) ∧ P.underlying k = some (.int q) := by
  unfold mapT at h
  split at h <;> (try (simp at h; done))
  rename_i k e' h1
  split at h <;> (try (simp at h; done))
  rename_i q' h2
  simp only [Option.some.injEq, Prod.mk.injEq] at h
  obtain ⟨rfl, rfl⟩ := h
  exact ⟨k, h1, h2⟩

/-- Entries and their abstract list, step by step. -/
def KR (β : Beta) (q : IntKind) : List (Nat × Int × AV) → List MapEntry → Prop
  | [], es => es = []
  | p :: L, es => ∃ e es', es = e :: es' ∧ e.born = p.1 ∧ e.key = .int q p.2.1 ∧ V β p.2.2 e.val ∧ KR β q L es'
theorem KR_of {q : IntKind} : ∀ {L : List (Nat × Int × AV)} {es : List MapEntry}, es.length = L.length → (∀ (j : Nat) (p : Nat × AV × AV), (encM q L)[j]? = some p → ∃ e : MapEntry, es[j]? = some e ∧ e.born = p.1 ∧ V β p.2.1 e.key ∧ V β p.2.2 e.val) → KR β q L es
  | [], [], _, _ => rfl
  | [], _ :: _, h, _ => by simp at h
  | _ :: _, [], h, _ => by simp at h
  | p :: L, e :: es, h, k => by
    obtain ⟨e', h1, h2, h3, h4⟩ := k 0 (p.1, .int q p.2.1, p.2.2) (by simp [encM])
    simp only [List.getElem?_cons_zero, Option.some.injEq] at h1
    subst h1
    exact ⟨e, es, rfl, h2, V_int h3, h4, KR_of (by simpa using h) fun j p hj => by
      obtain ⟨e', g1, g2⟩ := k (j + 1) p (by simpa [encM] using hj)
      exact ⟨e', by simpa using g1, g2⟩⟩
theorem KR_get {q : IntKind} : ∀ {L : List (Nat × Int × AV)} {es : List MapEntry}, KR β q L es → es.length = L.length ∧ ∀ (j : Nat) (p : Nat × Int × AV), L[j]? = some p → ∃ e : MapEntry, es[j]? = some e ∧ e.born = p.1 ∧ e.key = .int q p.2.1 ∧ V β p.2.2 e.val
  | [], es, h => by cases (show es = [] from h); exact ⟨rfl, fun j p hj => by simp at hj⟩
  | p :: L, es, h => by
    obtain ⟨e, es', rfl, h1, h2, h3, h4⟩ := h
    obtain ⟨g1, g2⟩ := KR_get h4
    refine ⟨by simp [g1], fun j p' hj => ?_⟩
    cases j with
    | zero => simp only [List.getElem?_cons_zero, Option.some.injEq] at hj; subst hj; exact ⟨e, by simp, h1, h2, h3⟩
    | succ j => obtain ⟨e', k1, k2⟩ := g2 j p' (by simpa using hj); exact ⟨e', by simpa using k1, k2⟩
theorem KR_mk {q : IntKind} : ∀ {L : List (Nat × Int × AV)} {es : List MapEntry}, es.length = L.length → (∀ (j : Nat) (p : Nat × Int × AV), L[j]? = some p → ∃ e : MapEntry, es[j]? = some e ∧ e.born = p.1 ∧ e.key = .int q p.2.1 ∧ V β p.2.2 e.val) → KR β q L es
  | [], [], _, _ => rfl
  | [], _ :: _, h, _ => by simp at h
  | _ :: _, [], h, _ => by simp at h
  | p :: L, e :: es, h, k => by
    obtain ⟨e', h1, h2, h3, h4⟩ := k 0 p (by simp)
    simp only [List.getElem?_cons_zero, Option.some.injEq] at h1
    subst h1
    exact ⟨e, es, rfl, h2, h3, h4, KR_mk (by simpa using h) fun j p hj => by
      obtain ⟨e', g1, g2⟩ := k (j + 1) p (by simpa using hj)
      exact ⟨e', by simpa using g1, g2⟩⟩
theorem MRel.kr {q : IntKind} {L : List (Nat × Int × AV)} {ents : Array MapEntry} (m : MRel β (encM q L) ents) : KR β q L ents.toList :=
  KR_of (by have := m.len; simpa [encM] using this) fun j p hj => by
    obtain ⟨e, h1, h2⟩ := m.rel j p hj
    exact ⟨e, by simpa using h1, h2⟩
theorem KR.mrel {q : IntKind} {L : List (Nat × Int × AV)} {ents : Array MapEntry} (h : KR β q L ents.toList) : MRel β (encM q L) ents := by
  obtain ⟨h1, h2⟩ := KR_get h
  refine ⟨by simpa [encM] using h1, fun j p hj => ?_⟩
  unfold encM at hj
  rw [List.getElem?_map] at hj
  obtain ⟨p', g1, rfl⟩ := Option.map_eq_some_iff.1 hj
  obtain ⟨e, k1, k2, k3, k4⟩ := h2 j p' g1
  exact ⟨e, by simpa using k1, k2, by rw [k3]; simp [V], k4⟩

theorem findNow_kr {q : IntKind} {n : Int} : ∀ {L : List (Nat × Int × AV)} {es : List MapEntry} (i : Nat), KR β q L es →
    (L.findIdx? (fun p => p.2.1 == n) = none ∧ mfind n L = none ∧ Instr.findNow (.int q) (.int q n) es i = some none) ∨
    ∃ j p e, L.findIdx? (fun p => p.2.1 == n) = some j ∧ mfind n L = some p ∧ L[j]? = some p ∧ es[j]? = some e ∧ e.born = p.1 ∧ p.2.1 = n ∧ e.key = .int q n ∧ V β p.2.2 e.val ∧ Instr.findNow (.int q) (.int q n) es i = some (some (i + j, e.val))
  | [], es, i, h => by cases (show es = [] from h); exact .inl ⟨rfl, rfl, rfl⟩
  | p :: L, es, i, h => by
    obtain ⟨e, es', rfl, h1, h2, h3, h4⟩ := h
    have hs : Instr.sameNow (.int q) (.int q n) e.key = some (n == p.2.1) := by rw [h2]; simp [Instr.sameNow]
    by_cases hp : p.2.1 = n
    · refine .inr ⟨0, p, e, ?_, ?_, by simp, by simp, h1, hp, by rw [h2, hp], h3, ?_⟩
      · simp [List.findIdx?_cons, hp]
      · simp [mfind, hp]
      · simp [Instr.findNow, hs, hp]
    · have hs' : Instr.findNow (.int q) (.int q n) (e :: es') i = Instr.findNow (.int q) (.int q n) es' (i + 1) := by
        have : (n == p.2.1) = false := by simp; exact fun h => hp h.symm
        simp [Instr.findNow, hs, this]
      have hb : (p.2.1 == n) = false := by simpa using hp
      rcases findNow_kr (i + 1) h4 with ⟨k1, k2, k3⟩ | ⟨j, p', e', k1, k2, k3, k4, k5, k6, k7, k8, k9⟩
      · refine .inl ⟨?_, ?_, hs'.trans k3⟩
        · simp [List.findIdx?_cons, hb, k1]
        · unfold mfind at k2 ⊢; rw [List.find?_cons, hb]; exact k2
      · refine .inr ⟨j + 1, p', e', ?_, ?_, by simpa using k3, by simpa using k4, k5, k6, k7, k8, ?_⟩
        · simp [List.findIdx?_cons, hb, k1]
        · unfold mfind at k2 ⊢; rw [List.find?_cons, hb]; exact k2
        · rw [hs', k9]; congr 2; simp only [Prod.mk.injEq, and_true]; omega

theorem isKey_int (q : IntKind) (n : Int) : IsKey (.int q) (.int q n) := by simp [IsKey]

theorem zeroV_ok {e : TypeId} {z : AV} (h : zeroV P e = some z) (w : World) : ∃ v, (zeroValue e).run P w = .ok v w ∧ ∀ β, V β z v := by
  unfold zeroV at h
  obtain ⟨i, hi, h⟩ := bind_some' h
  obtain ⟨v, hv, rfl⟩ := Option.map_eq_some_iff.1 h
  refine ⟨v, ?_, fun β => V_ofVal β v⟩
  simp [zeroValue, typeInfo, hi, hv]

theorem V_mp {i : Nat} {v : Value} (h : V β (.mp i) v) : ∃ l, β i = some l ∧ v = .map (some l.c) := by simpa only [V] using h

theorem HRel.mapAt {H : Heap} {B : Bd} (hH : HRel β H w B) {i : Nat} {es : List (Nat × AV × AV)} {clk : Nat} (h : mapAt H i es clk) : ∃ l, β i = some l ∧ ∃ ents : Array MapEntry, w.heap[l.c]? = some (.map ents clk) ∧ MRel β es ents := by
  rcases h with h | ⟨sz, ho, h⟩
  · obtain ⟨l, h1, _, _, ents, h2, h3⟩ := hH.map i _ _ h; exact ⟨l, h1, ents, h2, h3⟩
  · obtain ⟨l, h1, _, _, ents, h2, h3, _⟩ := hH.mps i _ _ _ _ h; exact ⟨l, h1, ents, h2, h3⟩
theorem look_ok {H : Heap} {B : Bd} {lim : Nat} (hH : HRel β H w B) {t : TypeId} {x k r : AV} {ok : Bool} {xv kv : Value} (h : mlookR P lim t x k ok H r) (hx : V β x xv) (hk : V β k kv) :
    ∃ z, (Instr.lookup t xv kv ok).run P w = .ok z w ∧ V β r z := by
  obtain ⟨q, e, z, n, v, b, ht, hz, rfl, h, hwk⟩ := h
  obtain ⟨kt, t1, t2⟩ := mapT_ok ht
  obtain ⟨zv, z1, z2⟩ := zeroV_ok hz w
  cases V_int hk
  have fin0 : ∀ (u : Value), V β v u → V β (if ok = true then AV.tup [v, .bool b] else v) (if ok = true then .tuple #[u, .bool b] else u) := fun u hu => by
    cases ok
    · simpa using hu
    · simp only [if_true, V, Vs]; exact ⟨[u, .bool b], rfl, u, [.bool b], rfl, hu, _, [], rfl, rfl, rfl⟩
  have fin : ∀ (u : Value), V β v u → V β r (if ok = true then .tuple #[u, .bool b] else u) := fun u hu => hwk _ _ (fin0 u hu)
  clear fin0
  have ck : ∀ em : Bool, (Instr.checkKey em 10000 kt (.int q n)).run P w = .ok () w := fun em => run_checkKey t2 (isKey_int q n) em 9999
  rcases h with ⟨rfl, rfl, rfl⟩ | ⟨i, L, clk, rfl, _, hi, h⟩
  · cases (show xv = .map none by simpa only [V] using hx)
    refine ⟨_, ?_, fin zv (z2 β)⟩
    have : (Instr.findKey kt (.int q n) []).run P w = .ok none w := run_findKey t2 rfl
    cases ok <;> simp [Instr.lookup, Sem.run_bind, run_underlying t1, Result.andThen, ck, this, z1]
  · obtain ⟨l, hl, rfl⟩ := V_mp hx
    obtain ⟨l', hl', ents, hw, hm⟩ := hH.mapAt hi
    rw [hl] at hl'; cases hl'
    rcases findNow_kr (n := n) 0 hm.kr with ⟨_, k2, k3⟩ | ⟨j, p, e', _, k2, _, _, _, _, _, k8, k9⟩
    · rw [k2] at h
      obtain ⟨rfl, rfl⟩ := h
      refine ⟨_, ?_, fin zv (z2 β)⟩
      have := run_findKey (w := w) t2 k3
      cases ok <;> simp [Instr.lookup, Sem.run_bind, run_underlying t1, Result.andThen, MapKept.run_getObj_map hw, ck, this, z1]
    · rw [k2] at h
      obtain ⟨rfl, rfl⟩ := h
      refine ⟨_, ?_, fin e'.val k8⟩
      have := run_findKey (w := w) t2 k9
      cases ok <;> simp [Instr.lookup, Sem.run_bind, run_underlying t1, Result.andThen, MapKept.run_getObj_map hw, ck, this]

/-- A map's object written anew. -/
theorem HRel.putMap {H : Heap} {B : Bd} (hH : HRel β H w B) {i : Nat} {es es' : List (Nat × AV × AV)} {clk clk' : Nat} {l : Loc} (hi : H i = some (.map es clk)) (hl : β i = some l) {ents' : Array MapEntry} (hm : MRel β es' ents') :
    HRel β (upd H i (some (.map es' clk'))) (w.putObj l.c (.map ents' clk')) B ∧ BelowP B w (w.putObj l.c (.map ents' clk')) := by
  obtain ⟨l', hl', hk, hB, ents, hw, _⟩ := hH.map i es clk hi
  rw [hl] at hl'; cases hl'
  have hlt : l.c < w.heap.size := (Array.getElem?_eq_some_iff.1 hw).1
  have hbel : ∀ {B : Bd}, B l.c → BelowP B w (w.putObj l.c (.map ents' clk')) := fun {B} hB => ⟨rfl, rfl, rfl, by simp, Nat.le_refl _, fun k hk => World.putObj_heap_other fun e => hk (e ▸ hB)⟩
  refine ⟨?_, hbel hB⟩
  have h1 : HRel β (upd H i none) (w.putObj l.c (.map ents' clk')) B := by
    refine (hH.drop i).world (fun c o v hv => ?_) (fun j b lj hj hlj hkj => ?_) (hbel (hH.yo i _ l hi hl hk))
    · have h0 := hH.fz c o v hv
      have hne : c ≠ l.c := fun e => by subst e; simp [World.cell?, hw] at h0
      exact (World.cell?_of_block (w := w) (a := ⟨c, o, none⟩) (World.putObj_heap_other hne)).trans h0
    · by_cases e : j = i
      · subst e; simp at hj
      · rw [upd_other _ _ e] at hj
        exact World.putObj_heap_other (hH.sep j i b _ lj l e hj hi hlj hl hkj hk)
  have h2 := h1.addMap (id := i) (l := l) (es := es') (clk := clk') hl hk hB (ents := ents') (World.putObj_heap_same hlt) hm (fun j b lj hj hb hlj hkj => by
    rw [upd_other _ _ hj] at hb
    exact hH.sep j i b _ lj l hj hb hi hlj hl hkj hk) (hH.yo i _ l hi hl hk)
  have e : upd (upd H i none) i (some (AB.map es' clk')) = upd H i (some (.map es' clk')) := by
    funext j; unfold upd; split <;> rfl
  rw [e] at h2; exact h2

/-- One map of lists more. -/
theorem HRel.addMaps {H : Heap} {B : Bd} (h : HRel β H w B) {id : Nat} {l : Loc} {sz : Nat} {es : List (Nat × AV × AV)} {clk : Nat} {ho : Option Nat} (hl : β id = some l) (hk : 0 < l.k) (hB : B l.c)
    {ents : Array MapEntry} (hw : w.heap[l.c]? = some (.map ents clk)) (hm : MRel β es ents) (hp : Pool β.fz β.ys sz w (outE ho ents))
    (hs : ∀ j b lj, j ≠ id → H j = some b → β j = some lj → 0 < lj.k → lj.c ≠ l.c) (hy : ¬ β.ys l.c) (hx : ∀ j b, j ≠ id → H j = some b → noGh b = true) : HRel β (upd H id (some (.maps sz es clk ho))) w B where
  fz := h.fz
  own i xs hi := by
    by_cases e : i = id
    · subst e; simp [upd] at hi
    · rw [upd_other _ _ e] at hi; exact h.own i xs hi
  map i xs ck hi := by
    by_cases e : i = id
    · subst e; simp [upd] at hi
    · rw [upd_other _ _ e] at hi; exact h.map i xs ck hi
  sep i j bi bj li lj hne hi hj ei ej pi pj := by
    by_cases e : i = id
    · subst e
      rw [hl] at ei; cases ei
      have e' : j ≠ i := fun e => hne e.symm
      rw [upd_other _ _ e'] at hj
      exact fun hc => hs j bj lj e' hj ej pj hc.symm
    · rw [upd_other _ _ e] at hi
      by_cases e' : j = id
      · subst e'
        rw [hl] at ej; cases ej
        exact hs i bi li e hi ei pi
      · rw [upd_other _ _ e'] at hj
        exact h.sep i j bi bj li lj hne hi hj ei ej pi pj
  ys := h.ys
  yo i b li hi ei pi := by
    by_cases e : i = id
    · subst e; rw [hl] at ei; cases ei; exact hy
    · rw [upd_other _ _ e] at hi; exact h.yo i b li hi ei pi
  gh i S G s hi := by
    by_cases e : i = id
    · subst e; simp [upd] at hi
    · rw [upd_other _ _ e] at hi; exact h.gh i S G s hi
  gh1 i j S G s S' G' s' hi hj := by
    by_cases e : i = id
    · subst e; simp [upd] at hi
    · by_cases e' : j = id
      · subst e'; simp [upd] at hj
      · rw [upd_other _ _ e] at hi; rw [upd_other _ _ e'] at hj; exact h.gh1 i j S G s S' G' s' hi hj
  mps i sz' es' clk' ho' hi := by
    by_cases e : i = id
    · subst e; rw [upd_same] at hi; cases hi; exact ⟨l, hl, hk, hB, ents, hw, hm, hp⟩
    · rw [upd_other _ _ e] at hi; have := hx i _ e hi; cases this
  mp1 i j sz' es' clk' ho' b hi hj hb := by
    by_cases e : i = id
    · by_cases e' : j = id
      · rw [e, e']
      · rw [upd_other _ _ e'] at hj; have := hx j _ e' hj; rw [hb] at this; cases this
    · rw [upd_other _ _ e] at hi; have := hx i _ e hi; cases this
theorem Pool.inj {fz : Nat → Nat → Option Value} {ys : Nat → Prop} {sz : Nat} {w : World} {vs vs' : Nat → Option Value} (h : Pool fz ys sz w vs) (f : Nat → Nat) (hf : ∀ j v, vs' j = some v → vs (f j) = some v) (hi : ∀ i j, f i = f j → i = j) : Pool fz ys sz w vs' := fun j v hv => by
  obtain ⟨base, n, cap, e1, e2, e3⟩ := h (f j) v (hf j v hv)
  refine ⟨base, n, cap, e1, e2, e3.imp id fun ⟨c, o, full, ty, g1, g2, g3, g4, g5, g6⟩ => ⟨c, o, full, ty, g1, g2, g3, g4, g5, fun j' v' hv' hne => g6 (f j') v' (hf j' v' hv') fun e => hne (hi _ _ e)⟩⟩
/-- The object of a map of lists written anew. -/
theorem HRel.putMaps {H : Heap} {B : Bd} (hH : HRel β H w B) {i sz : Nat} {es es' : List (Nat × AV × AV)} {clk clk' : Nat} {ho ho' : Option Nat} {l : Loc} (hi : H i = some (.maps sz es clk ho)) (hl : β i = some l) {ents ents' : Array MapEntry} (hw : w.heap[l.c]? = some (.map ents clk)) (hm : MRel β es' ents')
    (hp : Pool β.fz β.ys sz w (outE ho ents) → Pool β.fz β.ys sz w (outE ho' ents')) :
    HRel β (upd H i (some (.maps sz es' clk' ho'))) (w.putObj l.c (.map ents' clk')) B ∧ BelowP B w (w.putObj l.c (.map ents' clk')) := by
  obtain ⟨l', hl', hk, hB, ents0, hw0, _, hp0⟩ := hH.mps i sz es clk ho hi
  rw [hl] at hl'; cases hl'
  rw [hw] at hw0; cases hw0
  have hlt : l.c < w.heap.size := (Array.getElem?_eq_some_iff.1 hw).1
  have hbel : ∀ {B : Bd}, B l.c → BelowP B w (w.putObj l.c (.map ents' clk')) := fun {B} hB => ⟨rfl, rfl, rfl, by simp, Nat.le_refl _, fun k hk => World.putObj_heap_other fun e => hk (e ▸ hB)⟩
  refine ⟨?_, hbel hB⟩
  have hy := hH.yo i _ l hi hl hk
  have h1 : HRel β (upd H i none) (w.putObj l.c (.map ents' clk')) B := by
    refine (hH.drop i).world (fun c o v hv => ?_) (fun j b lj hj hlj hkj => ?_) (hbel hy)
    · have h0 := hH.fz c o v hv
      have hne : c ≠ l.c := fun e => by subst e; simp [World.cell?, hw] at h0
      exact (World.cell?_of_block (w := w) (a := ⟨c, o, none⟩) (World.putObj_heap_other hne)).trans h0
    · by_cases e : j = i
      · subst e; simp at hj
      · rw [upd_other _ _ e] at hj
        exact World.putObj_heap_other (hH.sep j i b _ lj l e hj hi hlj hl hkj hk)
  have h2 := h1.addMaps (id := i) (l := l) (sz := sz) (es := es') (clk := clk') (ho := ho') hl hk hB (ents := ents') (World.putObj_heap_same hlt) hm ((hp hp0).mono (fun _ h => h) (fun _ _ _ h => h) fun c hc => World.putObj_heap_other fun e => hy (e ▸ hc)) (fun j b lj hj hb hlj hkj => by
    rw [upd_other _ _ hj] at hb
    exact hH.sep j i b _ lj l hj hb hi hlj hl hkj hk) hy (fun j b hj hb => by
    rw [upd_other _ _ hj] at hb
    cases e : noGh b with
    | true => rfl
    | false => exact absurd (hH.mp1 i j _ _ _ _ b hi hb e).symm hj)
  have e : upd (upd H i none) i (some (AB.maps sz es' clk' ho')) = upd H i (some (.maps sz es' clk' ho')) := by
    funext j; unfold upd; split <;> rfl
  rw [e] at h2; exact h2
theorem outE_push {ents : Array MapEntry} {e0 : MapEntry} {m : Nat} (hm : m = ents.size) (j : Nat) (u : Value) (h : outE (some m) (ents.push e0) j = some u) : outE (some m) ents j = some u := by
  unfold outE at h ⊢
  rw [Array.getElem?_push] at h
  split at h
  · rename_i e he
    split at he
    · rename_i ej; cases he; simp [hm, ej] at h
    · rw [he]; exact h
  · cases h
theorem outE_modify {ents : Array MapEntry} {g : MapEntry → MapEntry} {i : Nat} (j : Nat) (u : Value) (h : outE (some i) (ents.modify i g) j = some u) : outE (some i) ents j = some u := by
  unfold outE at h ⊢
  rw [Array.getElem?_modify] at h
  split at h
  · rename_i e he
    split at he
    · rename_i ej; simp [ej] at h
    · rw [he]; exact h
  · cases h
theorem outE_erase {ents : Array MapEntry} {i : Nat} (j : Nat) (u : Value) (h : outE none (ents.eraseIdxIfInBounds i) j = some u) : outE none ents (if i ≤ j then j + 1 else j) = some u := by
  unfold outE at h ⊢
  by_cases hi : i < ents.size
  · simp only [Array.eraseIdxIfInBounds, hi, dif_pos] at h
    rw [Array.getElem?_eraseIdx] at h
    by_cases hj : j < i
    · rw [if_pos hj] at h; rw [if_neg (by omega)]; exact h
    · rw [if_neg hj] at h; rw [if_pos (by omega)]; exact h
  · simp only [Array.eraseIdxIfInBounds, hi, dif_neg, not_false_eq_true] at h
    split at h
    · rename_i e he
      have hj : j < ents.size := (Array.getElem?_eq_some_iff.1 he).1
      rw [if_neg (by omega), he]; exact h
    · cases h
theorem getElem?_modify' {α : Type} (es : List α) (i : Nat) (f : α → α) (j : Nat) : (es.modify i f)[j]? = if i = j then (es[j]?).map f else es[j]? := by
  rw [List.getElem?_modify]; by_cases h : i = j <;> simp [h]
theorem KR_modify {q : IntKind} {L : List (Nat × Int × AV)} {es : List MapEntry} (h : KR β q L es) {j : Nat} {f : Nat × Int × AV → Nat × Int × AV} {g : MapEntry → MapEntry}
    (hfg : ∀ p e, L[j]? = some p → es[j]? = some e → e.born = p.1 → e.key = .int q p.2.1 → V β p.2.2 e.val → (g e).born = (f p).1 ∧ (g e).key = .int q (f p).2.1 ∧ V β (f p).2.2 (g e).val) : KR β q (L.modify j f) (es.modify j g) := by
  obtain ⟨h1, h2⟩ := KR_get h
  refine KR_mk (by simpa using h1) fun k p hk => ?_
  rw [getElem?_modify'] at hk ⊢
  by_cases e : j = k
  · subst e
    simp only [if_true] at hk ⊢
    obtain ⟨p0, g1, rfl⟩ := Option.map_eq_some_iff.1 hk
    obtain ⟨e0, k1, k2, k3, k4⟩ := h2 _ p0 g1
    obtain ⟨m1, m2, m3⟩ := hfg p0 e0 g1 k1 k2 k3 k4
    exact ⟨g e0, by simp [k1], m1, m2, m3⟩
  · simp only [if_neg e] at hk ⊢
    exact h2 k p hk
theorem KR_push {q : IntKind} {L : List (Nat × Int × AV)} {es : List MapEntry} (h : KR β q L es) {b : Nat} {n : Int} {a : AV} {v : Value} (hv : V β a v) : KR β q (L ++ [(b, n, a)]) (es ++ [{ key := .int q n, val := v, born := b }]) := by
  obtain ⟨h1, h2⟩ := KR_get h
  refine KR_mk (by simpa using h1) fun k p hk => ?_
  rw [List.getElem?_append] at hk ⊢
  rw [h1]
  split
  · rename_i hlt
    rw [if_pos hlt] at hk
    exact h2 k p hk
  · rename_i hlt
    rw [if_neg hlt] at hk
    by_cases e : k - L.length = 0
    · rw [e] at hk ⊢
      simp only [List.getElem?_cons_zero, Option.some.injEq] at hk
      subst hk
      exact ⟨{ key := .int q n, val := v, born := b }, by simp, rfl, rfl, hv⟩
    · obtain ⟨m, hm⟩ : ∃ m, k - L.length = m + 1 := ⟨k - L.length - 1, by omega⟩
      rw [hm] at hk; simp at hk
theorem KR_erase {q : IntKind} {L : List (Nat × Int × AV)} {es : List MapEntry} (h : KR β q L es) (j : Nat) : KR β q (L.eraseIdx j) (es.eraseIdx j) := by
  obtain ⟨h1, h2⟩ := KR_get h
  refine KR_mk (by simp [List.length_eraseIdx, h1]) fun k p hk => ?_
  rw [List.getElem?_eraseIdx] at hk ⊢
  split
  · rename_i hlt; rw [if_pos hlt] at hk; exact h2 k p hk
  · rename_i hlt; rw [if_neg hlt] at hk; exact h2 (k + 1) p hk

theorem upd_ok {H H' : Heap} {B : Bd} (hH : HRel β H w B) {t : TypeId} {m k x r : AV} {mv kv xv : Value} (h : updR P t m k x H r H') (hm : V β m mv) (hk : V β k kv) (hx : V β x xv) :
    ∃ w', (Instr.mapUpdate t mv kv xv).run P w = .ok () w' ∧ r = .und ∧ HRel β H' w' B ∧ BelowP B w w' := by
  obtain ⟨q, e, n, i, L, clk, ht, rfl, rfl, rfl, hcase⟩ := h
  obtain ⟨kt, t1, t2⟩ := mapT_ok ht
  cases V_int hk
  obtain ⟨l, hl, rfl⟩ := V_mp hm
  have hat : mapAt H i (encM q L) clk := hcase.imp (fun h => h.1) fun ⟨sz, h, _⟩ => ⟨sz, _, h⟩
  obtain ⟨l', hl', ents, hw, hmr⟩ := hH.mapAt hat
  rw [hl] at hl'; cases hl'
  have ck : ∀ em : Bool, (Instr.checkKey em 10000 kt (.int q n)).run P w = .ok () w := fun em => run_checkKey t2 (isKey_int q n) em 9999
  rcases findNow_kr (n := n) 0 hmr.kr with ⟨k1, k2, k3⟩ | ⟨j, p, e', k1, k2, k3, k4, k5, k6, k7, k8, k9⟩
  · have hf := run_findKey (w := w) t2 k3
    have hkr := KR_push hmr.kr (b := clk) (n := n) hx
    have hmr' : MRel β (encM q (mput n x L clk)) (ents.push { key := .int q n, val := xv, born := clk }) := by
      refine KR.mrel ?_
      simp only [mput, k1, Array.toList_push]; exact hkr
    have : HRel β H' (w.putObj l.c (.map (ents.push { key := .int q n, val := xv, born := clk }) (mclk n L clk))) B ∧ BelowP B w (w.putObj l.c (.map (ents.push { key := .int q n, val := xv, born := clk }) (mclk n L clk))) := by
      rcases hcase with ⟨hi, rfl⟩ | ⟨sz, hi, rfl⟩
      · exact hH.putMap hi hl hmr'
      · have hx : hidx n L = ents.size := by simp only [hidx, k1]; have := hmr.len; simp [encM] at this; exact this.symm
        exact hH.putMaps hi hl hw hmr' fun hp => hp.inj id (outE_push hx) fun _ _ h => h
    obtain ⟨g1, g2⟩ := this
    refine ⟨_, ?_, rfl, g1, g2⟩
    have : mclk n L clk = clk + 1 := by simp [mclk, k1]
    rw [this]
    simp only [Instr.mapUpdate, Sem.run_bind, run_underlying t1, Result.andThen, MapKept.run_getObj_map hw, ck, hf, MapKept.run_setObj_map _ hw, World.putObj]
  · have hf := run_findKey (w := w) t2 k9
    have hmr' : MRel β (encM q (mput n x L clk)) (ents.modify j fun e => { e with key := .int q n, val := xv }) := by
      refine KR.mrel ?_
      simp only [mput, k1, Array.toList_modify]
      exact KR_modify hmr.kr fun p' e'' h1 h2 h3 h4 h5 => by
        rw [k3] at h1; cases h1
        exact ⟨h3, by rw [← k6], hx⟩
    have : HRel β H' (w.putObj l.c (.map (ents.modify j fun e => { e with key := .int q n, val := xv }) (mclk n L clk))) B ∧ BelowP B w (w.putObj l.c (.map (ents.modify j fun e => { e with key := .int q n, val := xv }) (mclk n L clk))) := by
      rcases hcase with ⟨hi, rfl⟩ | ⟨sz, hi, rfl⟩
      · exact hH.putMap hi hl hmr'
      · have hx : hidx n L = j := by simp only [hidx, k1]
        rw [hx] at hi ⊢
        exact hH.putMaps hi hl hw hmr' fun hp => hp.inj id outE_modify fun _ _ h => h
    obtain ⟨g1, g2⟩ := this
    refine ⟨_, ?_, rfl, g1, g2⟩
    have : mclk n L clk = clk := by simp [mclk, k1]
    rw [this]
    have hent : ents[j]? = some e' := by simpa using k4
    simp only [Nat.zero_add] at hf
    simp only [Instr.mapUpdate, Sem.run_bind, run_underlying t1, Result.andThen, MapKept.run_getObj_map hw, ck, hf, hent, Option.map_some, Option.getD_some, k7, Instr.keyThatStays, sameBits_self (isKey_int q n), if_true, Sem.run_pure, MapKept.run_setObj_map _ hw, World.putObj]

theorem ent_ok {H H' : Heap} {B : Bd} (hH : HRel β H w B) {t : TypeId} {m k r : AV} {mv kv : Value} (h : entR P t m k H r H') (hm : V β m mv) (hk : V β k kv) :
    ∃ w' z, (Instr.mapEntry t mv kv).run P w = .ok z w' ∧ V β r z ∧ HRel β H' w' B ∧ BelowP B w w' := by
  obtain ⟨q, e, z, n, i, L, clk, ht, hz, rfl, rfl, hi, h⟩ := h
  obtain ⟨kt, t1, t2⟩ := mapT_ok ht
  cases V_int hk
  obtain ⟨l, hl, rfl⟩ := V_mp hm
  obtain ⟨l', hl', _, _, ents, hw, hmr⟩ := hH.map i _ clk hi
  rw [hl] at hl'; cases hl'
  obtain ⟨zv, z1, z2⟩ := zeroV_ok hz w
  have ck : ∀ em : Bool, (Instr.checkKey em 10000 kt (.int q n)).run P w = .ok () w := fun em => run_checkKey t2 (isKey_int q n) em 9999
  rcases findNow_kr (n := n) 0 hmr.kr with ⟨k1, k2, k3⟩ | ⟨j, p, e', k1, k2, k3, k4, k5, k6, k7, k8, k9⟩
  · rw [k2] at h
    obtain ⟨rfl, rfl⟩ := h
    have hf := run_findKey (w := w) t2 k3
    obtain ⟨g1, g2⟩ := hH.putMap (es' := encM q (L ++ [(clk, n, z)])) (clk' := clk + 1) hi hl (ents' := ents.push { key := .int q n, val := zv, born := clk }) (by
      refine KR.mrel ?_
      rw [Array.toList_push]; exact KR_push hmr.kr (z2 β))
    refine ⟨_, .tuple #[zv, goInt clk], ?_, ?_, g1, g2⟩
    · simp only [Instr.mapEntry, Sem.run_bind, run_underlying t1, Result.andThen, MapKept.run_getObj_map hw, ck, hf, z1, MapKept.run_setObj_map _ hw, World.putObj, Sem.run_pure]
    · simp only [V, Vs]; exact ⟨[zv, goInt clk], rfl, _, _, rfl, z2 β, _, _, rfl, rfl, rfl⟩
  · rw [k2] at h
    obtain ⟨rfl, rfl⟩ := h
    have hf := run_findKey (w := w) t2 k9
    have hent : ents[j]? = some e' := by simpa using k4
    have hmod : (ents.modify j fun e => { e with key := .int q n }).toList = ents.toList := by
      rw [Array.toList_modify]
      refine List.ext_getElem? fun a => ?_
      rw [getElem?_modify']
      split
      · rename_i e; subst e; rw [k4]; simp only [Option.map_some, Option.some.injEq]; rw [← k7]
      · rfl
    obtain ⟨g1, g2⟩ := hH.putMap (es' := encM q L) (clk' := clk) hi hl (ents' := ents.modify j fun e => { e with key := .int q n }) (by
      refine KR.mrel ?_
      rw [hmod]; exact hmr.kr)
    refine ⟨_, .tuple #[e'.val, goInt e'.born], ?_, ?_, g1, g2⟩
    · simp only [Nat.zero_add] at hf
      simp only [Instr.mapEntry, Sem.run_bind, run_underlying t1, Result.andThen, MapKept.run_getObj_map hw, ck, hf, hent, Option.map_some, Option.getD_some, k7, Instr.keyThatStays, sameBits_self (isKey_int q n), if_true, Sem.run_pure, MapKept.run_setObj_map _ hw, World.putObj]
    · simp only [V, Vs]; exact ⟨[e'.val, goInt e'.born], rfl, _, _, rfl, k8, _, _, rfl, by rw [k5]; rfl, rfl⟩

theorem est_ok {t : TypeId} {H H' : Heap} {B : Bd} (hH : HRel β H w B) {m s x r : AV} {mv sv xv : Value} (h : estR m s x H r H') (hm : V β m mv) (hs : V β s sv) (hx : V β x xv) :
    ∃ w', (Instr.entryStore t mv sv xv).run P w = .ok () w' ∧ r = .und ∧ HRel β H' w' B ∧ BelowP B w w' := by
  obtain ⟨b, i, es, clk, j, rfl, rfl, hi, hj, rfl, rfl⟩ := h
  cases V_int hs
  obtain ⟨l, hl, rfl⟩ := V_mp hm
  obtain ⟨l', hl', _, _, ents, hw, hmr⟩ := hH.map i _ clk hi
  rw [hl] at hl'; cases hl'
  have hidx : ents.findIdx? (fun e => (e.born : Int) == b) = some j := by
    have e0 : ents = ents.toList.toArray := by simp
    rw [e0, List.findIdx?_toArray]
    rw [List.findIdx?_eq_some_iff_getElem] at hj ⊢
    obtain ⟨h1, h2, h3⟩ := hj
    have hget : ∀ a (ha : a < es.length), ∃ e, ents[a]? = some e ∧ e.born = (es[a]).1 := fun a ha => by
      obtain ⟨e, g1, g2, _⟩ := hmr.rel a es[a] (by simp)
      exact ⟨e, g1, g2⟩
    have hlen : ents.toList.length = es.length := by simpa using hmr.len
    refine ⟨by omega, ?_, fun a ha => ?_⟩
    · obtain ⟨e, g1, g2⟩ := hget j h1
      have : ents.toList[j]? = some e := by simpa using g1
      obtain ⟨_, h'⟩ := List.getElem?_eq_some_iff.1 this
      rw [h', g2]; exact h2
    · obtain ⟨e, g1, g2⟩ := hget a (by omega)
      have : ents.toList[a]? = some e := by simpa using g1
      obtain ⟨_, h'⟩ := List.getElem?_eq_some_iff.1 this
      rw [h', g2]; exact h3 a ha
  obtain ⟨g1, g2⟩ := hH.putMap (es' := es.modify j fun p => (p.1, p.2.1, x)) (clk' := clk) hi hl (ents' := ents.modify j fun e => { e with val := xv }) (by
    refine ⟨by simpa using hmr.len, fun a p ha => ?_⟩
    rw [getElem?_modify'] at ha
    rw [Array.getElem?_modify]
    by_cases e : j = a
    · subst e
      simp only [if_true] at ha
      obtain ⟨p0, k1, rfl⟩ := Option.map_eq_some_iff.1 ha
      obtain ⟨e0, m1, m2, m3, m4⟩ := hmr.rel _ p0 k1
      exact ⟨{ e0 with val := xv }, by simp [m1], m2, m3, hx⟩
    · simp only [if_neg e] at ha
      obtain ⟨e0, m1, m2⟩ := hmr.rel _ p ha
      exact ⟨e0, by simp [e, m1], m2⟩)
  refine ⟨_, ?_, rfl, g1, g2⟩
  simp [Instr.entryStore, Sem.run_bind, Result.andThen, MapKept.run_getObj_map hw, asInt, asIntOf, hidx, MapKept.run_setObj_map _ hw, World.putObj]

theorem del_ok {t kt' ty : TypeId} {H H' : Heap} {B : Bd} (hH : HRel β H w B) {m k r : AV} {mv kv : Value} (h : delR P t m k H r H') (hm : V β m mv) (hk : V β k kv) :
    ∃ w' z, (Builtin.delete_ #[t, kt'] ty #[mv, kv]).run P w = .ok z w' ∧ V β r z ∧ HRel β H' w' B ∧ BelowP B w w' := by
  obtain ⟨q, e, n, i, L, clk, ht, rfl, rfl, rfl, hcase⟩ := h
  obtain ⟨kt, t1, t2⟩ := mapT_ok ht
  cases V_int hk
  obtain ⟨l, hl, rfl⟩ := V_mp hm
  have hat : mapAt H i (encM q L) clk := hcase.imp (fun h => h.1) fun ⟨sz, h, _⟩ => ⟨sz, _, h⟩
  obtain ⟨l', hl', ents, hw, hmr⟩ := hH.mapAt hat
  rw [hl] at hl'; cases hl'
  have ck : ∀ em : Bool, (Instr.checkKey em 10000 kt (.int q n)).run P w = .ok () w := fun em => run_checkKey t2 (isKey_int q n) em 9999
  rcases findNow_kr (n := n) 0 hmr.kr with ⟨k1, k2, k3⟩ | ⟨j, p, e', k1, k2, k3, k4, k5, k6, k7, k8, k9⟩
  · have hf := run_findKey (w := w) t2 k3
    have hmr' : MRel β (encM q (mdel n L)) ents := by simp only [mdel, k1]; exact hmr
    have : HRel β H' (w.putObj l.c (.map ents clk)) B ∧ BelowP B w (w.putObj l.c (.map ents clk)) := by
      rcases hcase with ⟨hi, rfl⟩ | ⟨sz, hi, rfl⟩
      · exact hH.putMap hi hl hmr'
      · exact hH.putMaps hi hl hw hmr' fun hp => hp
    obtain ⟨g1, g2⟩ := this
    refine ⟨_, .tuple #[], ?_, ?_, g1, g2⟩
    · simp [Builtin.delete_, Sem.run_bind, run_underlying t1, Result.andThen, MapKept.run_getObj_map hw, ck, hf, MapKept.run_setObj_map _ hw, World.putObj]
    · simp only [V, Vs]; exact ⟨[], rfl, rfl⟩
  · have hf := run_findKey (w := w) t2 k9
    have hlt : j < ents.size := by have := (List.getElem?_eq_some_iff.1 k4).1; simpa using this
    have hmr' : MRel β (encM q (mdel n L)) (ents.eraseIdxIfInBounds j) := by
      refine KR.mrel ?_
      simp only [mdel, k1, Array.eraseIdxIfInBounds, hlt, dif_pos, Array.toList_eraseIdx]
      exact KR_erase hmr.kr j
    have : HRel β H' (w.putObj l.c (.map (ents.eraseIdxIfInBounds j) clk)) B ∧ BelowP B w (w.putObj l.c (.map (ents.eraseIdxIfInBounds j) clk)) := by
      rcases hcase with ⟨hi, rfl⟩ | ⟨sz, hi, rfl⟩
      · exact hH.putMap hi hl hmr'
      · exact hH.putMaps hi hl hw hmr' fun hp => hp.inj _ outE_erase fun a b h => by split at h <;> split at h <;> omega
    obtain ⟨g1, g2⟩ := this
    refine ⟨_, .tuple #[], ?_, ?_, g1, g2⟩
    · simp only [Nat.zero_add] at hf
      simp [Builtin.delete_, Sem.run_bind, run_underlying t1, Result.andThen, MapKept.run_getObj_map hw, ck, hf, MapKept.run_setObj_map _ hw, World.putObj]
    · simp only [V, Vs]; exact ⟨[], rfl, rfl⟩

theorem lenm_ok {t ty : TypeId} {H : Heap} {B : Bd} {lim : Nat} (hH : HRel β H w B) {x r : AV} {u : Value} (at_ : Array TypeId) (h0 : at_[0]? = some t) (h : lenR P lim t x H r) (hx : V β x u) : ∃ z, (Builtin.len_ at_ ty #[u]).run P w = .ok z w ∧ V β r z := by
  rcases h with h | ⟨ht, h⟩
  · exact len_ok at_ h0 h hx
  · obtain ⟨⟨q, e⟩, ht⟩ := Option.isSome_iff_exists.1 ht
    obtain ⟨kt, t1, t2⟩ := mapT_ok ht
    rcases h with ⟨rfl, rfl⟩ | ⟨i, es, clk, rfl, _, hi, rfl⟩
    · cases (show u = .map none by simpa only [V] using hx)
      exact ⟨goInt 0, by simp [Builtin.len_, h0, Sem.run_bind, run_underlying t1, Result.andThen], rfl⟩
    · obtain ⟨l, hl, rfl⟩ := V_mp hx
      obtain ⟨l', hl', ents, hw, hm⟩ := hH.mapAt hi
      rw [hl] at hl'; cases hl'
      refine ⟨goInt es.length, ?_, rfl⟩
      simp [Builtin.len_, h0, Sem.run_bind, run_underlying t1, Result.andThen, MapKept.run_getObj_map hw, hm.len]

theorem mkm_ok {H : Heap} {B : Bd} (hH : HRel β H w B) (hB : B.top w.heap.size) {id : Nat} (hid : β id = none) (t : TypeId) :
    ∃ β' w' v, (Instr.makeMap t none).run P w = .ok v w' ∧ Beta.le β β' ∧ (∀ j, β' j ≠ none → β j ≠ none ∨ j = id) ∧ V β' (.mp id) v ∧ HRel β' (upd H id (some (.map [] 0))) w' B ∧ BelowP (fun c => w.heap.size ≤ c) w w' ∧ β'.fz = β.fz := by
  refine ⟨β.put id ⟨w.heap.size, 0, 1⟩, w.alloc (.map #[] 0), .map (some w.heap.size), ?_, le_put hid, fun j hj => put_dom j hj, ?_, ?_, BelowP.alloc w (Nat.le_refl _) _, rfl⟩
  · simp [Instr.makeMap, Result.andThen]
  · simp only [V]; exact ⟨_, put_same _ _ _, rfl⟩
  · have h1 : HRel β H (w.alloc (.map #[] 0)) B := hH.keep (BelowP.alloc w (Nat.le_refl _) _)
    refine (h1.put _ hid).addMap (l := ⟨w.heap.size, 0, 1⟩) (put_same _ _ _) (by simp) hB.at (ents := #[]) (World.alloc_heap_new w _) ⟨rfl, fun j p hp => by simp at hp⟩ (fun j b lj hj hb hlj hk => ?_) (fun hy => absurd (hH.ys _ hy).2 (by simp))
    rw [put_other _ _ hj] at hlj
    have := (hH.lt_of_own hb hlj hk).1
    simp; omega
end Go.Eng
