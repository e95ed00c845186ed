import Derived.Test.YtcidmnpihffphaaEngS
namespace Go.Eng
open Go
open Go.RowKit (Below)
universe u v
variable {P : Program}
/-- A value that speaks of no cell. -/
def AV.plain (a : AV) : Prop := ∀ (β β' : Beta) (v : Value), V β a v → V β' a v
theorem plain_int (k : IntKind) (n : Int) : (AV.int k n).plain := fun _ _ _ h => by simpa [V] using h
theorem plain_bool (b : Bool) : (AV.bool b).plain := fun _ _ _ h => by simpa [V] using h
theorem plain_und : AV.und.plain := fun _ _ _ h => by simpa [V] using h
/-- What a function tells that turns one block it is handed as a slice. -/
def blkR (sz : Nat) (S : Nat → List AV → List AV → AV → List AV → Prop) : FSpec := fun args H _ r H' =>
  ∃ i n rest bs bs', args = .so i 0 n sz :: rest ∧ H i = some (.cells bs) ∧ S n rest bs r bs' ∧ H' = upd H i (some (.cells bs'))

/-! ### Functions that are handed blocks of ours, and that may hand back new ones.
The blocks that are handed over bear the names 0, 1, .. within the function. -/
/-- The places of the blocks that are handed over. -/
def aloc (loc : Nat → Option Loc) (ids : List Nat) : Nat → Option Loc := fun j => (ids[j]?).bind loc
/-- A value as the function sees it. -/
def WkA (ids : List Nat) (a a0 : AV) : Prop := ∀ (β : Beta) (ys : Nat → Prop) (v : Value), V β a v → V ⟨aloc β.loc ids, β.fz, ys⟩ a0 v
/-- Names within, names without. -/
def mm (ids ns : List Nat) (base : Nat) : List (Nat × Nat) := (ids.zipIdx.map fun p => (p.2, p.1)) ++ ns.zipIdx.map fun p => (p.1, base + p.2)
/-- A value of the function's, as the caller sees it. -/
def WkB (M : List (Nat × Nat)) (a0 a : AV) : Prop := ∀ (β0 : Beta) (loc : Nat → Option Loc) (ys : Nat → Prop) (v : Value), (∀ p ∈ M, loc p.2 = β0.loc p.1) → V β0 a0 v → V ⟨loc, β0.fz, ys⟩ a v
inductive Len2 {α : Type u} {β : Type v} (R : α → β → Prop) : List α → List β → Prop where
  | nil : Len2 R [] []
  | cons {a : α} {b : β} {as : List α} {bs : List β} (h : R a b) (k : Len2 R as bs) : Len2 R (a :: as) (b :: bs)
theorem Len2.len {α : Type u} {β : Type v} {R : α → β → Prop} {as : List α} {bs : List β} (h : Len2 R as bs) : as.length = bs.length := by
  induction h with
  | nil => rfl
  | cons _ _ ih => simp [ih]
theorem Len2.get {α : Type u} {β : Type v} {R : α → β → Prop} {as : List α} {bs : List β} (h : Len2 R as bs) : ∀ (j : Nat) (b : β), bs[j]? = some b → ∃ a, as[j]? = some a ∧ R a b := by
  induction h with
  | nil => intro j b hb; simp at hb
  | cons h _ ih =>
    intro j b hb
    cases j with
    | zero => simp only [List.getElem?_cons_zero, Option.some.injEq] at hb; subst hb; exact ⟨_, by simp, h⟩
    | succ j => obtain ⟨a, h1, h2⟩ := ih j b (by simpa using hb); exact ⟨a, by simpa using h1, h2⟩
theorem Len2.vs {ids : List Nat} {as bs : List AV} (h : Len2 (WkA ids) as bs) {β : Beta} {ys : Nat → Prop} {vs : List Value} (hv : Vs β as vs) : Vs ⟨aloc β.loc ids, β.fz, ys⟩ bs vs := by
  induction h generalizing vs with
  | nil => simpa [Vs] using hv
  | cons h _ ih =>
    obtain ⟨v, vs', rfl, h1, h2⟩ := hv
    exact ⟨v, vs', rfl, h _ _ _ h1, ih h2⟩
/-- An entry of a map under a relation of values. -/
def EnR (R : AV → AV → Prop) (p q : Nat × AV × AV) : Prop := p.1 = q.1 ∧ R p.2.1 q.2.1 ∧ R p.2.2 q.2.2
/-- A block under a relation of values. -/
inductive BkX (R : AV → AV → Prop) : AB → AB → Prop where
  | cells {as bs : List AV} (h : Len2 R as bs) : BkX R (.cells as) (.cells bs)
  | map {es ds : List (Nat × AV × AV)} {clk : Nat} (h : Len2 (EnR R) es ds) : BkX R (.map es clk) (.map ds clk)
  | gh {S : Type} {G : Gh S} {s : S} : BkX R (.gh S G s) (.gh S G s)
def ofB (bs : List AB) : Heap := fun j => bs[j]?

/-- What the end of such a function asks. -/
def PostA (P : Program) (rs : Array ResultVar) (ids : List Nat) (base : Nat) (r : AV) (bs' nb : List AB) : Exit → AS → Prop := fun e σ => match e with
  | .normal | .ret => ∃ (r1 : AV) (ns : List Nat), ns.length = nb.length ∧ ns.Nodup ∧ (∀ n ∈ ns, 64 ≤ n) ∧ resA P rs σ = some r1 ∧ WkB (mm ids ns base) r1 r ∧
      (∀ (j : Nat) (b : AB), bs'[j]? = some b → ∃ b0, σ.hp j = some b0 ∧ BkX (WkB (mm ids ns base)) b0 b) ∧ (∀ (k n : Nat) (b : AB), ns[k]? = some n → nb[k]? = some b → ∃ b0, σ.hp n = some b0 ∧ BkX (WkB (mm ids ns base)) b0 b)
  | _ => False

/-- Blocks that lie as they lay, of a caller. -/
theorem own_same {β β1 : Beta} {H : Heap} {w w2 : World} {B B' : Bd} (hH : HRel β H w B) {i : Nat} {l : Loc} {cs : List AV} (hi : H i = some (.cells cs)) (hl : β i = some l) (hnB : 0 < l.k → ¬ B' l.c) (hw : ∀ c, ¬ B' c → w2.heap[c]? = w.heap[c]?)
    (hfz : ∀ c o, β1.fz c o ≠ none → β.fz c o ≠ none ∨ B' c) (hle : Beta.le β β1) : cs.length ≤ l.k ∧ (0 < l.k → B l.c ∧ (∀ o, l.o ≤ o → o < l.o + l.k → β1.fz l.c o = none) ∧
    ∃ (full : Array Value) (e : TypeId), w2.heap[l.c]? = some (.cells full e (0, 0)) ∧ l.o + l.k ≤ full.size ∧ ∀ (j : Nat) (a : AV), cs[j]? = some a → ∃ v : Value, (full[l.o + j]? : Option Value) = some v ∧ V β1 a v) := by
  obtain ⟨l', h1, h2, h3⟩ := hH.own i cs hi
  rw [hl] at h1; cases h1
  refine ⟨h2, fun hk => ?_⟩
  obtain ⟨b1, b2, full, t, p, q, r⟩ := h3 hk
  refine ⟨b1, fun o o1 o2 => ?_, full, t, (hw _ (hnB hk)).trans p, q, fun j a ha => let ⟨v, x, y⟩ := r j a ha; ⟨v, x, V_mono hle _ _ y⟩⟩
  cases hh : β1.fz l.c o with
  | none => rfl
  | some v =>
    rcases hfz l.c o (by rw [hh]; simp) with h | h
    · exact absurd (b2 o o1 o2) h
    · exact absurd h (hnB hk)

theorem mm_ids {ids ns : List Nat} {base j i : Nat} (h : ids[j]? = some i) : (j, i) ∈ mm ids ns base := by
  unfold mm
  refine List.mem_append_left _ (List.mem_map.2 ⟨(i, j), ?_, rfl⟩)
  rw [List.mem_zipIdx_iff_getElem?]; simpa using h
theorem mm_ns {ids ns : List Nat} {base k n : Nat} (h : ns[k]? = some n) : (n, base + k) ∈ mm ids ns base := by
  unfold mm
  refine List.mem_append_right _ (List.mem_map.2 ⟨(n, k), ?_, rfl⟩)
  rw [List.mem_zipIdx_iff_getElem?]; simpa using h
theorem mm_inv {ids ns : List Nat} {base : Nat} {p : Nat × Nat} (h : p ∈ mm ids ns base) : ids[p.1]? = some p.2 ∨ ∃ k, ns[k]? = some p.1 ∧ p.2 = base + k := by
  unfold mm at h
  rcases List.mem_append.1 h with h | h
  · obtain ⟨q, h1, rfl⟩ := List.mem_map.1 h
    rw [List.mem_zipIdx_iff_getElem?] at h1
    exact .inl (by simpa using h1)
  · obtain ⟨q, h1, rfl⟩ := List.mem_map.1 h
    rw [List.mem_zipIdx_iff_getElem?] at h1
    exact .inr ⟨q.2, by simpa using h1, rfl⟩

theorem nodup_get {ids : List Nat} (h : ids.Nodup) {j k i : Nat} (hj : ids[j]? = some i) (hk : ids[k]? = some i) : j = k :=
  (List.getElem?_inj (List.getElem?_eq_some_iff.1 hj).1 h).1 (hj.trans hk.symm)

/-- Cells under a relation, as the heap holds them. -/
theorem cells_R {R : AV → AV → Prop} {β β1 : Beta} (hR : ∀ a b v, R a b → V β a v → V β1 b v) {as bs : List AV} (h : Len2 R as bs) {full : Array Value} {o : Nat}
    (k : ∀ (j : Nat) (a : AV), as[j]? = some a → ∃ v : Value, (full[o + j]? : Option Value) = some v ∧ V β a v) : ∀ (j : Nat) (b : AV), bs[j]? = some b → ∃ v : Value, (full[o + j]? : Option Value) = some v ∧ V β1 b v := fun j b hb => by
  obtain ⟨a, ha, hab⟩ := h.get j b hb
  obtain ⟨v, x, y⟩ := k j a ha
  exact ⟨v, x, hR _ _ _ hab y⟩
theorem map_R {R : AV → AV → Prop} {β β1 : Beta} (hR : ∀ a b v, R a b → V β a v → V β1 b v) {es ds : List (Nat × AV × AV)} (h : Len2 (EnR R) es ds) {ents : Array MapEntry} (m : MRel β es ents) : MRel β1 ds ents :=
  ⟨m.len.trans h.len, fun j q hq => by
    obtain ⟨p, hp, h1, h2, h3⟩ := h.get j q hq
    obtain ⟨e, e1, e2, e3, e4⟩ := m.rel j p hp
    exact ⟨e, e1, e2.trans h1, hR _ _ _ h2 e3, hR _ _ _ h3 e4⟩⟩

set_option maxHeartbeats 1000000 in
theorem FOk_anc {T : Tbl} {pf : FuncId → Bool} (hT : TOk P T) (hpf : PfOk T pf) {f : FuncId} {fn : Func} {c : Code} {s : FSpec} {N : Nat} {rs : Array ResultVar}
    (hf : P.funcs[f]? = some fn) (hb : fn.body = some c) (hN : fn.ntmps = N) (hrs : fn.results = rs) (hn : (fn.name == "runtime.NumGoroutine") = false)
    (h : ∀ args H base r H', s args H base r H' → ∃ (ids : List Nat) (args0 : List AV) (bs bs' nb : List AB), args.length ≤ N ∧ ids.length ≤ 32 ∧ nb.length ≤ 64 ∧ ids.Nodup ∧ bs.length = ids.length ∧ bs'.length = ids.length ∧ Len2 (WkA ids) args args0 ∧
      (∀ (j i : Nat) (b : AB), ids[j]? = some i → bs[j]? = some b → ∃ b1, H i = some b1 ∧ BkX (WkA ids) b1 b) ∧ (∀ (k : Nat) (b : AB), nb[k]? = some b → noGh b = true) ∧ (∀ j : Nat, (bs'[j]?).map noGh = (bs[j]?).map noGh) ∧
      (∀ (i : Nat) (b : AB), H' i = some b → (i ∉ ids ∧ H i = some b) ∨ (∃ j : Nat, ids[j]? = some i ∧ bs'[j]? = some b) ∨ ∃ k, i = base + k ∧ nb[k]? = some b) ∧
      HT ⟨P, T, pf, true, false, hT, hpf⟩ N c ⟨argSl args0, ofB bs, 64⟩ (PostA P rs ids base r bs' nb)) : FOk P f s := by
  subst hN hrs
  refine ⟨fun av w => enters hf hn hb av w, fun args H base r H' e B w β av hβ hH hB hv => ?_⟩
  obtain ⟨ids, args0, bs, bs', nb, hle, hi64, hn64, hnd, hbl, hbl', hargs, hblk, hnb, hsame, hH', hh⟩ := h args H base r H' e
  -- the ghost, if there is one among the blocks
  let g : Prop := ∃ (j : Nat) (b : AB), bs[j]? = some b ∧ noGh b = false
  let ys0 : Nat → Prop := fun c => g ∧ β.ys c
  let B' : Bd := fun c => (∃ (j i : Nat) (l : Loc) (b : AB), ids[j]? = some i ∧ H i = some b ∧ β i = some l ∧ 0 < l.k ∧ c = l.c) ∨ ys0 c ∨ w.heap.size ≤ c
  let β0 : Beta := ⟨aloc β.loc ids, β.fz, ys0⟩
  have hsub : ∀ c, B' c → B c := fun c hc => by
    rcases hc with ⟨j, i, l, b, _, h2, h3, h4, rfl⟩ | h | h
    · exact (hH.lt_of_own h2 h3 h4).2
    · exact (hH.ys c h.2).1
    · exact hB c h
  have hloc0 : ∀ j i, ids[j]? = some i → β0 j = β i := fun j i h => by show aloc β.loc ids j = _; simp [aloc, h]
  have hids : ∀ j l, β0 j = some l → ∃ i, ids[j]? = some i ∧ β i = some l := fun j l h => by
    change aloc β.loc ids j = some l at h
    unfold aloc at h
    cases e : ids[j]? with
    | none => rw [e] at h; cases h
    | some i => rw [e] at h; exact ⟨i, rfl, h⟩
  have hlt : ∀ {j : Nat} {b : AB}, bs[j]? = some b → ∃ i b1, ids[j]? = some i ∧ H i = some b1 ∧ BkX (WkA ids) b1 b := fun {j b} hj => by
    have : j < ids.length := by rw [← hbl]; exact (List.getElem?_eq_some_iff.1 hj).1
    obtain ⟨b1, h1, h2⟩ := hblk j ids[j] b (by simp [this]) hj
    exact ⟨_, b1, by simp [this], h1, h2⟩
  have wkA : ∀ (a b : AV) (v : Value), WkA ids a b → V β a v → V β0 b v := fun a b v h k => h β ys0 v k
  have h0 : HRel β0 (ofB bs) w B' := by
    refine ⟨hH.fz, fun j cs hj => ?_, fun j es clk hj => ?_, fun a b ba bb la lb hab ha hb' ea eb pa pb => ?_, fun c hc => ⟨.inr (.inl hc), (hH.ys c hc.2).2⟩, fun j b l hj hl hk hc => ?_, fun j S G s hj => ?_, fun j k S G s S' G' s' hj hk => ?_, fun j sz es clk ho hj => ?_, fun j k sz es clk ho b hj _ _ => ?_⟩
    · obtain ⟨i, b1, h1, h2, h3⟩ := hlt hj
      cases h3 with
      | cells h3 =>
        obtain ⟨l, g1, g2, g3⟩ := hH.own i _ h2
        refine ⟨l, (hloc0 j i h1).trans g1, h3.len ▸ g2, fun hk => ?_⟩
        obtain ⟨_, hu, full, t, p, q, rr⟩ := g3 hk
        exact ⟨.inl ⟨j, i, l, _, h1, h2, g1, hk, rfl⟩, hu, full, t, p, q, cells_R wkA h3 rr⟩
    · obtain ⟨i, b1, h1, h2, h3⟩ := hlt hj
      cases h3 with
      | map h3 =>
        obtain ⟨l, g1, g2, g3, ents, g4, m⟩ := hH.map i _ _ h2
        exact ⟨l, (hloc0 j i h1).trans g1, g2, .inl ⟨j, i, l, _, h1, h2, g1, g2, rfl⟩, ents, g4, map_R wkA h3 m⟩
    · obtain ⟨ia, ba1, a1, a2, _⟩ := hlt ha
      obtain ⟨ib, bb1, b1, b2, _⟩ := hlt hb'
      rw [hloc0 _ _ a1] at ea
      rw [hloc0 _ _ b1] at eb
      exact hH.sep ia ib _ _ la lb (fun e => hab (nodup_get hnd a1 (e ▸ b1))) a2 b2 ea eb pa pb
    · obtain ⟨i, b1, h1, h2, _⟩ := hlt hj
      rw [hloc0 _ _ h1] at hl
      exact hH.yo i _ l h2 hl hk hc.2
    · obtain ⟨i, b1, h1, h2, h3⟩ := hlt hj
      cases h3
      obtain ⟨l, g1, g2, g3, g4, g5⟩ := hH.gh i S G s h2
      have hg : g := ⟨j, _, hj, rfl⟩
      have : β0.ys = β.ys := by funext c; show (g ∧ β.ys c) = β.ys c; simp [hg]
      exact ⟨l, (hloc0 j i h1).trans g1, g2, by rw [this]; exact g3, fun c o v hc hv => g4 c o v hc.2 hv, g5⟩
    · obtain ⟨i, b1, h1, h2, h3⟩ := hlt hj
      obtain ⟨i', b1', h1', h2', h3'⟩ := hlt hk
      cases h3; cases h3'
      have := hH.gh1 i i' _ _ _ _ _ _ h2 h2'
      subst this
      exact nodup_get hnd h1 h1'
    · obtain ⟨i, b1, h1, h2, h3⟩ := hlt hj
      cases h3
    · obtain ⟨i, b1, h1, h2, h3⟩ := hlt hj
      cases h3
  have hd0 : ∀ j, β0 j ≠ none → j < 32 := fun j hj => by
    cases e : β0 j with
    | none => exact absurd e hj
    | some l =>
      obtain ⟨i, h1, _⟩ := hids j l e
      have := (List.getElem?_eq_some_iff.1 h1).1
      omega
  refine calls_of_HT (F := ⟨B', w, β0, 0⟩) hf hb hh (fun _ => ⟨hd0, rfl⟩) (Rep_zero (Rep_begin (β := β0) (base := 64) (fun j hj => Nat.lt_of_lt_of_le (hd0 j hj) (by omega)) h0 (fun c hc => .inr (.inr hc)) (hargs.vs hv) (hargs.len ▸ hle))) ?_
  intro e' σ' a' w' β1 ds q hsince hs hH1' hb1 hbel hB1
  have hH1 : HRel β1 σ'.hp w' B' := hH1'.sup fun c hc => hc.1
  have fin : (∃ (r1 : AV) (ns : List Nat), ns.length = nb.length ∧ ns.Nodup ∧ (∀ n ∈ ns, 64 ≤ n) ∧ resA P fn.results σ' = some r1 ∧ WkB (mm ids ns base) r1 r ∧
      (∀ (j : Nat) (b : AB), bs'[j]? = some b → ∃ b0, σ'.hp j = some b0 ∧ BkX (WkB (mm ids ns base)) b0 b) ∧ (∀ (k n : Nat) (b : AB), ns[k]? = some n → nb[k]? = some b → ∃ b0, σ'.hp n = some b0 ∧ BkX (WkB (mm ids ns base)) b0 b)) →
      ∃ v, (results fn a'.tmps).run P w' = .ok v w' ∧ Outcome P β B base w r H' (.returned v) w' := by
    rintro ⟨r1, ns, hnl, hnn, hn64', hr, hwk, hold, hnew⟩
    obtain ⟨v, hv1, hv2⟩ := resA_ok (P := P) hr hs hH1
    let ys1 : Nat → Prop := fun c => (g ∧ β1.ys c) ∨ (¬ g ∧ β.ys c)
    let β' : Beta := ⟨fun i => bif decide (base ≤ i) && decide (i < base + ns.length) then (ns[i - base]?).bind β1.loc else β.loc i, β1.fz, ys1⟩
    have locOld : ∀ i, i < base → β' i = β i := fun i hi => by
      show (bif _ then _ else _) = _
      have : decide (base ≤ i) = false := by simpa using hi
      rw [this]; rfl
    have locNew : ∀ k n, ns[k]? = some n → β' (base + k) = β1 n := fun k n hk => by
      show (bif _ then _ else _) = _
      have : k < ns.length := (List.getElem?_eq_some_iff.1 hk).1
      have e1 : decide (base ≤ base + k) = true := by simp
      have e2 : decide (base + k < base + ns.length) = true := by simpa using this
      rw [e1, e2]; simp [hk]
    have hltb : ∀ i l, β i = some l → i < base := fun i l h => hβ i (by rw [h]; simp)
    have locI : ∀ j i, ids[j]? = some i → ∀ l, β i = some l → β1 j = some l := fun j i h l hl => hsince.le.loc _ _ ((hloc0 j i h).trans hl)
    have hle' : Beta.le β β' := ⟨fun i l h => (locOld i (hltb i l h)).trans h, hsince.le.fz⟩
    have hM : ∀ p ∈ mm ids ns base, p.2 < base → True := fun _ _ _ => trivial
    have locM : ∀ (l0 : ∀ j i, ids[j]? = some i → ∃ l, β i = some l), ∀ p ∈ mm ids ns base, β'.loc p.2 = β1.loc p.1 := fun l0 p hp => by
      rcases mm_inv hp with h | ⟨k, h1, h2⟩
      · obtain ⟨l, hl⟩ := l0 _ _ h
        rw [show β'.loc p.2 = β' p.2 from rfl, locOld _ (hltb _ l hl), hl]
        exact (locI _ _ h l hl).symm
      · rw [h2]; exact locNew k _ h1
    have l0 : ∀ j i, ids[j]? = some i → ∃ l, β i = some l := fun j i hj => by
      have : j < bs.length := by rw [hbl]; exact (List.getElem?_eq_some_iff.1 hj).1
      obtain ⟨b1, h1, _⟩ := hblk j i bs[j] hj (by simp [this])
      exact hH.locOf h1
    have wkB : ∀ (a b : AV) (v : Value), WkB (mm ids ns base) a b → V β1 a v → V β' b v := fun a b v h k => h β1 β'.loc ys1 v (locM l0) k
    have hkeep : ∀ c, ¬ B' c → w'.heap[c]? = w.heap[c]? := fun c hc => hbel.block c hc
    have hfz1 : ∀ c o, β1.fz c o ≠ none → β.fz c o ≠ none ∨ B' c := fun c o hc => hsince.fz c o hc
    -- an own block of the caller's that was not handed over
    have out : ∀ i b l, i ∉ ids → H i = some b → β i = some l → 0 < l.k → ¬ B' l.c := fun i b l hi h1 h2 hk hc => by
      rcases hc with ⟨j, i', l', b', g1, g2, g3, g4, g5⟩ | hc | hc
      · exact hH.sep i i' b b' l l' (fun e => hi (e ▸ List.mem_of_getElem? g1)) h1 g2 h2 g3 hk g4 g5
      · exact hH.yo i b l h1 h2 hk hc.2
      · have := (hH.lt_of_own h1 h2 hk).1; omega
    have ysB : ∀ c, ¬ g → β.ys c → ¬ B' c := fun c hg hc h => by
      rcases h with ⟨j, i, l, b, _, h2, h3, h4, rfl⟩ | h | h
      · exact hH.yo i b l h2 h3 h4 hc
      · exact hg h.1
      · have := (hH.ys c hc).2; omega
    have ys1B : ∀ c, ys1 c → B c ∧ c < w'.heap.size := fun c hc => by
      rcases hc with ⟨_, h⟩ | ⟨_, h⟩
      · exact ⟨hsub c (hH1.ys c h).1, (hH1.ys c h).2⟩
      · exact ⟨(hH.ys c h).1, Nat.lt_of_lt_of_le (hH.ys c h).2 hbel.size⟩
    have lenI : ∀ {m i : Nat}, ids[m]? = some i → m < 64 := fun h => Nat.lt_of_lt_of_le (List.getElem?_eq_some_iff.1 h).1 (Nat.le_trans hi64 (by omega))
    let nameOf : Nat → Nat → Prop := fun i m => ids[m]? = some i ∨ ∃ k, ns[k]? = some m ∧ i = base + k
    have name1 : ∀ {i j m}, nameOf i m → nameOf j m → i = j := fun {i j m} h1 h2 => by
      rcases h1 with h1 | ⟨k, h1, e1⟩
      · rcases h2 with h2 | ⟨k', h2, e2⟩
        · rw [h1] at h2; cases h2; rfl
        · have := lenI h1; have := hn64' m (List.mem_of_getElem? h2); omega
      · rcases h2 with h2 | ⟨k', h2, e2⟩
        · have := lenI h2; have := hn64' m (List.mem_of_getElem? h1); omega
        · have := nodup_get hnn h1 h2; omega
    -- what a block of H' is
    have loc' : ∀ i b, H' i = some b → ∃ l, β' i = some l ∧ ((i ∉ ids ∧ H i = some b ∧ β i = some l) ∨ ∃ m b0, σ'.hp m = some b0 ∧ BkX (WkB (mm ids ns base)) b0 b ∧ β1 m = some l ∧ nameOf i m ∧ (noGh b = false → g)) := fun i b hi => by
      rcases hH' i b hi with ⟨h1, h2⟩ | ⟨j, h1, h2⟩ | ⟨k, h1, h2⟩
      · obtain ⟨l, hl⟩ := hH.locOf h2
        exact ⟨l, (locOld i (hltb i l hl)).trans hl, .inl ⟨h1, h2, hl⟩⟩
      · obtain ⟨l, hl⟩ := l0 j i h1
        obtain ⟨b0, g1, g2⟩ := hold j b h2
        refine ⟨l, (locOld i (hltb i l hl)).trans hl, .inr ⟨j, b0, g1, g2, locI j i h1 l hl, .inl h1, fun hg => ?_⟩⟩
        have := hsame j
        rw [h2] at this
        cases hb : bs[j]? with
        | none => rw [hb] at this; cases this
        | some bb => rw [hb] at this; simp only [Option.map_some, Option.some.injEq] at this; exact ⟨j, bb, hb, this ▸ hg⟩
      · have hk : k < ns.length := by rw [hnl]; exact (List.getElem?_eq_some_iff.1 h2).1
        have hks : ns[k]? = some ns[k] := by simp [hk]
        obtain ⟨b0, g1, g2⟩ := hnew k ns[k] b hks h2
        obtain ⟨l, hl⟩ := hH1.locOf g1
        exact ⟨l, by rw [h1, locNew k ns[k] hks]; exact hl, .inr ⟨ns[k], b0, g1, g2, hl, .inr ⟨k, hks, h1⟩, fun hg => by rw [hnb k b h2] at hg; cases hg⟩⟩
    have ngm : ∀ {i sz es clk ho}, i ∉ ids → H i = some (.maps sz es clk ho) → ¬ g := fun {i sz es clk ho} h1 h2 ⟨j, b, hj, hb⟩ => by
      obtain ⟨i', b1, k1, k2, k3⟩ := hlt hj
      cases k3 with
      | gh =>
        have := hH.mp1 _ _ _ _ _ _ _ h2 k2 rfl
        subst this
        exact h1 (List.mem_of_getElem? k1)
      | _ => cases hb
    -- each block of H' with a place lies within B', if the function has had to do with it
    have inB : ∀ {j : Nat} {b0 : AB} {l : Loc}, σ'.hp j = some b0 → β1 j = some l → 0 < l.k → B' l.c := fun h1 h2 h3 => (hH1.lt_of_own h1 h2 h3).2
    refine ⟨v, hv1, v, β', rfl, ⟨hle', fun j hj => ?_, fun c o hc => (hfz1 c o hc).imp id (hsub c)⟩, wkB _ _ _ hwk hv2, ⟨hH1.fz, fun i cs hi => ?_, fun i es clk hi => ?_, fun i j bi bj li lj hij hi hj ei ej pi pj => ?_, ys1B, fun i b l hi hl hk hc => ?_, fun i S G s hi => ?_, fun i j S G s S' G' s' hi hj => ?_, fun i sz es clk ho hi => ?_, fun i j sz es clk ho b hi hj hb => ?_⟩, hbel.weaken hsub⟩
    · by_cases h : base ≤ j ∧ j < base + ns.length
      · exact .inr ⟨h.1, by omega⟩
      · left
        change (bif _ then _ else _) ≠ none at hj
        have : (decide (base ≤ j) && decide (j < base + ns.length)) = false := by
          simp only [Bool.and_eq_false_iff, decide_eq_false_iff_not]; omega
        rw [this] at hj; exact hj
    · obtain ⟨l, hl, ⟨h1, h2, h3⟩ | ⟨m, b0, h3, h4, h7, _, _⟩⟩ := loc' i _ hi
      · obtain ⟨q1, q2⟩ := own_same (β1 := β') (w2 := w') (B' := B') hH h2 h3 (out i _ l h1 h2 h3) hkeep hfz1 hle'
        exact ⟨l, hl, q1, q2⟩
      · cases h4 with
        | cells h4 =>
          obtain ⟨l', g1, g2, g3⟩ := hH1.own m _ h3
          rw [h7] at g1; cases g1
          refine ⟨l, hl, h4.len ▸ g2, fun hk => ?_⟩
          obtain ⟨_, hu, full, t, p, q, rr⟩ := g3 hk
          exact ⟨hsub _ (inB h3 h7 hk), hu, full, t, p, q, cells_R wkB h4 rr⟩
    · obtain ⟨l, hl, ⟨h1, h2, h3⟩ | ⟨m, b0, h3, h4, h7, _, _⟩⟩ := loc' i _ hi
      · obtain ⟨l', g1, g2, g3, ents, g4, mr⟩ := hH.map i es clk h2
        rw [h3] at g1; cases g1
        exact ⟨l, hl, g2, g3, ents, (hkeep _ (out i _ l h1 h2 h3 g2)).trans g4, mr.mono hle'⟩
      · cases h4 with
        | map h4 =>
          obtain ⟨l', g1, g2, g3, ents, g4, mr⟩ := hH1.map m _ clk h3
          rw [h7] at g1; cases g1
          exact ⟨l, hl, g2, hsub _ g3, ents, g4, map_R wkB h4 mr⟩
    · obtain ⟨l1, hl1, d1⟩ := loc' i bi hi
      obtain ⟨l2, hl2, d2⟩ := loc' j bj hj
      rw [hl1] at ei; cases ei
      rw [hl2] at ej; cases ej
      rcases d1 with ⟨h1, h2, h3⟩ | ⟨m, b0, h3, _, h7, h8, _⟩
      · rcases d2 with ⟨k1, k2, k3⟩ | ⟨m', b0', k3, _, k7, k8, _⟩
        · exact hH.sep i j bi bj _ _ hij h2 k2 h3 k3 pi pj
        · exact fun e => out i _ _ h1 h2 h3 pi (e ▸ inB k3 k7 pj)
      · rcases d2 with ⟨k1, k2, k3⟩ | ⟨m', b0', k3, _, k7, k8, _⟩
        · exact fun e => out j _ _ k1 k2 k3 pj (e ▸ inB h3 h7 pi)
        · exact hH1.sep m m' _ _ _ _ (fun e => hij (name1 h8 (e ▸ k8))) h3 k3 h7 k7 pi pj
    · obtain ⟨l1, hl1, d1⟩ := loc' i b hi
      rw [hl1] at hl; cases hl
      rcases d1 with ⟨h1, h2, h3⟩ | ⟨m, b0, h3, _, h7, h8, _⟩
      · rcases hc with ⟨_, hc⟩ | ⟨_, hc⟩
        · exact out i _ _ h1 h2 h3 hk (hH1.ys _ hc).1
        · exact hH.yo i b _ h2 h3 hk hc
      · rcases hc with ⟨_, hc⟩ | ⟨hg, hc⟩
        · exact hH1.yo m _ _ h3 h7 hk hc
        · exact ysB _ hg hc (inB h3 h7 hk)
    · obtain ⟨l, hl, ⟨h1, h2, h3⟩ | ⟨m, b0, h3, h4, h7, _, hg⟩⟩ := loc' i _ hi
      · have hg : ¬ g := fun ⟨j, b, hj, hb⟩ => by
          obtain ⟨i', b1, k1, k2, k3⟩ := hlt hj
          cases k3 with
          | gh =>
            have := hH.gh1 _ _ _ _ _ _ _ _ h2 k2
            subst this
            exact h1 (List.mem_of_getElem? k1)
          | _ => cases hb
        have e : ys1 = β.ys := by funext c; show ((g ∧ β1.ys c) ∨ (¬ g ∧ β.ys c)) = β.ys c; simp [hg]
        obtain ⟨l', g1, g2, g3, g4, g5⟩ := hH.gh i S G s h2
        rw [h3] at g1; cases g1
        refine ⟨l, hl, g2, ?_, fun c o v hc hv => ?_, fun c o v hv => hsince.le.fz c o v (g5 c o v hv)⟩
        · show G.J s ys1 l.c w'
          rw [e]
          exact G.stable _ _ _ _ _ g3 ⟨hbel.os, hbel.tape, hbel.output, hbel.size, hbel.drawn, fun c hc => hkeep c (ysB c hg (Classical.not_not.1 hc))⟩ fun c o v hv => hH1.fz c o v (hsince.le.fz c o v (g5 c o v hv))
        · change ys1 c at hc
          rw [e] at hc
          refine g4 c o v hc ?_
          rcases hfz1 c o (by rw [show β1.fz c o = some v from hv]; simp) with h | h
          · cases hh : β.fz c o with
            | none => exact absurd hh h
            | some u =>
              have := hsince.le.fz c o u hh
              rw [show β1.fz c o = some v from hv] at this
              exact this.symm ▸ rfl
          · exact absurd h (ysB c hg hc)
      · cases h4 with
        | gh =>
          have hg := hg rfl
          have e : ys1 = β1.ys := by funext c; show ((g ∧ β1.ys c) ∨ (¬ g ∧ β.ys c)) = β1.ys c; simp [hg]
          obtain ⟨l', g1, g2, g3, g4, g5⟩ := hH1.gh m S G s h3
          rw [h7] at g1; cases g1
          refine ⟨l, hl, g2, by show G.J s ys1 l.c w'; rw [e]; exact g3, fun c o v hc hv => g4 c o v (by change ys1 c at hc; rwa [e] at hc) hv, g5⟩
    · obtain ⟨l1, hl1, d1⟩ := loc' i _ hi
      obtain ⟨l2, hl2, d2⟩ := loc' j _ hj
      have ng : ∀ {i S} {G : Gh S} {s}, i ∉ ids → H i = some (.gh S G s) → ¬ g := fun {i S G s} h1 h2 ⟨j, b, hj, hb⟩ => by
        obtain ⟨i', b1, k1, k2, k3⟩ := hlt hj
        cases k3 with
        | gh =>
          have := hH.gh1 _ _ _ _ _ _ _ _ h2 k2
          subst this
          exact h1 (List.mem_of_getElem? k1)
        | _ => cases hb
      rcases d1 with ⟨h1, h2, h3⟩ | ⟨m, b0, h3, h4, h7, h8, h9⟩
      · rcases d2 with ⟨k1, k2, k3⟩ | ⟨m', b0', k3, _, k7, k8, k9⟩
        · exact hH.gh1 _ _ _ _ _ _ _ _ h2 k2
        · exact absurd (k9 rfl) (ng h1 h2)
      · rcases d2 with ⟨k1, k2, k3⟩ | ⟨m', b0', k3, k4, k7, k8, k9⟩
        · exact absurd (h9 rfl) (ng k1 k2)
        · cases h4; cases k4
          have := hH1.gh1 _ _ _ _ _ _ _ _ h3 k3
          subst this
          exact name1 h8 k8
    · obtain ⟨l, hl, ⟨h1, h2, h3⟩ | ⟨m, b0, h3, h4, h7, _, hg⟩⟩ := loc' i _ hi
      · have hg := ngm h1 h2
        have e : ys1 = β.ys := by funext c; show ((g ∧ β1.ys c) ∨ (¬ g ∧ β.ys c)) = β.ys c; simp [hg]
        obtain ⟨l', g1, g2, g3, ents, g4, mr, m2⟩ := hH.mps i sz es clk ho h2
        rw [h3] at g1; cases g1
        refine ⟨l, hl, g2, g3, ents, (hkeep _ (out i _ l h1 h2 h3 g2)).trans g4, mr.mono hle', ?_⟩
        show Pool β1.fz ys1 sz w' _
        rw [e]
        refine m2.mono (fun _ h => h) (fun c q hc hq => ?_) fun c hc => hkeep c (ysB c hg hc)
        cases hh : β1.fz c q with
        | none => rfl
        | some u =>
          rcases hfz1 c q (by simp [hh]) with e | e
          · exact absurd hq e
          · exact absurd e (ysB c hg hc)
      · cases h4
    · obtain ⟨l1, hl1, d1⟩ := loc' i _ hi
      obtain ⟨l2, hl2, d2⟩ := loc' j _ hj
      rcases d1 with ⟨h1, h2, h3⟩ | ⟨m, b0, h3, h4, h7, h8, h9⟩
      · rcases d2 with ⟨k1, k2, k3⟩ | ⟨m', b0', k3, _, k7, k8, k9⟩
        · exact hH.mp1 i j sz es clk ho b h2 k2 hb
        · exact absurd (k9 hb) (ngm h1 h2)
      · cases h4
  cases e' with
  | normal => exact ⟨.inl rfl, fin q⟩
  | ret => exact ⟨.inr rfl, fin q⟩
  | _ => exact q.elim
end Go.Eng
