import Derived.Test.YtcidmnpihffphaaEngU
import Derived.Carry
import Derived.OpenShut
/-! What a law is called with: data that can be read, as abstract values; and what a law's row asks. -/
namespace Go.Eng
open Go Go.ChangeShapes Go.WideShapes Go.RowKit
/-- All cells that are there, as cells that do not turn. -/
def allB (w : World) : Beta := ⟨fun _ => none, fun c o => w.cell? ⟨c, o, none⟩, fun _ => False⟩
def Opn (P : Program) (t : TypeId) {α : Type} (enc : α → AV) (ok : α → Prop) : Prop :=
  ∀ {H : Type} (eh : TypeId × Value → H) (w : World) (fuel : Nat) (cs : List Value) (x : DataW H × List MemPlace), DataW.trod eh P w 0 (fun _ => true) true fuel t cs = some x → ∃ a : α, ok a ∧ Vs (allB w) (cellsL (enc a)) cs
/-- A value of one cell, or an aggregate. -/
def Opn1 (P : Program) (t : TypeId) {α : Type} (enc : α → AV) : Prop :=
  (aggT P t = some true ∧ ∀ a, enc a = .agg (cellsL (enc a))) ∨ (aggT P t = some false ∧ ∀ a, cellsL (enc a) = [enc a] ∧ (enc a).flat = true)
def OpV (P : Program) (t : TypeId) {α : Type} (enc : α → AV) (ok : α → Prop) : Prop :=
  ∀ {H : Type} (eh : TypeId × Value → H) (w : World) (r : Reach) (b : Nat) (v : Value) (d : DataW H) (ps : List MemPlace), Value.okWide P w r b t v → DataW.Trod eh P w 0 (fun _ => true) true t v d ps → ∃ a : α, ok a ∧ V (allB w) (enc a) v
def okI (n : Int) : Prop := -9223372036854775808 ≤ n ∧ n ≤ 9223372036854775807
def okB (_ : Bool) : Prop := True
def okL {α : Type} (ok : α → Prop) (l : List α) : Prop := (∀ a ∈ l, ok a) ∧ l.length ≤ 9223372036854775807
theorem Op_int {P : Program} {t : TypeId} (h : P.underlying t = some (.int .i64)) : Opn P t eI okI := fun eh w fuel cs x hx => by
  obtain ⟨n, rfl, _, hw⟩ := DataW.trod_int h hx
  refine ⟨n, ?_, by simp [cellsL, AV.cells, eI, Vs, V]⟩
  simp only [Lit.wf, Bool.and_eq_true, decide_eq_true_eq] at hw
  unfold okI
  have h1 : IntKind.i64.min = -9223372036854775808 := by decide
  have h2 : IntKind.i64.max = 9223372036854775807 := by decide
  rw [h1, h2] at hw; exact hw
theorem Op_bool {P : Program} {t : TypeId} (h : P.underlying t = some .bool) : Opn P t eB okB := fun eh w fuel cs x hx => by
  cases fuel with
  | zero => simp [DataW.trod] at hx
  | succ n =>
    simp only [DataW.trod, h] at hx
    split at hx
    all_goals try (first | (cases hx; done) | (rename_i e _; cases e; done) | skip)
    all_goals try (exact ⟨_, trivial, by simp [cellsL, AV.cells, eB, Vs, V]; rfl⟩)
    all_goals simp_all
theorem OpV_of {P : Program} {t : TypeId} {α : Type} {enc : α → AV} {ok : α → Prop} (h : Opn P t enc ok) (h1 : Opn1 P t enc) (h2 : aggT P t = some false → ∀ (w : World) (r : Reach) (b : Nat) (v : Value), Value.okWide P w r b t v → v.cells = #[v]) : OpV P t enc ok := fun eh w r b v d ps hv hd => by
  obtain ⟨fuel, hx⟩ := hd
  obtain ⟨a, ha, hs⟩ := h eh w fuel _ _ hx
  refine ⟨a, ha, ?_⟩
  rcases h1 with ⟨ht, he⟩ | ⟨ht, he⟩
  · have hagg : ∃ cs, v = .agg cs := by
      unfold aggT at ht
      unfold Value.okWide at hv
      cases hu : P.underlying t with
      | none => rw [hu] at ht; cases ht
      | some u =>
        rw [hu] at ht hv
        cases u with
        | struct fs => obtain ⟨cs, rfl, _⟩ := hv; exact ⟨cs, rfl⟩
        | array n e => obtain ⟨cs, rfl, _⟩ := hv; exact ⟨cs, rfl⟩
        | _ => cases ht
    obtain ⟨cs, rfl⟩ := hagg
    rw [he]
    simp only [V]
    exact ⟨cs.toList, by simp, by simpa [Value.cells] using hs⟩
  · rw [(he a).1, h2 ht w r b v hv] at hs
    simp only [Vs] at hs
    obtain ⟨v', vs', e, hV, rfl⟩ := hs
    simp at e; subst e; exact hV
theorem one_int {P : Program} {t : TypeId} (h : P.underlying t = some (.int .i64)) (w : World) (r : Reach) (b : Nat) (v : Value) (hv : Value.okWide P w r b t v) : v.cells = #[v] := by
  obtain ⟨n, rfl⟩ := okWide_int h hv; rfl
theorem one_bool {P : Program} {t : TypeId} (h : P.underlying t = some .bool) (w : World) (r : Reach) (b : Nat) (v : Value) (hv : Value.okWide P w r b t v) : v.cells = #[v] := by
  simp only [Value.okWide, h, Cell.okWide, Cell.ok] at hv
  cases v <;> simp_all [Value.cells]
theorem one_slice {P : Program} {t e : TypeId} (h : P.underlying t = some (.slice e)) (w : World) (r : Reach) (b : Nat) (v : Value) (hv : Value.okWide P w r b t v) : v.cells = #[v] := by
  simp only [Value.okWide, h, Cell.okWide, Cell.ok] at hv
  cases v <;> simp_all [Value.cells]
/-! Fields, one behind the other. -/
def OpFs (P : Program) (o : Nat) (fs : List (TypeId × Nat)) {α : Type} (encs : α → List AV) (ok : α → Prop) : Prop :=
  ∀ {H : Type} (eh : TypeId × Value → H) (w : World) (fuel : Nat) (cs : List Value) (xs : List (DataW H × List MemPlace)),
    (fs.mapM fun f => DataW.trod eh P w 0 (fun _ => true) true fuel f.1 ((cs.drop f.2).take (P.cellsOf f.1))) = some xs → cs.length = o + (fs.map fun f => P.cellsOf f.1).sum → ∃ a : α, ok a ∧ Vs (allB w) (encs a) (cs.drop o)
theorem OpFs_nil {P : Program} {o : Nat} : OpFs P o [] (fun _ : Unit => []) (fun _ => True) := fun eh w fuel cs xs _ hl => by
  simp at hl
  exact ⟨(), trivial, by rw [List.drop_eq_nil_of_le (by omega)]; simp [Vs]⟩
theorem OpFs_cons {P : Program} {o o' sz : Nat} {t : TypeId} {fs : List (TypeId × Nat)} {α β : Type} {enc : α → AV} {ok : α → Prop} {encs : β → List AV} {oks : β → Prop} (h : Opn P t enc ok) (hsz : P.cellsOf t = sz) (ho : o' = o + sz) (k : OpFs P o' fs encs oks) :
    OpFs P o ((t, o) :: fs) (fun p : α × β => cellsL (enc p.1) ++ encs p.2) (fun p => ok p.1 ∧ oks p.2) := fun eh w fuel cs xs hx hl => by
  subst ho hsz
  simp only [List.mapM_cons, List.map_cons, List.sum_cons] at hx hl
  cases h1 : DataW.trod eh P w 0 (fun _ => true) true fuel t ((cs.drop o).take (P.cellsOf t)) with
  | none => rw [h1] at hx; simp at hx
  | some y =>
    rw [h1] at hx
    cases h2 : (fs.mapM fun f => DataW.trod eh P w 0 (fun _ => true) true fuel f.1 ((cs.drop f.2).take (P.cellsOf f.1))) with
    | none => rw [h2] at hx; simp at hx
    | some ys =>
      obtain ⟨a, ha, hva⟩ := h eh w fuel _ _ h1
      obtain ⟨b, hb, hvb⟩ := k eh w fuel cs ys h2 (by omega)
      refine ⟨(a, b), ⟨ha, hb⟩, ?_⟩
      have := Vs_append hva hvb
      rw [show cs.drop (o + P.cellsOf t) = (cs.drop o).drop (P.cellsOf t) by rw [List.drop_drop], List.take_append_drop] at this
      exact this
theorem Op_struct {P : Program} {t : TypeId} {F : Array Field} {fs : List (TypeId × Nat)} {α β : Type} {encs : β → List AV} {oks : β → Prop} {enc : α → AV} {ok : α → Prop} (ht : P.underlying t = some (.struct F)) (hF : F.toList.map (fun f => (f.type, f.offset)) = fs)
    (hn : P.cellsOf t = (fs.map fun f => P.cellsOf f.1).sum) (k : OpFs P 0 fs encs oks) (g : β → α) (he : ∀ p, cellsL (enc (g p)) = encs p) (hk : ∀ p, oks p → ok (g p)) : Opn P t enc ok := fun eh w fuel cs x hx => by
  cases fuel with
  | zero => simp [DataW.trod] at hx
  | succ n =>
    subst hF
    have key : cs.length = P.cellsOf t ∧ ∃ xs, (F.toList.mapM fun f => DataW.trod eh P w 0 (fun _ => true) true n f.type ((cs.drop f.offset).take (P.cellsOf f.type))) = some xs := by
      unfold DataW.trod at hx
      rw [ht] at hx
      simp only at hx
      split at hx
      · rename_i hl
        refine ⟨hl, ?_⟩
        cases hm : (F.toList.mapM fun f => DataW.trod eh P w 0 (fun _ => true) true n f.type ((cs.drop f.offset).take (P.cellsOf f.type))) with
        | none => rw [hm] at hx; simp at hx
        | some xs => exact ⟨xs, rfl⟩
      · cases hx
    obtain ⟨hl, xs, hm⟩ := key
    obtain ⟨p, hp, hv⟩ := k eh w n cs xs (by rw [List.mapM_map]; exact hm) (by rw [hl, hn]; omega)
    exact ⟨g p, hk p hp, by rw [he]; exact hv⟩
theorem Op_array {P : Program} {t e : TypeId} {n : Nat} {fs : List (TypeId × Nat)} {α β : Type} {encs : β → List AV} {oks : β → Prop} {enc : α → AV} {ok : α → Prop} (ht : P.underlying t = some (.array n e)) (hF : (List.range n).map (fun i => (e, i * P.cellsOf e)) = fs)
    (hn : P.cellsOf t = (fs.map fun f => P.cellsOf f.1).sum) (k : OpFs P 0 fs encs oks) (g : β → α) (he : ∀ p, cellsL (enc (g p)) = encs p) (hk : ∀ p, oks p → ok (g p)) : Opn P t enc ok := fun eh w fuel cs x hx => by
  cases fuel with
  | zero => simp [DataW.trod] at hx
  | succ m =>
    subst hF
    have key : cs.length = P.cellsOf t ∧ ∃ xs, ((List.range n).mapM fun i => DataW.trod eh P w 0 (fun _ => true) true m e ((cs.drop (i * P.cellsOf e)).take (P.cellsOf e))) = some xs := by
      unfold DataW.trod at hx
      rw [ht] at hx
      simp only at hx
      split at hx
      · rename_i hl
        refine ⟨hl, ?_⟩
        cases hm : ((List.range n).mapM fun i => DataW.trod eh P w 0 (fun _ => true) true m e ((cs.drop (i * P.cellsOf e)).take (P.cellsOf e))) with
        | none => rw [hm] at hx; simp at hx
        | some xs => exact ⟨xs, rfl⟩
      · cases hx
    obtain ⟨hl, xs, hm⟩ := key
    obtain ⟨p, hp, hv⟩ := k eh w m cs xs (by rw [List.mapM_map]; exact hm) (by rw [hl, hn]; omega)
    exact ⟨g p, hk p hp, by rw [he]; exact hv⟩
/-! Slices. -/
theorem mapM_get {α β : Type} {f : α → Option β} : ∀ {l : List α} {ys : List β}, l.mapM f = some ys → ys.length = l.length ∧ ∀ (j : Nat) (a : α), l[j]? = some a → ∃ y, f a = some y
  | [], ys, h => by simp at h; subst h; exact ⟨rfl, fun j a ha => by simp at ha⟩
  | x :: l, ys, h => by
    simp only [List.mapM_cons] at h
    cases h1 : f x with
    | none => rw [h1] at h; simp at h
    | some y =>
      cases h2 : l.mapM f with
      | none => rw [h1, h2] at h; simp at h
      | some zs =>
        rw [h1, h2] at h; simp at h; subst h
        obtain ⟨e1, e2⟩ := mapM_get h2
        refine ⟨by simp [e1], fun j a ha => ?_⟩
        cases j with
        | zero => simp at ha; subst ha; exact ⟨y, h1⟩
        | succ j => exact e2 j a (by simpa using ha)
theorem mapM_at {α β : Type} {f : α → Option β} : ∀ {l : List α} {ys : List β}, l.mapM f = some ys → ∀ (j : Nat) (a : α), l[j]? = some a → ∃ y, f a = some y ∧ ys[j]? = some y
  | [], ys, h => fun j a ha => by simp at ha
  | x :: l, ys, h => by
    simp only [List.mapM_cons] at h
    cases h1 : f x with
    | none => rw [h1] at h; simp at h
    | some y =>
      cases h2 : l.mapM f with
      | none => rw [h1, h2] at h; simp at h
      | some zs =>
        rw [h1, h2] at h; simp at h; subst h
        intro j a ha
        cases j with
        | zero => simp at ha; subst ha; exact ⟨y, h1, by simp⟩
        | succ j =>
          obtain ⟨y', e1, e2⟩ := mapM_at h2 j a (by simpa using ha)
          exact ⟨y', e1, by simpa using e2⟩
theorem pick_list {α : Type} [Inhabited α] {p : Nat → α → Prop} : ∀ n : Nat, (∀ j, j < n → ∃ a, p j a) → ∃ l : List α, l.length = n ∧ ∀ j, j < n → p j (l.getD j default)
  | 0, _ => ⟨[], rfl, fun j hj => by omega⟩
  | n + 1, h => by
    obtain ⟨l, hl, hp⟩ := pick_list n fun j hj => h j (by omega)
    obtain ⟨a, ha⟩ := h n (by omega)
    refine ⟨l ++ [a], by simp [hl], fun j hj => ?_⟩
    by_cases e : j < n
    · have := hp j e
      simp only [List.getD_eq_getElem?_getD, List.getElem?_append_left (show j < l.length by omega)] at this ⊢
      exact this
    · have : j = n := by omega
      subst this
      simp only [List.getD_eq_getElem?_getD, List.getElem?_append_right (Nat.le_of_eq hl), hl, Nat.sub_self]
      exact ha
theorem Op_slice {P : Program} {t e : TypeId} {sz : Nat} {α : Type} [Inhabited α] {enc : α → AV} {ok : α → Prop} (ht : P.underlying t = some (.slice e)) (hsz : P.cellsOf e = sz) (hpos : 0 < sz) (h : Opn P e enc ok) (h1 : Opn1 P e enc) : Opn P t (eL sz enc default) (okL ok) := fun eh w fuel cs x hx => by
  cases fuel with
  | zero => simp [DataW.trod] at hx
  | succ n =>
    unfold DataW.trod at hx
    rw [ht] at hx
    simp only at hx
    split at hx
    all_goals try (cases hx; done)
    all_goals try (rename_i e' ; cases e'; done)
    · exact ⟨[], ⟨fun a ha => by simp at ha, by simp⟩, by simp only [cellsL, AV.cells, eL, Vs, V, List.length_nil]; exact ⟨_, _, rfl, ⟨none, 0, rfl, Nat.le_refl _, trivial, fun j hj => by omega⟩, rfl⟩⟩
    · rename_i e' a len cap heq
      cases heq
      subst hsz
      split at hx
      · rename_i hc
        cases hm : (List.range len).mapM fun i => (w.cells? 0 (a.add (i * P.cellsOf e)) (P.cellsOf e)).bind (DataW.trod eh P w 0 (fun _ => true) true n e) with
        | none => rw [hm] at hx; simp at hx
        | some ys =>
          have key : ∀ j, j < len → ∃ y : α, ok y ∧ ∃ us : List Value, us.length = P.cellsOf e ∧ (∀ (q : Nat) (v : Value), us[q]? = some v → w.cell? ((a.add (j * P.cellsOf e)).add q) = some v) ∧ Vs (allB w) (cellsL (enc y)) us := fun j hj => by
            obtain ⟨_, e2⟩ := mapM_get hm
            obtain ⟨y, hy⟩ := e2 j j (by simp [hj])
            cases hcs : w.cells? 0 (a.add (j * P.cellsOf e)) (P.cellsOf e) with
            | none => rw [hcs] at hy; simp at hy
            | some us =>
              rw [hcs] at hy
              simp only [Option.bind_some] at hy
              obtain ⟨b, hb, hv⟩ := h eh w n us _ hy
              unfold World.cells? at hcs
              rw [if_pos (Nat.zero_le _)] at hcs
              have hl := (mapM_get hcs).1
              refine ⟨b, hb, us, by simpa using hl, fun q v hq => ?_, hv⟩
              have hq2 : q < P.cellsOf e := by
                have := (List.getElem?_eq_some_iff.1 hq).1
                rw [hl] at this; simpa using this
              obtain ⟨v', g1, g2⟩ := mapM_at hcs q q (by simp [hq2])
              rw [hq] at g2; cases g2; exact g1
          obtain ⟨l, hl, hp⟩ := pick_list (p := fun j y => ok y ∧ ∃ us : List Value, us.length = P.cellsOf e ∧ (∀ (q : Nat) (v : Value), us[q]? = some v → w.cell? ((a.add (j * P.cellsOf e)).add q) = some v) ∧ Vs (allB w) (cellsL (enc y)) us) len key
          refine ⟨l, ⟨fun b hb => ?_, ?_⟩, ?_⟩
          · obtain ⟨j, hj, rfl⟩ := List.getElem_of_mem hb
            have := (hp j (by omega)).1
            rw [List.getD_eq_getElem?_getD, List.getElem?_eq_getElem hj] at this
            exact this
          · have : cap ≤ maxLen := hc.2.2
            have := hc.2.1
            unfold maxLen at *
            omega
          · simp only [cellsL, AV.cells, eL, Vs, V]
            refine ⟨_, _, rfl, ⟨some a, cap, by rw [hl], by rw [hl]; exact hc.2.1, trivial, fun j hj => ?_⟩, rfl⟩
            rw [hl] at hj
            obtain ⟨_, us, hul, hcell, hv⟩ := hp j hj
            have hsp : a.spot = none := by
              obtain ⟨_, us0, hul0, hcell0, _⟩ := hp 0 (by omega)
              have h0 : ∃ v, us0[0]? = some v := ⟨us0[0]'(by omega), List.getElem?_eq_getElem (by omega)⟩
              obtain ⟨v, hv0⟩ := h0
              have := hcell0 0 v hv0
              rw [Nat.zero_mul] at this
              unfold World.cell? at this
              split at this
              · split at this
                · cases this
                · rename_i hs
                  cases hsa : a.spot with
                  | none => rfl
                  | some s => exact absurd (by simp [Addr.add, hsa]) hs
              · cases this
            obtain ⟨ab, ao, asp⟩ := a
            simp only at hsp; subst hsp
            rcases h1 with ⟨_, he⟩ | ⟨_, he⟩
            · refine ⟨ab, ao, .agg us.toArray, rfl, by simp [Value.cells, hul], fun q v hq => ?_, by rw [he]; simp only [V]; exact ⟨us, rfl, hv⟩⟩
              have := hcell q v (by simpa [Value.cells] using hq)
              rw [add_none, add_none] at this; exact this
            · rw [(he _).1] at hv
              simp only [Vs] at hv
              obtain ⟨u, us', rfl, hV, rfl⟩ := hv
              have hu : u.cells = #[u] := by
                have hone := (he (l.getD j default)).2
                generalize enc (l.getD j default) = r at hone hV
                cases r <;> simp only [AV.flat, Bool.false_eq_true] at hone
                all_goals simp only [V] at hV
                case int => subst hV; rfl
                case bool => subst hV; rfl
                case str => subst hV; rfl
                case nilp => subst hV; rfl
                case ptr => obtain ⟨_, _, rfl⟩ := hV; rfl
                case ep => obtain ⟨_, _, _, rfl, _⟩ := hV; rfl
                case nils => subst hV; rfl
                case sl => obtain ⟨_, _, ⟨_, _, _, rfl⟩ | ⟨_, _, rfl⟩⟩ := hV <;> rfl
                case so => obtain ⟨_, _, ⟨_, _, rfl⟩ | ⟨_, _, _, rfl⟩⟩ := hV <;> rfl
                case lst => obtain ⟨_, _, rfl, _⟩ := hV; rfl
                case nilm => subst hV; rfl
                case mp => obtain ⟨_, _, rfl⟩ := hV; rfl
                case yld => obtain ⟨_, _, rfl⟩ := hV; rfl
                case nilf => subst hV; rfl
                case fn => obtain ⟨_, _, rfl, _⟩ := hV; rfl
              refine ⟨ab, ao, u, rfl, by rw [hu]; simpa using hul, fun q v hq => ?_, hV⟩
              rw [hu] at hq
              have := hcell q v (by simpa using hq)
              rw [add_none, add_none] at this; exact this
      · cases hx
/-! A law's call. -/
theorem HRel_all (w : World) : HRel (allB w) (fun _ => none) w (fun c => w.heap.size ≤ c) where
  fz c o v h := h
  own i cs h := by cases h
  map i es clk h := by cases h
  sep i j bi bj li lj _ hi := by cases hi
  ys c h := h.elim
  yo i b l h := by cases h
  gh i S G s h := by cases h
  gh1 i j S G s S' G' s' h := by cases h
  mps i sz es clk ho h := by cases h
  mp1 i j sz es clk ho b h := by cases h
/-- From the row of a function's table: the call, in whatever memory. -/
theorem call_of {P : Program} {f : FuncId} {S : List AV → AV → Prop} (h : FOk P f (pureR S)) {args : List AV} {r : AV} (hs : S args r) (hl : r.loose) (W : World) (av : List Value) (hv : Vs (allB W) args av) :
    Calls P f av.toArray W fun e W' => ∃ v β, e = .returned v ∧ V β r v ∧ Below W.heap.size W W' :=
  (h.2 args (fun _ => none) 0 r (fun _ => none) ⟨hs, hl, rfl⟩ (fun c => W.heap.size ≤ c) W (allB W) av (fun _j hj => absurd rfl hj) (HRel_all W) (fun _c hc => hc) hv).mono fun _e _W' ⟨v, β, e1, _, e3, _, e5⟩ => ⟨v, β, e1, e3, e5.to⟩
/-- All arguments read as they did. -/
theorem trodAll_stays {H : Type} {eh : TypeId × Value → H} {P : Program} (hl : laidOutB P = true) {W W' : World} (hb : Below W.heap.size W W') {sp : Nat → Bool} : ∀ {ts : List TypeId} {vs : List Value} {ds : List (DataW H)} {ps : List MemPlace},
    (∀ t ∈ ts, P.readableRec t = true ∧ t < P.types.size) → DataW.TrodAll eh P W 0 (fun _ => true) true ts vs ds ps → (∀ x ∈ ps, x.block < W.heap.size) → (∀ x ∈ ps, sp x.block = true) → DataW.TrodAll eh P W' 0 sp true ts vs ds ps
  | [], [], [], ps, _, h, _, _ => h
  | t :: ts, v :: vs, d :: ds, ps, hr, ⟨p, q, h1, h2, e⟩, hlt, hsp => by
    subst e
    exact ⟨p, q, WideElems.Trod_stays hl (hr t (by simp)).1 (hr t (by simp)).2 h1 (fun x hx => hb.same (hlt x (by simp [hx]))) (fun x hx => hsp x (by simp [hx])),
      trodAll_stays hl hb (fun t' ht' => hr t' (by simp [ht'])) h2 (fun x hx => hlt x (by simp [hx])) (fun x hx => hsp x (by simp [hx])), rfl⟩
  | [], [], _ :: _, _, _, h, _, _ => h.elim
  | [], _ :: _, _, _, _, h, _, _ => by cases h
  | _ :: _, [], _, _, _, h, _, _ => h.elim
  | _ :: _, _ :: _, [], _, _, h, _, _ => h.elim
/-- What a law's row asks behind the call: below the heap's old size nothing has turned. -/
theorem post_law {H : Type} {eh : TypeId × Value → H} {P : Program} (hl : laidOutB P = true) {f : Func} {s : ChangeSpec} {apart fresh handsOn again : Bool} {W W' : World} {args : Array Value} {v : Value} {ds : List (DataW H)} {before : List MemPlace}
    (hW : DataW.Whole eh P f.params.toList s.vars apart W args.toList ds [] before) (hvar : s.vars = []) (hr : ∀ t ∈ f.params.toList, P.readableRec t = true ∧ t < P.types.size) (hbel : Below W.heap.size W W')
    (hres : ∀ (b : Nat) (sp : Nat → Bool) (hd : Bool), DataW.TrodAll eh P W' b sp hd f.resultTypes.toList (v.resultList f.resultTypes.size) (s.fn H ds).results []) (hargs : (s.fn H ds).args = ds) (hvars : (s.fn H ds).vars = [])
    (hok : ∀ (j : Nat) (t : TypeId) (r : Value), f.resultTypes[j]? = some t → (v.resultList f.resultTypes.size)[j]? = some r → Value.okWide P W' .any 0 t r) :
    s.post eh P f apart fresh handsOn again W args v W' := by
  have hlt := hW.lt
  obtain ⟨p, q, hA, hV, hpq, hz, hn⟩ := id hW
  rw [hvar] at hV
  obtain ⟨_, rfl⟩ := trodVars_none hV
  rw [List.append_nil] at hpq
  subst hpq
  have hst : ∀ sp : Nat → Bool, (∀ x ∈ before, sp x.block = true) → DataW.TrodAll eh P W' 0 sp true f.params.toList args.toList (s.fn H (ds ++ [])).args before := fun sp hsp => by
    rw [List.append_nil, hargs]; exact trodAll_stays hl hbel hr hA hlt hsp
  have hvv : ∀ sp : Nat → Bool, DataW.TrodVars eh P W' sp s.vars (s.fn H (ds ++ [])).vars [] := fun sp => by
    rw [List.append_nil, hvars, hvar]; rfl
  have hrr : ∀ (b : Nat) (sp : Nat → Bool) (hd : Bool), DataW.TrodAll eh P W' b sp hd f.resultTypes.toList (v.resultList f.resultTypes.size) (s.fn H (ds ++ [])).results [] := fun b sp hd => by
    rw [List.append_nil]; exact hres b sp hd
  refine ⟨ds, [], before, [], before, [], hW, hrr _ _ _, hst _ fun x hx => by simpa using hlt x hx, hvv _, hbel.frame _, fun _ => ?_⟩
  refine ⟨hok, _, _, ([] ++ before) ++ [], ⟨[] ++ before, [], trodAll_append (hst _ fun _ _ => rfl) (hrr _ _ _), hvv _, rfl, ?_, ?_⟩, ?_⟩
  · intro b off hp
    have hp' : MemPlace.cell b off ∈ before := by simpa using hp
    rw [hbel.frozen (p := ⟨b, off, none⟩) (hlt _ hp')]
    exact hz b off hp'
  · intro ha; simpa using hn ha
  · intro x hx _; simpa using hx
theorem PfOk_T0 (pf : FuncId → Bool) : PfOk T0 pf := fun _f _ _args _H _base _r _H' h => h.elim
theorem PfOk_ext {T : Tbl} {pf : FuncId → Bool} {f : FuncId} {s : FSpec} (h : PfOk T pf) (k : pf f = true → ∃ S, s = pureR S) : PfOk (ext T f s) pf := fun g hg args H base r H' e => by
  by_cases hgf : g = f
  · subst hgf
    obtain ⟨S, rfl⟩ := k hg
    rw [ext_same] at e
    refine ⟨e.2.2, e.2.1, fun base' H1 => ?_⟩
    rw [ext_same]; exact ⟨e.1, e.2.1, rfl⟩
  · rw [ext_other _ _ hgf] at e
    obtain ⟨a, b, c⟩ := h g hg args H base r H' e
    refine ⟨a, b, fun base' H1 => ?_⟩
    rw [ext_other _ _ hgf]; exact c base' H1
end Go.Eng
