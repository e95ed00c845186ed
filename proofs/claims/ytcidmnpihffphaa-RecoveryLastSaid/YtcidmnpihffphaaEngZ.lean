import Derived.Test.YtcidmnpihffphaaEngY
import Derived.Laws.Cover3
namespace Go.Eng
open Go
universe u v
/-! ### Maps from integers, on plain data. -/
structure GM (α : Type) where
  es : List (Nat × Int × α)
  clk : Nat
instance {α : Type} : Inhabited (GM α) := ⟨⟨[], 0⟩⟩
namespace GM
variable {α : Type}
def mt (α : Type) : GM α := ⟨[], 0⟩
def get (m : GM α) (n : Int) (d : α) : α := match mfind n m.es with | some p => p.2.2 | none => d
def has (m : GM α) (n : Int) : Bool := (mfind n m.es).isSome
def put (m : GM α) (n : Int) (v : α) : GM α := ⟨mput n v m.es m.clk, mclk n m.es m.clk⟩
def del (m : GM α) (n : Int) : GM α := ⟨mdel n m.es, m.clk⟩
def len (m : GM α) : Int := m.es.length
end GM
def encE {α : Type} (enc : α → AV) (L : List (Nat × Int × α)) : List (Nat × Int × AV) := L.map fun p => (p.1, p.2.1, enc p.2.2)
def abM {α : Type} (enc : α → AV) (m : GM α) : AB := .map (encM .i64 (encE enc m.es)) m.clk
theorem mfind_enc {α : Type} (enc : α → AV) (n : Int) (L : List (Nat × Int × α)) : mfind n (encE enc L) = (mfind n L).map fun p => (p.1, p.2.1, enc p.2.2) := by
  unfold mfind encE; rw [List.find?_map]; rfl
theorem fidx_enc {α : Type} (enc : α → AV) (n : Int) (L : List (Nat × Int × α)) : (encE enc L).findIdx? (fun p => p.2.1 == n) = L.findIdx? fun p => p.2.1 == n := by
  unfold encE; rw [List.findIdx?_map]; rfl
theorem modify_map {α β : Type} (g : α → β) (f : α → α) (f' : β → β) (h : ∀ a, f' (g a) = g (f a)) : ∀ (L : List α) (j : Nat), (L.map g).modify j f' = (L.modify j f).map g := fun L j => by
  refine List.ext_getElem? fun i => ?_
  rw [List.getElem?_modify, List.getElem?_map, List.getElem?_map, List.getElem?_modify]
  by_cases e : j = i
  · subst e; cases L[j]? <;> simp [h]
  · simp [e]
theorem mput_enc {α : Type} (enc : α → AV) (n : Int) (v : α) (L : List (Nat × Int × α)) (clk : Nat) : mput n (enc v) (encE enc L) clk = encE enc (mput n v L clk) := by
  unfold mput
  rw [fidx_enc]
  cases L.findIdx? fun p => p.2.1 == n with
  | some j => exact modify_map (fun p : Nat × Int × α => (p.1, p.2.1, enc p.2.2)) (fun p => (p.1, p.2.1, v)) (fun p => (p.1, p.2.1, enc v)) (fun _ => rfl) L j
  | none => simp [encE]
theorem mclk_enc {α : Type} (enc : α → AV) (n : Int) (L : List (Nat × Int × α)) (clk : Nat) : mclk n (encE enc L) clk = mclk n L clk := by
  unfold mclk; rw [fidx_enc]
theorem mdel_enc {α : Type} (enc : α → AV) (n : Int) (L : List (Nat × Int × α)) : mdel n (encE enc L) = encE enc (mdel n L) := by
  unfold mdel
  rw [fidx_enc]
  cases L.findIdx? fun p => p.2.1 == n with
  | some j =>
    show (L.map _).eraseIdx j = (L.eraseIdx j).map _
    refine List.ext_getElem? fun i => ?_
    rw [List.getElem?_eraseIdx, List.getElem?_map, List.getElem?_map, List.getElem?_map, List.getElem?_eraseIdx]
    split <;> rfl
  | none => rfl
section
variable {P : Program} {D : DT} {α : Type} {enc : α → AV} {t e : TypeId} {z : AV} {s b : Nat} {zs : List AV} {lim i : Nat} {n : Int} {m : GM α} {hp : Heap}
theorem mget_lk (hD : DOk P D) (ht : D t = some ⟨.map .i64 e z, s, zs, b⟩) (d : α) (hz : z = enc d) (hi : hp i = some (abM enc m)) (hlim : i < lim) {k : AV → Prop} (hk : k (enc (m.get n d))) : mlookK P lim t (.mp i) (.int .i64 n) false hp k := by
  have k1 := (hD _ _ ht).k
  simp only [TKok] at k1
  refine mlookK_of ⟨.i64, e, z, n, enc (m.get n d), m.has n, k1.1, k1.2, rfl, .inr ⟨i, _, m.clk, rfl, hlim, .inl hi, ?_⟩, Wk.refl _⟩ hk
  rw [mfind_enc]
  unfold GM.get GM.has
  cases mfind n m.es with
  | some p => exact ⟨rfl, rfl⟩
  | none => exact ⟨hz.symm, rfl⟩
theorem mget2_lk (hD : DOk P D) (ht : D t = some ⟨.map .i64 e z, s, zs, b⟩) (d : α) (hz : z = enc d) (hi : hp i = some (abM enc m)) (hlim : i < lim) {k : AV → Prop} (hk : k (.tup [enc (m.get n d), .bool (m.has n)])) : mlookK P lim t (.mp i) (.int .i64 n) true hp k := by
  have k1 := (hD _ _ ht).k
  simp only [TKok] at k1
  refine mlookK_of ⟨.i64, e, z, n, enc (m.get n d), m.has n, k1.1, k1.2, rfl, .inr ⟨i, _, m.clk, rfl, hlim, .inl hi, ?_⟩, Wk.refl _⟩ hk
  rw [mfind_enc]
  unfold GM.get GM.has
  cases mfind n m.es with
  | some p => exact ⟨rfl, rfl⟩
  | none => exact ⟨hz.symm, rfl⟩
theorem mput_lk (hD : DOk P D) (ht : D t = some ⟨.map .i64 e z, s, zs, b⟩) (hi : hp i = some (abM enc m)) {v : α} {k : AV → Heap → Prop} (hk : k .und (upd hp i (some (abM enc (m.put n v))))) : updK P t (.mp i) (.int .i64 n) (enc v) hp k := by
  have k1 := (hD _ _ ht).k
  simp only [TKok] at k1
  refine updK_of ⟨.i64, e, n, i, _, m.clk, k1.1, rfl, rfl, rfl, .inl ⟨hi, rfl⟩⟩ ?_
  rw [mput_enc, mclk_enc]; exact hk
theorem mdel_lk (hD : DOk P D) (ht : D t = some ⟨.map .i64 e z, s, zs, b⟩) (hi : hp i = some (abM enc m)) {k : AV → Heap → Prop} (hk : k (.tup []) (upd hp i (some (abM enc (m.del n))))) : delK P t (.mp i) (.int .i64 n) hp k := by
  have k1 := (hD _ _ ht).k
  simp only [TKok] at k1
  refine delK_of ⟨.i64, e, n, i, _, m.clk, k1.1, rfl, rfl, rfl, .inl ⟨hi, rfl⟩⟩ ?_
  rw [mdel_enc]; exact hk
theorem mlen_lk (hD : DOk P D) (ht : D t = some ⟨.map .i64 e z, s, zs, b⟩) (hi : hp i = some (abM enc m)) (hlim : i < lim) {k : AV → Prop} (hk : k (.int .i64 m.len)) : lenmK P lim t (.mp i) hp k := by
  have k1 := (hD _ _ ht).k
  simp only [TKok] at k1
  refine lenmK_of (.inr ⟨by rw [k1.1]; rfl, .inr ⟨i, _, m.clk, rfl, hlim, .inl hi, rfl⟩⟩) ?_
  have : ((encM .i64 (encE enc m.es)).length : Int) = m.len := by simp [encM, encE, GM.len]
  rw [this]; exact hk
end
theorem BkR_m {L : Ren} {hp : Heap} {i o : Nat} {α : Type} {enc : α → AV} {m : GM α} (h : hp o = some (abM enc m)) (hl : ∀ x, (enc x).loose) : BkR L hp i (some o) (abM enc m) := by
  unfold abM at h ⊢
  simp only [BkR, h]
  refine ⟨trivial, trivial, fun j p hp => ⟨p, hp, rfl, ?_⟩⟩
  unfold encM at hp
  rw [List.getElem?_map] at hp
  obtain ⟨q, h1, rfl⟩ := Option.map_eq_some_iff.1 hp
  unfold encE at h1
  rw [List.getElem?_map] at h1
  obtain ⟨r, _, rfl⟩ := Option.map_eq_some_iff.1 h1
  exact ⟨WkR.wk (Wk.refl _) (loose_int _ _), WkR.wk (Wk.refl _) (hl _)⟩

/-! ### Is a slice nil? -/
theorem run_isnil {P : Program} {t e : TypeId} (h : P.underlying t = some (.slice e)) (w : World) (a : Option Addr) (n c : Nat) (ox oy : Operand) :
    (do eqGuard .eql t ox oy (.slice a n c) (.slice none 0 0); binOp .eql t (.slice a n c) (.slice none 0 0) : Sem Value).run P w = .ok (.bool a.isNone) w := by
  have e1 := Go.run_equal_slice_nil (P := P) w t e a n c h
  simp [eqGuard, binOp, e1]
theorem HT_isnil {E : Env} {N : Nat} {id : Nat} {o1 o2 : Oper} {y : Code} {σ : AS} {Q : Exit → AS → Prop} {t0 t3 t4 : Tmp} {T e : TypeId} {m : LM} {sz n : Nat} {f : Nat → AV} (h1 : o1.op = .move (.tmp t0)) (h2 : o1.dst = some t3) (h3 : o1.guard = none)
    (h4 : o2.op = .binOp .eql T (.tmp t3) (.const (.slice none 0 0)) T) (h5 : o2.dst = some t4) (h6 : o2.guard = none) (hT : E.P.underlying T = some (.slice e)) (h0 : σ.sl t0 = .lst m sz n f) (hd : dstOk N #[o1, o2] = true)
    (h : ∀ b : Bool, (b = true → n = 0) → HT E N y ⟨supd (supd σ.sl t3 (.lst m sz n f)) t4 (.bool b), σ.hp, σ.b⟩ Q) : HT E N (.seq (.region id #[o1, o2] false) y) σ Q := by
  intro ro F a w hro hF hr
  obtain ⟨β, ds, g1, g2, g3, g4, g5, g6, g7, g8, g9⟩ := hr
  have hv := g2 t0
  rw [h0] at hv
  have hv' := hv
  simp only [V] at hv'
  obtain ⟨base, cap, hval, _, _, hel⟩ := hv'
  have hd3 : t3 < N := dstOk_spec hd 0 o1 t3 rfl h2
  have hd4 : t4 < N := dstOk_spec hd 1 o2 t4 rfl h5
  have s1 : (execOp a.eval o1).run E.P w = .ok (.value (a.tmps.getD t0 undef)) w := by
    unfold execOp; rw [h1]; simp [Act.eval]
  have e3 : (a.put o1.dst (a.tmps.getD t0 undef)).tmps.getD t3 undef = .slice base n cap := by
    rw [h2, ← hval]; simp [Act.put, g9, hd3]
  have s2 : (execOp (a.put o1.dst (a.tmps.getD t0 undef)).eval o2).run E.P w = .ok (.value (.bool base.isNone)) w := by
    have := run_isnil hT w base n cap (.tmp t3) (.const (.slice none 0 0))
    unfold execOp; rw [h4]
    simp only [Act.eval, e3, Sem.run_bind] at this ⊢
    simp only [this]; rfl
  refine wpIn_seq (wpIn_region ?_)
  show wpOpsIn (fen ro) 0 E.P #[o1, o2] _ [0, 1] a w
  have w1 : Region.wanted o1 (yielded #[o1, o2] a.tmps) = true := by simp [Region.wanted, h3]
  have w2 : Region.wanted o2 (yielded #[o1, o2] (a.put o1.dst (a.tmps.getD t0 undef)).tmps) = true := by simp [Region.wanted, h6]
  simp only [wpOpsIn, List.getElem?_toArray, List.getElem?_cons_zero, w1, if_true]
  refine wp_value (fun c hc => by rw [h1] at hc; cases hc) s1 ?_
  simp only [List.getElem?_cons_succ, List.getElem?_cons_zero, w2, if_true]
  refine wp_value (fun c hc => by rw [h4] at hc; cases hc) s2 ?_
  refine h base.isNone (fun hb => ?_) ro F _ w hro hF ⟨β, ds, g1, ?_, g3, g4, g5, g6, ?_, g8, ?_⟩
  · cases base with
    | some _ => cases hb
    | none =>
      cases n with
      | zero => rfl
      | succ k => obtain ⟨_, _, _, hx, _⟩ := hel 0 (Nat.succ_pos _); cases hx
  · intro t
    have k1 := put_V (β := β) (N := N) g2 g9 (d := o1.dst) (fun t ht => by rw [h2] at ht; cases ht; exact hd3) hv
    have k2 := put_V (β := β) (N := N) k1 (by rw [put_size]; exact g9) (d := o2.dst) (fun t ht => by rw [h5] at ht; cases ht; exact hd4) (r := .bool base.isNone) (v := .bool base.isNone) (by simp [V])
    have := k2 t
    rw [h2, h5] at this
    rw [h2, h5]; exact this
  · rw [put_defers, put_defers]; exact g7
  · rw [put_size, put_size]; exact g9

theorem clone_nil {α : Type} {sz : Nat} {enc : α → AV} {d : α} {l : List α} {r : AV} (h : W (ap ([] : List α) l fun x => some x) fun y => r = eL sz enc d y) (hn : l.length = 0) : Wk .nils r := by
  unfold ap at h
  have e := W_some (W_gd h).2
  subst e
  cases l with
  | nil => exact Wk_nil
  | cons _ _ => cases hn

/-! ### slices.Clone: what comes back is the caller's own. -/
def cloneR {α : Type} (sz : Nat) (enc : α → AV) (d : α) : FSpec := fun args H base r H' =>
  ∃ l : List α, args = [eL sz enc d l] ∧ l.length ≤ 1048576 ∧ r = .so base 0 l.length sz ∧ H' = upd H base (some (.cells (flE (ceE enc) l)))
theorem callsK_clone {T : Tbl} {f : FuncId} {α : Type} {sz : Nat} {enc : α → AV} {d : α} {l : List α} {args : List AV} {hp : Heap} {id : Nat} {k : AV → Heap → Prop} (hT : T f = cloneR sz enc d) (hw : WkL args [eL sz enc d l]) (hl : l.length ≤ 1048576)
    (hk : k (.so id 0 l.length sz) (upd hp id (some (.cells (flE (ceE enc) l))))) : callsK T f args hp id k :=
  callsK_of hw (by rw [hT]; exact ⟨l, rfl, hl, rfl, rfl⟩) hk
theorem range_fl {α : Type} {enc : α → AV} {d : α} (l : List α) : ((List.range l.length).flatMap fun j => cellsL (enc (l.getD j d))) = flE (ceE enc) l := by
  have : l = (List.range l.length).map fun j => l.getD j d := by
    refine List.ext_getElem? fun i => ?_
    rw [List.getElem?_map]
    by_cases h : i < l.length
    · simp [h, List.getD_eq_getElem?_getD]
    · simp [h]
  conv => rhs; rw [this]
  simp [flE, ceE, List.flatMap_map]
theorem WkB_so {M : List (Nat × Nat)} {g i n sz : Nat} (h : (g, i) ∈ M) : WkB M (.so g 0 n sz) (.so i 0 n sz) := fun β0 loc ys v hM hv => by
  simp only [V] at hv ⊢
  obtain ⟨l, h1, h2⟩ := hv
  exact ⟨l, (hM _ h).trans h1, h2⟩
theorem WkB_loose {M : List (Nat × Nat)} {a a' : AV} (hw : Wk a a') (h : a'.loose) : WkB M a a' := fun _β0 _loc _ys _v _ hv => h _ _ _ _ (hw _ _ hv)
theorem WkA_loose {ids : List Nat} {a : AV} (h : a.loose) : WkA ids a a := fun _β _ys _v hv => h _ _ _ _ hv
theorem Len2_same {α : Type} {R : α → α → Prop} : ∀ {l : List α}, (∀ a ∈ l, R a a) → Len2 R l l
  | [], _ => .nil
  | a :: l, h => .cons (h a (by simp)) (Len2_same fun b hb => h b (by simp [hb]))
theorem BkX_fl {M : List (Nat × Nat)} {α : Type} {ce : α → List AV} (h : ∀ x, ∀ a ∈ ce x, a.loose) (l : List α) : BkX (WkB M) (.cells (flE ce l)) (.cells (flE ce l)) :=
  .cells (Len2_same fun a ha => WkB_loose (Wk.refl _) (loose_fl h l a ha))
theorem WkR_tokso {L : Ren} {g g' sz : Nat} {f : Nat → AV} (h : ∀ loc, rloc loc L g' = loc g) : WkR L (.lst (.tok g) sz 0 f) (.so g' 0 0 sz) := fun β v hv => by
  simp only [V] at hv ⊢
  obtain ⟨base, cap, rfl, h2, ⟨l, h3, h4⟩, _⟩ := hv
  refine ⟨l, (h β.loc).trans h3, ?_⟩
  rcases h4 with rfl | ⟨o, rfl, h5, h6⟩
  · exact .inl ⟨trivial, _, rfl⟩
  · exact .inr ⟨cap, Nat.zero_le _, by omega, by rw [h5]; simp⟩
theorem apc_lk {P : Program} {D : DT} (hD : DOk P D) {α : Type} {enc : α → AV} {d : α} {t u : TypeId} {e e' : TypeId} {de : TD} {s1 s2 b1 b2 : Nat} {z1 z2 : List AV} {m' : LM} {sz : Nat} {l : List α} {id : Nat} {hp : Heap} {k : AV → Heap → Prop} {f : Nat → AV}
    (ht : D t = some ⟨.slice e, s1, z1, b1⟩) (hu : D u = some ⟨.slice e', s2, z2, b2⟩) (he : D e = some de)
    (h0 : de.size = sz ∧ 0 < sz ∧ 0 < de.bytes ∧ de.bytes ≤ 1048576 ∧ de.zero.length = sz) (hfl : ∀ y, (ceE enc y).all AV.flat = true) (hc : ∀ y, (enc y).cells ≠ none)
    (hl2 : l.length ≤ 1048576) (hk : k (.so id 0 l.length sz) (upd hp id (some (.cells (flE (ceE enc) l))))) :
    appendK P t u (.lst .cap sz 0 f) (.lst m' sz l.length fun j => enc (l.getD j d)) id hp k := by
  have k1 := (hD _ _ ht).k
  have k2 := (hD _ _ hu).k
  simp only [TKok] at k1 k2
  obtain ⟨rfl, h1, h2, h3, h4⟩ := h0
  have hde := hD _ _ he
  by_cases hl : l = []
  · subst hl
    exact appendK_tokW ⟨e, e', _, _, _, 0, 0, f, (fun j => enc (([] : List α).getD j d)), f, k1, k2, hde.size, hde.bytes, hde.zero, h1, h2, h3, h4, by omega, .lst _ _ _, .lst _ _ _, fun j hj => absurd hj (Nat.not_lt_zero _), rfl, fun j hj => absurd hj (Nat.not_lt_zero _), fun j hj => absurd hj (Nat.not_lt_zero _), .inr (.inl ⟨rfl, rfl⟩)⟩ Wk_tokso hk
  · have hall : (flE (ceE enc) l).all AV.flat = true := by
      simp only [List.all_eq_true, flE, List.mem_flatMap]
      rintro a ⟨y, _, hy⟩
      exact List.all_eq_true.1 (hfl y) a hy
    have hpos : 0 < l.length := List.length_pos_iff.2 hl
    refine appendK_own (fun j hj => absurd hj (Nat.not_lt_zero _)) (fun j hj => hc _) ?_ hk
    unfold appendA
    simp only [k1, k2, hde.size, hde.bytes, hde.zero, Option.bind_some, lenS, cellsOf, if_true, range_fl, hall, h1, h2, h3, h4, and_self, hpos, Nat.zero_add, hl2, List.range_zero, List.flatMap_nil, List.nil_append]

/-- The same, in the region in which the empty list is typed out. -/
theorem apcf_lk {P : Program} {D : DT} (hD : DOk P D) {α : Type} {enc : α → AV} {d : α} {t u : TypeId} {e e' : TypeId} {de : TD} {s1 s2 b1 b2 : Nat} {z1 z2 : List AV} {m' : LM} {sz : Nat} {l : List α} {id : Nat} {hp : Heap} {k : AV → Heap → Prop} {f : Nat → AV}
    (ht : D t = some ⟨.slice e, s1, z1, b1⟩) (hu : D u = some ⟨.slice e', s2, z2, b2⟩) (he : D e = some de)
    (h0 : de.size = sz ∧ 0 < sz ∧ 0 < de.bytes ∧ de.bytes ≤ 1048576 ∧ de.zero.length = sz) (hfl : ∀ y, (ceE enc y).all AV.flat = true) (hc : ∀ y, (enc y).cells ≠ none)
    (hl2 : l.length ≤ 1048576) (hk : k (.so id 0 l.length sz) (upd hp id (some (.cells (flE (ceE enc) l))))) :
    appendFK P t u (.lst .cap sz 0 f) (.lst m' sz l.length fun j => enc (l.getD j d)) id hp k := by
  have k1 := (hD _ _ ht).k
  have k2 := (hD _ _ hu).k
  simp only [TKok] at k1 k2
  obtain ⟨rfl, h1, h2, h3, h4⟩ := h0
  have hde := hD _ _ he
  by_cases hl : l = []
  · subst hl
    exact appendFK_of ⟨_, .inr fun H => ⟨e, e', _, _, _, 0, 0, f, (fun j => enc (([] : List α).getD j d)), f, k1, k2, hde.size, hde.bytes, hde.zero, h1, h2, h3, h4, by omega, .lst _ _ _, .lst _ _ _, fun j hj => absurd hj (Nat.not_lt_zero _), rfl, fun j hj => absurd hj (Nat.not_lt_zero _), fun j hj => absurd hj (Nat.not_lt_zero _), .inr (.inl ⟨rfl, rfl⟩)⟩, Wk_tokso⟩ hk
  · have hall : (flE (ceE enc) l).all AV.flat = true := by
      simp only [List.all_eq_true, flE, List.mem_flatMap]
      rintro a ⟨y, _, hy⟩
      exact List.all_eq_true.1 (hfl y) a hy
    have hpos : 0 < l.length := List.length_pos_iff.2 hl
    refine appendFK_of ⟨_, .inl ⟨fun j hj => absurd hj (Nat.not_lt_zero _), fun j hj => hc _, fun H => ?_⟩, Wk.refl _⟩ hk
    unfold appendA
    simp only [k1, k2, hde.size, hde.bytes, hde.zero, Option.bind_some, lenS, cellsOf, if_true, range_fl, hall, h1, h2, h3, h4, and_self, hpos, Nat.zero_add, hl2, List.range_zero, List.flatMap_nil, List.nil_append]

/-! ### Names below 64, for a range over a function. -/
theorem HT_weakN {E : Env} {N n : Nat} {L : Ren} {c : Code} {σ σ' : AS} {Q : Exit → AS → Prop} (hcl : E.cl = true) (hrd : E.rd = false) (hn : 32 ≤ n) (h : WeakN n L σ σ') (k : HT E N c σ' Q) : HT E N c σ Q := fun ro F a w hro hF hr =>
  k ro F a w hro hF (WeakN.rep (rd := false) hn h (by rw [hcl, hrd] at hF; exact hF) hr)
theorem weak_kN {sl : Nat → AV} {hp : Heap} {b b' : Nat} {l : List (Nat × AV)} {hs : List (Nat × AB)}
    (h : forceS sl l fun ps => forceR ((0, some 0) :: (renP ps ++ renH (renP ps) hp hs)) fun L => renOkN 32 L b' = true ∧ allL (fun p => WkR L p.1 p.2) ps ∧ allL (fun p => ∃ o, lookR L p.1 = some o ∧ BkR L hp p.1 o p.2) hs) : ∃ L, WeakN 32 L ⟨sl, hp, b⟩ ⟨ofL l, ofH hs, b'⟩ := by
  rw [forceS_eq, forceR_eq] at h
  exact ⟨_, weak_ofN (by decide) _ (allL_map (β := AV × AV) (p := fun p => WkR _ p.1 p.2) h.2.1) h.2.2 h.1⟩
def setId (n : Nat) : AV → AV
  | .ptr _ o => .ptr n o
  | .mp _ => .mp n
  | .sl _ o a b c => .sl n o a b c
  | .so _ o a b => .so n o a b
  | .lst (.tok _) a b c => .lst (.tok n) a b c
  | a => a
def rsFind (rs : List (Nat × Nat)) (t : Nat) : Option Nat := match rs with
  | [] => none
  | (u, n) :: l => bif t == u then some n else rsFind l t
def anchL (σ : AS) (rs : List (Nat × Nat)) (ts : List Nat) : List (Nat × AV) := ts.map fun t => (t, match rsFind rs t with | some n => setId n (σ.sl t) | none => σ.sl t)
def anchH (σ : AS) (rs : List (Nat × Nat)) : List (Nat × AB) := rs.map fun p => (p.2, (σ.hp (ptrId (σ.sl p.1))).getD (.cells []))
/-- Some slots, some blocks under new names. -/
theorem HT_ancK {E : Env} {N : Nat} {c : Code} {σ : AS} {Q : Exit → AS → Prop} (hcl : E.cl = true) (hrd : E.rd = false) (ts : List Nat) (rs : List (Nat × Nat))
    (H : forceP (anchL σ rs ts) fun l => forceHs (anchH σ rs) fun hs => forceN σ.b fun b => (∃ L, WeakN 32 L σ ⟨ofL l, ofH hs, b⟩) ∧ HT E N c ⟨ofL l, ofH hs, b⟩ Q) : HT E N c σ Q := by
  rw [forceP_eq, forceHs_eq, forceN_eq] at H
  obtain ⟨⟨L, h1⟩, h2⟩ := H
  exact HT_weakN hcl hrd (Nat.le_refl _) h1 h2
theorem WkR_yld {L : Ren} {i i' : Nat} (h : ∀ loc, rloc loc L i' = loc i) : WkR L (.yld i) (.yld i') := fun β v hv => by
  simp only [V] at hv ⊢
  obtain ⟨l, h1, h2⟩ := hv
  exact ⟨l, (h β.loc).trans h1, h2⟩
theorem WkR_ep {L : Ren} {cs cs' : List AV} {o : Nat} (h : VsR L cs cs') : WkR L (.ep cs o) (.ep cs' o) := fun β v hv => by
  simp only [V] at hv ⊢
  obtain ⟨c, q, vs, h1, h2, h3⟩ := hv
  exact ⟨c, q, vs, h1, h2, h _ _ h3⟩
/-! ### Values of a function's, as the caller sees them. -/
def VsB (M : List (Nat × Nat)) (as bs : List AV) : Prop := ∀ (β0 : Beta) (loc : Nat → Option Loc) (ys : Nat → Prop) (vs : List Value), (∀ p ∈ M, loc p.2 = β0.loc p.1) → Vs β0 as vs → Vs ⟨loc, β0.fz, ys⟩ bs vs
theorem VsB_nil {M : List (Nat × Nat)} : VsB M [] [] := fun _ _ _ _ _ h => by simpa [Vs] using h
theorem VsB_cons {M : List (Nat × Nat)} {a b : AV} {as bs : List AV} (h : WkB M a b) (k : VsB M as bs) : VsB M (a :: as) (b :: bs) := fun β0 loc ys vs hm hv => by
  obtain ⟨v, vs', rfl, h1, h2⟩ := hv
  exact ⟨v, vs', rfl, h β0 loc ys v hm h1, k β0 loc ys vs' hm h2⟩
theorem WkB_mp {M : List (Nat × Nat)} {g i : Nat} (h : (g, i) ∈ M) : WkB M (.mp g) (.mp i) := fun β0 loc ys v hm hv => by
  simp only [V] at hv ⊢
  obtain ⟨l, h1, h2⟩ := hv
  exact ⟨l, (hm _ h).trans h1, h2⟩
theorem WkB_ep {M : List (Nat × Nat)} {cs cs' : List AV} {o : Nat} (h : VsB M cs cs') : WkB M (.ep cs o) (.ep cs' o) := fun β0 loc ys v hm hv => by
  simp only [V] at hv ⊢
  obtain ⟨c, q, vs, h1, h2, h3⟩ := hv
  exact ⟨c, q, vs, h1, h2, h β0 loc ys vs hm h3⟩
theorem WkB_fn {M : List (Nat × Nat)} {f : FuncId} {as bs cs ds : List AV} (h : VsB M as bs) (k : VsB M cs ds) : WkB M (.fn f as cs) (.fn f bs ds) := fun β0 loc ys v hm hv => by
  simp only [V] at hv ⊢
  obtain ⟨fv, cv, h1, h2, h3⟩ := hv
  exact ⟨fv, cv, h1, h β0 loc ys fv hm h2, k β0 loc ys cv hm h3⟩
theorem WkB_tup {M : List (Nat × Nat)} {as bs : List AV} (h : VsB M as bs) : WkB M (.tup as) (.tup bs) := fun β0 loc ys v hm hv => by
  simp only [V] at hv ⊢
  obtain ⟨fv, h1, h2⟩ := hv
  exact ⟨fv, h1, h β0 loc ys fv hm h2⟩
theorem WkA_mp {ids : List Nat} {i j : Nat} (h : ids[j]? = some i) : WkA ids (.mp i) (.mp j) := fun β ys v hv => by
  simp only [V] at hv ⊢
  obtain ⟨l, h1, h2⟩ := hv
  exact ⟨l, by show aloc β.loc ids j = _; unfold aloc; rw [h]; exact h1, h2⟩
theorem WkA_yld {ids : List Nat} {i j : Nat} (h : ids[j]? = some i) : WkA ids (.yld i) (.yld j) := fun β ys v hv => by
  simp only [V] at hv ⊢
  obtain ⟨l, h1, h2⟩ := hv
  exact ⟨l, by show aloc β.loc ids j = _; unfold aloc; rw [h]; exact h1, h2⟩
def VsA (ids : List Nat) (as bs : List AV) : Prop := ∀ (β : Beta) (ys : Nat → Prop) (vs : List Value), Vs β as vs → Vs ⟨aloc β.loc ids, β.fz, ys⟩ bs vs
theorem VsA_nil {ids : List Nat} : VsA ids [] [] := fun _ _ _ h => by simpa [Vs] using h
theorem VsA_cons {ids : List Nat} {a b : AV} {as bs : List AV} (h : WkA ids a b) (k : VsA ids as bs) : VsA ids (a :: as) (b :: bs) := fun β ys vs hv => by
  obtain ⟨v, vs', rfl, h1, h2⟩ := hv
  exact ⟨v, vs', rfl, h β ys v h1, k β ys vs' h2⟩
theorem WkA_ep {ids : List Nat} {cs cs' : List AV} {o : Nat} (h : VsA ids cs cs') : WkA ids (.ep cs o) (.ep cs' o) := fun β ys v hv => by
  simp only [V] at hv ⊢
  obtain ⟨c, q, vs, h1, h2, h3⟩ := hv
  exact ⟨c, q, vs, h1, h2, h β ys vs h3⟩
theorem Len2_encM {R : AV → AV → Prop} {α : Type} {enc : α → AV} (hi : ∀ k n, R (.int k n) (.int k n)) (h : ∀ x, R (enc x) (enc x)) : ∀ L : List (Nat × Int × α), Len2 (EnR R) (encM .i64 (encE enc L)) (encM .i64 (encE enc L))
  | [] => .nil
  | _p :: L => .cons ⟨rfl, hi _ _, h _⟩ (Len2_encM hi h L)
theorem BkX_m {M : List (Nat × Nat)} {α : Type} {enc : α → AV} {m : GM α} (h : ∀ x, (enc x).loose) : BkX (WkB M) (abM enc m) (abM enc m) := .map (Len2_encM (fun _ _ => WkB_loose (Wk.refl _) (loose_int _ _)) (fun x => WkB_loose (Wk.refl _) (h x)) m.es)
theorem BkA_m {ids : List Nat} {α : Type} {enc : α → AV} {m : GM α} (h : ∀ x, (enc x).loose) : BkX (WkA ids) (abM enc m) (abM enc m) := .map (Len2_encM (fun _ _ => WkA_loose (loose_int _ _)) (fun x => WkA_loose (h x)) m.es)
/-! ### A range over a function that is left at once. -/
theorem a64_ofL : ∀ {l : List (Nat × AV)}, allL (fun p => p.2.a64) l → ∀ t, (ofL l t).a64
  | [], _, t => a64_loose loose_top
  | (u, a) :: l, h, t => by
    show (bif t == u then a else ofL l t).a64
    cases t == u
    · exact a64_ofL h.2 t
    · exact h.1
/-- One number is yielded; the body writes it into a box and leaves. -/
theorem HT_rngI {E : Env} {N : Nat} {Q : Exit → AS → Prop} {g : Operand} {p : Tmp} {assign body : Code} {l : List (Nat × AV)} {hs : List (Nat × AB)} {b0 : Nat} (hrd : E.rd = false) (hcl : E.cl = true) (hpN : p < N)
    {gf : FuncId} {caps : List AV} (hg : evA (ofL l) g = .fn gf [] caps) (out : Nat) (hb0 : 64 ≤ b0) (h64 : allL (fun p => p.2.a64) l) (mi bx q : Nat) (hmi : mi < 64) (hne : bx ≠ mi)
    {m : GM Int} (hm : ofH hs mi = some (abM eI m)) {cs : List AV} {s0 k : Int} (hb : ofH hs bx = some (.cells cs)) (hq : cs[q]? = some (eI s0)) (hng : allL (fun p => noGh p.2 = true) hs)
    (hrow : ∀ (G : Gh (Bool × Int)) (H : Heap), G.P = E.P → G.Y [.int .i64 k] (true, s0) false (false, k) → H b0 = some (.gh (Bool × Int) G (true, s0)) → (mi ≠ b0 → H mi = some (abM eI m)) → ∃ r, E.T gf (.yld b0 :: caps) H (b0 + 64) r (upd H b0 (some (.gh (Bool × Int) G (false, k)))))
    (hround : ∀ (x s : Int), HT { E with rd := true } N assign ⟨supd (ofL l) p (eI x), fun i => bif i == mi then none else if i = bx then some (.cells (cs.set q (eI s))) else ofH hs i, b0 + 64⟩ (Then (fun σ1 => HT { E with rd := true } N body σ1 fun e σ2 =>
      e = .exit out ∧ ∃ L, Weak L ⟨fun _ => .top, σ2.hp, σ2.b⟩ ⟨fun _ => .top, fun i => bif i == mi then none else if i = bx then some (.cells (cs.set q (eI x))) else ofH hs i, b0 + 64⟩) fun _ _ => False))
    (hend : Q (.exit out) ⟨ofL l, fun i => bif i == mi then ofH hs i else if i = bx then some (.cells (cs.set q (eI k))) else ofH hs i, b0 + 64⟩) :
    HT E N (.rangeFunc g #[p] assign body) ⟨ofL l, ofH hs, b0⟩ Q := by
  have hset : cs.set q (eI s0) = cs := by
    apply List.ext_getElem?
    intro j
    rw [List.getElem?_set]
    split
    · rename_i e; subst e
      rw [if_pos (List.getElem?_eq_some_iff.1 hq).1, hq]
    · rfl
  have hmib : mi ≠ b0 := by omega
  refine HT_rng (X := Int) (S := Int) hrd hcl (fun x => [eI x]) (fun x => [.int .i64 x]) (fun β x => ⟨_, _, rfl, by simp [V, eI], rfl⟩) (fun _ => rfl) (by simpa using hpN) hg (WkL.refl _) out hb0 (a64_ofL h64)
    (fun i => i == mi) (fun i hi => ?_) (fun s i => bif i == mi then none else if i = bx then some (.cells (cs.set q (eI s))) else ofH hs i) (fun s i b h => ?_) (fun x s => some (false, x)) s0 (fun i b h => ?_) (false, k) (fun G hP hy => ?_) (fun x s b s' hy => ?_) (fun h => by cases h) (fun _ => ?_)
  · have e : i = mi := by simpa using hi
    subst e
    refine ⟨hmi, _, _, hm, fun p hp => ?_⟩
    obtain ⟨r, _, rfl⟩ := List.mem_map.1 hp
    refine ⟨plain_int _ _, ?_⟩
    simp only [encE, List.mem_map] at *
    rename_i h1
    obtain ⟨r', _, rfl⟩ := h1
    exact plain_int _ _
  · cases e : (i == mi) with
    | true => simp only [e, cond_true] at h; cases h
    | false =>
      simp only [e, cond_false] at h
      refine ⟨?_, rfl⟩
      split at h
      · cases h; rfl
      · exact allL_mem hng _ (ofH_mem h)
  · cases e : (i == mi) with
    | true => simp only [e, cond_true] at h; cases h
    | false =>
      simp only [e, cond_false] at h
      split at h
      · rename_i e'; subst e'; cases h; rw [hset]; exact hb
      · exact h
  · obtain ⟨r, hr⟩ := hrow G (fun i => if i = b0 then some (.gh (Bool × Int) G (true, s0)) else bif i == mi then ofH hs i else none) hP (hy k s0 false k rfl) (by simp) (fun h => by simp [h, hm])
    refine ⟨r, ?_⟩
    have e : (fun i => if i = b0 then some (AB.gh (Bool × Int) G (false, k)) else bif i == mi then ofH hs i else none) = upd (fun i => if i = b0 then some (.gh (Bool × Int) G (true, s0)) else bif i == mi then ofH hs i else none) b0 (some (.gh (Bool × Int) G (false, k))) := by
      funext i; unfold upd; split
      · rfl
      · rename_i h; simp only [h, if_false]
    rw [e]; exact hr
  · cases hy
    refine (hround x s).mono fun e σ h => ?_
    cases e with
    | normal => exact HT.mono h fun e' σ' ⟨h1, h2⟩ => ⟨by rw [h1]; exact ⟨rfl, rfl⟩, h2⟩
    | _ => exact h
  · have e : (fun i => bif i == mi then ofH hs i else bif i == mi then none else if i = bx then some (AB.cells (cs.set q (eI k))) else ofH hs i) = fun i => bif i == mi then ofH hs i else if i = bx then some (.cells (cs.set q (eI k))) else ofH hs i := by
      funext i; cases i == mi <;> rfl
    rw [e]; exact hend
theorem a64_top : AV.top.a64 := a64_loose loose_top
theorem WkR_a64 {a : AV} (h : a.a64) : WkR [] a a := fun β v hv => by
  refine h β (β.ren []).loc β.ys v (fun i hi _ => ?_) hv
  show (bif decide (i < 64) then β.loc i else none) = _
  simp [hi]
theorem CkR_a64 : ∀ {cs : List AV}, (∀ a ∈ cs, a.a64) → CkR [] cs cs
  | [], _ => trivial
  | a :: cs, h => ⟨WkR_a64 (h a (by simp)), CkR_a64 fun b hb => h b (by simp [hb])⟩
def AB.a64 : AB → Prop
  | .cells cs => ∀ a ∈ cs, a.a64
  | _ => False
/-- What a round leaves, in which one box is written. -/
theorem weak_rngI {hs : List (Nat × AB)} {mi bx b b' : Nat} {cs0 cs' : List AV} (hb' : 64 ≤ b') (hbx : bx < 64) (h1 : allL (fun p => p.1 < 64 ∧ (p.1 = bx ∨ p.1 = mi ∨ p.2.a64)) hs) (hcs : ∀ a ∈ cs', a.a64) :
    ∃ L, Weak L ⟨fun _ => .top, upd (fun i => bif i == mi then none else if i = bx then some (.cells cs0) else ofH hs i) bx (some (.cells cs')), b⟩ ⟨fun _ => .top, fun i => bif i == mi then none else if i = bx then some (.cells cs') else ofH hs i, b'⟩ := by
  have hx : upd (fun i => bif i == mi then none else if i = bx then some (.cells cs0) else ofH hs i) bx (some (AB.cells cs')) bx = some (.cells cs') := by simp
  have hhp : ∀ i, i ≠ bx → i ≠ mi → upd (fun i => bif i == mi then none else if i = bx then some (.cells cs0) else ofH hs i) bx (some (AB.cells cs')) i = ofH hs i := fun i h1 h2 => by
    rw [upd_other _ _ h1]
    have : (i == mi) = false := by simpa using h2
    simp [this, h1]
  generalize upd (fun i => bif i == mi then none else if i = bx then some (.cells cs0) else ofH hs i) bx (some (AB.cells cs')) = hp at hx hhp
  have look : ∀ i, i < 64 → lookR [] i = some (some i) := fun i hi => by simp [lookR, hi]
  have inv : ∀ {i o}, lookR [] i = some (some o) → i = o := fun {i o} h => by
    simp only [lookR] at h
    cases e : decide (i < 64) with
    | true => rw [e] at h; simpa using h
    | false => rw [e] at h; cases h
  refine ⟨[], ⟨fun t => WkR.top _ _, fun i c hi => ?_, fun i j o h1 h2 => (inv h1).trans (inv h2).symm, fun i o h => ?_, fun i hi => look i hi⟩⟩
  · simp only at hi
    cases e : (i == mi) with
    | true => rw [e] at hi; cases hi
    | false =>
      rw [e] at hi; simp only [cond_false] at hi
      have hne : i ≠ mi := by simpa using e
      split at hi
      · rename_i e'; subst e'; cases hi
        exact ⟨some i, look i hbx, BkR_c hx (CkR_a64 hcs)⟩
      · rename_i e'
        have hm := allL_mem h1 _ (ofH_mem hi)
        refine ⟨some i, look i hm.1, ?_⟩
        rcases hm.2 with h | h | h
        · exact absurd h e'
        · exact absurd h hne
        · cases c with
          | cells cs => exact BkR_c ((hhp i e' hne).trans hi) (CkR_a64 h)
          | _ => exact h.elim
  · simp only [lookR] at h
    show i < b'
    cases e : decide (i < 64) with
    | true => have : i < 64 := by simpa using e
              omega
    | false => rw [e] at h; cases h
/-- A value that may be none. -/
def mo {α β : Type} (y : Option α) (x : Option β) (f : α → Option β) : Option β := match y with | none => x | some a => f a
theorem W_mo_n {α β : Type} {x : Option β} {f : α → Option β} {Φ : β → Prop} (h : W (mo none x f) Φ) : W x Φ := h
theorem W_mo_s {α β : Type} {a : α} {x : Option β} {f : α → Option β} {Φ : β → Prop} (h : W (mo (some a) x f) Φ) : W (f a) Φ := h
theorem mo_n {α β : Type} (x : Option β) (f : α → Option β) : mo none x f = x := rfl
theorem mo_s {α β : Type} (a : α) (x : Option β) (f : α → Option β) : mo (some a) x f = f a := rfl
attribute [irreducible] mo
/-! ### Maps of lists that grow. -/
theorem HRel.ysSub {β : Beta} {H : Heap} {w : World} {B : Bd} (h : HRel β H w B) (hn : ∀ i b, H i = some b → noGh b = true) (ys' : Nat → Prop) (hys : ∀ c, ys' c → B c ∧ c < w.heap.size) (hyo : ∀ i b l, H i = some b → β i = some l → 0 < l.k → ¬ ys' l.c) : HRel ⟨β.loc, β.fz, ys'⟩ H w B :=
  ⟨h.fz, fun i cs hi => let ⟨l, h1, h2, h3⟩ := h.own i cs hi; ⟨l, h1, h2, fun hk => let ⟨a, b, full, e, p, q, r⟩ := h3 hk; ⟨a, b, full, e, p, q, fun j x hx => let ⟨v, y, z⟩ := r j x hx; ⟨v, y, V_ys z⟩⟩⟩,
    fun i es clk hi => let ⟨l, h1, h2, h3, ents, h4, m⟩ := h.map i es clk hi; ⟨l, h1, h2, h3, ents, h4, MRel.mono (β := β) (β' := ⟨β.loc, β.fz, ys'⟩) ⟨fun _ _ h => h, fun _ _ _ h => h⟩ m⟩, h.sep, hys, hyo,
    fun i S G s hi => (by have := hn i _ hi; cases this), h.gh1, fun i sz es clk ho hi => (by have := hn i _ hi; cases this), h.mp1⟩
theorem HRel.unGh {β : Beta} {H : Heap} {w : World} {B : Bd} (h : HRel β H w B) {i sz : Nat} {es : List (Nat × AV × AV)} {clk : Nat} {ho : Option Nat} (hi : H i = some (.maps sz es clk ho)) : ∀ j b, upd H i none j = some b → noGh b = true := fun j b hj => by
  by_cases e : j = i
  · subst e; simp at hj
  · rw [upd_other _ _ e] at hj
    cases hb : noGh b with
    | true => rfl
    | false => exact absurd (h.mp1 i j _ _ _ _ b hi hj hb).symm e
theorem upd_upd {α : Type u} (f : Nat → α) (i : Nat) (x y : α) : upd (upd f i x) i y = upd f i y := by
  funext j; unfold upd; split <;> rfl
/-- A map of lists told anew; the world stands. -/
theorem HRel.reMaps {β : Beta} {H : Heap} {w : World} {B : Bd} (h : HRel β H w B) {i sz : Nat} {es es' : List (Nat × AV × AV)} {clk : Nat} {ho ho' : Option Nat} (hi : H i = some (.maps sz es clk ho))
    (hm : ∀ ents, MRel β es ents → MRel β es' ents) (hp : ∀ ents, MRel β es ents → Pool β.fz β.ys sz w (outE ho ents) → Pool β.fz β.ys sz w (outE ho' ents)) : HRel β (upd H i (some (.maps sz es' clk ho'))) w B := by
  obtain ⟨l, hl, hk, hB, ents, hw, hmr, hpl⟩ := h.mps i sz es clk ho hi
  have h2 := (h.drop i).addMaps (id := i) (l := l) (sz := sz) (es := es') (clk := clk) (ho := ho') hl hk hB hw (hm _ hmr) (hp _ hmr hpl) (fun j b lj hj hb hlj hkj => by
    rw [upd_other _ _ hj] at hb
    exact h.sep j i b _ lj l hj hb hi hlj hl hkj hk) (h.yo i _ l hi hl hk) fun j b hj hb => h.unGh hi j b hb
  rw [upd_upd] at h2; exact h2
section
variable {E : Env} {N : Nat} {c : Code} {σ : AS} {Q : Exit → AS → Prop}
theorem HT_hp {hp' : Heap} (h0 : ∀ β w B, HRel β σ.hp w B → HRel β hp' w B) (h : HT E N c ⟨σ.sl, hp', σ.b⟩ Q) : HT E N c σ Q := fun ro F a w hro hF ⟨β, ds, r1, r2, r3, r4⟩ => h ro F a w hro hF ⟨β, ds, r1, r2, h0 _ _ _ r3, r4⟩
/-- A new map whose lists will grow. -/
theorem HT_mkMaps (i sz : Nat) (hi : σ.hp i = some (.map [] 0)) (hn : ∀ j b, j ≠ i → σ.hp j = some b → noGh b = true) (h : HT E N c ⟨σ.sl, upd σ.hp i (some (.maps sz [] 0 none)), σ.b⟩ Q) : HT E N c σ Q := by
  refine HT_hp (fun β w B hH => ?_) h
  obtain ⟨l, hl, hk, hB, ents, hw, hmr⟩ := hH.map i _ _ hi
  have h2 := (hH.drop i).addMaps (id := i) (l := l) (sz := sz) (es := []) (clk := 0) (ho := none) hl hk hB hw hmr (fun j v hv => by
    have : ents = #[] := Array.eq_empty_of_size_eq_zero (by simpa using hmr.len)
    subst this; simp [outE] at hv) (fun j b lj hj hb hlj hkj => by
    rw [upd_other _ _ hj] at hb
    exact hH.sep j i b _ lj l hj hb hi hlj hl hkj hk) (hH.yo i _ l hi hl hk) fun j b hj hb => by
      rw [upd_other _ _ hj] at hb; exact hn j b hj hb
  rw [upd_upd] at h2; exact h2
end
def abS {α : Type} (sz : Nat) (enc : α → AV) (d : α) (m : GM (List α)) : AB := .maps sz (encM .i64 (encE (eL sz enc d) m.es)) m.clk none
theorem mfind_key {α : Type} {n : Int} {L : List (Nat × Int × α)} {p : Nat × Int × α} (h : mfind n L = some p) : p.2.1 = n ∧ p ∈ L := by
  unfold mfind at h
  exact ⟨by simpa using List.find?_some h, List.mem_of_find?_eq_some h⟩
/-- Out of the pool: no list there. -/
theorem HRel.outNo {β : Beta} {H : Heap} {w : World} {B : Bd} (h : HRel β H w B) {i sz : Nat} {es : List (Nat × AV × AV)} {clk : Nat} (n : Nat) (hi : H i = some (.maps sz es clk none)) : HRel β (upd H i (some (.maps sz es clk (some n)))) w B := by
  refine h.reMaps hi (fun _ h => h) fun ents _ hp => hp.inj id (fun j v hv => ?_) fun _ _ h => h
  unfold outE at hv ⊢
  show (match ents[j]? with | some e => bif (none : Option Nat) == some j then none else some e.val | none => none) = some v
  cases he : ents[j]? with
  | none => rw [he] at hv; cases hv
  | some e =>
    rw [he] at hv
    cases hk : ((some n : Option Nat) == some j) with
    | true => simp only [hk, cond_true] at hv; cases hv
    | false => simp only [hk, cond_false] at hv; simpa using hv
theorem KR_idx {β : Beta} {q : IntKind} {n : Int} : ∀ {L : List (Nat × Int × AV)} {es : List MapEntry}, KR β q L es → ∀ (j : Nat) (e : MapEntry), es[j]? = some e → ∃ p, L[j]? = some p ∧ e.born = p.1 ∧ e.key = .int q p.2.1 ∧ V β p.2.2 e.val
  | [], es, h, j, e, he => by simp [KR] at h; subst h; simp at he
  | p :: L, _, h, 0, e, he => by obtain ⟨e', es', rfl, h1, h2, h3, h4⟩ := h; simp at he; subst he; exact ⟨p, rfl, h1, h2, h3⟩
  | p :: L, _, h, j + 1, e, he => by obtain ⟨e', es', rfl, h1, h2, h3, h4⟩ := h; simpa using KR_idx (n := n) h4 j e (by simpa using he)
theorem encM_get {q : IntKind} {L : List (Nat × Int × AV)} {j : Nat} {p : Nat × Int × AV} (h : L[j]? = some p) : (encM q L)[j]? = some (p.1, .int q p.2.1, p.2.2) := by simp [encM, h]
theorem encM_modify {q : IntKind} {L : List (Nat × Int × AV)} {j : Nat} {a : AV} : encM q (L.modify j fun p => (p.1, p.2.1, a)) = (encM q L).modify j fun p => (p.1, p.2.1, a) := by
  unfold encM
  exact (modify_map (fun p : Nat × Int × AV => (p.1, AV.int q p.2.1, p.2.2)) (fun p => (p.1, p.2.1, a)) (fun p => (p.1, p.2.1, a)) (fun _ => rfl) L j).symm
theorem MRel.modify {β : Beta} {es : List (Nat × AV × AV)} {ents : Array MapEntry} (m : MRel β es ents) {j0 : Nat} {a : AV} (h : ∀ e, ents[j0]? = some e → V β a e.val) : MRel β (es.modify j0 fun p => (p.1, p.2.1, a)) ents :=
  ⟨m.len.trans (by simp), fun j p hp => by
    rw [List.getElem?_modify] at hp
    split at hp
    · rename_i ej; subst ej
      obtain ⟨p0, h1, rfl⟩ := Option.map_eq_some_iff.1 hp
      obtain ⟨e, e1, e2, e3, e4⟩ := m.rel _ p0 h1
      exact ⟨e, e1, e2, e3, h e e1⟩
    · exact m.rel j p (by simpa using hp)⟩
/-- Out of the pool: a list, its spare room a block of its own. -/
theorem HRel.outYes {β : Beta} {H : Heap} {w : World} {B : Bd} (h : HRel β H w B) {i sz g j0 : Nat} (hsz : 0 < sz) {es : List (Nat × AV × AV)} {clk : Nat} {p0 : Nat × AV × AV} {len : Nat} {f : Nat → AV} (hi : H i = some (.maps sz es clk none)) (hg : β g = none) (hgi : g ≠ i)
    (hp0 : es[j0]? = some p0) (ha : p0.2.2 = .lst .free sz len f) :
    ∃ β', Beta.le β β' ∧ (∀ j, β' j ≠ none → β j ≠ none ∨ j = g) ∧ β'.fz = β.fz ∧ HRel β' (upd (upd H i (some (.maps sz (es.modify j0 fun p => (p.1, p.2.1, .lst (.tok g) sz len f)) clk (some j0)))) g (some (.cells []))) w B := by
  obtain ⟨l, hl, hk, hB, ents, hw, hmr, hpl⟩ := h.mps i sz _ clk none hi
  obtain ⟨e0, he0, _, _, hv0⟩ := hmr.rel j0 p0 hp0
  rw [ha] at hv0
  simp only [V] at hv0
  obtain ⟨base, cap, hval, hlc, _, hels⟩ := hv0
  have hout0 : outE none ents j0 = some e0.val := by simp [outE, he0]
  obtain ⟨base', n', cap', hval', _, hpool⟩ := hpl j0 _ hout0
  rw [hval] at hval'; cases hval'
  -- the pool without this list
  have key : ∀ (ys' : Nat → Prop) (lg : Loc), (∀ c, ys' c → β.ys c) → (∀ j v, outE (some j0) ents j = some v → ∀ (c o n cap : Nat), v = .slice (some ⟨c, o, none⟩) n cap → cap ≠ n → β.ys c → ys' c) → lg.k ≠ 0 ∧ B lg.c ∧ lg.c < w.heap.size ∧ (∀ o, lg.o ≤ o → o < lg.o + lg.k → β.fz lg.c o = none) ∧ (∃ full ty, w.heap[lg.c]? = some (.cells full ty (0, 0)) ∧ lg.o + lg.k ≤ full.size) ∧ ¬ ys' lg.c ∧ β.ys lg.c ∨ lg.k = 0 →
      (cap = len ∨ ∃ o, base = some ⟨lg.c, o, none⟩ ∧ lg.o = o + len * sz ∧ cap * sz ≤ len * sz + lg.k) →
      ∃ β', Beta.le β β' ∧ (∀ j, β' j ≠ none → β j ≠ none ∨ j = g) ∧ β'.fz = β.fz ∧ HRel β' (upd (upd H i (some (.maps sz (es.modify j0 fun p => (p.1, p.2.1, .lst (.tok g) sz len f)) clk (some j0)))) g (some (.cells []))) w B := by
    intro ys' lg hsub hkeep hlg hcap
    have hd := h.drop i
    have hys' : HRel ⟨β.loc, β.fz, ys'⟩ (upd H i none) w B := hd.ysSub (h.unGh hi) ys' (fun c hc => h.ys c (hsub c hc)) fun k b lk h1 h2 h3 hc => hd.yo k b lk h1 h2 h3 (hsub _ hc)
    let β1 : Beta := (⟨β.loc, β.fz, ys'⟩ : Beta).put g lg
    have hgn : (⟨β.loc, β.fz, ys'⟩ : Beta) g = none := hg
    have hle1 : Beta.le ⟨β.loc, β.fz, ys'⟩ β1 := le_put hgn
    have hle : Beta.le β β1 := ⟨fun j x hx => hle1.loc j x hx, fun _ _ _ hv => hv⟩
    have hH1 : HRel β1 (upd H i none) w B := hys'.put _ hgn
    have hβg : β1 g = some lg := put_same _ _ _
    have hH2 : HRel β1 (upd (upd H i none) g (some (.cells []))) w B := by
      refine hH1.add hβg (by simp) (fun hpos => ?_) (fun hpos k b lk hk1 hb hlk hkk => ?_) (fun hpos hc => ?_)
      · rcases hlg with ⟨_, q1, q2, q3, ⟨full, ty, q4, q5⟩, q6, _⟩ | q
        · exact ⟨q1, q3, full, ty, q4, q5, fun j a ha => by simp at ha⟩
        · omega
      · rcases hlg with ⟨_, _, _, _, _, _, q7⟩ | q
        · have hlk' : β k = some lk := by
            have := put_other (⟨β.loc, β.fz, ys'⟩ : Beta) lg hk1
            rw [show β1 k = (⟨β.loc, β.fz, ys'⟩ : Beta) k from this] at hlk; exact hlk
          exact fun e => hd.yo k b lk hb hlk' hkk (e ▸ q7)
        · omega
      · rcases hlg with ⟨_, _, _, _, _, q6, _⟩ | q
        · exact q6 hc
        · omega
    have hig : i ≠ g := fun e => hgi e.symm
    have hbi : β1 i = some l := by
      have := put_other (⟨β.loc, β.fz, ys'⟩ : Beta) lg hig
      exact this.trans hl
    have hVtok : V β1 (.lst (.tok g) sz len f) e0.val := by
      rw [hval]
      simp only [V]
      refine ⟨base, cap, rfl, hlc, ⟨lg, hβg, hcap⟩, fun j hj => ?_⟩
      obtain ⟨cc, oo, u, u1, u2, u3, u4⟩ := hels j hj
      exact ⟨cc, oo, u, u1, u2, u3, V_mono hle _ _ u4⟩
    have hm2 : MRel β1 (es.modify j0 fun p => (p.1, p.2.1, .lst (.tok g) sz len f)) ents := (hmr.mono hle).modify fun e he => by rw [he0] at he; cases he; exact hVtok
    have hpl2 : Pool β1.fz β1.ys sz w (outE (some j0) ents) := fun j v hv => by
      have hv' : outE none ents j = some v := by
        unfold outE at hv ⊢
        cases he : ents[j]? with
        | none => rw [he] at hv; cases hv
        | some e =>
          rw [he] at hv
          cases hk : ((some j0 : Option Nat) == some j) with
          | true => simp only [hk, cond_true] at hv; cases hv
          | false => simp only [hk, cond_false] at hv; simpa using hv
      obtain ⟨bs, n, cp, q1, q2, q3⟩ := hpl j v hv'
      refine ⟨bs, n, cp, q1, q2, ?_⟩
      rcases q3 with q3 | ⟨c, o, full, ty, r1, r2, r3, r4, r5, r6⟩
      · exact .inl q3
      · by_cases hcn : cp = n
        · exact .inl hcn
        · refine .inr ⟨c, o, full, ty, r1, hkeep j v hv c o n cp (by rw [q1, r1]) hcn r2, r3, r4, r5, fun j' v' hj' hne => ?_⟩
          refine r6 j' v' ?_ hne
          unfold outE at hj' ⊢
          cases he : ents[j']? with
          | none => rw [he] at hj'; cases hj'
          | some e =>
            rw [he] at hj'
            cases hk : ((some j0 : Option Nat) == some j') with
            | true => simp only [hk, cond_true] at hj'; cases hj'
            | false => simp only [hk, cond_false] at hj'; simpa using hj'
    have hH3 := hH2.addMaps (id := i) (l := l) (sz := sz) (es := es.modify j0 fun p => (p.1, p.2.1, .lst (.tok g) sz len f)) (clk := clk) (ho := some j0) hbi hk hB hw hm2 hpl2 (fun k b lk hk1 hb hlk hkk => by
        by_cases e : k = g
        · subst e
          rw [hβg] at hlk; cases hlk
          rcases hlg with ⟨_, _, _, _, _, _, q7⟩ | q
          · exact fun e => h.yo i _ l hi hl hk (e ▸ q7)
          · omega
        · rw [upd_other _ _ e, upd_other _ _ hk1] at hb
          have hlk' : β k = some lk := by
            have := put_other (⟨β.loc, β.fz, ys'⟩ : Beta) lg e
            rw [show β1 k = (⟨β.loc, β.fz, ys'⟩ : Beta) k from this] at hlk; exact hlk
          exact h.sep k i b _ lk l hk1 hb hi hlk' hl hkk hk) (fun hc => h.yo i _ l hi hl hk (hsub _ hc)) (fun k b hk1 hb => by
        by_cases e : k = g
        · subst e; rw [upd_same] at hb; cases hb; rfl
        · rw [upd_other _ _ e] at hb; exact h.unGh hi k b hb)
    refine ⟨β1, hle, fun j hj => ?_, rfl, ?_⟩
    · by_cases e : j = g
      · exact .inr e
      · left; have := put_other (⟨β.loc, β.fz, ys'⟩ : Beta) lg e; rw [show β1 j = (⟨β.loc, β.fz, ys'⟩ : Beta) j from this] at hj; exact hj
    · have e1 : upd (upd (upd H i none) g (some (AB.cells []))) i (some (AB.maps sz (es.modify j0 fun p => (p.1, p.2.1, .lst (.tok g) sz len f)) clk (some j0))) = upd (upd H i (some (.maps sz (es.modify j0 fun p => (p.1, p.2.1, .lst (.tok g) sz len f)) clk (some j0)))) g (some (.cells [])) := by
        funext k; unfold upd
        by_cases e2 : k = i
        · subst e2; simp [hig]
        · by_cases e3 : k = g
          · subst e3; simp [e2]
          · simp [e2, e3]
      rw [e1] at hH3; exact hH3
  by_cases hcl : cap = len
  · exact key β.ys ⟨0, 0, 0⟩ (fun _ h => h) (fun _ _ _ _ _ _ _ _ _ h => h) (.inr rfl) (.inl hcl)
  · rcases hpool with hp | ⟨c, o, full, ty, r1, r2, r3, r4, r5, r6⟩
    · exact absurd hp hcl
    · have hlt : len < cap := by omega
      have hm := Nat.mul_le_mul_right sz (show len + 1 ≤ cap by omega)
      have hmm : (len + 1) * sz = len * sz + sz := by rw [Nat.add_mul, Nat.one_mul]
      refine key (fun x => β.ys x ∧ x ≠ c) ⟨c, o + len * sz, cap * sz - len * sz⟩ (fun _ h => h.1) (fun j v hv c' o' n' cp hv' hne hy => ⟨hy, fun e => ?_⟩) (.inl ⟨by simp only; omega, (h.ys c r2).1, (h.ys c r2).2, fun q h1 h2 => r3 q h1 (by simp only at h2; omega), ⟨full, ty, r4, by simp only; omega⟩, fun h => h.2 rfl, r2⟩) (.inr ⟨o, r1, rfl, by simp only; omega⟩)
      subst e
      have hv2 : outE none ents j = some v ∧ j ≠ j0 := by
        unfold outE at hv ⊢
        cases he : ents[j]? with
        | none => rw [he] at hv; cases hv
        | some e =>
          rw [he] at hv
          cases hk : ((some j0 : Option Nat) == some j) with
          | true => simp only [hk, cond_true] at hv; cases hv
          | false =>
            simp only [hk, cond_false] at hv
            exact ⟨by simpa using hv, fun e => by simp [e] at hk⟩
      exact hne (r6 j v hv2.1 hv2.2 o' n' cp hv')
/-- Back into the pool. -/
theorem HRel.inPool {β : Beta} {H : Heap} {w : World} {B : Bd} (h : HRel β H w B) {i sz g j0 : Nat} (hsz : 0 < sz) {es : List (Nat × AV × AV)} {clk : Nat} {p0 : Nat × AV × AV} {len : Nat} {f : Nat → AV} {cs : List AV} (hi : H i = some (.maps sz es clk (some j0))) (hgi : g ≠ i)
    (hp0 : es[j0]? = some p0) (ha : p0.2.2 = .lst (.tok g) sz len f) (hg : H g = some (.cells cs)) :
    ∃ ys', HRel ⟨β.loc, β.fz, ys'⟩ (upd (upd H g none) i (some (.maps sz (es.modify j0 fun p => (p.1, p.2.1, .lst .free sz len f)) clk none))) w B := by
  obtain ⟨l, hl, hk, hB, ents, hw, hmr, hpl⟩ := h.mps i sz _ clk _ hi
  obtain ⟨e0, he0, _, _, hv0⟩ := hmr.rel j0 p0 hp0
  rw [ha] at hv0
  have hvf : V β (.lst .free sz len f) e0.val := Wk_free β _ hv0
  simp only [V] at hv0
  obtain ⟨base, cap, hval, hlc, ⟨lg, hlg, hcap⟩, hels⟩ := hv0
  obtain ⟨lg', hlg', _, hblk⟩ := h.own g cs hg
  rw [hlg] at hlg'; cases hlg'
  let ys' : Nat → Prop := fun c => β.ys c ∨ (0 < lg.k ∧ c = lg.c)
  refine ⟨ys', ?_⟩
  have hd := (h.drop i).drop g
  have hng : ∀ j b, upd (upd H i none) g none j = some b → noGh b = true := fun j b hj => by
    by_cases e : j = g
    · subst e; simp at hj
    · rw [upd_other _ _ e] at hj; exact h.unGh hi j b hj
  have back : ∀ {j b}, upd (upd H i none) g none j = some b → j ≠ g ∧ j ≠ i ∧ H j = some b := fun {j b} hj => by
    by_cases e : j = g
    · subst e; simp at hj
    · rw [upd_other _ _ e] at hj
      by_cases e' : j = i
      · subst e'; simp at hj
      · rw [upd_other _ _ e'] at hj; exact ⟨e, e', hj⟩
  have hH1 : HRel ⟨β.loc, β.fz, ys'⟩ (upd (upd H i none) g none) w B := hd.ysSub hng ys' (fun c hc => by
      rcases hc with hc | ⟨hpos, rfl⟩
      · exact h.ys c hc
      · obtain ⟨q1, _, full, ty, q2, _⟩ := hblk hpos
        exact ⟨q1, (Array.getElem?_eq_some_iff.1 q2).1⟩) fun j b lj h1 h2 h3 hc => by
      obtain ⟨e1, e2, h1⟩ := back h1
      rcases hc with hc | ⟨hpos, hc⟩
      · exact h.yo j b lj h1 h2 h3 hc
      · exact h.sep j g b _ lj lg e1 h1 hg h2 hlg h3 hpos hc
  have hle : Beta.le β ⟨β.loc, β.fz, ys'⟩ := ⟨fun _ _ h => h, fun _ _ _ h => h⟩
  have hm2 : MRel ⟨β.loc, β.fz, ys'⟩ (es.modify j0 fun p => (p.1, p.2.1, .lst .free sz len f)) ents := (hmr.mono hle).modify fun e he => by rw [he0] at he; cases he; exact V_mono hle _ _ hvf
  have split : ∀ {j v}, outE none ents j = some v → (j = j0 ∧ v = e0.val) ∨ (j ≠ j0 ∧ outE (some j0) ents j = some v) := fun {j v} hv => by
    unfold outE at hv ⊢
    by_cases e : j = j0
    · subst e; rw [he0] at hv; simp at hv; exact .inl ⟨rfl, hv.symm⟩
    · refine .inr ⟨e, ?_⟩
      cases he : ents[j]? with
      | none => rw [he] at hv; cases hv
      | some x =>
        rw [he] at hv
        have : ((some j0 : Option Nat) == some j) = false := by simpa using Ne.symm e
        simp only [this, cond_false]; simpa using hv
  have hpl2 : Pool β.fz ys' sz w (outE none ents) := fun j v hv => by
    rcases split hv with ⟨rfl, rfl⟩ | ⟨hj, hv1⟩
    · refine ⟨base, len, cap, hval, hlc, ?_⟩
      rcases hcap with hc | ⟨o, hb, ho, hle2⟩
      · exact .inl hc
      · by_cases hcl : cap = len
        · exact .inl hcl
        · have hm := Nat.mul_le_mul_right sz (show len + 1 ≤ cap by omega)
          have hmm : (len + 1) * sz = len * sz + sz := by rw [Nat.add_mul, Nat.one_mul]
          have hpos : 0 < lg.k := by omega
          obtain ⟨_, q2, full, ty, q3, q4, _⟩ := hblk hpos
          refine .inr ⟨lg.c, o, full, ty, hb, .inr ⟨hpos, rfl⟩, fun q h1 h2 => q2 q (by omega) (by omega), q3, by omega, fun j' v' hv' hne o2 n2 cap2 e2 => ?_⟩
          rcases split hv' with ⟨rfl, _⟩ | ⟨_, hv'⟩
          · exact absurd rfl hne
          · obtain ⟨b3, n3, c3, s1, s2, s3⟩ := hpl j' v' hv'
            rw [e2] at s1; cases s1
            rcases s3 with s3 | ⟨c4, o4, _, _, t1, t2, _⟩
            · exact s3
            · cases t1
              exact absurd t2 (h.yo g _ lg hg hlg hpos)
    · obtain ⟨b3, n3, c3, s1, s2, s3⟩ := hpl j v hv1
      refine ⟨b3, n3, c3, s1, s2, ?_⟩
      rcases s3 with s3 | ⟨c4, o4, full, ty, t1, t2, t3, t4, t5, t6⟩
      · exact .inl s3
      · refine .inr ⟨c4, o4, full, ty, t1, .inl t2, t3, t4, t5, fun j' v' hv' hne o2 n2 cap2 e2 => ?_⟩
        rcases split hv' with ⟨rfl, rfl⟩ | ⟨_, hv'⟩
        · rw [hval] at e2; cases e2
          rcases hcap with hc | ⟨o, hb, ho, hle2⟩
          · exact hc
          · cases hb
            by_cases hcl : cap = len
            · exact hcl
            · have hm := Nat.mul_le_mul_right sz (show len + 1 ≤ cap by omega)
              have hmm : (len + 1) * sz = len * sz + sz := by rw [Nat.add_mul, Nat.one_mul]
              exact absurd t2 (h.yo g _ lg hg hlg (by omega))
        · exact t6 j' v' hv' hne o2 n2 cap2 e2
  have hig : i ≠ g := fun e => hgi e.symm
  have hH3 := hH1.addMaps (id := i) (l := l) (sz := sz) (es := es.modify j0 fun p => (p.1, p.2.1, .lst .free sz len f)) (clk := clk) (ho := none) hl hk hB hw hm2 hpl2 (fun k b lk hk1 hb hlk hkk => by
      obtain ⟨_, _, hb⟩ := back hb
      exact h.sep k i b _ lk l hk1 hb hi hlk hl hkk hk) (fun hc => by
      rcases hc with hc | ⟨hpos, hc⟩
      · exact h.yo i _ l hi hl hk hc
      · exact h.sep i g _ _ l lg hig hi hg hl hlg hk hpos hc) (fun k b _ hb => hng k b hb)
  have e1 : upd (upd (upd H i none) g none) i (some (AB.maps sz (es.modify j0 fun p => (p.1, p.2.1, .lst .free sz len f)) clk none)) = upd (upd H g none) i (some (.maps sz (es.modify j0 fun p => (p.1, p.2.1, .lst .free sz len f)) clk none)) := by
    funext k; unfold upd
    by_cases e2 : k = i
    · simp [e2]
    · simp [e2]
  rw [e1] at hH3; exact hH3
section
variable {α : Type} {L : List (Nat × Int × α)} {n : Int} {a v : α} {clk : Nat}
theorem fidx_none (h : (mfind n L).isSome = false) : L.findIdx? (fun p => p.2.1 == n) = none := by
  rw [List.findIdx?_eq_none_iff]
  intro x hx
  cases e : mfind n L with
  | some p => rw [e] at h; cases h
  | none => have := List.find?_eq_none.1 e x hx; simpa using this
theorem fidx_some (h : (mfind n L).isSome = true) : ∃ j p, L.findIdx? (fun p => p.2.1 == n) = some j ∧ mfind n L = some p ∧ L[j]? = some p ∧ p.2.1 = n := by
  cases e : mfind n L with
  | none => rw [e] at h; cases h
  | some p =>
    cases e2 : L.findIdx? (fun p => p.2.1 == n) with
    | none =>
      have := List.findIdx?_eq_none_iff.1 e2 p (mfind_key e).2
      have hk := (mfind_key e).1
      simp [hk] at this
    | some j =>
      refine ⟨j, p, rfl, rfl, ?_, (mfind_key e).1⟩
      have h3 := List.find?_eq_some_iff_getElem.1 e
      obtain ⟨_, k, hk, hk2, hk3⟩ := h3
      have h4 := List.findIdx?_eq_some_iff_getElem.1 e2
      obtain ⟨hj, hj2, hj3⟩ := h4
      have : k = j := by
        rcases Nat.lt_trichotomy k j with h | h | h
        · have h5 := hj3 k h
          have h6 : L[k].2.1 = n := by rw [hk2]; exact (mfind_key e).1
          simp [h6] at h5
        · exact h
        · have := hk3 j h
          simp at this hj2
          exact absurd hj2 this
      subst this
      rw [List.getElem?_eq_getElem hj, hk2]
theorem mput_no (h : (mfind n L).isSome = false) : mput n v L clk = L ++ [(clk, n, v)] := by simp [mput, fidx_none h]
theorem hidx_no (h : (mfind n L).isSome = false) : hidx n L = L.length := by simp [hidx, fidx_none h]
theorem find_put (n : Int) (v : α) : ∀ (L : List (Nat × Int × α)) (clk : Nat), ∃ b, mfind n (mput n v L clk) = some (b, n, v) ∧ (mput n v L clk)[hidx n L]? = some (b, n, v) := by
  intro L clk
  cases h : (mfind n L).isSome with
  | false =>
    refine ⟨clk, ?_, ?_⟩
    · rw [mput_no h]
      unfold mfind at h ⊢
      rw [List.find?_append]
      have : List.find? (fun p => p.2.1 == n) L = none := by simpa using h
      rw [this]; simp
    · rw [mput_no h, hidx_no h]; simp
  | true =>
    obtain ⟨j, p, h1, h2, h3, h4⟩ := fidx_some h
    refine ⟨p.1, ?_, ?_⟩
    · have hm : mput n v L clk = L.modify j fun p => (p.1, p.2.1, v) := by simp [mput, h1]
      rw [hm]
      have h5 := List.findIdx?_eq_some_iff_getElem.1 h1
      obtain ⟨hj, hj2, hj3⟩ := h5
      unfold mfind
      rw [List.find?_eq_some_iff_getElem]
      refine ⟨by simp, j, by simpa using hj, ?_, fun k hk => ?_⟩
      · rw [List.getElem_modify]
        have : L[j] = p := by rw [List.getElem?_eq_getElem hj] at h3; exact Option.some.inj h3
        simp [this, h4]
      · rw [List.getElem_modify]
        have := hj3 k hk
        simp only [show j ≠ k by omega, if_false]
        simpa using this
    · have hm : mput n v L clk = L.modify j fun p => (p.1, p.2.1, v) := by simp [mput, h1]
      rw [hm]
      simp [hidx, h1, h3, h4]
theorem put_put (h : (mfind n L).isSome = true) : mput n v (mput n a L clk) clk = mput n v L clk ∧ hidx n (mput n a L clk) = hidx n L ∧ mclk n (mput n a L clk) clk = clk ∧ mclk n L clk = clk := by
  obtain ⟨j, p, h1, h2, h3, h4⟩ := fidx_some h
  have hm : ∀ v, mput n v L clk = L.modify j fun p => (p.1, p.2.1, v) := fun v => by simp [mput, h1]
  have hi : (L.modify j fun p => (p.1, p.2.1, a)).findIdx? (fun p => p.2.1 == n) = some j := by
    have h5 := List.findIdx?_eq_some_iff_getElem.1 h1
    obtain ⟨hj, hj2, hj3⟩ := h5
    rw [List.findIdx?_eq_some_iff_getElem]
    refine ⟨by simpa using hj, ?_, fun k hk => ?_⟩
    · rw [List.getElem_modify]; simpa using hj2
    · rw [List.getElem_modify]
      simp only [show j ≠ k by omega, if_false]
      exact hj3 k hk
  refine ⟨?_, by rw [hm]; simp [hidx, hi, h1], by rw [hm]; simp [mclk, hi], by simp [mclk, h1]⟩
  rw [hm, hm]
  unfold mput
  rw [hi]
  apply List.ext_getElem?
  intro k
  simp only [List.getElem?_modify]
  by_cases e : j = k
  · subst e; simp [h3]
  · simp [e]
end
theorem has_enc {α : Type} (enc : α → AV) (n : Int) (m : GM α) : (mfind n (encE enc m.es)).isSome = m.has n := by
  unfold GM.has; rw [mfind_enc]; cases mfind n m.es <;> rfl
section
variable {P : Program} {D : DT} {α : Type} {enc : α → AV} {d : α} {t e : TypeId} {s b : Nat} {zs : List AV} {lim i sz : Nat} {n : Int} {m : GM (List α)} {hp : Heap}
/-- A list of a map, read. -/
theorem mgetS_lk (hD : DOk P D) (ht : D t = some ⟨.map .i64 e .nils, s, zs, b⟩) (hi : hp i = some (abS sz enc d m)) (hlim : i < lim) {k : AV → Prop} (hk : k (eL sz enc d (m.get n []))) : mlookK P lim t (.mp i) (.int .i64 n) false hp k := by
  have k1 := (hD _ _ ht).k
  simp only [TKok] at k1
  cases h : mfind n m.es with
  | some p =>
    have hg : m.get n [] = p.2.2 := by unfold GM.get; rw [h]
    rw [hg] at hk
    refine mlookK_of ⟨.i64, e, .nils, n, eL sz enc d p.2.2, true, k1.1, k1.2, rfl, .inr ⟨i, _, m.clk, rfl, hlim, .inr ⟨sz, none, hi⟩, ?_⟩, Wk.refl _⟩ hk
    rw [mfind_enc, h]; exact ⟨rfl, rfl⟩
  | none =>
    have hg : m.get n [] = [] := by unfold GM.get; rw [h]
    rw [hg] at hk
    refine mlookK_of ⟨.i64, e, .nils, n, .nils, false, k1.1, k1.2, rfl, .inr ⟨i, _, m.clk, rfl, hlim, .inr ⟨sz, none, hi⟩, ?_⟩, Wk_nil⟩ hk
    rw [mfind_enc, h]; exact ⟨rfl, rfl⟩
theorem mgetN_lk (hD : DOk P D) (ht : D t = some ⟨.map .i64 e .nils, s, zs, b⟩) {ho : Option Nat} {clk : Nat} (hi : hp i = some (.maps sz (encM .i64 (encE (eL sz enc d) m.es)) clk ho)) (hlim : i < lim) (hno : m.has n = false) {k : AV → Prop} (hk : k .nils) : mlookK P lim t (.mp i) (.int .i64 n) false hp k := by
  have k1 := (hD _ _ ht).k
  simp only [TKok] at k1
  refine mlookK_of ⟨.i64, e, .nils, n, .nils, false, k1.1, k1.2, rfl, .inr ⟨i, _, clk, rfl, hlim, .inr ⟨sz, ho, hi⟩, ?_⟩, Wk.refl _⟩ hk
  have : mfind n (encE (eL sz enc d) m.es) = none := by
    have := has_enc (eL sz enc d) n m; rw [hno] at this; simpa using this
  rw [this]; exact ⟨rfl, rfl⟩
theorem mgetY_lk (hD : DOk P D) (ht : D t = some ⟨.map .i64 e .nils, s, zs, b⟩) {ho : Option Nat} {clk clk' : Nat} {a : AV} {L : List (Nat × Int × AV)} (hi : hp i = some (.maps sz (encM .i64 (mput n a L clk)) clk' ho)) (hlim : i < lim) {k : AV → Prop} (hk : k a) : mlookK P lim t (.mp i) (.int .i64 n) false hp k := by
  have k1 := (hD _ _ ht).k
  simp only [TKok] at k1
  refine mlookK_of ⟨.i64, e, .nils, n, a, true, k1.1, k1.2, rfl, .inr ⟨i, _, clk', rfl, hlim, .inr ⟨sz, ho, hi⟩, ?_⟩, Wk.refl _⟩ hk
  obtain ⟨b', h1, _⟩ := find_put n a L clk
  rw [h1]; exact ⟨rfl, rfl⟩
theorem mputN_lk (hD : DOk P D) (ht : D t = some ⟨.map .i64 e .nils, s, zs, b⟩) {L : List (Nat × Int × AV)} {clk : Nat} (hi : hp i = some (.maps sz (encM .i64 L) clk (some (hidx n L)))) {v : AV} {k : AV → Heap → Prop}
    (hk : k .und (upd hp i (some (.maps sz (encM .i64 (mput n v L clk)) (mclk n L clk) (some (hidx n L)))))) : updK P t (.mp i) (.int .i64 n) v hp k := by
  have k1 := (hD _ _ ht).k
  simp only [TKok] at k1
  exact updK_of ⟨.i64, e, n, i, L, clk, k1.1, rfl, rfl, rfl, .inr ⟨sz, hi, rfl⟩⟩ hk
theorem mputY_lk (hD : DOk P D) (ht : D t = some ⟨.map .i64 e .nils, s, zs, b⟩) {L : List (Nat × Int × AV)} {clk : Nat} {a : AV} (hy : (mfind n L).isSome = true) (hi : hp i = some (.maps sz (encM .i64 (mput n a L clk)) clk (some (hidx n L)))) {v : AV} {k : AV → Heap → Prop}
    (hk : k .und (upd hp i (some (.maps sz (encM .i64 (mput n v L clk)) (mclk n L clk) (some (hidx n L)))))) : updK P t (.mp i) (.int .i64 n) v hp k := by
  have k1 := (hD _ _ ht).k
  simp only [TKok] at k1
  obtain ⟨p1, p2, p3, p4⟩ := put_put (v := v) (a := a) (clk := clk) hy
  refine updK_of ⟨.i64, e, n, i, mput n a L clk, clk, k1.1, rfl, rfl, rfl, .inr ⟨sz, by rw [p2]; exact hi, rfl⟩⟩ ?_
  rw [p1, p2, p3]
  rw [p4] at hk; exact hk
theorem mdelS_lk (hD : DOk P D) (ht : D t = some ⟨.map .i64 e .nils, s, zs, b⟩) (hi : hp i = some (abS sz enc d m)) {k : AV → Heap → Prop} (hk : k (.tup []) (upd hp i (some (abS sz enc d (m.del n))))) : delK P t (.mp i) (.int .i64 n) hp k := by
  have k1 := (hD _ _ ht).k
  simp only [TKok] at k1
  refine delK_of ⟨.i64, e, n, i, _, m.clk, k1.1, rfl, rfl, rfl, .inr ⟨sz, hi, rfl⟩⟩ ?_
  rw [mdel_enc]; exact hk
theorem mlenS_lk (hD : DOk P D) (ht : D t = some ⟨.map .i64 e .nils, s, zs, b⟩) (hi : hp i = some (abS sz enc d m)) (hlim : i < lim) {k : AV → Prop} (hk : k (.int .i64 m.len)) : lenmK P lim t (.mp i) hp k := by
  have k1 := (hD _ _ ht).k
  simp only [TKok] at k1
  refine lenmK_of (.inr ⟨by rw [k1.1]; rfl, .inr ⟨i, _, m.clk, rfl, hlim, .inr ⟨sz, none, hi⟩, rfl⟩⟩) ?_
  have : ((encM .i64 (encE (eL sz enc d) m.es)).length : Int) = m.len := by simp [encM, encE, GM.len]
  rw [this]; exact hk
end
theorem BkR_S {L : Ren} {hp : Heap} {i o : Nat} {α : Type} {sz : Nat} {enc : α → AV} {d : α} {m : GM (List α)} (h : hp o = some (abS sz enc d m)) (hl : ∀ x, (enc x).loose) : BkR L hp i (some o) (abS sz enc d m) := by
  simp only [BkR, abS] at h ⊢
  rw [h]
  refine ⟨rfl, rfl, rfl, rfl, fun j p hp => ⟨p, hp, rfl, ?_, ?_⟩⟩
  · obtain ⟨r, _, rfl⟩ := List.mem_map.1 (List.mem_of_getElem? hp)
    exact WkR.wk (Wk.refl _) (loose_int _ _)
  · obtain ⟨r, hr, rfl⟩ := List.mem_map.1 (List.mem_of_getElem? hp)
    obtain ⟨r', _, rfl⟩ := List.mem_map.1 hr
    exact WkR.wk (Wk.refl _) (loose_lst fun _ => hl _)
section
variable {E : Env} {N : Nat} {c : Code} {σ : AS} {Q : Exit → AS → Prop}
/-- The list of a key, out of the pool. -/
theorem HT_outS {α : Type} {enc : α → AV} {d : α} {sz : Nat} (i : Nat) (n : Int) (hsz : 0 < sz) {m : GM (List α)} (hi : σ.hp i = some (abS sz enc d m)) (hib : i ≠ σ.b)
    (hno : m.has n = false → HT E N c ⟨σ.sl, upd σ.hp i (some (.maps sz (encM .i64 (encE (eL sz enc d) m.es)) m.clk (some (hidx n (encE (eL sz enc d) m.es))))), σ.b⟩ Q)
    (hyes : m.has n = true → HT E N c ⟨σ.sl, upd (upd σ.hp i (some (.maps sz (encM .i64 (mput n (.lst (.tok σ.b) sz (m.get n []).length fun j => enc ((m.get n []).getD j d)) (encE (eL sz enc d) m.es) m.clk)) m.clk (some (hidx n (encE (eL sz enc d) m.es)))))) σ.b (some (.cells [])), σ.b + 64⟩ Q) : HT E N c σ Q := by
  cases hh : m.has n with
  | false => exact HT_hp (fun β w B h => h.outNo _ hi) (hno hh)
  | true =>
    have hs : (mfind n (encE (eL sz enc d) m.es)).isSome = true := by rw [has_enc, hh]
    obtain ⟨j, p, h1, h2, h3, h4⟩ := fidx_some hs
    have hget : p.2.2 = .lst .free sz (m.get n []).length fun j => enc ((m.get n []).getD j d) := by
      rw [mfind_enc] at h2
      obtain ⟨p', h5, rfl⟩ := Option.map_eq_some_iff.1 h2
      show eL sz enc d p'.2.2 = _
      unfold GM.get; rw [h5]; rfl
    have hx : hidx n (encE (eL sz enc d) m.es) = j := by simp [hidx, h1]
    have hm : ∀ a, encM .i64 (mput n a (encE (eL sz enc d) m.es) m.clk) = (encM .i64 (encE (eL sz enc d) m.es)).modify j fun p => (p.1, p.2.1, a) := fun a => by
      rw [← encM_modify]; simp [mput, h1]
    intro ro F a w hro hF ⟨β, ds, r1, r2, r3, r4, r5⟩
    have hgn : β σ.b = none := by
      cases e : β σ.b with
      | none => rfl
      | some x => exact absurd (r4 σ.b (by rw [e]; simp)) (Nat.lt_irrefl _)
    obtain ⟨β', f1, f2, f3, f4⟩ := r3.outYes (g := σ.b) (j0 := j) hsz hi hgn (Ne.symm hib) (encM_get h3) hget
    have h' := hyes hh
    rw [hx, hm] at h'
    refine h' ro F a w hro hF ⟨β', ds, ⟨r1.le.trans f1, fun k hk => ?_, Nat.le_trans r1.b (Nat.le_add_right _ _), fun c o hc => by rw [f3] at hc; exact r1.fz c o hc⟩, fun t => V_mono f1 _ _ (r2 t), f4, fun k hk => ?_, r5⟩
    · rcases f2 k hk with e | e
      · exact r1.dom k e
      · exact .inr (e ▸ r1.b)
    · rcases f2 k hk with e | e
      · exact Nat.lt_of_lt_of_le (r4 k e) (Nat.le_add_right _ _)
      · subst e; show σ.b < σ.b + 64; omega
/-- And back. -/
theorem HT_inS {α : Type} {enc : α → AV} {d : α} {sz : Nat} (i g : Nat) (n : Int) (hsz : 0 < sz) {m : GM (List α)} {l' : List α} {cs : List AV} (hig : g ≠ i)
    (hi : σ.hp i = some (.maps sz (encM .i64 (mput n (.lst (.tok g) sz l'.length fun j => enc (l'.getD j d)) (encE (eL sz enc d) m.es) m.clk)) (mclk n (encE (eL sz enc d) m.es) m.clk) (some (hidx n (encE (eL sz enc d) m.es))))) (hg : σ.hp g = some (.cells cs))
    (h : HT E N c ⟨σ.sl, upd (upd σ.hp g none) i (some (abS sz enc d (m.put n l'))), σ.b⟩ Q) : HT E N c σ Q := by
  obtain ⟨b, _, hb⟩ := find_put n (.lst (.tok g) sz l'.length fun j => enc (l'.getD j d)) (encE (eL sz enc d) m.es) m.clk
  intro ro F a w hro hF ⟨β, ds, r1, r2, r3, r4, r5⟩
  obtain ⟨ys', f4⟩ := r3.inPool (g := g) hsz hi hig (encM_get hb) rfl hg
  have e1 : (encM .i64 (mput n (.lst (.tok g) sz l'.length fun j => enc (l'.getD j d)) (encE (eL sz enc d) m.es) m.clk)).modify (hidx n (encE (eL sz enc d) m.es)) (fun p => (p.1, p.2.1, .lst .free sz l'.length fun j => enc (l'.getD j d))) = encM .i64 (encE (eL sz enc d) (m.put n l').es) := by
    rw [← encM_modify]
    congr 1
    show _ = encE (eL sz enc d) (mput n l' m.es m.clk)
    rw [← mput_enc]
    cases hs : (mfind n (encE (eL sz enc d) m.es)).isSome with
    | false =>
      rw [mput_no hs, mput_no hs, hidx_no hs]
      apply List.ext_getElem?
      intro k
      rw [List.getElem?_modify]
      split
      · rename_i e; subst e; simp; rfl
      · rename_i e
        rw [List.getElem?_append, List.getElem?_append]
        split
        · simp
        · rename_i h2
          have : k - (encE (eL sz enc d) m.es).length ≠ 0 := by omega
          obtain ⟨q, hq⟩ := Nat.exists_eq_succ_of_ne_zero this
          simp [hq]
    | true =>
      obtain ⟨j, p, h1, h2, h3, h4⟩ := fidx_some hs
      have hx : hidx n (encE (eL sz enc d) m.es) = j := by simp [hidx, h1]
      rw [hx]
      simp only [mput, h1]
      apply List.ext_getElem?
      intro k
      simp only [List.getElem?_modify]
      by_cases e : j = k
      · subst e; simp [h3]; rfl
      · simp [e]
  have e2 : mclk n (encE (eL sz enc d) m.es) m.clk = (m.put n l').clk := by show _ = mclk n m.es m.clk; rw [mclk_enc]
  rw [e1, e2] at f4
  exact h ro F a w hro hF ⟨⟨β.loc, β.fz, ys'⟩, ds, ⟨⟨r1.le.loc, r1.le.fz⟩, r1.dom, r1.b, r1.fz⟩, fun t => V_ys (r2 t), f4, r4, r5⟩
end
theorem get_no {α : Type} {m : GM α} {n : Int} {d : α} (h : m.has n = false) : m.get n d = d := by
  unfold GM.has at h; unfold GM.get
  cases e : mfind n m.es with
  | some p => rw [e] at h; cases h
  | none => rfl
end Go.Eng
