import Derived.Test.YtcidmnpihffphaaEngT
namespace Go.Eng
open Go
/-- The cells of a row of elements. -/
def flE {α : Type} (ce : α → List AV) (l : List α) : List AV := l.flatMap ce
theorem flE_len {α : Type} {ce : α → List AV} {sz : Nat} (h : ∀ x, (ce x).length = sz) : ∀ l : List α, (flE ce l).length = l.length * sz
  | [] => by simp [flE]
  | a :: l => by
    have := flE_len h l
    simp only [flE, List.flatMap_cons, List.length_append, List.length_cons, h] at this ⊢
    rw [this, Nat.add_mul]; omega
theorem flE_app {α : Type} {ce : α → List AV} (l x : List α) : flE ce (l ++ x) = flE ce l ++ flE ce x := by simp [flE, List.flatMap_append]
theorem flE_drop {α : Type} {ce : α → List AV} {sz : Nat} (h : ∀ x, (ce x).length = sz) : ∀ (l : List α) (j : Nat), (flE ce l).drop (j * sz) = flE ce (l.drop j)
  | [], j => by simp [flE]
  | a :: l, 0 => by simp
  | a :: l, j + 1 => by
    have ih := flE_drop h l j
    simp only [flE, List.flatMap_cons, List.drop_succ_cons] at ih ⊢
    rw [show (j + 1) * sz = (ce a).length + j * sz by rw [h, Nat.add_mul]; omega, List.drop_append, List.drop_of_length_le (by omega), List.nil_append, Nat.add_sub_cancel_left]
    exact ih
theorem flE_part {α : Type} {ce : α → List AV} {sz : Nat} (h : ∀ x, (ce x).length = sz) {l : List α} {j : Nat} {x : α} (hj : l[j]? = some x) : ((flE ce l).drop (j * sz)).take sz = ce x := by
  rw [flE_drop h]
  obtain ⟨hlt, e⟩ := List.getElem?_eq_some_iff.1 hj
  rw [List.drop_eq_getElem_cons hlt, e]
  simp only [flE, List.flatMap_cons]
  rw [List.take_append_of_le_length (by rw [h]; exact Nat.le_refl _), List.take_of_length_le (by rw [h]; exact Nat.le_refl _)]
theorem flE_take {α : Type} {ce : α → List AV} {sz : Nat} (h : ∀ x, (ce x).length = sz) : ∀ (l : List α) (j : Nat), (flE ce l).take (j * sz) = flE ce (l.take j)
  | [], j => by simp [flE]
  | a :: l, 0 => by simp [flE]
  | a :: l, j + 1 => by
    have ih := flE_take h l j
    simp only [flE, List.flatMap_cons, List.take_succ_cons] at ih ⊢
    rw [show (j + 1) * sz = (ce a).length + j * sz by rw [h, Nat.add_mul]; omega, List.take_append, List.take_of_length_le (by omega), Nat.add_sub_cancel_left, ih]
theorem flE_set {α : Type} {ce : α → List AV} {sz : Nat} (h : ∀ x, (ce x).length = sz) {l : List α} {j : Nat} (x : α) (hj : j < l.length) : splice (flE ce l) (j * sz) (ce x) = flE ce (l.set j x) := by
  unfold splice
  rw [flE_take h, h, show j * sz + sz = (j + 1) * sz by rw [Nat.add_mul]; omega, flE_drop h, List.set_eq_take_append_cons_drop, if_pos hj]
  simp [flE, List.flatMap_append]
theorem flE_get {α : Type} {ce : α → List AV} {sz : Nat} (h : ∀ x, (ce x).length = sz) {l : List α} {j q : Nat} {x : α} (hj : l[j]? = some x) (hq : q < sz) : (flE ce l)[j * sz + q]? = (ce x)[q]? := by
  have e := congrArg (fun m => m[q]?) (flE_part h hj)
  simp only [List.getElem?_take, List.getElem?_drop, if_pos hq] at e
  exact e
/-- The cells of an element. -/
abbrev ceE {α : Type} (enc : α → AV) (x : α) : List AV := cellsL (enc x)
section
variable {α : Type} {enc : α → AV} {d : α} {sz : Nat} {l : List α} {i : Int}
theorem at_fl (hi : 0 ≤ i ∧ i < (l.length : Int)) : l[i.toNat]? = some (l.getD i.toNat d) := by
  have h : i.toNat < l.length := by omega
  rw [List.getD_eq_getElem?_getD, List.getElem?_eq_getElem h]; rfl
theorem le_fl (hsz : ∀ x, (ceE enc x).length = sz) (hi : 0 ≤ i ∧ i < (l.length : Int)) : i.toNat * sz + sz ≤ (flE (ceE enc) l).length := by
  rw [flE_len hsz]
  have h : i.toNat + 1 ≤ l.length := by omega
  have := Nat.mul_le_mul_right sz h
  rw [Nat.add_mul] at this; omega
/-- An element read where it lies. -/
theorem part_fl (hsz : ∀ x, (ceE enc x).length = sz) (hi : 0 ≤ i ∧ i < (l.length : Int)) {k : List AV → Prop} (hk : forceL (ceE enc (l.getD i.toNat d)) k) :
    0 + i.toNat * sz + sz ≤ (flE (ceE enc) l).length ∧ forceL (((flE (ceE enc) l).drop (0 + i.toNat * sz)).take sz) k := by
  rw [Nat.zero_add]
  refine ⟨le_fl hsz hi, ?_⟩
  rw [flE_part hsz (at_fl (d := d) hi)]; exact hk
theorem get_fl {q : Nat} {a : AV} (hsz : ∀ x, (ceE enc x).length = sz) (hi : 0 ≤ i ∧ i < (l.length : Int)) (hq : q < sz) {k : AV → Prop} (ha : (ceE enc (l.getD i.toNat d))[q]? = some a) (hk : forceA1 a k) :
    getK (flE (ceE enc) l) (0 + i.toNat * sz + q) k := by
  refine getK_of ?_ hk
  rw [Nat.zero_add, flE_get hsz (at_fl (d := d) hi) hq]; exact ha
theorem get_fl0 {a : AV} (hsz : ∀ x, (ceE enc x).length = sz) (hi : 0 ≤ i ∧ i < (l.length : Int)) (hq : 0 < sz) {k : AV → Prop} (ha : (ceE enc (l.getD i.toNat d))[0]? = some a) (hk : forceA1 a k) :
    getK (flE (ceE enc) l) (0 + i.toNat * sz) k := get_fl (q := 0) hsz hi hq ha hk
theorem rowN {n : Nat} (hn : l.length = n) (hi : 0 ≤ i ∧ i < (n : Int)) : 0 ≤ i ∧ i < (l.length : Int) := by rw [hn]; exact hi
theorem part_flN {n : Nat} (hsz : ∀ x, (ceE enc x).length = sz) (hn : l.length = n) (hi : 0 ≤ i ∧ i < (n : Int)) {k : List AV → Prop} (hk : forceL (ceE enc (l.getD i.toNat d)) k) :
    0 + i.toNat * sz + sz ≤ (flE (ceE enc) l).length ∧ forceL (((flE (ceE enc) l).drop (0 + i.toNat * sz)).take sz) k := part_fl hsz (rowN hn hi) hk
theorem get_flN {n q : Nat} {a : AV} (hsz : ∀ x, (ceE enc x).length = sz) (hn : l.length = n) (hi : 0 ≤ i ∧ i < (n : Int)) (hq : q < sz) {k : AV → Prop} (ha : (ceE enc (l.getD i.toNat d))[q]? = some a) (hk : forceA1 a k) :
    getK (flE (ceE enc) l) (0 + i.toNat * sz + q) k := get_fl hsz (rowN hn hi) hq ha hk
/-- Some cells of an element stored. -/
theorem st_flN {n q m : Nat} {x : α} {xs : List AV} (hsz : ∀ x, (ceE enc x).length = sz) (hn : l.length = n) (hi : 0 ≤ i ∧ i < (n : Int)) (hm : xs.length = m) (hq : q + m ≤ sz) (hx : splice (ceE enc (l.getD i.toNat d)) q xs = ceE enc x) (hf : xs.all AV.flat = true) {k : List AV → Prop}
    (hk : k (flE (ceE enc) (l.set i.toNat x))) :
    xs.length = m ∧ 0 + i.toNat * sz + q + m ≤ (flE (ceE enc) l).length ∧ xs.all AV.flat = true ∧ forceL (splice (flE (ceE enc) l) (0 + i.toNat * sz + q) xs) k := by
  have hi' := rowN hn hi
  have hlt : i.toNat < l.length := by omega
  have hle := le_fl (enc := enc) hsz hi'
  refine ⟨hm, by omega, hf, ?_⟩
  rw [forceL_eq]
  have e : splice (flE (ceE enc) l) (0 + i.toNat * sz + q) xs = flE (ceE enc) (l.set i.toNat x) := by
    rw [← flE_set hsz x hlt, ← hx]
    have hp := flE_part hsz (at_fl (d := d) hi')
    have hlen : ((flE (ceE enc) l).drop (i.toNat * sz)).length = (flE (ceE enc) l).length - i.toNat * sz := List.length_drop
    refine List.ext_getElem? fun j => ?_
    have hcl := hsz (l.getD i.toNat d)
    have hsl : (splice (ceE enc (l.getD i.toNat d)) q xs).length = sz := by unfold splice; rw [List.length_append, List.length_append, List.length_take, List.length_drop]; omega
    rw [splice_get (by omega), splice_get (by rw [hsl]; omega), hsl]
    by_cases h1 : i.toNat * sz ≤ j ∧ j < i.toNat * sz + sz
    · rw [if_pos h1, splice_get (by omega)]
      by_cases h2 : 0 + i.toNat * sz + q ≤ j ∧ j < 0 + i.toNat * sz + q + xs.length
      · rw [if_pos h2, if_pos (by omega)]; congr 1; omega
      · rw [if_neg h2, if_neg (by omega), ← hp, List.getElem?_take, if_pos (by omega), List.getElem?_drop]; congr 1; omega
    · rw [if_neg h1, if_neg (by omega)]
  rw [e]; exact hk
/-- An element stored where it lies. -/
theorem st_fl {x : α} {xs : List AV} {n : Nat} (hsz : ∀ x, (ceE enc x).length = sz) (hi : 0 ≤ i ∧ i < (l.length : Int)) (hx : xs = ceE enc x) (hn : n = sz) (hf : xs.all AV.flat = true) {k : List AV → Prop} (hk : k (flE (ceE enc) (l.set i.toNat x))) :
    xs.length = n ∧ 0 + i.toNat * sz + n ≤ (flE (ceE enc) l).length ∧ xs.all AV.flat = true ∧ forceL (splice (flE (ceE enc) l) (0 + i.toNat * sz) xs) k := by
  subst hx hn
  rw [Nat.zero_add]
  refine ⟨hsz x, le_fl hsz hi, hf, ?_⟩
  rw [flE_set hsz x (by omega), forceL_eq]; exact hk
end
theorem loose_lstc {sz n : Nat} {f : Nat → AV} (h : ∀ j, (f j).loose) : (AV.lst .cap sz n f).loose := fun β loc' ys' v hv => by
  simp only [V] at hv ⊢
  obtain ⟨b, cap, e, h1, h2, h3⟩ := hv
  exact ⟨b, cap, e, h1, h2, fun j hj => let ⟨c, o, u, k1, k2, k3, k4⟩ := h3 j hj; ⟨c, o, u, k1, k2, k3, h j _ _ _ _ k4⟩⟩
theorem callsK_blk {T : Tbl} {f : FuncId} {sz : Nat} {S : Nat → List AV → List AV → AV → List AV → Prop} {i n id : Nat} {args rest bs bs' : List AV} {r : AV} {hp : Heap} {k : AV → Heap → Prop} (hT : T f = blkR sz S) (hw : WkL args (.so i 0 n sz :: rest)) (hb : hp i = some (.cells bs))
    (hS : S n rest bs r bs') (hk : k r (upd hp i (some (.cells bs')))) : callsK T f args hp id k :=
  callsK_of hw (by rw [hT]; exact ⟨i, n, rest, bs, bs', rfl, hb, hS, rfl⟩) hk
theorem CkR_all {L : Ren} : ∀ {as : List AV}, (∀ a ∈ as, a.loose) → CkR L as as
  | [], _ => CkR_nil
  | a :: as, h => ⟨WkR.wk (Wk.refl _) (h a (by simp)), CkR_all fun b hb => h b (by simp [hb])⟩
theorem loose_fl {α : Type} {ce : α → List AV} (h : ∀ x, ∀ a ∈ ce x, a.loose) (l : List α) : ∀ a ∈ flE ce l, a.loose := fun a ha => by
  simp only [flE, List.mem_flatMap] at ha
  obtain ⟨x, _, hx⟩ := ha
  exact h x a hx
theorem plain_fl {α : Type} {ce : α → List AV} (h : ∀ x, ∀ a ∈ ce x, a.plain) (l : List α) : ∀ a ∈ flE ce l, a.plain := fun a ha => by
  simp only [flE, List.mem_flatMap] at ha
  obtain ⟨x, _, hx⟩ := ha
  exact h x a hx
theorem plain_nil : ∀ a ∈ ([] : List AV), a.plain := fun a h => by simp at h
theorem plain_cons {a : AV} {as : List AV} (h : a.plain) (k : ∀ a ∈ as, a.plain) : ∀ b ∈ a :: as, b.plain := fun b hb => by
  rcases List.mem_cons.1 hb with rfl | hb
  · exact h
  · exact k b hb
theorem plain_tup {cs : List AV} (h : ∀ a ∈ cs, a.plain) : (AV.tup cs).plain := fun β β' v hv => by
  simp only [V] at hv ⊢
  obtain ⟨vs, e, h1⟩ := hv
  refine ⟨vs, e, Vs_of_get (Vs_length h1) fun j a ha => ?_⟩
  obtain ⟨u, hu, hk⟩ := Vs_get h1 j a ha
  exact ⟨u, hu, h a (List.mem_of_getElem? ha) _ _ _ hk⟩
end Go.Eng
