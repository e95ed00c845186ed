import Derived.Test.YtlmboonbfhkfnaaDoorM3
import Derived.Test.YtlmboonbfhkfnaaDoorM4
import Derived.Test.YtlmboonbfhkfnaaDoorM5
import Derived.KernelRfl
set_option linter.unusedVariables false
set_option linter.unusedSimpArgs false
set_option linter.unusedSectionVars false
namespace Go.Proofs.YtlmboonbfhkfnaaDoor
open Go Go.Eng
set_option maxRecDepth 100000
theorem ofInt_natC {a : Nat} (h : a < 4611686018427387904) : (BitVec.ofInt IntKind.i64.bits (a : Int)).toNat = a := by
  show (BitVec.ofInt 64 (a : Int)).toNat = a
  rw [BitVec.toNat_ofInt, Int.emod_eq_of_lt (by omega) (by omega)]; rfl
theorem nband {a b : Nat} (ha : a < 4611686018427387904) (hb : b < 4611686018427387904) : band .i64 (a : Int) (b : Int) = ((a &&& b : Nat) : Int) := by
  show IntKind.i64.wrap _ = _
  rw [BitVec.toNat_and, ofInt_natC ha, ofInt_natC hb]
  have : a &&& b ≤ a := Nat.and_le_left
  exact wrap64 (by omega) (by omega)
theorem nbor {a b : Nat} (ha : a < 4611686018427387904) (hb : b < 4611686018427387904) : bor .i64 (a : Int) (b : Int) = ((a ||| b : Nat) : Int) := by
  show IntKind.i64.wrap _ = _
  rw [BitVec.toNat_or, ofInt_natC ha, ofInt_natC hb]
  have : a ||| b < 2 ^ 62 := Nat.or_lt_two_pow (by omega) (by omega)
  exact wrap64 (by omega) (by omega)
def ndiff (a b : Nat) : Nat := a ^^^ (a &&& b)
theorem ndiff_bit (a b i : Nat) : (ndiff a b).testBit i = (a.testBit i && !b.testBit i) := by
  unfold ndiff
  rw [Nat.testBit_xor, Nat.testBit_and]
  cases a.testBit i <;> cases b.testBit i <;> rfl
theorem ndiff_lt {a b k : Nat} (h : a < 2 ^ k) : ndiff a b < 2 ^ k := Nat.xor_lt_two_pow h (Nat.lt_of_le_of_lt Nat.and_le_left h)
theorem nbandNot {a b : Nat} (ha : a < 4611686018427387904) (hb : b < 4611686018427387904) : bandNot .i64 (a : Int) (b : Int) = ((ndiff a b : Nat) : Int) := by
  show IntKind.i64.wrap _ = _
  have e : (BitVec.ofInt IntKind.i64.bits (a : Int) &&& ~~~BitVec.ofInt IntKind.i64.bits (b : Int)).toNat = ndiff a b := by
    refine Nat.eq_of_testBit_eq fun i => ?_
    rw [BitVec.testBit_toNat, BitVec.getLsbD_and, BitVec.getLsbD_not, ndiff_bit, ← BitVec.testBit_toNat, ← BitVec.testBit_toNat, ofInt_natC ha, ofInt_natC hb]
    by_cases h : i < 64
    · rw [show decide (i < IntKind.i64.bits) = true from decide_eq_true h, Bool.true_and]
    · rw [Nat.testBit_lt_two_pow (x := a) (i := i) (Nat.lt_of_lt_of_le (show a < 2 ^ 62 by omega) (Nat.pow_le_pow_right (by omega) (by omega)))]
      rfl
  rw [e]
  have : ndiff a b < 2 ^ 62 := ndiff_lt (by omega)
  exact wrap64 (by omega) (by omega)
theorem two_pow_le {n m : Nat} (h : n ≤ m) : (2 : Int) ^ n ≤ 2 ^ m := by
  have := Nat.pow_le_pow_right (n := 2) (by omega) h
  exact_mod_cast this
theorem two_pow_pos (n : Nat) : (0 : Int) < 2 ^ n := by
  have := Nat.two_pow_pos n
  exact_mod_cast this
theorem nshl {k : Nat} (h : k ≤ 60) : bshl .i64 1 (k : Int) = ((2 ^ k : Nat) : Int) := by
  show IntKind.i64.wrap (1 * 2 ^ (min (k : Int).toNat 64)) = _
  rw [Int.toNat_natCast, Nat.min_eq_left (by omega), Int.one_mul]
  have h1 := two_pow_le h
  have h2 := two_pow_pos k
  rw [show ((2 ^ k : Nat) : Int) = (2 : Int) ^ k by norm_cast]
  exact wrap64 (by omega) (by omega)
theorem nshr {s i : Nat} (hi : i ≤ 60) : bshr .i64 (s : Int) (i : Int) = ((s >>> i : Nat) : Int) := by
  show (s : Int).fdiv (2 ^ (min (i : Int).toNat 64)) = _
  rw [Int.toNat_natCast, Nat.min_eq_left (by omega), Int.fdiv_eq_ediv_of_nonneg _ (Int.le_of_lt (two_pow_pos i)), Nat.shiftRight_eq_div_pow]
  norm_cast
theorem and_one_bit (n i : Nat) : (n >>> i) &&& 1 = if n.testBit i then 1 else 0 := by
  rw [Nat.testBit_eq_decide_div_mod_eq, Nat.shiftRight_eq_div_pow, Nat.and_one_is_mod]
  have := Nat.mod_two_eq_zero_or_one (n / 2 ^ i)
  rcases this with h | h <;> simp [h]
theorem nbitv {s i : Nat} (h : s < 4611686018427387904) (hi : i ≤ 60) : band .i64 (bshr .i64 (s : Int) (i : Int)) 1 = if s.testBit i then 1 else 0 := by
  rw [nshr hi]
  have : s >>> i ≤ s := by rw [Nat.shiftRight_eq_div_pow]; exact Nat.div_le_self _ _
  rw [show (1 : Int) = ((1 : Nat) : Int) from rfl, nband (by omega) (by omega), and_one_bit]
  split <;> rfl
theorem nbit1 {s i : Nat} (h : s < 4611686018427387904) (hi : i ≤ 60) : (band .i64 (bshr .i64 (s : Int) (i : Int)) 1 == 1) = s.testBit i := by
  rw [nbitv h hi]; cases s.testBit i <;> rfl
theorem pow_bit (k i : Nat) : (2 ^ k).testBit i = decide (i = k) := by
  rw [Nat.testBit_two_pow]
  by_cases h : k = i
  · rw [decide_eq_true h, decide_eq_true h.symm]
  · rw [decide_eq_false h, decide_eq_false (fun q => h q.symm)]
def TB (t : Ar 8) (r : Nat → Nat → Bool) : Prop := ∀ b : Nat, b < 8 → ∃ m : Nat, t.at1 (b : Int) = (m : Int) ∧ m < 256 ∧ ∀ a, m.testBit a = r a b
theorem TB_zero : TB (Ar.zero 8) fun _ _ => false := fun b hb => ⟨0, by
  show (List.replicate 8 (0 : Int)).getD (b : Int).toNat 0 = 0
  rw [Int.toNat_natCast, List.getD_eq_getElem?_getD, List.getElem?_replicate, if_pos hb]; rfl, by omega, fun a => Nat.zero_testBit a⟩
theorem at1_st1 (t : Ar 8) {b c : Nat} (hb : b < 8) (v : Int) : (t.st1 (b : Int) v).at1 (c : Int) = if c = b then v else t.at1 (c : Int) := by
  show (t.l.set (b : Int).toNat v).getD (c : Int).toNat 0 = _
  rw [Int.toNat_natCast, Int.toNat_natCast, List.getD_eq_getElem?_getD, List.getElem?_set]
  by_cases h : c = b
  · subst h; rw [if_pos rfl, if_pos rfl, if_pos (by rw [t.h]; exact hb)]; rfl
  · rw [if_neg (fun q => h q.symm), if_neg h]
    show _ = t.l.getD (c : Int).toNat 0
    rw [Int.toNat_natCast, List.getD_eq_getElem?_getD]
theorem TB_set {t : Ar 8} {r : Nat → Nat → Bool} (h : TB t r) {b : Nat} (hb : b < 8) {m : Nat} (hm : m < 256) : TB (t.st1 (b : Int) (m : Int)) fun a c => if c = b then m.testBit a else r a c := by
  intro c hc
  rw [at1_st1 t hb]
  by_cases e : c = b
  · rw [if_pos e]; exact ⟨m, rfl, hm, fun a => (if_pos e).symm⟩
  · rw [if_neg e]
    obtain ⟨q, h1, h2, h3⟩ := h c hc
    exact ⟨q, h1, h2, fun a => (h3 a).trans (if_neg e).symm⟩
theorem TB_congr {t : Ar 8} {r r' : Nat → Nat → Bool} (h : TB t r) (e : ∀ a b, b < 8 → r a b = r' a b) : TB t r' := fun b hb => by
  obtain ⟨q, h1, h2, h3⟩ := h b hb
  exact ⟨q, h1, h2, fun a => by rw [h3, e a b hb]⟩
theorem TB_or {t : Ar 8} {r : Nat → Nat → Bool} (h : TB t r) {b : Nat} (hb : b < 8) {m : Nat} (hm : m < 256) : TB (t.st1 (b : Int) (bor .i64 (t.at1 (b : Int)) (m : Int))) fun a c => r a c || (decide (c = b) && m.testBit a) := by
  obtain ⟨q, h1, h2, h3⟩ := h b hb
  rw [h1, nbor (by omega) (by omega)]
  refine TB_congr (TB_set h hb (m := q ||| m) (Nat.or_lt_two_pow (n := 8) h2 hm)) fun a c hc => ?_
  by_cases e : c = b
  · subst e; rw [if_pos rfl, Nat.testBit_or, h3, decide_eq_true rfl, Bool.true_and]
  · rw [if_neg e, decide_eq_false e, Bool.false_and, Bool.or_false]
theorem TB_andNot {t : Ar 8} {r : Nat → Nat → Bool} (h : TB t r) {b : Nat} (hb : b < 8) {m : Nat} (hm : m < 256) : TB (t.st1 (b : Int) (bandNot .i64 (t.at1 (b : Int)) (m : Int))) fun a c => r a c && !(decide (c = b) && m.testBit a) := by
  obtain ⟨q, h1, h2, h3⟩ := h b hb
  rw [h1, nbandNot (by omega) (by omega)]
  refine TB_congr (TB_set h hb (m := ndiff q m) (ndiff_lt (k := 8) h2)) fun a c hc => ?_
  by_cases e : c = b
  · subst e; rw [if_pos rfl, ndiff_bit, h3, decide_eq_true rfl, Bool.true_and]
  · rw [if_neg e, decide_eq_false e, Bool.false_and, Bool.not_false, Bool.and_true]
theorem TB_bit {t : Ar 8} {r : Nat → Nat → Bool} (h : TB t r) {a b : Nat} (hb : b < 8) (ha : a ≤ 60) : (band .i64 (bshr .i64 (t.at1 (b : Int)) (a : Int)) 1 == 1) = r a b := by
  obtain ⟨q, h1, h2, h3⟩ := h b hb
  rw [h1, nbit1 (by omega) ha, h3]
end Go.Proofs.YtlmboonbfhkfnaaDoor
namespace Go.Proofs.YtlmboonbfhkfnaaDoor
open Go Go.Eng
set_option maxRecDepth 100000
theorem getD_ltD {α : Type} [Inhabited α] {l : List α} {k : Nat} (h : k < l.length) : l.getD k default = l[k] := by simp [List.getD_eq_getElem?_getD, h]
theorem getD_memD {α : Type} [Inhabited α] {l : List α} {k : Nat} (h : k < l.length) : l.getD k default ∈ l := by rw [getD_ltD h]; exact List.getElem_mem h
theorem take_getD {α : Type} [Inhabited α] {l : List α} {k : Nat} (h : k < l.length) : l.take (k + 1) = l.take k ++ [l.getD k default] := by
  rw [List.take_succ_eq_append_getElem h, getD_ltD h]
theorem mem_get {α : Type} [Inhabited α] {l : List α} {x : α} (h : x ∈ l) : ∃ k, k < l.length ∧ l.getD k default = x := by
  obtain ⟨k, hk, e⟩ := List.getElem_of_mem h
  exact ⟨k, hk, by rw [getD_ltD hk, e]⟩
def Rc (P : List (Int × Int)) (a b : Nat) : Prop := ∀ S : Nat → Nat → Prop, (∀ x y : Nat, ((x : Int), (y : Int)) ∈ P → S x y) → (∀ x y z, S x y → S y z → S x z) → S a b
theorem Rc_p {P : List (Int × Int)} {a b : Nat} (h : ((a : Int), (b : Int)) ∈ P) : Rc P a b := fun _ h1 _ => h1 a b h
theorem Rc_t {P : List (Int × Int)} {a b c : Nat} (h : Rc P a b) (g : Rc P b c) : Rc P a c := fun S h1 h2 => h2 a b c (h S h1 h2) (g S h1 h2)
def PairV (N : Int) (p : Int × Int) : Prop := (0 ≤ p.1 ∧ p.1 < N) ∧ (0 ≤ p.2 ∧ p.2 < N) ∧ p.1 ≠ p.2
instance (N : Int) (p : Int × Int) : Decidable (PairV N p) := by unfold PairV; infer_instance
structure Fm (o : TOrder) : Prop where
  N : 0 ≤ o.N ∧ o.N ≤ 8
  len : o.Pairs.length ≤ 28
  el : ∀ p ∈ o.Pairs, PairV o.N p
theorem Formed1_ok (p : Int × Int) (o : TOrder) : order_Formed_1_F p o = some (!decide (PairV o.N p)) := by
  have key : ∀ v : Bool, (v = true ↔ ¬PairV o.N p) → some v = some (!decide (PairV o.N p)) := fun v hv => by
    congr 1
    by_cases c : PairV o.N p
    · rw [decide_eq_true c]; exact Bool.eq_false_iff.2 fun q => hv.1 q c
    · rw [decide_eq_false c]; exact hv.2 c
  unfold order_Formed_1_F
  simp only [jn_d, cn_dec, imin, imax]
  by_cases c1 : (if p.2 < p.1 then p.2 else p.1) < 0
  · rw [if_pos c1]
    exact key _ ⟨fun _ h => by unfold PairV at h; split at c1 <;> omega, fun _ => rfl⟩
  rw [if_neg c1]
  by_cases c2 : (if p.2 > p.1 then p.2 else p.1) ≥ o.N
  · rw [if_pos c2]
    exact key _ ⟨fun _ h => by unfold PairV at h; split at c2 <;> omega, fun _ => rfl⟩
  rw [if_neg c2]
  refine key _ ?_
  rw [beq_iff_eq]; unfold PairV
  split at c1 <;> split at c2 <;> omega
theorem IndexFunc_ok (l : List (Int × Int)) (o : TOrder) (hl : l.length ≤ 1048576) : ∃ i, slices_IndexFunc_2int_69_F l o = some i ∧ (i ≥ 0 ↔ ∃ p ∈ l, ¬PairV o.N p) := by
  obtain ⟨y, e, hy⟩ := lp_runF (body := slices_IndexFunc_2int_69_b1 l o) (fun s => ∃ k : Nat, s = (k : Int) ∧ k ≤ l.length ∧ ∀ j, j < k → PairV o.N (l.getD j default)) (fun s => l.length - s.toNat)
    (fun y => match y with | .inl _ => ∀ p ∈ l, PairV o.N p | .inr r => r ≥ 0 ∧ ∃ p ∈ l, ¬PairV o.N p)
    (fun s ⟨k, hs, hk, hj⟩ => by
      subst hs
      unfold slices_IndexFunc_2int_69_b1
      simp only [cn_dec]
      by_cases c : k < l.length
      · rw [if_pos (by omega), ix_n c, Formed1_ok, bd_s, cn_not, cn_dec]
        by_cases q : PairV o.N (l.getD k default)
        · rw [if_pos q, wr_id (by omega) (by omega)]
          exact .inl ⟨_, rfl, ⟨k + 1, by omega, c, fun j h => by
            by_cases e : j < k
            · exact hj j e
            · rw [show j = k by omega]; exact q⟩, by omega⟩
        · rw [if_neg q]
          exact .inr (.inr ⟨_, rfl, by omega, _, getD_memD c, q⟩)
      · rw [if_neg (by omega)]
        refine .inr (.inl ⟨_, rfl, fun p hp => ?_⟩)
        obtain ⟨j, h1, rfl⟩ := mem_get hp
        exact hj j (by omega)) 0 ⟨0, rfl, Nat.zero_le _, fun j h => absurd h (Nat.not_lt_zero _)⟩ (by omega)
  unfold slices_IndexFunc_2int_69_F
  rw [e, bd_s]
  cases y with
  | inl s =>
    rw [smK_l]
    exact ⟨_, rfl, ⟨fun h => absurd h (by omega), fun ⟨p, h1, h2⟩ => absurd (hy p h1) h2⟩⟩
  | inr r =>
    rw [smK_r]
    exact ⟨_, rfl, ⟨fun _ => hy.2, fun _ => hy.1⟩⟩
theorem Formed_ok (o : TOrder) (hl : o.Pairs.length ≤ 9223372036854775807) : ∃ v, order_Formed_F o = some v ∧ (v = true ↔ Fm o) := by
  unfold order_Formed_F
  simp only [jn_d, cn_dec]
  by_cases c1 : o.N < 0
  · rw [if_pos c1, cn_t]; exact ⟨_, rfl, ⟨fun h => (by cases h), fun h => by have := h.N; omega⟩⟩
  rw [if_neg c1]
  by_cases c2 : o.N > 8
  · rw [if_pos c2, cn_t]; exact ⟨_, rfl, ⟨fun h => (by cases h), fun h => by have := h.N; omega⟩⟩
  rw [if_neg c2]
  by_cases c3 : (o.Pairs.length : Int) > 28
  · rw [if_pos c3]; exact ⟨_, rfl, ⟨fun h => (by cases h), fun h => by have := h.len; omega⟩⟩
  rw [if_neg c3]
  obtain ⟨i, e, hi⟩ := IndexFunc_ok o.Pairs o (by omega)
  unfold slices_ContainsFunc_2int_69_F
  rw [e, bd_s, bd_s]
  refine ⟨_, rfl, ?_⟩
  simp only [Bool.not_eq_true', decide_eq_false_iff_not]
  constructor
  · intro h
    exact ⟨by omega, by omega, fun p hp => Decidable.byContradiction fun q => h (hi.2 ⟨p, hp, q⟩)⟩
  · intro h q
    obtain ⟨p, h1, h2⟩ := hi.1 q
    exact h2 (h.el p h1)
theorem closed_ok {o : TOrder} (h : Fm o) : ∃ t v r, order_closed_F o = some (t, v) ∧ TB t r ∧ (∀ a b : Nat, b < 8 → (r a b = true ↔ Rc o.Pairs a b)) ∧ (v = true ↔ ∀ a : Nat, ¬Rc o.Pairs a a) := by
  obtain ⟨n, hn⟩ : ∃ n : Nat, o.N = (n : Int) := ⟨o.N.toNat, by have := h.N; omega⟩
  have n8 : n ≤ 8 := by have := h.N; omega
  have hel : ∀ k, k < o.Pairs.length → ∃ a b : Nat, o.Pairs.getD k default = ((a : Int), (b : Int)) ∧ a < n ∧ b < n := fun k hk => by
    obtain ⟨h1, h2, _⟩ := h.el _ (getD_memD hk)
    exact ⟨_, _, Prod.ext (Int.toNat_of_nonneg h1.1).symm (Int.toNat_of_nonneg h2.1).symm, by omega, by omega⟩
  have hin : ∀ a b, Rc o.Pairs a b → a < n ∧ b < n := fun a b g => g (fun a b => a < n ∧ b < n) (fun x y hxy => by
    obtain ⟨h1, h2, _⟩ := h.el _ hxy
    exact ⟨by simp only at h1; omega, by simp only at h2; omega⟩) (fun x y z g1 g2 => ⟨g1.1, g2.2⟩)
  obtain ⟨s1, e1, i1, r0, T0, H0⟩ := lp_fold (body := order_closed_b1 o) (fun k s => s.1 = (k : Int) ∧ ∃ r, TB s.2 r ∧ ∀ a b : Nat, b < 8 → (r a b = true ↔ ((a : Int), (b : Int)) ∈ o.Pairs.take k)) o.Pairs.length (by have := h.len; omega)
    (fun k s hk ⟨hs, r, T, H⟩ => by
      obtain ⟨i, t⟩ := s
      simp only at hs T
      subst hs
      obtain ⟨a, b, he, ha, hb⟩ := hel k hk
      unfold order_closed_b1
      simp only [cn_dec]
      have := h.len
      rw [if_pos (by omega), ix_n hk, he, gd_p _ (by omega), gd_p _ (by omega), gd_p _ (by omega), wr_id (by omega) (by omega)]
      have T' := TB_or T (b := b) (by omega) (m := 2 ^ a) (Nat.pow_lt_pow_right (n := 8) (by omega) (by omega))
      rw [← nshl (by omega)] at T'
      refine ⟨_, rfl, by simp only; omega, _, T', ?_⟩
      · intro x y hy
        rw [take_getD hk, he, List.mem_append, List.mem_singleton, Bool.or_eq_true, H x y hy, pow_bit, Bool.and_eq_true, decide_eq_true_eq, decide_eq_true_eq]
        refine or_congr_right ?_
        rw [Prod.mk.injEq]
        omega) (fun s ⟨hs, _⟩ => by
      unfold order_closed_b1
      simp only [cn_dec]
      rw [if_neg (by omega)]) (0, Ar.zero 8) ⟨rfl, _, TB_zero, fun a b _ => by simp⟩
  rw [List.take_length] at H0
  obtain ⟨s2, e2, i2, r, T2, L2, S2, C2⟩ := lp_fold (body := order_closed_b2 o) (fun k s => s.1 = (k : Int) ∧ ∃ r, TB s.2 r ∧ (∀ a b : Nat, b < 8 → r0 a b = true → r a b = true) ∧ (∀ a b : Nat, b < 8 → r a b = true → Rc o.Pairs a b) ∧ ∀ j a b : Nat, j < k → b < 8 → r a j = true → r j b = true → r a b = true) n (by omega)
    (fun k s hk ⟨hs, r, T, L, S, C⟩ => by
      obtain ⟨i, t⟩ := s
      simp only at hs T
      subst hs
      obtain ⟨s3, e3, i3, T3⟩ := lp_fold (body := order_closed_b3 o ((k : Int), t)) (fun m s => s.1 = (m : Int) ∧ TB s.2 fun a b => r a b || (decide (b < m) && r a k && r k b)) n (by omega)
        (fun m s hm ⟨hs, T⟩ => by
          obtain ⟨i, u⟩ := s
          simp only at hs T
          subst hs
          unfold order_closed_b3
          simp only [cn_dec, jn_d]
          rw [if_pos (by omega), gd_p _ (by omega), gd_p _ (by omega), TB_bit T (by omega) (by omega), cn_if, wr_id (by omega) (by omega)]
          simp only [Nat.lt_irrefl, decide_false, Bool.false_and, Bool.or_false]
          by_cases c : r k m = true
          · rw [if_pos c, gd_p _ (by omega), gd_p _ (by omega), gd_p _ (by omega)]
            refine ⟨_, rfl, by simp only; omega, ?_⟩
            obtain ⟨q, h1, h2, h3⟩ := T k (by omega)
            simp only
            rw [h1]
            refine TB_congr (TB_or T (by omega) h2) fun a b hb => ?_
            have h4 : q.testBit a = r a k := by
              rw [h3]; show (r a k || decide (k < m) && r a k && r k k) = r a k; cases r a k <;> simp
            rw [h4]
            by_cases e : b = m
            · subst e
              rw [c, decide_eq_true rfl, Bool.true_and, decide_eq_false (Nat.lt_irrefl _), decide_eq_true (Nat.lt_succ_self _)]
              cases r a b <;> cases r a k <;> simp
            · rw [decide_eq_false e, Bool.false_and, Bool.or_false]
              by_cases g : b < m
              · rw [decide_eq_true g, decide_eq_true (by omega)]
              · rw [decide_eq_false g, decide_eq_false (by omega)]
          · rw [if_neg c]
            refine ⟨_, rfl, by simp only; omega, TB_congr T fun a b hb => ?_⟩
            by_cases e : b = m
            · subst e
              rw [Bool.eq_false_iff.2 c, Bool.and_false, Bool.and_false]
            · by_cases g : b < m
              · rw [decide_eq_true g, decide_eq_true (by omega)]
              · rw [decide_eq_false g, decide_eq_false (by omega)]) (fun s ⟨hs, _⟩ => by
          unfold order_closed_b3
          simp only [cn_dec]
          rw [if_neg (by omega)]) (0, t) ⟨rfl, TB_congr T fun a b _ => by simp⟩
      unfold order_closed_b2
      simp only [cn_dec]
      rw [if_pos (by omega), e3, bd_s, smK_l, wr_id (by omega) (by omega)]
      refine ⟨_, rfl, by simp only; omega, _, T3, ?_, ?_, ?_⟩
      · intro a b hb g
        rw [L a b hb g]; rfl
      · intro a b hb g
        rw [Bool.or_eq_true, Bool.and_eq_true, Bool.and_eq_true] at g
        rcases g with g | ⟨⟨_, g1⟩, g2⟩
        · exact S a b hb g
        · exact Rc_t (S a k (by omega) g1) (S k b hb g2)
      · intro j a b hj hb g1 g2
        have key : ∀ x y, y < 8 → ((r x y || (decide (y < n) && r x k && r k y)) = true ↔ r x y = true ∨ r x k = true ∧ r k y = true) := fun x y hy => by
          rw [Bool.or_eq_true, Bool.and_eq_true, Bool.and_eq_true, decide_eq_true_eq]
          constructor
          · rintro (g | ⟨⟨_, g1⟩, g2⟩)
            · exact .inl g
            · exact .inr ⟨g1, g2⟩
          · rintro (g | ⟨g1, g2⟩)
            · exact .inl g
            · exact .inr ⟨⟨(hin _ _ (S k y hy g2)).2, g1⟩, g2⟩
        rw [key _ _ hb]
        rw [key _ _ (by omega)] at g1
        rw [key _ _ hb] at g2
        by_cases e : j = k
        · subst e
          refine .inr ⟨?_, ?_⟩
          · rcases g1 with g | ⟨g, _⟩ <;> exact g
          · rcases g2 with g | ⟨_, g⟩ <;> exact g
        · have hj' : j < k := by omega
          rcases g1 with g1 | ⟨g1, g1'⟩
          · rcases g2 with g2 | ⟨g2, g2'⟩
            · exact .inl (C j a b hj' hb g1 g2)
            · exact .inr ⟨C j a k hj' (by omega) g1 g2, g2'⟩
          · rcases g2 with g2 | ⟨g2, g2'⟩
            · exact .inr ⟨g1, C j k b hj' hb g1' g2⟩
            · exact .inr ⟨g1, g2'⟩) (fun s ⟨hs, _⟩ => by
      unfold order_closed_b2
      simp only [cn_dec]
      rw [if_neg (by omega)]) (0, s1.2) ⟨rfl, r0, T0, fun _ _ _ g => g, fun a b hb g => Rc_p ((H0 a b hb).1 g), fun j a b hj => absurd hj (Nat.not_lt_zero _)⟩
  have full : ∀ a b : Nat, b < 8 → (r a b = true ↔ Rc o.Pairs a b) := fun a b hb => ⟨S2 a b hb, fun g => by
    refine (g (fun a b => b < n ∧ r a b = true) (fun x y hxy => ?_) (fun x y z g1 g2 => ?_)).2
    · have := hin _ _ (Rc_p hxy)
      exact ⟨this.2, L2 x y (by omega) ((H0 x y (by omega)).2 hxy)⟩
    · exact ⟨g2.1, C2 y x z g1.1 (by omega) g1.2 g2.2⟩⟩
  obtain ⟨y, e4, hy⟩ := lp_runF (body := order_closed_b4 o s2) (fun s => ∃ k : Nat, s.1 = (k : Int) ∧ k ≤ n ∧ ∀ j, j < k → r j j = false) (fun s => n - s.1.toNat)
    (fun y => match y with | .inl _ => ∀ j, j < n → r j j = false | .inr q => q = (s2.2, false) ∧ ∃ j, j < n ∧ r j j = true)
    (fun s ⟨k, hs, hk, hj⟩ => by
      obtain ⟨i, t⟩ := s
      simp only at hs
      subst hs
      unfold order_closed_b4
      simp only [cn_dec]
      by_cases c : k < n
      · rw [if_pos (by omega), gd_p _ (by omega), gd_p _ (by omega), TB_bit T2 (by omega) (by omega), cn_if]
        by_cases q : r k k = true
        · rw [if_pos q]; exact .inr (.inr ⟨_, rfl, rfl, k, c, q⟩)
        · rw [if_neg q, wr_id (by omega) (by omega)]
          exact .inl ⟨_, rfl, ⟨k + 1, rfl, c, fun j h => by
            by_cases e : j < k
            · exact hj j e
            · rw [show j = k by omega]; exact Bool.eq_false_iff.2 q⟩, by simp only; omega⟩
      · rw [if_neg (by omega)]
        exact .inr (.inl ⟨_, rfl, fun j h => hj j (by omega)⟩)) (0, Ar.zero 8) ⟨0, rfl, Nat.zero_le _, fun j h => absurd h (Nat.not_lt_zero _)⟩ (by simp only; omega)
  unfold order_closed_F
  rw [e1, bd_s, smK_l, e2, bd_s, smK_l, e4, bd_s]
  cases y with
  | inl s =>
    rw [smK_l]
    refine ⟨_, _, r, rfl, T2, full, ⟨fun _ a g => ?_, fun _ => rfl⟩⟩
    have hl := (hin _ _ g).1
    have := (full a a (by omega)).2 g
    rw [hy a hl] at this; cases this
  | inr q =>
    obtain ⟨rfl, j, hj, hjj⟩ := hy
    rw [smK_r]
    refine ⟨_, _, r, rfl, T2, full, ⟨fun g => (by cases g), fun g => absurd ((full j j (by omega)).1 hjj) (g j)⟩⟩
structure OV (o : TOrder) (n : Nat) (t : Ar 8) (r : Nat → Nat → Bool) : Prop where
  fm : Fm o
  N : o.N = (n : Int)
  n8 : n ≤ 8
  rd : order_read_F o = some (t, true)
  tb : TB t r
  lt : ∀ a b, r a b = true → a < n ∧ b < n
  ir : ∀ a, r a a = false
  tr : ∀ a b c, r a b = true → r b c = true → r a c = true
  rc : ∀ a b, r a b = true ↔ Rc o.Pairs a b
def Vd (o : TOrder) : Prop := Fm o ∧ ∀ a : Nat, ¬Rc o.Pairs a a
theorem read_ok (o : TOrder) (hl : o.Pairs.length ≤ 9223372036854775807) : (Vd o ∧ ∃ n t r, OV o n t r) ∨ (¬Vd o ∧ ∃ t, order_read_F o = some (t, false)) := by
  obtain ⟨v, e, hv⟩ := Formed_ok o hl
  by_cases c : Fm o
  · obtain ⟨t, w, r, e2, T, R, hw⟩ := closed_ok c
    have er : order_read_F o = some (t, w) := by
      unfold order_read_F
      rw [e, bd_s, hv.2 c, cn_not, cn_t, e2, bd_s]
    by_cases g : ∀ a : Nat, ¬Rc o.Pairs a a
    · obtain ⟨n, hn⟩ : ∃ n : Nat, o.N = (n : Int) := ⟨o.N.toNat, by have := c.N; omega⟩
      have n8 : n ≤ 8 := by have := c.N; omega
      have hin : ∀ a b, Rc o.Pairs a b → a < n ∧ b < n := fun a b g => g (fun a b => a < n ∧ b < n) (fun x y hxy => by
        obtain ⟨h1, h2, _⟩ := c.el _ hxy
        exact ⟨by simp only at h1; omega, by simp only at h2; omega⟩) (fun x y z g1 g2 => ⟨g1.1, g2.2⟩)
      have R' : ∀ a b, (decide (b < 8) && r a b) = true ↔ Rc o.Pairs a b := fun a b => by
        rw [Bool.and_eq_true, decide_eq_true_eq]
        exact ⟨fun ⟨h1, h2⟩ => (R a b h1).1 h2, fun h => by
          have := hin a b h
          exact ⟨by omega, (R a b (by omega)).2 h⟩⟩
      refine .inl ⟨⟨c, g⟩, n, t, fun a b => decide (b < 8) && r a b, c, hn, n8, by rw [er, hw.2 g], TB_congr T fun a b hb => by rw [decide_eq_true hb, Bool.true_and], fun a b h => hin _ _ ((R' a b).1 h), fun a => Bool.eq_false_iff.2 fun h => g a ((R' a a).1 h), fun a b d h1 h2 => (R' a d).2 (Rc_t ((R' a b).1 h1) ((R' b d).1 h2)), R'⟩
    · refine .inr ⟨fun h => g h.2, t, ?_⟩
      rw [er, Bool.eq_false_iff.2 fun q => g (hw.1 q)]
  · refine .inr ⟨fun h => c h.1, Ar.zero 8, ?_⟩
    unfold order_read_F
    rw [e, bd_s, Bool.eq_false_iff.2 fun q => c (hv.1 q), cn_not, cn_f]
theorem Before_ok {o : TOrder} {n : Nat} {t : Ar 8} {r : Nat → Nat → Bool} (h : OV o n t r) (a b : Int) : order_Before_F o a b = some (decide (0 ≤ a ∧ 0 ≤ b) && r a.toNat b.toNat) := by
  have hN := h.N; have h8 := h.n8
  unfold order_Before_F
  rw [h.rd, bd_s]
  simp only [jn_d, cn_t, cn_dec, imin, imax]
  by_cases c : (0 ≤ a ∧ 0 ≤ b) ∧ a < n ∧ b < n
  · rw [if_pos (by split <;> omega), if_pos (by split <;> omega), gd_p _ (by omega), gd_p _ (by omega), decide_eq_true c.1, Bool.true_and]
    obtain ⟨x, rfl⟩ : ∃ x : Nat, a = (x : Int) := ⟨a.toNat, by omega⟩
    obtain ⟨y, rfl⟩ : ∃ y : Nat, b = (y : Int) := ⟨b.toNat, by omega⟩
    rw [TB_bit h.tb (by omega) (by omega), Int.toNat_natCast, Int.toNat_natCast]
  · have e : (decide (0 ≤ a ∧ 0 ≤ b) && r a.toNat b.toNat) = false := Bool.eq_false_iff.2 fun g => by
      rw [Bool.and_eq_true, decide_eq_true_eq] at g
      have := h.lt _ _ g.2
      omega
    rw [e]
    by_cases d1 : (if b < a then b else a) ≥ 0
    · rw [if_pos d1, if_neg fun d2 => c (by split at d1 <;> split at d2 <;> omega)]
    · rw [if_neg d1]
theorem Before_n {o : TOrder} {n : Nat} {t : Ar 8} {r : Nat → Nat → Bool} (h : OV o n t r) (a b : Nat) : order_Before_F o (a : Int) (b : Int) = some (r a b) := by
  rw [Before_ok h, decide_eq_true (by omega), Bool.true_and, Int.toNat_natCast, Int.toNat_natCast]
end Go.Proofs.YtlmboonbfhkfnaaDoor
namespace Go.Proofs.YtlmboonbfhkfnaaDoor
open Go Go.Eng
set_option maxRecDepth 100000
def sm : Nat → (Nat → Nat) → Nat
  | 0, _ => 0
  | n + 1, f => sm n f + f n
theorem sm_le : ∀ {n : Nat} {f g : Nat → Nat}, (∀ i, i < n → f i ≤ g i) → sm n f ≤ sm n g
  | 0, _, _, _ => Nat.le_refl _
  | n + 1, f, g, h => by
    show sm n f + f n ≤ sm n g + g n
    have := sm_le (n := n) fun i hi => h i (by omega)
    have := h n (by omega)
    omega
theorem sm_add : ∀ (n : Nat) (f g : Nat → Nat), sm n (fun i => f i + g i) = sm n f + sm n g
  | 0, _, _ => rfl
  | n + 1, f, g => by
    show sm n (fun i => f i + g i) + (f n + g n) = sm n f + f n + (sm n g + g n)
    rw [sm_add n f g]; omega
theorem sm_zero : ∀ (n : Nat), sm n (fun _ => 0) = 0
  | 0 => rfl
  | n + 1 => by show sm n (fun _ => 0) + 0 = 0; rw [sm_zero n]
theorem sm_swap : ∀ (n m : Nat) (f : Nat → Nat → Nat), sm n (fun a => sm m (fun b => f a b)) = sm m (fun b => sm n (fun a => f a b))
  | 0, m, f => (sm_zero m).symm
  | n + 1, m, f => by
    show sm n (fun a => sm m (fun b => f a b)) + sm m (fun b => f n b) = sm m (fun b => sm n (fun a => f a b) + f n b)
    rw [sm_add, sm_swap n m f]
def rowP (m : Nat) (r : Nat → Nat → Bool) (a : Nat) : List (Int × Int) := ((List.range m).filter fun b => r a b).map fun (b : Nat) => ((a : Int), (b : Int))
def pairsP (k n : Nat) (r : Nat → Nat → Bool) : List (Int × Int) := (List.range k).flatMap fun a => rowP n r a
theorem rowP_s (m : Nat) (r : Nat → Nat → Bool) (a : Nat) : rowP (m + 1) r a = rowP m r a ++ if r a m = true then [((a : Int), (m : Int))] else [] := by
  unfold rowP
  rw [List.range_succ, List.filter_append, List.map_append]
  congr 1
  by_cases h : r a m = true
  · rw [if_pos h, List.filter_cons_of_pos h]; rfl
  · rw [if_neg h, List.filter_cons_of_neg h]; rfl
theorem pairsP_s (k n : Nat) (r : Nat → Nat → Bool) : pairsP (k + 1) n r = pairsP k n r ++ rowP n r k := by
  unfold pairsP
  rw [List.range_succ, List.flatMap_append]
  simp
theorem rowP_len : ∀ (m : Nat) (r : Nat → Nat → Bool) (a : Nat), (rowP m r a).length = sm m fun b => (r a b).toNat
  | 0, _, _ => rfl
  | m + 1, r, a => by
    rw [rowP_s, List.length_append, rowP_len m]
    show _ = sm m _ + (r a m).toNat
    cases r a m <;> rfl
theorem pairsP_len : ∀ (k n : Nat) (r : Nat → Nat → Bool), (pairsP k n r).length = sm k fun a => sm n fun b => (r a b).toNat
  | 0, _, _ => rfl
  | k + 1, n, r => by
    rw [pairsP_s, List.length_append, pairsP_len k, rowP_len]; rfl
theorem sm_toNat_le {n : Nat} {f : Nat → Bool} : sm n (fun b => (f b).toNat) ≤ n := by
  have h := sm_le (n := n) (f := fun b => (f b).toNat) (g := fun _ => 1) fun i _ => by cases f i <;> simp
  have e : ∀ n : Nat, sm n (fun _ => 1) = n := fun n => by
    induction n with
    | zero => rfl
    | succ n ih => show sm n (fun _ => 1) + 1 = n + 1; rw [ih]
  rw [e] at h; exact h
theorem mem_pairsP {k n : Nat} {r : Nat → Nat → Bool} {p : Int × Int} : p ∈ pairsP k n r ↔ ∃ a b : Nat, a < k ∧ b < n ∧ r a b = true ∧ p = ((a : Int), (b : Int)) := by
  unfold pairsP rowP
  simp only [List.mem_flatMap, List.mem_range, List.mem_map, List.mem_filter]
  constructor
  · rintro ⟨a, ha, b, ⟨hb, hr⟩, rfl⟩; exact ⟨a, b, ha, hb, hr, rfl⟩
  · rintro ⟨a, b, ha, hb, hr, rfl⟩; exact ⟨a, ha, b, ⟨hb, hr⟩, rfl⟩
theorem mem_pairsP_n {n : Nat} {r : Nat → Nat → Bool} {a b : Nat} : ((a : Int), (b : Int)) ∈ pairsP n n r ↔ a < n ∧ b < n ∧ r a b = true := by
  rw [mem_pairsP]
  constructor
  · rintro ⟨x, y, h1, h2, h3, h4⟩
    rw [Prod.mk.injEq] at h4
    obtain ⟨rfl, rfl⟩ : a = x ∧ b = y := by omega
    exact ⟨h1, h2, h3⟩
  · rintro ⟨h1, h2, h3⟩; exact ⟨a, b, h1, h2, h3, rfl⟩
theorem pairsP_congr {k n : Nat} {r q : Nat → Nat → Bool} (h : ∀ a b, a < k → b < n → r a b = q a b) : pairsP k n r = pairsP k n q := by
  unfold pairsP rowP
  have e : ∀ a ∈ List.range k, ((List.range n).filter fun b => r a b) = (List.range n).filter fun b => q a b := fun a ha => List.filter_congr fun b hb => h a b (List.mem_range.1 ha) (List.mem_range.1 hb)
  rw [List.flatMap_def, List.flatMap_def]
  congr 1
  exact List.map_congr_left fun a ha => by rw [e a ha]
theorem pairs_28 {n : Nat} (hn : n ≤ 8) {r : Nat → Nat → Bool} (ir : ∀ a, r a a = false) (ant : ∀ a b, r a b = true → r b a = false) : (pairsP n n r).length ≤ 28 := by
  rw [pairsP_len]
  have h1 : sm n (fun a => sm n fun b => (r a b).toNat) + sm n (fun a => sm n fun b => (r b a).toNat) ≤ sm n fun a => sm n fun b => if a = b then 0 else 1 := by
    rw [← sm_add]
    refine sm_le fun a ha => ?_
    rw [← sm_add]
    refine sm_le fun b hb => ?_
    by_cases e : a = b
    · subst e; rw [if_pos rfl, ir]; exact Nat.le_refl _
    · rw [if_neg e]
      cases h : r a b
      · cases r b a <;> simp
      · rw [ant a b h]; simp
  have h2 := sm_swap n n fun a b => (r b a).toNat
  have h3 : (sm n fun a => sm n fun b => if a = b then 0 else 1) ≤ 56 := by
    have : n = 0 ∨ n = 1 ∨ n = 2 ∨ n = 3 ∨ n = 4 ∨ n = 5 ∨ n = 6 ∨ n = 7 ∨ n = 8 := by omega
    rcases this with rfl | rfl | rfl | rfl | rfl | rfl | rfl | rfl | rfl <;> decide
  omega
theorem pairs_27 {n : Nat} (hn : n ≤ 8) {r : Nat → Nat → Bool} (ir : ∀ a, r a a = false) (ant : ∀ a b, r a b = true → r b a = false) (hx : n = 8 → ∃ x y, ((x = 0 ∧ y = 1) ∨ (x = 0 ∧ y = 2) ∨ (x = 1 ∧ y = 2)) ∧ r x y = false ∧ r y x = false) : (pairsP n n r).length ≤ 27 := by
  by_cases e8 : n = 8
  · obtain ⟨x, y, hxy, q1, q2⟩ := hx e8
    subst e8
    rw [pairsP_len]
    have h1 : sm 8 (fun a => sm 8 fun b => (r a b).toNat) + sm 8 (fun a => sm 8 fun b => (r b a).toNat) ≤ sm 8 fun a => sm 8 fun b => if a = b ∨ (a = x ∧ b = y) ∨ (a = y ∧ b = x) then 0 else 1 := by
      rw [← sm_add]
      refine sm_le fun a ha => ?_
      rw [← sm_add]
      refine sm_le fun b hb => ?_
      by_cases e : a = b ∨ (a = x ∧ b = y) ∨ (a = y ∧ b = x)
      · rw [if_pos e]
        rcases e with rfl | ⟨rfl, rfl⟩ | ⟨rfl, rfl⟩
        · rw [ir]; simp
        · rw [q1, q2]; simp
        · rw [q1, q2]; simp
      · rw [if_neg e]
        cases h : r a b
        · cases r b a <;> simp
        · rw [ant a b h]; simp
    have h2 := sm_swap 8 8 fun a b => (r b a).toNat
    have h3 : (sm 8 fun a => sm 8 fun b => if a = b ∨ (a = x ∧ b = y) ∨ (a = y ∧ b = x) then 0 else 1) ≤ 55 := by
      rcases hxy with ⟨rfl, rfl⟩ | ⟨rfl, rfl⟩ | ⟨rfl, rfl⟩ <;> decide
    omega
  · rw [pairsP_len]
    have h1 : sm n (fun a => sm n fun b => (r a b).toNat) + sm n (fun a => sm n fun b => (r b a).toNat) ≤ sm n fun a => sm n fun b => if a = b then 0 else 1 := by
      rw [← sm_add]
      refine sm_le fun a ha => ?_
      rw [← sm_add]
      refine sm_le fun b hb => ?_
      by_cases e : a = b
      · subst e; rw [if_pos rfl, ir]; exact Nat.le_refl _
      · rw [if_neg e]
        cases h : r a b
        · cases r b a <;> simp
        · rw [ant a b h]; simp
    have h2 := sm_swap n n fun a b => (r b a).toNat
    have h3 : (sm n fun a => sm n fun b => if a = b then 0 else 1) ≤ 54 := by
      have : n = 0 ∨ n = 1 ∨ n = 2 ∨ n = 3 ∨ n = 4 ∨ n = 5 ∨ n = 6 ∨ n = 7 := by omega
      rcases this with rfl | rfl | rfl | rfl | rfl | rfl | rfl | rfl <;> decide
    omega
theorem listed_ok {n : Nat} (n8 : n ≤ 8) {t : Ar 8} {r : Nat → Nat → Bool} (T : TB t r) : order_listed_F (n : Int) t = some ⟨(n : Int), pairsP n n r⟩ := by
  have rl : ∀ m a, (rowP m r a).length ≤ m := fun m a => by rw [rowP_len]; exact sm_toNat_le
  obtain ⟨s, e, h1, h2⟩ := lp_fold (body := order_listed_b1 (n : Int) t) (fun k s => s.1 = (k : Int) ∧ s.2 = ⟨(n : Int), pairsP k n r⟩) n (by omega)
    (fun k s hk ⟨hs, hq⟩ => by
      obtain ⟨i, u⟩ := s
      simp only at hs hq
      subst hs hq
      have pl : (pairsP k n r).length ≤ 64 := by
        rw [pairsP_len]
        have := sm_le (n := k) (f := fun a => sm n fun b => (r a b).toNat) (g := fun _ => 8) fun a _ => Nat.le_trans sm_toNat_le n8
        have e : ∀ k : Nat, sm k (fun _ => 8) = 8 * k := fun k => by
          induction k with
          | zero => rfl
          | succ k ih => show sm k (fun _ => 8) + 8 = _; rw [ih]; omega
        rw [e] at this; omega
      obtain ⟨s, e, h1, h2⟩ := lp_fold (body := order_listed_b2 (n : Int) t ((k : Int), (⟨(n : Int), pairsP k n r⟩ : TOrder))) (fun m s => s.1 = (m : Int) ∧ s.2 = ⟨(n : Int), pairsP k n r ++ rowP m r k⟩) n (by omega)
        (fun m s hm ⟨hs, hq⟩ => by
          obtain ⟨i, u⟩ := s
          simp only at hs hq
          subst hs hq
          have := rl m k
          unfold order_listed_b2
          simp only [cn_dec, jn_d]
          rw [if_pos (by omega), gd_p _ (by omega), gd_p _ (by omega), TB_bit T (by omega) (by omega), cn_if, wr_id (by omega) (by omega)]
          by_cases c : r k m = true
          · rw [if_pos c, lt_d, ap_p (by simp only [List.length_append, List.length_cons, List.length_nil]; omega)]
            exact ⟨_, rfl, by simp only; omega, by rw [rowP_s, if_pos c, List.append_assoc]⟩
          · rw [if_neg c]
            exact ⟨_, rfl, by simp only; omega, by rw [rowP_s, if_neg c, List.append_nil]⟩) (fun s ⟨hs, _⟩ => by
          unfold order_listed_b2
          simp only [cn_dec]
          rw [if_neg (by omega)]) (0, ⟨(n : Int), pairsP k n r⟩) ⟨rfl, by simp [rowP]⟩
      unfold order_listed_b1
      simp only [cn_dec]
      rw [if_pos (by omega), e, bd_s, smK_l, wr_id (by omega) (by omega)]
      exact ⟨_, rfl, by simp only; omega, by simp only; rw [h2, pairsP_s]⟩) (fun s ⟨hs, _⟩ => by
      unfold order_listed_b1
      simp only [cn_dec]
      rw [if_neg (by omega)]) (0, ⟨(n : Int), []⟩) ⟨rfl, rfl⟩
  unfold order_listed_F
  rw [e, bd_s, smK_l, h2]
theorem Close_ok {o : TOrder} {n : Nat} {t : Ar 8} {r : Nat → Nat → Bool} (h : OV o n t r) : order_Close_F o = some (⟨(n : Int), pairsP n n r⟩, 0) := by
  unfold order_Close_F
  rw [h.rd, bd_s, cn_not, cn_t, h.N]
  simp only
  rw [listed_ok h.n8 h.tb, bd_s]
def cv (n : Nat) (r : Nat → Nat → Bool) (a b : Nat) : Bool := r a b && !(List.range n).any fun k => r a k && r k b
theorem any_range_s (m : Nat) (f : Nat → Bool) : (List.range (m + 1)).any f = ((List.range m).any f || f m) := by
  rw [List.range_succ, List.any_append]; simp
theorem Reduce_ok {o : TOrder} {n : Nat} {t : Ar 8} {r : Nat → Nat → Bool} (h : OV o n t r) : order_Reduce_F o = some (⟨(n : Int), pairsP n n (cv n r)⟩, 0) := by
  have hN := h.N; have n8 := h.n8
  obtain ⟨s, e, h1, h2⟩ := lp_fold (body := order_Reduce_b1 o (t, true)) (fun k s => s.1 = (k : Int) ∧ TB s.2 fun a c => r a c && !(decide (c < k) && (List.range n).any fun j => r a j && r j c)) n (by omega)
    (fun k s hk ⟨hs, T⟩ => by
      obtain ⟨i, u⟩ := s
      simp only at hs T
      subst hs
      obtain ⟨s, e, h1, h2⟩ := lp_fold (body := order_Reduce_b2 o ((k : Int), u) (t, true)) (fun m s => s.1 = (m : Int) ∧ TB s.2 fun a c => r a c && !(decide (c < k) && (List.range n).any fun j => r a j && r j c) && !(decide (c = k) && (List.range m).any fun j => r a j && r j c)) n (by omega)
        (fun m s hm ⟨hs, T⟩ => by
          obtain ⟨i, u⟩ := s
          simp only at hs T
          subst hs
          unfold order_Reduce_b2
          simp only [cn_dec, jn_d]
          rw [if_pos (by omega), gd_p _ (by omega), gd_p _ (by omega), TB_bit h.tb (by omega) (by omega), cn_if, wr_id (by omega) (by omega)]
          by_cases c : r m k = true
          · rw [if_pos c, gd_p _ (by omega), gd_p _ (by omega), gd_p _ (by omega)]
            refine ⟨_, rfl, by simp only; omega, ?_⟩
            obtain ⟨q, q1, q2, q3⟩ := h.tb m (by omega)
            simp only
            rw [q1]
            refine TB_congr (TB_andNot T (by omega) q2) fun a b hb => ?_
            rw [q3, any_range_s]
            by_cases e : b = k
            · subst e
              rw [c, decide_eq_true rfl, Bool.and_true, Bool.true_and, Bool.true_and]
              cases r a b <;> cases (List.range m).any (fun j => r a j && r j b) <;> cases r a m <;> simp
            · rw [decide_eq_false e]; simp
          · rw [if_neg c]
            refine ⟨_, rfl, by simp only; omega, TB_congr T fun a b hb => ?_⟩
            rw [any_range_s]
            by_cases e : b = k
            · subst e
              rw [Bool.eq_false_iff.2 c, Bool.and_false, Bool.or_false]
            · rw [decide_eq_false e]; simp) (fun s ⟨hs, _⟩ => by
          unfold order_Reduce_b2
          simp only [cn_dec]
          rw [if_neg (by omega)]) (0, u) ⟨rfl, TB_congr T fun a b _ => by simp⟩
      unfold order_Reduce_b1
      simp only [cn_dec]
      rw [if_pos (by omega), e, bd_s, smK_l, wr_id (by omega) (by omega)]
      refine ⟨_, rfl, by simp only; omega, TB_congr h2 fun a b hb => ?_⟩
      by_cases e : b = k
      · subst e
        rw [decide_eq_true rfl, decide_eq_false (Nat.lt_irrefl _), decide_eq_true (Nat.lt_succ_self _)]; simp
      · rw [decide_eq_false e]
        by_cases g : b < k
        · rw [decide_eq_true g, decide_eq_true (by omega)]; simp
        · rw [decide_eq_false g, decide_eq_false (by omega)]; simp) (fun s ⟨hs, _⟩ => by
      unfold order_Reduce_b1
      simp only [cn_dec]
      rw [if_neg (by omega)]) (0, t) ⟨rfl, TB_congr h.tb fun a b _ => by simp⟩
  unfold order_Reduce_F
  rw [h.rd, bd_s, cn_not, cn_t]
  simp only
  rw [e, bd_s, smK_l, hN, listed_ok n8 h2, bd_s]
  congr 3
  refine pairsP_congr fun a b _ hb => ?_
  rw [decide_eq_true hb, Bool.true_and]; rfl
theorem cv_iff {n : Nat} {r : Nat → Nat → Bool} {a b : Nat} : cv n r a b = true ↔ r a b = true ∧ ∀ k, k < n → ¬(r a k = true ∧ r k b = true) := by
  unfold cv
  rw [Bool.and_eq_true, Bool.not_eq_true', List.any_eq_false]
  constructor
  · rintro ⟨h1, h2⟩
    exact ⟨h1, fun k hk ⟨g1, g2⟩ => h2 k (List.mem_range.2 hk) (by rw [g1, g2]; rfl)⟩
  · rintro ⟨h1, h2⟩
    exact ⟨h1, fun k hk g => h2 k (List.mem_range.1 hk) (by rwa [Bool.and_eq_true] at g)⟩
end Go.Proofs.YtlmboonbfhkfnaaDoor
namespace Go.Proofs.YtlmboonbfhkfnaaDoor
open Go Go.Eng
set_option maxRecDepth 100000
theorem lp_scan {R : Type} {body : Int → Option (Ct Int R)} (a N : Nat) (ha : a ≤ N) (hN : N ≤ 9223372036854775807) (bad : Nat → Bool) (v : Nat → R)
    (step : ∀ k, a ≤ k → k < N → (∀ j, a ≤ j → j < k → bad j = false) → body (k : Int) = some (if bad k = true then .rt (v k) else .nx ((k : Int) + 1))) (stop : body (N : Int) = some (.bk (N : Int))) :
    ((∀ k, a ≤ k → k < N → bad k = false) ∧ lp body FU (a : Int) = some (.inl (N : Int))) ∨ ∃ k, a ≤ k ∧ k < N ∧ bad k = true ∧ (∀ j, a ≤ j → j < k → bad j = false) ∧ lp body FU (a : Int) = some (.inr (v k)) := by
  obtain ⟨y, e, hy⟩ := lp_runF (body := body) (fun s => ∃ k : Nat, s = (k : Int) ∧ a ≤ k ∧ k ≤ N ∧ ∀ j, a ≤ j → j < k → bad j = false) (fun s => N - s.toNat)
    (fun y => ((∀ k, a ≤ k → k < N → bad k = false) ∧ y = .inl (N : Int)) ∨ ∃ k, a ≤ k ∧ k < N ∧ bad k = true ∧ (∀ j, a ≤ j → j < k → bad j = false) ∧ y = .inr (v k))
    (fun s ⟨k, hs, h1, h2, h3⟩ => by
      subst hs
      by_cases c : k < N
      · rw [step k h1 c h3]
        by_cases q : bad k = true
        · rw [if_pos q]; exact .inr (.inr ⟨_, rfl, .inr ⟨k, h1, c, q, h3, rfl⟩⟩)
        · rw [if_neg q]
          exact .inl ⟨_, rfl, ⟨k + 1, by omega, by omega, c, fun j g1 g2 => by
            by_cases e : j < k
            · exact h3 j g1 e
            · rw [show j = k by omega]; exact Bool.eq_false_iff.2 q⟩, by omega⟩
      · obtain rfl : k = N := by omega
        rw [stop]
        exact .inr (.inl ⟨_, rfl, .inl ⟨h3, rfl⟩⟩)) (a : Int) ⟨a, rfl, Nat.le_refl _, ha, fun j g1 g2 => absurd g2 (by omega)⟩ (by omega)
  rw [e]
  rcases hy with ⟨h, rfl⟩ | ⟨k, h1, h2, h3, h4, rfl⟩
  · exact .inl ⟨h, rfl⟩
  · exact .inr ⟨k, h1, h2, h3, h4, rfl⟩
theorem ext_getD {α : Type} [Inhabited α] {a b : List α} (h : a.length = b.length) (h2 : ∀ j, j < a.length → a.getD j default = b.getD j default) : a = b := by
  refine List.ext_getElem h fun j h3 h4 => ?_
  have := h2 j h3
  rwa [getD_ltD h3, getD_ltD h4] at this
theorem TOrder_eq {a b : TOrder} (h1 : a.N = b.N) (h2 : a.Pairs = b.Pairs) : a = b := by cases a; cases b; simp_all
instance : DecidableEq TOrder := fun a b => if h : a.N = b.N ∧ a.Pairs = b.Pairs then .isTrue (TOrder_eq h.1 h.2) else .isFalse fun e => h (by subst e; exact ⟨rfl, rfl⟩)
theorem Same_ok (a b : TOrder) (hl : a.Pairs.length ≤ 9223372036854775807) : ref07_Same_F a b = some (decide (a = b)) := by
  unfold ref07_Same_F
  simp only [jn_d]
  by_cases c0 : a.N = b.N
  · rw [cn_bne, if_pos c0]
    by_cases c : a.Pairs.length = b.Pairs.length
    · rw [cn_bne, if_pos (by omega)]
      rcases lp_scan (body := ref07_Same_b1 a b) 0 a.Pairs.length (Nat.zero_le _) hl (fun k => !((a.Pairs.getD k default).1 == (b.Pairs.getD k default).1 && (a.Pairs.getD k default).2 == (b.Pairs.getD k default).2)) (fun _ => false)
        (fun k _ hk _ => by
          unfold ref07_Same_b1
          simp only [cn_dec]
          rw [if_pos (by omega), ix_n hk, ix_n (by omega), wr_id (by omega) (by omega), cn_if]
          split <;> rfl) (by
          unfold ref07_Same_b1
          simp only [cn_dec]
          rw [if_neg (by omega)]) with ⟨h, e⟩ | ⟨k, _, h2, h3, _, e⟩
      · rw [show (0 : Int) = ((0 : Nat) : Int) from rfl, e, bd_s, smK_l, decide_eq_true]
        refine TOrder_eq c0 (ext_getD c fun j hj => ?_)
        have := h j (Nat.zero_le _) hj
        simp only [Bool.not_eq_false', Bool.and_eq_true, beq_iff_eq] at this
        exact Prod.ext this.1 this.2
      · rw [show (0 : Int) = ((0 : Nat) : Int) from rfl, e, bd_s, smK_r, decide_eq_false]
        rintro rfl
        simp at h3
    · rw [cn_bne, if_neg (by omega), decide_eq_false]
      rintro rfl; exact c rfl
  · rw [cn_bne, if_neg c0, cn_t, decide_eq_false]
    rintro rfl; exact c0 rfl
theorem pick_law (c n : Int) (hc : okI c) (hn : 0 < n) : law07_pick_F c n = some (pickZ c n) := by
  unfold law07_pick_F
  simp only [jn_d, cn_if, decide_eq_true_eq]
  rw [gd_p _ (by simpa using Int.ne_of_gt hn), gd_p _ (by simpa using Int.ne_of_gt hn)]
  rw [← pickZ_eq c n hc.1 hc.2 hn]
  split <;> rfl
theorem pick_ref (c n : Int) (hc : okI c) (hn : 0 < n) : ref07_pick_F c n = some (pickZ c n) := pick_law c n hc hn
theorem pick_n (c : Int) {n : Nat} (hc : okI c) (hn : 0 < n) : ∃ k : Nat, k < n ∧ law07_pick_F c (n : Int) = some (k : Int) := by
  obtain ⟨h1, h2⟩ := pickZ_lt c (n := (n : Int)) (by omega)
  exact ⟨(pickZ c n).toNat, by omega, by rw [pick_law c n hc (by omega), Int.toNat_of_nonneg h1]⟩
theorem okL_get {α : Type} [Inhabited α] {ok : α → Prop} {l : List α} (h : okL ok l) {k : Nat} (hk : k < l.length) : ok (l.getD k default) := h.1 _ (getD_memD hk)
def ints (l : List Nat) : List Int := l.map fun (x : Nat) => (x : Int)
theorem ints_len (l : List Nat) : (ints l).length = l.length := List.length_map _
theorem ints_app (l m : List Nat) : ints (l ++ m) = ints l ++ ints m := List.map_append
theorem turn_ne {a b n : Int} (ha : 0 ≤ a ∧ a < n) (hb : 0 ≤ b ∧ b < n - 1) : let t := Int.tmod (a + 1 + b) n; (0 ≤ t ∧ t < n) ∧ a ≠ t := by
  have hn : 0 < n := by omega
  simp only
  rw [Int.tmod_eq_emod_of_nonneg (by omega)]
  by_cases q : a + 1 + b < n
  · rw [Int.emod_eq_of_lt (by omega) q]; omega
  · have : (a + 1 + b) % n = a + 1 + b - n := by
      rw [← Int.sub_emod_right, Int.emod_eq_of_lt (by omega) (by omega)]
    rw [this]; omega
theorem loose_ok (a0 : Int) (x : List (Int × Int)) (o0 : okI a0) (o1 : okL okA46 x) : ∃ o, ref07_Loose_F a0 x = some o ∧ Fm o ∧ o.Pairs.length ≤ 20 := by
  unfold ref07_Loose_F
  obtain ⟨p1, p2⟩ := pickZ_lt a0 (n := 9) (by omega)
  rw [pick_ref a0 9 o0 (by omega), bd_s]
  generalize pickZ a0 9 = b0 at p1 p2 ⊢
  have hx := o1.2
  obtain ⟨y, e, hy⟩ := lp_runF (body := ref07_Loose_b1 x) (fun s => ∃ k : Nat, s.1 = (k : Int) ∧ k ≤ 20 ∧ k ≤ x.length ∧ s.2.N = b0 ∧ s.2.Pairs.length ≤ k ∧ ∀ p ∈ s.2.Pairs, PairV b0 p) (fun s => 20 - s.1.toNat)
    (fun y => match y with | .inl s => s.2.N = b0 ∧ s.2.Pairs.length ≤ 20 ∧ ∀ p ∈ s.2.Pairs, PairV b0 p | .inr _ => False)
    (fun s ⟨k, hs, hk, hkx, hN, hl, hp⟩ => by
      obtain ⟨i, N, E⟩ := s
      simp only at hs hN hl hp
      subst hs hN
      unfold ref07_Loose_b1
      simp only [jn_d, cn_dec]
      by_cases c : k < x.length ∧ k < 20 ∧ N > 1
      · obtain ⟨c1, c2, c3⟩ := c
        rw [if_pos (by omega), if_pos (by omega), if_pos c3]
        obtain ⟨o1, o2⟩ := okL_get o1 c1
        obtain ⟨q1, q2⟩ := pickZ_lt (x.getD k default).1 (n := N) (by omega)
        obtain ⟨q3, q4⟩ := pickZ_lt (x.getD k default).2 (n := N - 1) (by omega)
        simp only [ix_n c1]
        rw [pick_ref _ _ o1 (by omega), bd_s, wr_id (by omega) (by omega), pick_ref _ _ o2 (by omega), bd_s, gd_p _ (by omega), lt_d, ap_p (by simp only [List.length_cons, List.length_nil]; omega), wr_id (by omega) (by omega)]
        generalize pickZ (x.getD k default).1 N = u at *
        generalize pickZ (x.getD k default).2 (N - 1) = v at *
        obtain ⟨t1, t2⟩ := turn_ne (a := u) (b := v) (n := N) ⟨q1, q2⟩ ⟨q3, q4⟩
        rw [wr_id (x := u + 1) (by omega) (by omega), wr_id (x := u + 1 + v) (by omega) (by omega)]
        refine .inl ⟨_, rfl, ⟨k + 1, by simp only; omega, by omega, by omega, rfl, by simp only [List.length_append, List.length_cons, List.length_nil]; omega, fun p hp' => ?_⟩, by simp only; omega⟩
        rcases List.mem_append.1 hp' with hp' | hp'
        · exact hp p hp'
        · rw [List.mem_singleton.1 hp']; exact ⟨⟨q1, q2⟩, t1, t2⟩
      · refine .inr (.inl ⟨((k : Int), ⟨N, E⟩), ?_, rfl, Nat.le_trans hl hk, hp⟩)
        by_cases c1 : (k : Int) < (x.length : Int)
        · by_cases c2 : (k : Int) < 20
          · rw [if_pos c1, if_pos c2, if_neg fun c3 => c ⟨by omega, by omega, c3⟩]
          · rw [if_pos c1, if_neg c2, cn_f]
        · rw [if_neg c1, cn_f]) (0, ⟨b0, []⟩) ⟨0, rfl, by omega, by omega, rfl, by simp, by simp⟩ (by simp only; omega)
  rw [e, bd_s]
  cases y with
  | inl s =>
    obtain ⟨h1, h2, h3⟩ := hy
    rw [smK_l]
    exact ⟨_, rfl, ⟨by omega, by omega, fun p hp => by rw [h1]; exact h3 p hp⟩, h2⟩
  | inr s => exact hy.elim
theorem sub_take {α : Type} (l : List α) (k : Nat) : sub l 0 (k : Int) = l.take k := by
  unfold sub; simp
theorem sub_drop {α : Type} (l : List α) (k : Nat) : sub l (k : Int) (l.length : Int) = l.drop k := by
  unfold sub; simp
theorem made_ok (a0 : Int) (x : List (Int × Int)) (a2 : Int) (o0 : okI a0) (o1 : okL okA46 x) (o2 : okI a2) : ∃ o n t r, ref07_Made_F a0 x a2 = some o ∧ OV o n t r ∧ o.Pairs.length ≤ 20 := by
  obtain ⟨o, e0, hf, hl⟩ := loose_ok a0 x o0 o1
  have hN := hf.N
  obtain ⟨n, hn⟩ : ∃ n : Nat, o.N = (n : Int) := ⟨o.N.toNat, by omega⟩
  have n8 : n ≤ 8 := by omega
  unfold ref07_Made_F
  rw [e0, bd_s]
  obtain ⟨p1, p2⟩ := pickZ_lt a2 (n := 40320) (by omega)
  rw [pick_ref a2 40320 o2 (by omega), bd_s]
  generalize pickZ a2 40320 = m0 at p1 p2 ⊢
  obtain ⟨s1, e1, h1, h2⟩ := lp_fold (body := ref07_Made_b1 o) (fun k s => s.2 = (k : Int) ∧ s.1 = ints (List.range k)) n (by omega)
    (fun k s hk ⟨hs, hq⟩ => by
      obtain ⟨l, i⟩ := s
      simp only at hs hq
      subst hs hq
      unfold ref07_Made_b1
      simp only [cn_dec]
      rw [if_pos (by omega), lt_d, ap_p (by rw [ints_len, List.length_range]; simp only [List.length_cons, List.length_nil]; omega), wr_id (by omega) (by omega)]
      exact ⟨_, rfl, by simp only; omega, by rw [List.range_succ, ints_app]; rfl⟩) (fun s ⟨hs, _⟩ => by
      unfold ref07_Made_b1
      simp only [cn_dec]
      rw [if_neg (by omega)]) ([], 0) ⟨rfl, rfl⟩
  rw [e1, bd_s, smK_l, h2]
  obtain ⟨y, e2, hy⟩ := lp_runF (body := ref07_Made_b2) (fun s => 0 ≤ s.2.1 ∧ s.2.1 < 40320 ∧ s.1.length + s.2.2.length = n ∧ (s.1 ++ s.2.2).Nodup) (fun s => s.2.2.length)
    (fun y => match y with | .inl s => s.1.length = n ∧ s.1.Nodup | .inr _ => False)
    (fun s ⟨g1, g2, g3, g4⟩ => by
      obtain ⟨P, m, L⟩ := s
      simp only at g1 g2 g3 g4
      unfold ref07_Made_b2
      simp only [cn_dec]
      by_cases c : L.length = 0
      · rw [if_neg (by omega)]
        obtain rfl := List.length_eq_zero_iff.1 c
        exact .inr (.inl ⟨_, rfl, by simpa using g3, by simpa using g4⟩)
      · rw [if_pos (by omega), gd_p _ (by omega), gd_p _ (by omega)]
        have k1 := Int.emod_nonneg m (show (L.length : Int) ≠ 0 by omega)
        have k2 := Int.emod_lt_of_pos m (show (0 : Int) < (L.length : Int) by omega)
        have d1 : 0 ≤ m / (L.length : Int) := Int.ediv_nonneg g1 (by omega)
        have d2 : m / (L.length : Int) ≤ m := Int.ediv_le_self _ g1
        rw [Int.tmod_eq_emod_of_nonneg g1, Int.tdiv_eq_ediv_of_nonneg g1]
        generalize m / (L.length : Int) = d at d1 d2 ⊢
        obtain ⟨k, hk⟩ : ∃ k : Nat, m % (L.length : Int) = (k : Int) := ⟨(m % (L.length : Int)).toNat, by omega⟩
        rw [hk] at k1 k2 ⊢
        have hkl : k < L.length := by omega
        rw [ix_n hkl, lt_d, ap_p (by simp only [List.length_cons, List.length_nil]; omega), slc_p (by omega) (by omega) (by omega), wr_id (x := (k : Int) + 1) (by omega) (by omega), slc_p (by omega) (by omega) (by omega), wr_id (x := d) (by omega) (by omega), sub_take, show (k : Int) + 1 = ((k + 1 : Nat) : Int) by omega, sub_drop, ap_p (by simp only [List.length_take, List.length_drop]; omega)]
        have hL : L = L.take k ++ L.getD k default :: L.drop (k + 1) := by
          rw [getD_ltD hkl, ← List.drop_eq_getElem_cons hkl, List.take_append_drop]
        refine .inl ⟨_, rfl, ⟨d1, by simp only; omega, by simp only [List.length_append, List.length_cons, List.length_nil, List.length_take, List.length_drop]; omega, ?_⟩, by simp only [List.length_append, List.length_take, List.length_drop]; omega⟩
        refine (List.Perm.nodup_iff ?_).1 g4
        simp only
        rw [List.append_assoc]
        refine List.Perm.append_left P ?_
        conv => lhs; rw [hL]
        exact List.perm_middle) ([], m0, ints (List.range n)) ⟨p1, p2, by rw [ints_len, List.length_range]; simp, by
          rw [List.nil_append]
          exact List.pairwise_map.2 ((List.nodup_range (n := n)).imp fun h q => h (by omega))⟩ (by simp only; rw [ints_len, List.length_range]; omega)
  rw [e2, bd_s]
  cases y with
  | inr s => exact hy.elim
  | inl s =>
    obtain ⟨P, m, L⟩ := s
    obtain ⟨P1, P2⟩ := hy
    simp only at P1 P2
    rw [smK_l]
    have pl : ∀ z : Int, 0 ≤ z ∧ z < (n : Int) → z.toNat < P.length := fun z hz => by omega
    obtain ⟨s3, e3, q1, q2, q3, q4, q5⟩ := lp_fold (body := ref07_Made_b3 (P, m, L)) (fun k s => s.1 = (k : Int) ∧ s.2.N = (n : Int) ∧ s.2.Pairs.length = o.Pairs.length ∧ (∀ p ∈ s.2.Pairs, PairV (n : Int) p) ∧ ∀ j, j < k → P.getD ((s.2.Pairs.getD j default).1).toNat default < P.getD ((s.2.Pairs.getD j default).2).toNat default) o.Pairs.length (by omega)
      (fun k s hk ⟨hs, g1, g2, g3, g4⟩ => by
        obtain ⟨i, N, E⟩ := s
        simp only at hs g1 g2 g3 g4
        subst hs g1
        have hkE : k < E.length := by omega
        obtain ⟨v1, v2, v3⟩ := g3 _ (getD_memD hkE)
        unfold ref07_Made_b3
        simp only [cn_dec, jn_d, Int.toNat_natCast]
        rw [if_pos (by omega), gd_p _ (by omega), gd_p _ (by omega), gd_p _ (by omega), wr_id (by omega) (by omega)]
        have hne : P.getD ((E.getD k default).1).toNat default ≠ P.getD ((E.getD k default).2).toNat default := by
          rw [getD_ltD (pl _ v1), getD_ltD (pl _ v2)]
          intro q
          have := (List.getElem_inj P2).1 q
          omega
        by_cases c : P.getD ((E.getD k default).1).toNat default > P.getD ((E.getD k default).2).toNat default
        · rw [if_pos c, gd_p _ (by omega), st_d, Int.toNat_natCast]
          have set_get : ∀ j, j < E.length → (E.set k ((E.getD k default).2, (E.getD k default).1)).getD j default = if j = k then ((E.getD k default).2, (E.getD k default).1) else E.getD j default := fun j hj => by
            rw [getD_ltD (by rw [List.length_set]; exact hj), List.getElem_set, getD_ltD (l := E) hj]
            by_cases e : j = k
            · rw [if_pos e, if_pos e.symm]
            · rw [if_neg e, if_neg fun q => e q.symm]
          refine ⟨_, rfl, by simp only; omega, rfl, by simp only [List.length_set]; exact g2, fun p hp => ?_, fun j hj => ?_⟩
          · obtain ⟨j, hj, rfl⟩ := mem_get hp
            simp only [List.length_set] at hj
            rw [set_get j hj]
            by_cases e : j = k
            · rw [if_pos e]; exact ⟨v2, v1, fun q => v3 q.symm⟩
            · rw [if_neg e]; exact g3 _ (getD_memD hj)
          · simp only
            rw [set_get j (by omega)]
            by_cases e : j = k
            · rw [if_pos e]; exact c
            · rw [if_neg e]; exact g4 j (by omega)
        · rw [if_neg c]
          refine ⟨_, rfl, by simp only; omega, rfl, g2, g3, fun j hj => ?_⟩
          by_cases e : j = k
          · subst e; simp only; omega
          · exact g4 j (by omega)) (fun s ⟨hs, _, g2, _⟩ => by
        unfold ref07_Made_b3
        simp only [cn_dec]
        rw [if_neg (by omega)]) (0, ⟨o.N, o.Pairs⟩) ⟨rfl, hn, rfl, by rw [← hn]; exact hf.el, fun j hj => absurd hj (Nat.not_lt_zero _)⟩
    rw [e3, bd_s, smK_l]
    have hFm : Fm ⟨s3.2.N, s3.2.Pairs⟩ := ⟨by simp only; omega, by simp only; omega, fun p hp => by simp only; rw [q2]; exact q4 p hp⟩
    have hac : ∀ a : Nat, ¬Rc s3.2.Pairs a a := fun a g => by
      have := g (fun a b => P.getD a default < P.getD b default) (fun u v huv => by
        obtain ⟨j, hj, ej⟩ := mem_get huv
        have := q5 j (by omega)
        rw [ej] at this
        simpa using this) (fun _ _ _ g1 g2 => Int.lt_trans g1 g2)
      omega
    rcases read_ok ⟨s3.2.N, s3.2.Pairs⟩ (by simp only; omega) with ⟨_, n', t, r, hv⟩ | ⟨hno, _⟩
    · exact ⟨_, n', t, r, rfl, hv, by simp only; omega⟩
    · exact absurd ⟨hFm, hac⟩ hno
end Go.Proofs.YtlmboonbfhkfnaaDoor
namespace Go.Proofs.YtlmboonbfhkfnaaDoor
open Go Go.Eng
set_option maxRecDepth 100000
theorem sm_lt : ∀ {n : Nat} {f g : Nat → Nat}, (∀ i, i < n → f i ≤ g i) → ∀ {j : Nat}, j < n → f j < g j → sm n f < sm n g
  | n + 1, f, g, h, j, hj, hlt => by
    show sm n f + f n < sm n g + g n
    by_cases e : j = n
    · subst e
      have := sm_le (n := j) (f := f) (g := g) fun i hi => h i (by omega)
      omega
    · have := sm_lt (n := n) (f := f) (g := g) (fun i hi => h i (by omega)) (j := j) (by omega) hlt
      have := h n (by omega)
      omega
section
variable {o : TOrder} {n : Nat} {t : Ar 8} {r : Nat → Nat → Bool}
theorem OV.asy (h : OV o n t r) {a b : Nat} (hr : r a b = true) : r b a = false := Bool.eq_false_iff.2 fun g => by
  have := h.tr a b a hr g
  rw [h.ir] at this; cases this
theorem OV.cva (h : OV o n t r) (a b : Nat) (hr : cv n r a b = true) : cv n r b a = false := Bool.eq_false_iff.2 fun g => by
  have := h.asy (cv_iff.1 hr).1
  rw [(cv_iff.1 g).1] at this; cases this
theorem OV.cvi (h : OV o n t r) (a : Nat) : cv n r a a = false := by unfold cv; rw [h.ir]; rfl
def btw (n : Nat) (r : Nat → Nat → Bool) (a b : Nat) : Nat := sm n fun k => (r a k && r k b).toNat
theorem OV.btw_lt (h : OV o n t r) {a b k : Nat} (h1 : r a k = true) (h2 : r k b = true) : btw n r a k < btw n r a b ∧ btw n r k b < btw n r a b := by
  have hk := (h.lt _ _ h1).2
  constructor
  · refine sm_lt (fun i _ => ?_) hk ?_
    · cases c : r a i && r i k
      · simp
      · rw [Bool.and_eq_true] at c
        rw [c.1, h.tr i k b c.2 h2]; simp
    · rw [h.ir, h1, h2]; simp
  · refine sm_lt (fun i _ => ?_) hk ?_
    · cases c : r k i && r i b
      · simp
      · rw [Bool.and_eq_true] at c
        rw [c.2, h.tr a k i h1 c.1]; simp
    · rw [h.ir, h1, h2]; simp
theorem OV.cv_rc (h : OV o n t r) {P : List (Int × Int)} (hP : ∀ x y : Nat, cv n r x y = true → Rc P x y) : ∀ (m a b : Nat), btw n r a b < m → r a b = true → Rc P a b
  | 0, _, _, hm, _ => absurd hm (Nat.not_lt_zero _)
  | m + 1, a, b, hm, hr => by
    by_cases c : cv n r a b = true
    · exact hP a b c
    · have : ∃ k, r a k = true ∧ r k b = true := Classical.byContradiction fun q => c (cv_iff.2 ⟨hr, fun k _ g => q ⟨k, g⟩⟩)
      obtain ⟨k, h1, h2⟩ := this
      obtain ⟨l1, l2⟩ := h.btw_lt h1 h2
      exact Rc_t (h.cv_rc hP m a k (by omega) h1) (h.cv_rc hP m k b (by omega) h2)
theorem OV.cv_gen (h : OV o n t r) (a b : Nat) : Rc (pairsP n n (cv n r)) a b ↔ r a b = true := by
  constructor
  · intro g
    exact g (fun x y => r x y = true) (fun x y hxy => (cv_iff.1 (mem_pairsP_n.1 hxy).2.2).1) (fun x y z => h.tr x y z)
  · intro g
    exact h.cv_rc (fun x y hxy => Rc_p (mem_pairsP_n.2 ⟨(h.lt _ _ (cv_iff.1 hxy).1).1, (h.lt _ _ (cv_iff.1 hxy).1).2, hxy⟩)) _ a b (Nat.lt_succ_self _) g
theorem OV.cl_gen (h : OV o n t r) (a b : Nat) : Rc (pairsP n n r) a b ↔ r a b = true := by
  constructor
  · intro g
    exact g (fun x y => r x y = true) (fun x y hxy => (mem_pairsP_n.1 hxy).2.2) (fun x y z => h.tr x y z)
  · intro g
    exact Rc_p (mem_pairsP_n.2 ⟨(h.lt _ _ g).1, (h.lt _ _ g).2, g⟩)
theorem pairsP_v {q : Nat → Nat → Bool} (hq : ∀ a, q a a = false) : ∀ p ∈ pairsP n n q, PairV (n : Int) p := fun p hp => by
  obtain ⟨a, b, ha, hb, hr, rfl⟩ := mem_pairsP.1 hp
  refine ⟨⟨by simp only; omega, by simp only; omega⟩, ⟨by simp only; omega, by simp only; omega⟩, fun e => ?_⟩
  simp only at e
  obtain rfl : a = b := by omega
  rw [hq] at hr; cases hr
theorem OV.cv_27 (h : OV o n t r) : (pairsP n n (cv n r)).length ≤ 27 := by
  refine pairs_27 h.n8 h.cvi h.cva fun e8 => ?_
  refine Classical.byContradiction fun q => ?_
  have g : ∀ x y, ((x = 0 ∧ y = 1) ∨ (x = 0 ∧ y = 2) ∨ (x = 1 ∧ y = 2)) → cv n r x y = true ∨ cv n r y x = true := fun x y hxy => by
    cases c1 : cv n r x y
    · cases c2 : cv n r y x
      · exact absurd ⟨x, y, hxy, c1, c2⟩ q
      · exact .inr rfl
    · exact .inl rfl
  have no : ∀ x y z, y < n → cv n r x y = true → cv n r y z = true → cv n r x z = true ∨ cv n r z x = true → False := fun x y z hy h1 h2 h3 => by
    have r1 := (cv_iff.1 h1).1; have r2 := (cv_iff.1 h2).1
    rcases h3 with h3 | h3
    · exact (cv_iff.1 h3).2 y hy ⟨r1, r2⟩
    · have := h.asy (h.tr x y z r1 r2)
      rw [(cv_iff.1 h3).1] at this; cases this
  have a1 := g 0 1 (.inl ⟨rfl, rfl⟩)
  have a2 := g 0 2 (.inr (.inl ⟨rfl, rfl⟩))
  have a3 := g 1 2 (.inr (.inr ⟨rfl, rfl⟩))
  rcases a1 with b1 | b1
  · rcases a3 with b3 | b3
    · exact no 0 1 2 (by omega) b1 b3 a2
    · rcases a2 with b2 | b2
      · exact no 0 2 1 (by omega) b2 b3 (.inl b1)
      · exact no 2 0 1 (by omega) b2 b1 (.inl b3)
  · rcases a3 with b3 | b3
    · rcases a2 with b2 | b2
      · exact no 1 0 2 (by omega) b1 b2 (.inl b3)
      · exact no 1 2 0 (by omega) b3 b2 (.inl b1)
    · exact no 2 1 0 (by omega) b3 b1 a2.symm
end
end Go.Proofs.YtlmboonbfhkfnaaDoor
namespace Go.Proofs.YtlmboonbfhkfnaaDoor
open Go Go.Eng
theorem sane_ok : law07_sane_F = some true := by kernel_rfl
end Go.Proofs.YtlmboonbfhkfnaaDoor
