import Derived.Test.YtlmboonbfhkfnaaDoorM3
import Derived.Test.YtlmboonbfhkfnaaDoorM4
import Derived.Test.YtlmboonbfhkfnaaDoorM5
import Derived.KernelRfl
set_option linter.unusedVariables false
set_option linter.unusedSimpArgs false
set_option linter.unusedSectionVars false
namespace Go.Proofs.YtlmboonbfhkfnaaDoor
open Go Go.Eng
set_option maxRecDepth 100000
theorem ofInt_natC {a : Nat} (h : a < 4611686018427387904) : (BitVec.ofInt IntKind.i64.bits (a : Int)).toNat = a := by
  show (BitVec.ofInt 64 (a : Int)).toNat = a
  rw [BitVec.toNat_ofInt, Int.emod_eq_of_lt (by omega) (by omega)]; rfl
theorem nband {a b : Nat} (ha : a < 4611686018427387904) (hb : b < 4611686018427387904) : band .i64 (a : Int) (b : Int) = ((a &&& b : Nat) : Int) := by
  show IntKind.i64.wrap _ = _
  rw [BitVec.toNat_and, ofInt_natC ha, ofInt_natC hb]
  have : a &&& b ≤ a := Nat.and_le_left
  exact wrap64 (by omega) (by omega)
theorem nbor {a b : Nat} (ha : a < 4611686018427387904) (hb : b < 4611686018427387904) : bor .i64 (a : Int) (b : Int) = ((a ||| b : Nat) : Int) := by
  show IntKind.i64.wrap _ = _
  rw [BitVec.toNat_or, ofInt_natC ha, ofInt_natC hb]
  have : a ||| b < 2 ^ 62 := Nat.or_lt_two_pow (by omega) (by omega)
  exact wrap64 (by omega) (by omega)
def ndiff (a b : Nat) : Nat := a ^^^ (a &&& b)
theorem ndiff_bit (a b i : Nat) : (ndiff a b).testBit i = (a.testBit i && !b.testBit i) := by
  unfold ndiff
  rw [Nat.testBit_xor, Nat.testBit_and]
  cases a.testBit i <;> cases b.testBit i <;> rfl
theorem ndiff_lt {a b k : Nat} (h : a < 2 ^ k) : ndiff a b < 2 ^ k := Nat.xor_lt_two_pow h (Nat.lt_of_le_of_lt Nat.and_le_left h)
theorem nbandNot {a b : Nat} (ha : a < 4611686018427387904) (hb : b < 4611686018427387904) : bandNot .i64 (a : Int) (b : Int) = ((ndiff a b : Nat) : Int) := by
  show IntKind.i64.wrap _ = _
  have e : (BitVec.ofInt IntKind.i64.bits (a : Int) &&& ~~~BitVec.ofInt IntKind.i64.bits (b : Int)).toNat = ndiff a b := by
    refine Nat.eq_of_testBit_eq fun i => ?_
    rw [BitVec.testBit_toNat, BitVec.getLsbD_and, BitVec.getLsbD_not, ndiff_bit, ← BitVec.testBit_toNat, ← BitVec.testBit_toNat, ofInt_natC ha, ofInt_natC hb]
    by_cases h : i < 64
    · rw [show decide (i < IntKind.i64.bits) = true from decide_eq_true h, Bool.true_and]
    · rw [Nat.testBit_lt_two_pow (x := a) (i := i) (Nat.lt_of_lt_of_le (show a < 2 ^ 62 by omega) (Nat.pow_le_pow_right (by omega) (by omega)))]
      rfl
  rw [e]
  have : ndiff a b < 2 ^ 62 := ndiff_lt (by omega)
  exact wrap64 (by omega) (by omega)
theorem two_pow_le {n m : Nat} (h : n ≤ m) : (2 : Int) ^ n ≤ 2 ^ m := by
  have := Nat.pow_le_pow_right (n := 2) (by omega) h
  exact_mod_cast this
theorem two_pow_pos (n : Nat) : (0 : Int) < 2 ^ n := by
  have := Nat.two_pow_pos n
  exact_mod_cast this
theorem nshl {k : Nat} (h : k ≤ 60) : bshl .i64 1 (k : Int) = ((2 ^ k : Nat) : Int) := by
  show IntKind.i64.wrap (1 * 2 ^ (min (k : Int).toNat 64)) = _
  rw [Int.toNat_natCast, Nat.min_eq_left (by omega), Int.one_mul]
  have h1 := two_pow_le h
  have h2 := two_pow_pos k
  rw [show ((2 ^ k : Nat) : Int) = (2 : Int) ^ k by norm_cast]
  exact wrap64 (by omega) (by omega)
theorem nshr {s i : Nat} (hi : i ≤ 60) : bshr .i64 (s : Int) (i : Int) = ((s >>> i : Nat) : Int) := by
  show (s : Int).fdiv (2 ^ (min (i : Int).toNat 64)) = _
  rw [Int.toNat_natCast, Nat.min_eq_left (by omega), Int.fdiv_eq_ediv_of_nonneg _ (Int.le_of_lt (two_pow_pos i)), Nat.shiftRight_eq_div_pow]
  norm_cast
theorem and_one_bit (n i : Nat) : (n >>> i) &&& 1 = if n.testBit i then 1 else 0 := by
  rw [Nat.testBit_eq_decide_div_mod_eq, Nat.shiftRight_eq_div_pow, Nat.and_one_is_mod]
  have := Nat.mod_two_eq_zero_or_one (n / 2 ^ i)
  rcases this with h | h <;> simp [h]
theorem nbitv {s i : Nat} (h : s < 4611686018427387904) (hi : i ≤ 60) : band .i64 (bshr .i64 (s : Int) (i : Int)) 1 = if s.testBit i then 1 else 0 := by
  rw [nshr hi]
  have : s >>> i ≤ s := by rw [Nat.shiftRight_eq_div_pow]; exact Nat.div_le_self _ _
  rw [show (1 : Int) = ((1 : Nat) : Int) from rfl, nband (by omega) (by omega), and_one_bit]
  split <;> rfl
theorem nbit1 {s i : Nat} (h : s < 4611686018427387904) (hi : i ≤ 60) : (band .i64 (bshr .i64 (s : Int) (i : Int)) 1 == 1) = s.testBit i := by
  rw [nbitv h hi]; cases s.testBit i <;> rfl
theorem nbit0 {s i : Nat} (h : s < 4611686018427387904) (hi : i ≤ 60) : (band .i64 (bshr .i64 (s : Int) (i : Int)) 1 == 0) = !s.testBit i := by
  rw [nbitv h hi]; cases s.testBit i <;> rfl
theorem ntm {s i : Nat} (hi : i ≤ 60) : Int.tmod (bshr .i64 (s : Int) (i : Int)) 2 = if s.testBit i = true then 1 else 0 := by
  rw [nshr hi, Int.tmod_eq_emod_of_nonneg (Int.natCast_nonneg _), Nat.testBit_eq_decide_div_mod_eq, Nat.shiftRight_eq_div_pow, show (2 : Int) = ((2 : Nat) : Int) from rfl, ← Int.natCast_emod]
  have := Nat.mod_two_eq_zero_or_one (s / 2 ^ i)
  rcases this with h | h <;> rw [h] <;> rfl
theorem ntm1 {s i : Nat} (hi : i ≤ 60) : (Int.tmod (bshr .i64 (s : Int) (i : Int)) 2 == 1) = s.testBit i := by
  rw [ntm hi]; cases s.testBit i <;> rfl
theorem pow_bit (k i : Nat) : (2 ^ k).testBit i = decide (i = k) := by
  rw [Nat.testBit_two_pow]
  by_cases h : k = i
  · rw [decide_eq_true h, decide_eq_true h.symm]
  · rw [decide_eq_false h, decide_eq_false (fun q => h q.symm)]
theorem ndiff_zero {a b : Nat} : ndiff a b = 0 ↔ ∀ i, a.testBit i = true → b.testBit i = true := by
  constructor
  · intro h i hi
    have := ndiff_bit a b i
    rw [h, Nat.zero_testBit, hi, Bool.true_and] at this
    simpa using this.symm
  · intro h
    refine Nat.eq_of_testBit_eq fun i => ?_
    rw [ndiff_bit, Nat.zero_testBit]
    cases e : a.testBit i
    · rfl
    · rw [h i e]; rfl
theorem bits_eq {a b : Nat} (h : ∀ i, a.testBit i = b.testBit i) : a = b := Nat.eq_of_testBit_eq h
theorem small_pow {k : Nat} (h : k ≤ 8) : 2 ^ k ≤ 256 := Nat.pow_le_pow_right (n := 2) (by omega) h
def TB (t : Ar 8) (r : Nat → Nat → Bool) : Prop := ∀ b : Nat, b < 8 → ∃ m : Nat, t.at1 (b : Int) = (m : Int) ∧ m < 256 ∧ ∀ a, m.testBit a = r a b
theorem TB_zero : TB (Ar.zero 8) fun _ _ => false := fun b hb => ⟨0, by
  show (List.replicate 8 (0 : Int)).getD (b : Int).toNat 0 = 0
  rw [Int.toNat_natCast, List.getD_eq_getElem?_getD, List.getElem?_replicate, if_pos hb]; rfl, by omega, fun a => Nat.zero_testBit a⟩
theorem at1_st1 (t : Ar 8) {b c : Nat} (hb : b < 8) (v : Int) : (t.st1 (b : Int) v).at1 (c : Int) = if c = b then v else t.at1 (c : Int) := by
  show (t.l.set (b : Int).toNat v).getD (c : Int).toNat 0 = _
  rw [Int.toNat_natCast, Int.toNat_natCast, List.getD_eq_getElem?_getD, List.getElem?_set]
  by_cases h : c = b
  · subst h; rw [if_pos rfl, if_pos rfl, if_pos (by rw [t.h]; exact hb)]; rfl
  · rw [if_neg (fun q => h q.symm), if_neg h]
    show _ = t.l.getD (c : Int).toNat 0
    rw [Int.toNat_natCast, List.getD_eq_getElem?_getD]
theorem TB_set {t : Ar 8} {r : Nat → Nat → Bool} (h : TB t r) {b : Nat} (hb : b < 8) {m : Nat} (hm : m < 256) : TB (t.st1 (b : Int) (m : Int)) fun a c => if c = b then m.testBit a else r a c := by
  intro c hc
  rw [at1_st1 t hb]
  by_cases e : c = b
  · rw [if_pos e]; exact ⟨m, rfl, hm, fun a => (if_pos e).symm⟩
  · rw [if_neg e]
    obtain ⟨q, h1, h2, h3⟩ := h c hc
    exact ⟨q, h1, h2, fun a => (h3 a).trans (if_neg e).symm⟩
theorem TB_congr {t : Ar 8} {r r' : Nat → Nat → Bool} (h : TB t r) (e : ∀ a b, b < 8 → r a b = r' a b) : TB t r' := fun b hb => by
  obtain ⟨q, h1, h2, h3⟩ := h b hb
  exact ⟨q, h1, h2, fun a => by rw [h3, e a b hb]⟩
theorem TB_or {t : Ar 8} {r : Nat → Nat → Bool} (h : TB t r) {b : Nat} (hb : b < 8) {m : Nat} (hm : m < 256) : TB (t.st1 (b : Int) (bor .i64 (t.at1 (b : Int)) (m : Int))) fun a c => r a c || (decide (c = b) && m.testBit a) := by
  obtain ⟨q, h1, h2, h3⟩ := h b hb
  rw [h1, nbor (by omega) (by omega)]
  refine TB_congr (TB_set h hb (m := q ||| m) (Nat.or_lt_two_pow (n := 8) h2 hm)) fun a c hc => ?_
  by_cases e : c = b
  · subst e; rw [if_pos rfl, Nat.testBit_or, h3, decide_eq_true rfl, Bool.true_and]
  · rw [if_neg e, decide_eq_false e, Bool.false_and, Bool.or_false]
theorem TB_bit {t : Ar 8} {r : Nat → Nat → Bool} (h : TB t r) {a b : Nat} (hb : b < 8) (ha : a ≤ 60) : (band .i64 (bshr .i64 (t.at1 (b : Int)) (a : Int)) 1 == 1) = r a b := by
  obtain ⟨q, h1, h2, h3⟩ := h b hb
  rw [h1, nbit1 (by omega) ha, h3]
end Go.Proofs.YtlmboonbfhkfnaaDoor
namespace Go.Proofs.YtlmboonbfhkfnaaDoor
open Go Go.Eng
set_option maxRecDepth 100000
theorem getD_ltD {α : Type} [Inhabited α] {l : List α} {k : Nat} (h : k < l.length) : l.getD k default = l[k] := by simp [List.getD_eq_getElem?_getD, h]
theorem getD_memD {α : Type} [Inhabited α] {l : List α} {k : Nat} (h : k < l.length) : l.getD k default ∈ l := by rw [getD_ltD h]; exact List.getElem_mem h
theorem take_getD {α : Type} [Inhabited α] {l : List α} {k : Nat} (h : k < l.length) : l.take (k + 1) = l.take k ++ [l.getD k default] := by
  rw [List.take_succ_eq_append_getElem h, getD_ltD h]
theorem mem_get {α : Type} [Inhabited α] {l : List α} {x : α} (h : x ∈ l) : ∃ k, k < l.length ∧ l.getD k default = x := by
  obtain ⟨k, hk, e⟩ := List.getElem_of_mem h
  exact ⟨k, hk, by rw [getD_ltD hk, e]⟩
def Rc (P : List (Int × Int)) (a b : Nat) : Prop := ∀ S : Nat → Nat → Prop, (∀ x y : Nat, ((x : Int), (y : Int)) ∈ P → S x y) → (∀ x y z, S x y → S y z → S x z) → S a b
theorem Rc_p {P : List (Int × Int)} {a b : Nat} (h : ((a : Int), (b : Int)) ∈ P) : Rc P a b := fun _ h1 _ => h1 a b h
theorem Rc_t {P : List (Int × Int)} {a b c : Nat} (h : Rc P a b) (g : Rc P b c) : Rc P a c := fun S h1 h2 => h2 a b c (h S h1 h2) (g S h1 h2)
def PairV (N : Int) (p : Int × Int) : Prop := (0 ≤ p.1 ∧ p.1 < N) ∧ (0 ≤ p.2 ∧ p.2 < N) ∧ p.1 ≠ p.2
instance (N : Int) (p : Int × Int) : Decidable (PairV N p) := by unfold PairV; infer_instance
structure Fm (o : TOrder) : Prop where
  N : 0 ≤ o.N ∧ o.N ≤ 8
  len : o.Pairs.length ≤ 28
  el : ∀ p ∈ o.Pairs, PairV o.N p
theorem Formed1_ok (p : Int × Int) (o : TOrder) : order_Formed_1_F p o = some (!decide (PairV o.N p)) := by
  have key : ∀ v : Bool, (v = true ↔ ¬PairV o.N p) → some v = some (!decide (PairV o.N p)) := fun v hv => by
    congr 1
    by_cases c : PairV o.N p
    · rw [decide_eq_true c]; exact Bool.eq_false_iff.2 fun q => hv.1 q c
    · rw [decide_eq_false c]; exact hv.2 c
  unfold order_Formed_1_F
  simp only [jn_d, cn_dec, imin, imax]
  by_cases c1 : (if p.2 < p.1 then p.2 else p.1) < 0
  · rw [if_pos c1]
    exact key _ ⟨fun _ h => by unfold PairV at h; split at c1 <;> omega, fun _ => rfl⟩
  rw [if_neg c1]
  by_cases c2 : (if p.2 > p.1 then p.2 else p.1) ≥ o.N
  · rw [if_pos c2]
    exact key _ ⟨fun _ h => by unfold PairV at h; split at c2 <;> omega, fun _ => rfl⟩
  rw [if_neg c2]
  refine key _ ?_
  rw [beq_iff_eq]; unfold PairV
  split at c1 <;> split at c2 <;> omega
theorem IndexFunc_ok (l : List (Int × Int)) (o : TOrder) (hl : l.length ≤ 1048576) : ∃ i, slices_IndexFunc_2int_69_F l o = some i ∧ (i ≥ 0 ↔ ∃ p ∈ l, ¬PairV o.N p) := by
  obtain ⟨y, e, hy⟩ := lp_runF (body := slices_IndexFunc_2int_69_b1 l o) (fun s => ∃ k : Nat, s = (k : Int) ∧ k ≤ l.length ∧ ∀ j, j < k → PairV o.N (l.getD j default)) (fun s => l.length - s.toNat)
    (fun y => match y with | .inl _ => ∀ p ∈ l, PairV o.N p | .inr r => r ≥ 0 ∧ ∃ p ∈ l, ¬PairV o.N p)
    (fun s ⟨k, hs, hk, hj⟩ => by
      subst hs
      unfold slices_IndexFunc_2int_69_b1
      simp only [cn_dec]
      by_cases c : k < l.length
      · rw [if_pos (by omega), ix_n c, Formed1_ok, bd_s, cn_not, cn_dec]
        by_cases q : PairV o.N (l.getD k default)
        · rw [if_pos q, wr_id (by omega) (by omega)]
          exact .inl ⟨_, rfl, ⟨k + 1, by omega, c, fun j h => by
            by_cases e : j < k
            · exact hj j e
            · rw [show j = k by omega]; exact q⟩, by omega⟩
        · rw [if_neg q]
          exact .inr (.inr ⟨_, rfl, by omega, _, getD_memD c, q⟩)
      · rw [if_neg (by omega)]
        refine .inr (.inl ⟨_, rfl, fun p hp => ?_⟩)
        obtain ⟨j, h1, rfl⟩ := mem_get hp
        exact hj j (by omega)) 0 ⟨0, rfl, Nat.zero_le _, fun j h => absurd h (Nat.not_lt_zero _)⟩ (by omega)
  unfold slices_IndexFunc_2int_69_F
  rw [e, bd_s]
  cases y with
  | inl s =>
    rw [smK_l]
    exact ⟨_, rfl, ⟨fun h => absurd h (by omega), fun ⟨p, h1, h2⟩ => absurd (hy p h1) h2⟩⟩
  | inr r =>
    rw [smK_r]
    exact ⟨_, rfl, ⟨fun _ => hy.2, fun _ => hy.1⟩⟩
theorem Formed_ok (o : TOrder) (hl : o.Pairs.length ≤ 9223372036854775807) : ∃ v, order_Formed_F o = some v ∧ (v = true ↔ Fm o) := by
  unfold order_Formed_F
  simp only [jn_d, cn_dec]
  by_cases c1 : o.N < 0
  · rw [if_pos c1, cn_t]; exact ⟨_, rfl, ⟨fun h => (by cases h), fun h => by have := h.N; omega⟩⟩
  rw [if_neg c1]
  by_cases c2 : o.N > 8
  · rw [if_pos c2, cn_t]; exact ⟨_, rfl, ⟨fun h => (by cases h), fun h => by have := h.N; omega⟩⟩
  rw [if_neg c2]
  by_cases c3 : (o.Pairs.length : Int) > 28
  · rw [if_pos c3]; exact ⟨_, rfl, ⟨fun h => (by cases h), fun h => by have := h.len; omega⟩⟩
  rw [if_neg c3]
  obtain ⟨i, e, hi⟩ := IndexFunc_ok o.Pairs o (by omega)
  unfold slices_ContainsFunc_2int_69_F
  rw [e, bd_s, bd_s]
  refine ⟨_, rfl, ?_⟩
  simp only [Bool.not_eq_true', decide_eq_false_iff_not]
  constructor
  · intro h
    exact ⟨by omega, by omega, fun p hp => Decidable.byContradiction fun q => h (hi.2 ⟨p, hp, q⟩)⟩
  · intro h q
    obtain ⟨p, h1, h2⟩ := hi.1 q
    exact h2 (h.el p h1)
theorem closed_ok {o : TOrder} (h : Fm o) : ∃ t v r, order_closed_F o = some (t, v) ∧ TB t r ∧ (∀ a b : Nat, b < 8 → (r a b = true ↔ Rc o.Pairs a b)) ∧ (v = true ↔ ∀ a : Nat, ¬Rc o.Pairs a a) := by
  obtain ⟨n, hn⟩ : ∃ n : Nat, o.N = (n : Int) := ⟨o.N.toNat, by have := h.N; omega⟩
  have n8 : n ≤ 8 := by have := h.N; omega
  have hel : ∀ k, k < o.Pairs.length → ∃ a b : Nat, o.Pairs.getD k default = ((a : Int), (b : Int)) ∧ a < n ∧ b < n := fun k hk => by
    obtain ⟨h1, h2, _⟩ := h.el _ (getD_memD hk)
    exact ⟨_, _, Prod.ext (Int.toNat_of_nonneg h1.1).symm (Int.toNat_of_nonneg h2.1).symm, by omega, by omega⟩
  have hin : ∀ a b, Rc o.Pairs a b → a < n ∧ b < n := fun a b g => g (fun a b => a < n ∧ b < n) (fun x y hxy => by
    obtain ⟨h1, h2, _⟩ := h.el _ hxy
    exact ⟨by simp only at h1; omega, by simp only at h2; omega⟩) (fun x y z g1 g2 => ⟨g1.1, g2.2⟩)
  obtain ⟨s1, e1, i1, r0, T0, H0⟩ := lp_fold (body := order_closed_b1 o) (fun k s => s.1 = (k : Int) ∧ ∃ r, TB s.2 r ∧ ∀ a b : Nat, b < 8 → (r a b = true ↔ ((a : Int), (b : Int)) ∈ o.Pairs.take k)) o.Pairs.length (by have := h.len; omega)
    (fun k s hk ⟨hs, r, T, H⟩ => by
      obtain ⟨i, t⟩ := s
      simp only at hs T
      subst hs
      obtain ⟨a, b, he, ha, hb⟩ := hel k hk
      unfold order_closed_b1
      simp only [cn_dec]
      have := h.len
      rw [if_pos (by omega), ix_n hk, he, gd_p _ (by omega), gd_p _ (by omega), gd_p _ (by omega), wr_id (by omega) (by omega)]
      have T' := TB_or T (b := b) (by omega) (m := 2 ^ a) (Nat.pow_lt_pow_right (n := 8) (by omega) (by omega))
      rw [← nshl (by omega)] at T'
      refine ⟨_, rfl, by simp only; omega, _, T', ?_⟩
      · intro x y hy
        rw [take_getD hk, he, List.mem_append, List.mem_singleton, Bool.or_eq_true, H x y hy, pow_bit, Bool.and_eq_true, decide_eq_true_eq, decide_eq_true_eq]
        refine or_congr_right ?_
        rw [Prod.mk.injEq]
        omega) (fun s ⟨hs, _⟩ => by
      unfold order_closed_b1
      simp only [cn_dec]
      rw [if_neg (by omega)]) (0, Ar.zero 8) ⟨rfl, _, TB_zero, fun a b _ => by simp⟩
  rw [List.take_length] at H0
  obtain ⟨s2, e2, i2, r, T2, L2, S2, C2⟩ := lp_fold (body := order_closed_b2 o) (fun k s => s.1 = (k : Int) ∧ ∃ r, TB s.2 r ∧ (∀ a b : Nat, b < 8 → r0 a b = true → r a b = true) ∧ (∀ a b : Nat, b < 8 → r a b = true → Rc o.Pairs a b) ∧ ∀ j a b : Nat, j < k → b < 8 → r a j = true → r j b = true → r a b = true) n (by omega)
    (fun k s hk ⟨hs, r, T, L, S, C⟩ => by
      obtain ⟨i, t⟩ := s
      simp only at hs T
      subst hs
      obtain ⟨s3, e3, i3, T3⟩ := lp_fold (body := order_closed_b3 o ((k : Int), t)) (fun m s => s.1 = (m : Int) ∧ TB s.2 fun a b => r a b || (decide (b < m) && r a k && r k b)) n (by omega)
        (fun m s hm ⟨hs, T⟩ => by
          obtain ⟨i, u⟩ := s
          simp only at hs T
          subst hs
          unfold order_closed_b3
          simp only [cn_dec, jn_d]
          rw [if_pos (by omega), gd_p _ (by omega), gd_p _ (by omega), TB_bit T (by omega) (by omega), cn_if, wr_id (by omega) (by omega)]
          simp only [Nat.lt_irrefl, decide_false, Bool.false_and, Bool.or_false]
          by_cases c : r k m = true
          · rw [if_pos c, gd_p _ (by omega), gd_p _ (by omega), gd_p _ (by omega)]
            refine ⟨_, rfl, by simp only; omega, ?_⟩
            obtain ⟨q, h1, h2, h3⟩ := T k (by omega)
            simp only
            rw [h1]
            refine TB_congr (TB_or T (by omega) h2) fun a b hb => ?_
            have h4 : q.testBit a = r a k := by
              rw [h3]; show (r a k || decide (k < m) && r a k && r k k) = r a k; cases r a k <;> simp
            rw [h4]
            by_cases e : b = m
            · subst e
              rw [c, decide_eq_true rfl, Bool.true_and, decide_eq_false (Nat.lt_irrefl _), decide_eq_true (Nat.lt_succ_self _)]
              cases r a b <;> cases r a k <;> simp
            · rw [decide_eq_false e, Bool.false_and, Bool.or_false]
              by_cases g : b < m
              · rw [decide_eq_true g, decide_eq_true (by omega)]
              · rw [decide_eq_false g, decide_eq_false (by omega)]
          · rw [if_neg c]
            refine ⟨_, rfl, by simp only; omega, TB_congr T fun a b hb => ?_⟩
            by_cases e : b = m
            · subst e
              rw [Bool.eq_false_iff.2 c, Bool.and_false, Bool.and_false]
            · by_cases g : b < m
              · rw [decide_eq_true g, decide_eq_true (by omega)]
              · rw [decide_eq_false g, decide_eq_false (by omega)]) (fun s ⟨hs, _⟩ => by
          unfold order_closed_b3
          simp only [cn_dec]
          rw [if_neg (by omega)]) (0, t) ⟨rfl, TB_congr T fun a b _ => by simp⟩
      unfold order_closed_b2
      simp only [cn_dec]
      rw [if_pos (by omega), e3, bd_s, smK_l, wr_id (by omega) (by omega)]
      refine ⟨_, rfl, by simp only; omega, _, T3, ?_, ?_, ?_⟩
      · intro a b hb g
        rw [L a b hb g]; rfl
      · intro a b hb g
        rw [Bool.or_eq_true, Bool.and_eq_true, Bool.and_eq_true] at g
        rcases g with g | ⟨⟨_, g1⟩, g2⟩
        · exact S a b hb g
        · exact Rc_t (S a k (by omega) g1) (S k b hb g2)
      · intro j a b hj hb g1 g2
        have key : ∀ x y, y < 8 → ((r x y || (decide (y < n) && r x k && r k y)) = true ↔ r x y = true ∨ r x k = true ∧ r k y = true) := fun x y hy => by
          rw [Bool.or_eq_true, Bool.and_eq_true, Bool.and_eq_true, decide_eq_true_eq]
          constructor
          · rintro (g | ⟨⟨_, g1⟩, g2⟩)
            · exact .inl g
            · exact .inr ⟨g1, g2⟩
          · rintro (g | ⟨g1, g2⟩)
            · exact .inl g
            · exact .inr ⟨⟨(hin _ _ (S k y hy g2)).2, g1⟩, g2⟩
        rw [key _ _ hb]
        rw [key _ _ (by omega)] at g1
        rw [key _ _ hb] at g2
        by_cases e : j = k
        · subst e
          refine .inr ⟨?_, ?_⟩
          · rcases g1 with g | ⟨g, _⟩ <;> exact g
          · rcases g2 with g | ⟨_, g⟩ <;> exact g
        · have hj' : j < k := by omega
          rcases g1 with g1 | ⟨g1, g1'⟩
          · rcases g2 with g2 | ⟨g2, g2'⟩
            · exact .inl (C j a b hj' hb g1 g2)
            · exact .inr ⟨C j a k hj' (by omega) g1 g2, g2'⟩
          · rcases g2 with g2 | ⟨g2, g2'⟩
            · exact .inr ⟨g1, C j k b hj' hb g1' g2⟩
            · exact .inr ⟨g1, g2'⟩) (fun s ⟨hs, _⟩ => by
      unfold order_closed_b2
      simp only [cn_dec]
      rw [if_neg (by omega)]) (0, s1.2) ⟨rfl, r0, T0, fun _ _ _ g => g, fun a b hb g => Rc_p ((H0 a b hb).1 g), fun j a b hj => absurd hj (Nat.not_lt_zero _)⟩
  have full : ∀ a b : Nat, b < 8 → (r a b = true ↔ Rc o.Pairs a b) := fun a b hb => ⟨S2 a b hb, fun g => by
    refine (g (fun a b => b < n ∧ r a b = true) (fun x y hxy => ?_) (fun x y z g1 g2 => ?_)).2
    · have := hin _ _ (Rc_p hxy)
      exact ⟨this.2, L2 x y (by omega) ((H0 x y (by omega)).2 hxy)⟩
    · exact ⟨g2.1, C2 y x z g1.1 (by omega) g1.2 g2.2⟩⟩
  obtain ⟨y, e4, hy⟩ := lp_runF (body := order_closed_b4 o s2) (fun s => ∃ k : Nat, s.1 = (k : Int) ∧ k ≤ n ∧ ∀ j, j < k → r j j = false) (fun s => n - s.1.toNat)
    (fun y => match y with | .inl _ => ∀ j, j < n → r j j = false | .inr q => q = (s2.2, false) ∧ ∃ j, j < n ∧ r j j = true)
    (fun s ⟨k, hs, hk, hj⟩ => by
      obtain ⟨i, t⟩ := s
      simp only at hs
      subst hs
      unfold order_closed_b4
      simp only [cn_dec]
      by_cases c : k < n
      · rw [if_pos (by omega), gd_p _ (by omega), gd_p _ (by omega), TB_bit T2 (by omega) (by omega), cn_if]
        by_cases q : r k k = true
        · rw [if_pos q]; exact .inr (.inr ⟨_, rfl, rfl, k, c, q⟩)
        · rw [if_neg q, wr_id (by omega) (by omega)]
          exact .inl ⟨_, rfl, ⟨k + 1, rfl, c, fun j h => by
            by_cases e : j < k
            · exact hj j e
            · rw [show j = k by omega]; exact Bool.eq_false_iff.2 q⟩, by simp only; omega⟩
      · rw [if_neg (by omega)]
        exact .inr (.inl ⟨_, rfl, fun j h => hj j (by omega)⟩)) (0, Ar.zero 8) ⟨0, rfl, Nat.zero_le _, fun j h => absurd h (Nat.not_lt_zero _)⟩ (by simp only; omega)
  unfold order_closed_F
  rw [e1, bd_s, smK_l, e2, bd_s, smK_l, e4, bd_s]
  cases y with
  | inl s =>
    rw [smK_l]
    refine ⟨_, _, r, rfl, T2, full, ⟨fun _ a g => ?_, fun _ => rfl⟩⟩
    have hl := (hin _ _ g).1
    have := (full a a (by omega)).2 g
    rw [hy a hl] at this; cases this
  | inr q =>
    obtain ⟨rfl, j, hj, hjj⟩ := hy
    rw [smK_r]
    refine ⟨_, _, r, rfl, T2, full, ⟨fun g => (by cases g), fun g => absurd ((full j j (by omega)).1 hjj) (g j)⟩⟩
structure OV (o : TOrder) (n : Nat) (t : Ar 8) (r : Nat → Nat → Bool) : Prop where
  fm : Fm o
  N : o.N = (n : Int)
  n8 : n ≤ 8
  rd : order_read_F o = some (t, true)
  tb : TB t r
  lt : ∀ a b, r a b = true → a < n ∧ b < n
  ir : ∀ a, r a a = false
  tr : ∀ a b c, r a b = true → r b c = true → r a c = true
  rc : ∀ a b, r a b = true ↔ Rc o.Pairs a b
def Vd (o : TOrder) : Prop := Fm o ∧ ∀ a : Nat, ¬Rc o.Pairs a a
theorem read_ok (o : TOrder) (hl : o.Pairs.length ≤ 9223372036854775807) : (Vd o ∧ ∃ n t r, OV o n t r) ∨ (¬Vd o ∧ ∃ t, order_read_F o = some (t, false)) := by
  obtain ⟨v, e, hv⟩ := Formed_ok o hl
  by_cases c : Fm o
  · obtain ⟨t, w, r, e2, T, R, hw⟩ := closed_ok c
    have er : order_read_F o = some (t, w) := by
      unfold order_read_F
      rw [e, bd_s, hv.2 c, cn_not, cn_t, e2, bd_s]
    by_cases g : ∀ a : Nat, ¬Rc o.Pairs a a
    · obtain ⟨n, hn⟩ : ∃ n : Nat, o.N = (n : Int) := ⟨o.N.toNat, by have := c.N; omega⟩
      have n8 : n ≤ 8 := by have := c.N; omega
      have hin : ∀ a b, Rc o.Pairs a b → a < n ∧ b < n := fun a b g => g (fun a b => a < n ∧ b < n) (fun x y hxy => by
        obtain ⟨h1, h2, _⟩ := c.el _ hxy
        exact ⟨by simp only at h1; omega, by simp only at h2; omega⟩) (fun x y z g1 g2 => ⟨g1.1, g2.2⟩)
      have R' : ∀ a b, (decide (b < 8) && r a b) = true ↔ Rc o.Pairs a b := fun a b => by
        rw [Bool.and_eq_true, decide_eq_true_eq]
        exact ⟨fun ⟨h1, h2⟩ => (R a b h1).1 h2, fun h => by
          have := hin a b h
          exact ⟨by omega, (R a b (by omega)).2 h⟩⟩
      refine .inl ⟨⟨c, g⟩, n, t, fun a b => decide (b < 8) && r a b, c, hn, n8, by rw [er, hw.2 g], TB_congr T fun a b hb => by rw [decide_eq_true hb, Bool.true_and], fun a b h => hin _ _ ((R' a b).1 h), fun a => Bool.eq_false_iff.2 fun h => g a ((R' a a).1 h), fun a b d h1 h2 => (R' a d).2 (Rc_t ((R' a b).1 h1) ((R' b d).1 h2)), R'⟩
    · refine .inr ⟨fun h => g h.2, t, ?_⟩
      rw [er, Bool.eq_false_iff.2 fun q => g (hw.1 q)]
  · refine .inr ⟨fun h => c h.1, Ar.zero 8, ?_⟩
    unfold order_read_F
    rw [e, bd_s, Bool.eq_false_iff.2 fun q => c (hv.1 q), cn_not, cn_f]
theorem Before_ok {o : TOrder} {n : Nat} {t : Ar 8} {r : Nat → Nat → Bool} (h : OV o n t r) (a b : Int) : order_Before_F o a b = some (decide (0 ≤ a ∧ 0 ≤ b) && r a.toNat b.toNat) := by
  have hN := h.N; have h8 := h.n8
  unfold order_Before_F
  rw [h.rd, bd_s]
  simp only [jn_d, cn_t, cn_dec, imin, imax]
  by_cases c : (0 ≤ a ∧ 0 ≤ b) ∧ a < n ∧ b < n
  · rw [if_pos (by split <;> omega), if_pos (by split <;> omega), gd_p _ (by omega), gd_p _ (by omega), decide_eq_true c.1, Bool.true_and]
    obtain ⟨x, rfl⟩ : ∃ x : Nat, a = (x : Int) := ⟨a.toNat, by omega⟩
    obtain ⟨y, rfl⟩ : ∃ y : Nat, b = (y : Int) := ⟨b.toNat, by omega⟩
    rw [TB_bit h.tb (by omega) (by omega), Int.toNat_natCast, Int.toNat_natCast]
  · have e : (decide (0 ≤ a ∧ 0 ≤ b) && r a.toNat b.toNat) = false := Bool.eq_false_iff.2 fun g => by
      rw [Bool.and_eq_true, decide_eq_true_eq] at g
      have := h.lt _ _ g.2
      omega
    rw [e]
    by_cases d1 : (if b < a then b else a) ≥ 0
    · rw [if_pos d1, if_neg fun d2 => c (by split at d1 <;> split at d2 <;> omega)]
    · rw [if_neg d1]
theorem Before_n {o : TOrder} {n : Nat} {t : Ar 8} {r : Nat → Nat → Bool} (h : OV o n t r) (a b : Nat) : order_Before_F o (a : Int) (b : Int) = some (r a b) := by
  rw [Before_ok h, decide_eq_true (by omega), Bool.true_and, Int.toNat_natCast, Int.toNat_natCast]
end Go.Proofs.YtlmboonbfhkfnaaDoor
namespace Go.Proofs.YtlmboonbfhkfnaaDoor
open Go Go.Eng
set_option maxRecDepth 100000
def sm : Nat → (Nat → Nat) → Nat
  | 0, _ => 0
  | n + 1, f => sm n f + f n
theorem sm_congr : ∀ {n : Nat} {f g : Nat → Nat}, (∀ i, i < n → f i = g i) → sm n f = sm n g
  | 0, _, _, _ => rfl
  | n + 1, f, g, h => by
    show sm n f + f n = sm n g + g n
    rw [sm_congr fun i hi => h i (by omega), h n (by omega)]
theorem sm_le : ∀ {n : Nat} {f g : Nat → Nat}, (∀ i, i < n → f i ≤ g i) → sm n f ≤ sm n g
  | 0, _, _, _ => Nat.le_refl _
  | n + 1, f, g, h => by
    show sm n f + f n ≤ sm n g + g n
    have := sm_le (n := n) fun i hi => h i (by omega)
    have := h n (by omega)
    omega
theorem sm_add : ∀ (n : Nat) (f g : Nat → Nat), sm n (fun i => f i + g i) = sm n f + sm n g
  | 0, _, _ => rfl
  | n + 1, f, g => by
    show sm n (fun i => f i + g i) + (f n + g n) = sm n f + f n + (sm n g + g n)
    rw [sm_add n f g]; omega
theorem sm_zero : ∀ (n : Nat), sm n (fun _ => 0) = 0
  | 0 => rfl
  | n + 1 => by show sm n (fun _ => 0) + 0 = 0; rw [sm_zero n]
theorem sm_toNat_le {n : Nat} {f : Nat → Bool} : sm n (fun b => (f b).toNat) ≤ n := by
  have h := sm_le (n := n) (f := fun b => (f b).toNat) (g := fun _ => 1) fun i _ => by cases f i <;> simp
  have e : ∀ n : Nat, sm n (fun _ => 1) = n := fun n => by
    induction n with
    | zero => rfl
    | succ n ih => show sm n (fun _ => 1) + 1 = n + 1; rw [ih]
  rw [e] at h; exact h
def cv (n : Nat) (r : Nat → Nat → Bool) (a b : Nat) : Bool := r a b && !(List.range n).any fun k => r a k && r k b
end Go.Proofs.YtlmboonbfhkfnaaDoor
namespace Go.Proofs.YtlmboonbfhkfnaaDoor
open Go Go.Eng
set_option maxRecDepth 100000
theorem lp_scan {R : Type} {body : Int → Option (Ct Int R)} (a N : Nat) (ha : a ≤ N) (hN : N ≤ 9223372036854775807) (bad : Nat → Bool) (v : Nat → R)
    (step : ∀ k, a ≤ k → k < N → (∀ j, a ≤ j → j < k → bad j = false) → body (k : Int) = some (if bad k = true then .rt (v k) else .nx ((k : Int) + 1))) (stop : body (N : Int) = some (.bk (N : Int))) :
    ((∀ k, a ≤ k → k < N → bad k = false) ∧ lp body FU (a : Int) = some (.inl (N : Int))) ∨ ∃ k, a ≤ k ∧ k < N ∧ bad k = true ∧ (∀ j, a ≤ j → j < k → bad j = false) ∧ lp body FU (a : Int) = some (.inr (v k)) := by
  obtain ⟨y, e, hy⟩ := lp_runF (body := body) (fun s => ∃ k : Nat, s = (k : Int) ∧ a ≤ k ∧ k ≤ N ∧ ∀ j, a ≤ j → j < k → bad j = false) (fun s => N - s.toNat)
    (fun y => ((∀ k, a ≤ k → k < N → bad k = false) ∧ y = .inl (N : Int)) ∨ ∃ k, a ≤ k ∧ k < N ∧ bad k = true ∧ (∀ j, a ≤ j → j < k → bad j = false) ∧ y = .inr (v k))
    (fun s ⟨k, hs, h1, h2, h3⟩ => by
      subst hs
      by_cases c : k < N
      · rw [step k h1 c h3]
        by_cases q : bad k = true
        · rw [if_pos q]; exact .inr (.inr ⟨_, rfl, .inr ⟨k, h1, c, q, h3, rfl⟩⟩)
        · rw [if_neg q]
          exact .inl ⟨_, rfl, ⟨k + 1, by omega, by omega, c, fun j g1 g2 => by
            by_cases e : j < k
            · exact h3 j g1 e
            · rw [show j = k by omega]; exact Bool.eq_false_iff.2 q⟩, by omega⟩
      · obtain rfl : k = N := by omega
        rw [stop]
        exact .inr (.inl ⟨_, rfl, .inl ⟨h3, rfl⟩⟩)) (a : Int) ⟨a, rfl, Nat.le_refl _, ha, fun j g1 g2 => absurd g2 (by omega)⟩ (by omega)
  rw [e]
  rcases hy with ⟨h, rfl⟩ | ⟨k, h1, h2, h3, h4, rfl⟩
  · exact .inl ⟨h, rfl⟩
  · exact .inr ⟨k, h1, h2, h3, h4, rfl⟩
theorem TOrder_eq {a b : TOrder} (h1 : a.N = b.N) (h2 : a.Pairs = b.Pairs) : a = b := by cases a; cases b; simp_all
instance : DecidableEq TOrder := fun a b => if h : a.N = b.N ∧ a.Pairs = b.Pairs then .isTrue (TOrder_eq h.1 h.2) else .isFalse fun e => h (by subst e; exact ⟨rfl, rfl⟩)
theorem pick_law (c n : Int) (hc : okI c) (hn : 0 < n) : law07_pick_F c n = some (pickZ c n) := by
  unfold law07_pick_F
  simp only [jn_d, cn_if, decide_eq_true_eq]
  rw [gd_p _ (by simpa using Int.ne_of_gt hn), gd_p _ (by simpa using Int.ne_of_gt hn)]
  rw [← pickZ_eq c n hc.1 hc.2 hn]
  split <;> rfl
theorem pick_ref (c n : Int) (hc : okI c) (hn : 0 < n) : ref07_pick_F c n = some (pickZ c n) := pick_law c n hc hn
theorem pick_n (c : Int) {n : Nat} (hc : okI c) (hn : 0 < n) : ∃ k : Nat, k < n ∧ law07_pick_F c (n : Int) = some (k : Int) := by
  obtain ⟨h1, h2⟩ := pickZ_lt c (n := (n : Int)) (by omega)
  exact ⟨(pickZ c n).toNat, by omega, by rw [pick_law c n hc (by omega), Int.toNat_of_nonneg h1]⟩
theorem okL_get {α : Type} [Inhabited α] {ok : α → Prop} {l : List α} (h : okL ok l) {k : Nat} (hk : k < l.length) : ok (l.getD k default) := h.1 _ (getD_memD hk)
def ints (l : List Nat) : List Int := l.map fun (x : Nat) => (x : Int)
theorem ints_len (l : List Nat) : (ints l).length = l.length := List.length_map _
theorem ints_app (l m : List Nat) : ints (l ++ m) = ints l ++ ints m := List.map_append
theorem ints_getD {l : List Nat} {k : Nat} (h : k < l.length) : (ints l).getD k default = ((l.getD k default : Nat) : Int) := by
  rw [getD_ltD (by rw [ints_len]; exact h), getD_ltD h]; simp [ints]
theorem turn_ne {a b n : Int} (ha : 0 ≤ a ∧ a < n) (hb : 0 ≤ b ∧ b < n - 1) : let t := Int.tmod (a + 1 + b) n; (0 ≤ t ∧ t < n) ∧ a ≠ t := by
  have hn : 0 < n := by omega
  simp only
  rw [Int.tmod_eq_emod_of_nonneg (by omega)]
  by_cases q : a + 1 + b < n
  · rw [Int.emod_eq_of_lt (by omega) q]; omega
  · have : (a + 1 + b) % n = a + 1 + b - n := by
      rw [← Int.sub_emod_right, Int.emod_eq_of_lt (by omega) (by omega)]
    rw [this]; omega
theorem loose_ok (a0 : Int) (x : List (Int × Int)) (o0 : okI a0) (o1 : okL okA46 x) : ∃ o, ref07_Loose_F a0 x = some o ∧ Fm o ∧ o.Pairs.length ≤ 20 := by
  unfold ref07_Loose_F
  obtain ⟨p1, p2⟩ := pickZ_lt a0 (n := 9) (by omega)
  rw [pick_ref a0 9 o0 (by omega), bd_s]
  generalize pickZ a0 9 = b0 at p1 p2 ⊢
  have hx := o1.2
  obtain ⟨y, e, hy⟩ := lp_runF (body := ref07_Loose_b1 x) (fun s => ∃ k : Nat, s.1 = (k : Int) ∧ k ≤ 20 ∧ k ≤ x.length ∧ s.2.N = b0 ∧ s.2.Pairs.length ≤ k ∧ ∀ p ∈ s.2.Pairs, PairV b0 p) (fun s => 20 - s.1.toNat)
    (fun y => match y with | .inl s => s.2.N = b0 ∧ s.2.Pairs.length ≤ 20 ∧ ∀ p ∈ s.2.Pairs, PairV b0 p | .inr _ => False)
    (fun s ⟨k, hs, hk, hkx, hN, hl, hp⟩ => by
      obtain ⟨i, N, E⟩ := s
      simp only at hs hN hl hp
      subst hs hN
      unfold ref07_Loose_b1
      simp only [jn_d, cn_dec]
      by_cases c : k < x.length ∧ k < 20 ∧ N > 1
      · obtain ⟨c1, c2, c3⟩ := c
        rw [if_pos (by omega), if_pos (by omega), if_pos c3]
        obtain ⟨o1, o2⟩ := okL_get o1 c1
        obtain ⟨q1, q2⟩ := pickZ_lt (x.getD k default).1 (n := N) (by omega)
        obtain ⟨q3, q4⟩ := pickZ_lt (x.getD k default).2 (n := N - 1) (by omega)
        simp only [ix_n c1]
        rw [pick_ref _ _ o1 (by omega), bd_s, wr_id (by omega) (by omega), pick_ref _ _ o2 (by omega), bd_s, gd_p _ (by omega), lt_d, ap_p (by simp only [List.length_cons, List.length_nil]; omega), wr_id (by omega) (by omega)]
        generalize pickZ (x.getD k default).1 N = u at *
        generalize pickZ (x.getD k default).2 (N - 1) = v at *
        obtain ⟨t1, t2⟩ := turn_ne (a := u) (b := v) (n := N) ⟨q1, q2⟩ ⟨q3, q4⟩
        rw [wr_id (x := u + 1) (by omega) (by omega), wr_id (x := u + 1 + v) (by omega) (by omega)]
        refine .inl ⟨_, rfl, ⟨k + 1, by simp only; omega, by omega, by omega, rfl, by simp only [List.length_append, List.length_cons, List.length_nil]; omega, fun p hp' => ?_⟩, by simp only; omega⟩
        rcases List.mem_append.1 hp' with hp' | hp'
        · exact hp p hp'
        · rw [List.mem_singleton.1 hp']; exact ⟨⟨q1, q2⟩, t1, t2⟩
      · refine .inr (.inl ⟨((k : Int), ⟨N, E⟩), ?_, rfl, Nat.le_trans hl hk, hp⟩)
        by_cases c1 : (k : Int) < (x.length : Int)
        · by_cases c2 : (k : Int) < 20
          · rw [if_pos c1, if_pos c2, if_neg fun c3 => c ⟨by omega, by omega, c3⟩]
          · rw [if_pos c1, if_neg c2, cn_f]
        · rw [if_neg c1, cn_f]) (0, ⟨b0, []⟩) ⟨0, rfl, by omega, by omega, rfl, by simp, by simp⟩ (by simp only; omega)
  rw [e, bd_s]
  cases y with
  | inl s =>
    obtain ⟨h1, h2, h3⟩ := hy
    rw [smK_l]
    exact ⟨_, rfl, ⟨by omega, by omega, fun p hp => by rw [h1]; exact h3 p hp⟩, h2⟩
  | inr s => exact hy.elim
theorem sub_take {α : Type} (l : List α) (k : Nat) : sub l 0 (k : Int) = l.take k := by
  unfold sub; simp
theorem sub_drop {α : Type} (l : List α) (k : Nat) : sub l (k : Int) (l.length : Int) = l.drop k := by
  unfold sub; simp
theorem made_ok (a0 : Int) (x : List (Int × Int)) (a2 : Int) (o0 : okI a0) (o1 : okL okA46 x) (o2 : okI a2) : ∃ o n t r, ref07_Made_F a0 x a2 = some o ∧ OV o n t r ∧ o.Pairs.length ≤ 20 := by
  obtain ⟨o, e0, hf, hl⟩ := loose_ok a0 x o0 o1
  have hN := hf.N
  obtain ⟨n, hn⟩ : ∃ n : Nat, o.N = (n : Int) := ⟨o.N.toNat, by omega⟩
  have n8 : n ≤ 8 := by omega
  unfold ref07_Made_F
  rw [e0, bd_s]
  obtain ⟨p1, p2⟩ := pickZ_lt a2 (n := 40320) (by omega)
  rw [pick_ref a2 40320 o2 (by omega), bd_s]
  generalize pickZ a2 40320 = m0 at p1 p2 ⊢
  obtain ⟨s1, e1, h1, h2⟩ := lp_fold (body := ref07_Made_b1 o) (fun k s => s.2 = (k : Int) ∧ s.1 = ints (List.range k)) n (by omega)
    (fun k s hk ⟨hs, hq⟩ => by
      obtain ⟨l, i⟩ := s
      simp only at hs hq
      subst hs hq
      unfold ref07_Made_b1
      simp only [cn_dec]
      rw [if_pos (by omega), lt_d, ap_p (by rw [ints_len, List.length_range]; simp only [List.length_cons, List.length_nil]; omega), wr_id (by omega) (by omega)]
      exact ⟨_, rfl, by simp only; omega, by rw [List.range_succ, ints_app]; rfl⟩) (fun s ⟨hs, _⟩ => by
      unfold ref07_Made_b1
      simp only [cn_dec]
      rw [if_neg (by omega)]) ([], 0) ⟨rfl, rfl⟩
  rw [e1, bd_s, smK_l, h2]
  obtain ⟨y, e2, hy⟩ := lp_runF (body := ref07_Made_b2) (fun s => 0 ≤ s.2.1 ∧ s.2.1 < 40320 ∧ s.1.length + s.2.2.length = n ∧ (s.1 ++ s.2.2).Nodup) (fun s => s.2.2.length)
    (fun y => match y with | .inl s => s.1.length = n ∧ s.1.Nodup | .inr _ => False)
    (fun s ⟨g1, g2, g3, g4⟩ => by
      obtain ⟨P, m, L⟩ := s
      simp only at g1 g2 g3 g4
      unfold ref07_Made_b2
      simp only [cn_dec]
      by_cases c : L.length = 0
      · rw [if_neg (by omega)]
        obtain rfl := List.length_eq_zero_iff.1 c
        exact .inr (.inl ⟨_, rfl, by simpa using g3, by simpa using g4⟩)
      · rw [if_pos (by omega), gd_p _ (by omega), gd_p _ (by omega)]
        have k1 := Int.emod_nonneg m (show (L.length : Int) ≠ 0 by omega)
        have k2 := Int.emod_lt_of_pos m (show (0 : Int) < (L.length : Int) by omega)
        have d1 : 0 ≤ m / (L.length : Int) := Int.ediv_nonneg g1 (by omega)
        have d2 : m / (L.length : Int) ≤ m := Int.ediv_le_self _ g1
        rw [Int.tmod_eq_emod_of_nonneg g1, Int.tdiv_eq_ediv_of_nonneg g1]
        generalize m / (L.length : Int) = d at d1 d2 ⊢
        obtain ⟨k, hk⟩ : ∃ k : Nat, m % (L.length : Int) = (k : Int) := ⟨(m % (L.length : Int)).toNat, by omega⟩
        rw [hk] at k1 k2 ⊢
        have hkl : k < L.length := by omega
        rw [ix_n hkl, lt_d, ap_p (by simp only [List.length_cons, List.length_nil]; omega), slc_p (by omega) (by omega) (by omega), wr_id (x := (k : Int) + 1) (by omega) (by omega), slc_p (by omega) (by omega) (by omega), wr_id (x := d) (by omega) (by omega), sub_take, show (k : Int) + 1 = ((k + 1 : Nat) : Int) by omega, sub_drop, ap_p (by simp only [List.length_take, List.length_drop]; omega)]
        have hL : L = L.take k ++ L.getD k default :: L.drop (k + 1) := by
          rw [getD_ltD hkl, ← List.drop_eq_getElem_cons hkl, List.take_append_drop]
        refine .inl ⟨_, rfl, ⟨d1, by simp only; omega, by simp only [List.length_append, List.length_cons, List.length_nil, List.length_take, List.length_drop]; omega, ?_⟩, by simp only [List.length_append, List.length_take, List.length_drop]; omega⟩
        refine (List.Perm.nodup_iff ?_).1 g4
        simp only
        rw [List.append_assoc]
        refine List.Perm.append_left P ?_
        conv => lhs; rw [hL]
        exact List.perm_middle) ([], m0, ints (List.range n)) ⟨p1, p2, by rw [ints_len, List.length_range]; simp, by
          rw [List.nil_append]
          exact List.pairwise_map.2 ((List.nodup_range (n := n)).imp fun h q => h (by omega))⟩ (by simp only; rw [ints_len, List.length_range]; omega)
  rw [e2, bd_s]
  cases y with
  | inr s => exact hy.elim
  | inl s =>
    obtain ⟨P, m, L⟩ := s
    obtain ⟨P1, P2⟩ := hy
    simp only at P1 P2
    rw [smK_l]
    have pl : ∀ z : Int, 0 ≤ z ∧ z < (n : Int) → z.toNat < P.length := fun z hz => by omega
    obtain ⟨s3, e3, q1, q2, q3, q4, q5⟩ := lp_fold (body := ref07_Made_b3 (P, m, L)) (fun k s => s.1 = (k : Int) ∧ s.2.N = (n : Int) ∧ s.2.Pairs.length = o.Pairs.length ∧ (∀ p ∈ s.2.Pairs, PairV (n : Int) p) ∧ ∀ j, j < k → P.getD ((s.2.Pairs.getD j default).1).toNat default < P.getD ((s.2.Pairs.getD j default).2).toNat default) o.Pairs.length (by omega)
      (fun k s hk ⟨hs, g1, g2, g3, g4⟩ => by
        obtain ⟨i, N, E⟩ := s
        simp only at hs g1 g2 g3 g4
        subst hs g1
        have hkE : k < E.length := by omega
        obtain ⟨v1, v2, v3⟩ := g3 _ (getD_memD hkE)
        unfold ref07_Made_b3
        simp only [cn_dec, jn_d, Int.toNat_natCast]
        rw [if_pos (by omega), gd_p _ (by omega), gd_p _ (by omega), gd_p _ (by omega), wr_id (by omega) (by omega)]
        have hne : P.getD ((E.getD k default).1).toNat default ≠ P.getD ((E.getD k default).2).toNat default := by
          rw [getD_ltD (pl _ v1), getD_ltD (pl _ v2)]
          intro q
          have := (List.getElem_inj P2).1 q
          omega
        by_cases c : P.getD ((E.getD k default).1).toNat default > P.getD ((E.getD k default).2).toNat default
        · rw [if_pos c, gd_p _ (by omega), st_d, Int.toNat_natCast]
          have set_get : ∀ j, j < E.length → (E.set k ((E.getD k default).2, (E.getD k default).1)).getD j default = if j = k then ((E.getD k default).2, (E.getD k default).1) else E.getD j default := fun j hj => by
            rw [getD_ltD (by rw [List.length_set]; exact hj), List.getElem_set, getD_ltD (l := E) hj]
            by_cases e : j = k
            · rw [if_pos e, if_pos e.symm]
            · rw [if_neg e, if_neg fun q => e q.symm]
          refine ⟨_, rfl, by simp only; omega, rfl, by simp only [List.length_set]; exact g2, fun p hp => ?_, fun j hj => ?_⟩
          · obtain ⟨j, hj, rfl⟩ := mem_get hp
            simp only [List.length_set] at hj
            rw [set_get j hj]
            by_cases e : j = k
            · rw [if_pos e]; exact ⟨v2, v1, fun q => v3 q.symm⟩
            · rw [if_neg e]; exact g3 _ (getD_memD hj)
          · simp only
            rw [set_get j (by omega)]
            by_cases e : j = k
            · rw [if_pos e]; exact c
            · rw [if_neg e]; exact g4 j (by omega)
        · rw [if_neg c]
          refine ⟨_, rfl, by simp only; omega, rfl, g2, g3, fun j hj => ?_⟩
          by_cases e : j = k
          · subst e; simp only; omega
          · exact g4 j (by omega)) (fun s ⟨hs, _, g2, _⟩ => by
        unfold ref07_Made_b3
        simp only [cn_dec]
        rw [if_neg (by omega)]) (0, ⟨o.N, o.Pairs⟩) ⟨rfl, hn, rfl, by rw [← hn]; exact hf.el, fun j hj => absurd hj (Nat.not_lt_zero _)⟩
    rw [e3, bd_s, smK_l]
    have hFm : Fm ⟨s3.2.N, s3.2.Pairs⟩ := ⟨by simp only; omega, by simp only; omega, fun p hp => by simp only; rw [q2]; exact q4 p hp⟩
    have hac : ∀ a : Nat, ¬Rc s3.2.Pairs a a := fun a g => by
      have := g (fun a b => P.getD a default < P.getD b default) (fun u v huv => by
        obtain ⟨j, hj, ej⟩ := mem_get huv
        have := q5 j (by omega)
        rw [ej] at this
        simpa using this) (fun _ _ _ g1 g2 => Int.lt_trans g1 g2)
      omega
    rcases read_ok ⟨s3.2.N, s3.2.Pairs⟩ (by simp only; omega) with ⟨_, n', t, r, hv⟩ | ⟨hno, _⟩
    · exact ⟨_, n', t, r, rfl, hv, by simp only; omega⟩
    · exact absurd ⟨hFm, hac⟩ hno
end Go.Proofs.YtlmboonbfhkfnaaDoor
namespace Go.Proofs.YtlmboonbfhkfnaaDoor
open Go Go.Eng
set_option maxRecDepth 100000
theorem filter_one {α : Type} (f : α → Bool) (x : α) : List.filter f [x] = if f x = true then [x] else [] := by
  by_cases h : f x = true
  · rw [if_pos h, List.filter_cons_of_pos h]; rfl
  · rw [if_neg h, List.filter_cons_of_neg h]; rfl
theorem sm_lt : ∀ {n : Nat} {f g : Nat → Nat}, (∀ i, i < n → f i ≤ g i) → ∀ {j : Nat}, j < n → f j < g j → sm n f < sm n g
  | n + 1, f, g, h, j, hj, hlt => by
    show sm n f + f n < sm n g + g n
    by_cases e : j = n
    · subst e
      have := sm_le (n := j) (f := f) (g := g) fun i hi => h i (by omega)
      omega
    · have := sm_lt (n := n) (f := f) (g := g) (fun i hi => h i (by omega)) (j := j) (by omega) hlt
      have := h n (by omega)
      omega
section
variable {o : TOrder} {n : Nat} {t : Ar 8} {r : Nat → Nat → Bool}
end
end Go.Proofs.YtlmboonbfhkfnaaDoor
namespace Go.Proofs.YtlmboonbfhkfnaaDoor
open Go Go.Eng
set_option maxRecDepth 100000
theorem or_add : ∀ (k : Nat) {a b : Nat}, a < 2 ^ k → b < 2 ^ k → a &&& b = 0 → a ||| b = a + b
  | 0, a, b, ha, hb, _ => by
    obtain rfl : a = 0 := by simpa using ha
    obtain rfl : b = 0 := by simpa using hb
    rfl
  | k + 1, a, b, ha, hb, h => by
    rw [Nat.pow_succ] at ha hb
    have h2 : a / 2 &&& b / 2 = 0 := by rw [← Nat.and_div_two, h]
    have ih := or_add k (a := a / 2) (b := b / 2) (by omega) (by omega) h2
    have e1 : (a ||| b) / 2 = a / 2 + b / 2 := by rw [Nat.or_div_two, ih]
    have e2 : ¬(a % 2 = 1 ∧ b % 2 = 1) := fun q => by
      have := Nat.and_mod_two_eq_one.2 q
      rw [h] at this; cases this
    have e3 : (a ||| b) % 2 = 1 ↔ a % 2 = 1 ∨ b % 2 = 1 := Nat.or_mod_two_eq_one
    omega
theorem add_or {p x : Nat} (h : p.testBit x = false) : p ||| 2 ^ x = p + 2 ^ x := by
  obtain ⟨k, hk⟩ : ∃ k, p + 2 ^ x < 2 ^ k := ⟨p + 2 ^ x, Nat.lt_two_pow_self⟩
  have := Nat.two_pow_pos x
  refine or_add k (by omega) (by omega) (bits_eq fun i => ?_)
  rw [Nat.testBit_and, pow_bit, Nat.zero_testBit]
  by_cases e : i = x
  · subst e; rw [h]; rfl
  · rw [decide_eq_false e, Bool.and_false]
theorem ad_bit {p x : Nat} (h : p.testBit x = false) (i : Nat) : (p + 2 ^ x).testBit i = (p.testBit i || decide (i = x)) := by
  rw [← add_or h, Nat.testBit_or, pow_bit]
theorem argmax {P : Nat → Prop} (f : Nat → Nat) : ∀ (n : Nat), (∃ x, x < n ∧ P x) → ∃ x, x < n ∧ P x ∧ ∀ y, y < n → P y → f y ≤ f x
  | 0, ⟨x, h, _⟩ => absurd h (Nat.not_lt_zero _)
  | n + 1, ⟨x, h, hP⟩ => by
    by_cases c : ∃ x, x < n ∧ P x
    · obtain ⟨z, h1, h2, h3⟩ := argmax f n c
      by_cases d : P n ∧ f z ≤ f n
      · exact ⟨n, by omega, d.1, fun y hy hp => by
          by_cases e : y = n
          · rw [e]; exact Nat.le_refl _
          · exact Nat.le_trans (h3 y (by omega) hp) d.2⟩
      · exact ⟨z, by omega, h2, fun y hy hp => by
          by_cases e : y = n
          · subst e
            have : ¬f z ≤ f y := fun q => d ⟨hp, q⟩
            omega
          · exact h3 y (by omega) hp⟩
    · have : x = n := by
        refine Classical.byContradiction fun q => c ⟨x, by omega, hP⟩
      subst this
      exact ⟨x, by omega, hP, fun y hy hp => by
        by_cases e : y = x
        · rw [e]; exact Nat.le_refl _
        · exact absurd ⟨y, by omega, hp⟩ c⟩
def suc (n : Nat) (r : Nat → Nat → Bool) (x : Nat) : Nat := sm n fun k => (r x k).toNat
section
variable {o : TOrder} {n : Nat} {t : Ar 8} {r : Nat → Nat → Bool}
theorem OV.suc_lt (h : OV o n t r) {a b : Nat} (hr : r a b = true) : suc n r b < suc n r a := by
  refine sm_lt (fun i _ => ?_) (h.lt _ _ hr).2 (by rw [h.ir, hr]; simp)
  cases c : r b i
  · simp
  · rw [h.tr a b i hr c]; exact Nat.le_refl _
end
def pc (n p : Nat) : Nat := sm n fun x => (p.testBit x).toNat
theorem pc_le (n p : Nat) : pc n p ≤ n := sm_toNat_le
section
variable {o : TOrder} {n : Nat} {t : Ar 8} {r : Nat → Nat → Bool}
end
end Go.Proofs.YtlmboonbfhkfnaaDoor
namespace Go.Proofs.YtlmboonbfhkfnaaDoor
open Go Go.Eng
set_option maxRecDepth 100000
def fr (r : Nat → Nat → Bool) (S x : Nat) : Prop := S.testBit x = false ∧ ∀ a, r a x = true → S.testBit a = true
def LnF (n : Nat) (r : Nat → Nat → Bool) : Nat → List Nat → Prop
  | _, [] => True
  | S, x :: l => x < n ∧ fr r S x ∧ LnF n r (S + 2 ^ x) l
def msk : List Nat → Nat
  | [] => 0
  | x :: l => 2 ^ x + msk l
def Ln (n : Nat) (r : Nat → Nat → Bool) (l : List Nat) : Prop := LnF n r 0 l
section
variable {n : Nat} {r : Nat → Nat → Bool}
theorem msk_app : ∀ (l m : List Nat), msk (l ++ m) = msk l + msk m
  | [], m => by show msk m = 0 + msk m; omega
  | x :: l, m => by show 2 ^ x + msk (l ++ m) = 2 ^ x + msk l + msk m; rw [msk_app l m]; omega
theorem msk_snoc (l : List Nat) (x : Nat) : msk (l ++ [x]) = msk l + 2 ^ x := by rw [msk_app]; rfl
theorem LnF_app : ∀ (l m : List Nat) (S : Nat), LnF n r S (l ++ m) ↔ LnF n r S l ∧ LnF n r (S + msk l) m
  | [], m, S => by show LnF n r S m ↔ True ∧ LnF n r (S + 0) m; rw [Nat.add_zero, true_and]
  | x :: l, m, S => by
    show (x < n ∧ fr r S x ∧ LnF n r (S + 2 ^ x) (l ++ m)) ↔ (x < n ∧ fr r S x ∧ LnF n r (S + 2 ^ x) l) ∧ LnF n r (S + (2 ^ x + msk l)) m
    rw [LnF_app l m, Nat.add_assoc, and_assoc, and_assoc]
theorem Ln_snoc {l : List Nat} {x : Nat} : Ln n r (l ++ [x]) ↔ Ln n r l ∧ x < n ∧ fr r (msk l) x := by
  unfold Ln
  rw [LnF_app, Nat.zero_add]
  exact and_congr_right fun _ => ⟨fun h => ⟨h.1, h.2.1⟩, fun h => ⟨h.1, h.2, trivial⟩⟩
theorem LnF_bits : ∀ {l : List Nat} {S : Nat}, LnF n r S l → ∀ i, (S + msk l).testBit i = (S.testBit i || decide (i ∈ l))
  | [], S, _, i => by show (S + 0).testBit i = _; simp
  | x :: l, S, h, i => by
    show (S + (2 ^ x + msk l)).testBit i = _
    rw [← Nat.add_assoc, LnF_bits h.2.2 i, ad_bit h.2.1.1, Bool.or_assoc]
    congr 1
    rw [Bool.eq_iff_iff]; simp
theorem Ln_bits {l : List Nat} (h : Ln n r l) (i : Nat) : (msk l).testBit i = decide (i ∈ l) := by
  have := LnF_bits h i
  rwa [Nat.zero_add, Nat.zero_testBit, Bool.false_or] at this
theorem LnF_lt : ∀ {l : List Nat} {S : Nat}, LnF n r S l → ∀ x ∈ l, x < n
  | [], _, _, x, hx => by cases hx
  | y :: l, _, h, x, hx => by
    rcases List.mem_cons.1 hx with rfl | hx
    · exact h.1
    · exact LnF_lt h.2.2 x hx
theorem Ln_lt {l : List Nat} (h : Ln n r l) : ∀ x ∈ l, x < n := LnF_lt h
theorem Ln_msk_lt {l : List Nat} (h : Ln n r l) : msk l < 2 ^ n := Nat.lt_pow_two_of_testBit _ fun i hi => by
  rw [Ln_bits h, decide_eq_false_iff_not]
  intro q
  have := Ln_lt h i q
  omega
theorem sm_ind : ∀ {n x : Nat}, x < n → sm n (fun i => if i = x then 1 else 0) = 1
  | n + 1, x, h => by
    show sm n (fun i => if i = x then 1 else 0) + (if n = x then 1 else 0) = 1
    by_cases e : n = x
    · subst e
      rw [if_pos rfl, sm_congr (g := fun _ => 0) fun i hi => if_neg (by omega), sm_zero]
    · rw [if_neg e, sm_ind (by omega)]
theorem pc_add {S x : Nat} (hx : x < n) (h : S.testBit x = false) : pc n (S + 2 ^ x) = pc n S + 1 := by
  unfold pc
  rw [← sm_ind hx, ← sm_add]
  refine sm_congr fun i _ => ?_
  rw [ad_bit h]
  by_cases e : i = x
  · subst e; rw [h, decide_eq_true rfl, if_pos rfl]; rfl
  · rw [decide_eq_false e, if_neg e, Bool.or_false, Nat.add_zero]
theorem LnF_pc : ∀ {l : List Nat} {S : Nat}, LnF n r S l → pc n (S + msk l) = pc n S + l.length
  | [], S, _ => rfl
  | x :: l, S, h => by
    show pc n (S + (2 ^ x + msk l)) = _
    rw [← Nat.add_assoc, LnF_pc h.2.2, pc_add h.1 h.2.1.1, List.length_cons]; omega
theorem pc_zero (n : Nat) : pc n 0 = 0 := by
  unfold pc
  rw [sm_congr (g := fun _ => 0) fun i _ => by rw [Nat.zero_testBit]; rfl]
  exact sm_zero n
theorem Ln_pc {l : List Nat} (h : Ln n r l) : pc n (msk l) = l.length := by
  have := LnF_pc h
  rwa [Nat.zero_add, pc_zero, Nat.zero_add] at this
theorem sm_one (n : Nat) : sm n (fun _ => 1) = n := by
  induction n with
  | zero => rfl
  | succ n ih => show sm n (fun _ => 1) + 1 = n + 1; rw [ih]
theorem pc_full {S : Nat} : pc n S = n ↔ ∀ x, x < n → S.testBit x = true := by
  constructor
  · intro h x hx
    refine Classical.byContradiction fun q => ?_
    have := sm_lt (n := n) (f := fun x => (S.testBit x).toNat) (g := fun _ => 1) (fun i _ => by cases S.testBit i <;> simp) hx (by rw [Bool.eq_false_iff.2 q]; simp)
    rw [sm_one] at this
    unfold pc at h; omega
  · intro h
    unfold pc
    rw [sm_congr (g := fun _ => 1) fun i hi => by rw [h i hi]; rfl]
    exact sm_one n
theorem Ln_len {l : List Nat} (h : Ln n r l) : l.length ≤ n := by rw [← Ln_pc h]; exact pc_le _ _
theorem Ln_full {l : List Nat} (h : Ln n r l) (hl : l.length = n) {x : Nat} (hx : x < n) : x ∈ l := by
  have := pc_full.1 ((Ln_pc h).trans hl) x hx
  rw [Ln_bits h, decide_eq_true_eq] at this; exact this
theorem Ln_not_full {l : List Nat} (h : Ln n r l) (hl : l.length < n) : ∃ x, x < n ∧ (msk l).testBit x = false := by
  refine Classical.byContradiction fun q => ?_
  have : pc n (msk l) = n := pc_full.2 fun x hx => by
    cases c : (msk l).testBit x
    · exact absurd ⟨x, hx, c⟩ q
    · rfl
  rw [Ln_pc h] at this; omega
theorem Ln_at {l : List Nat} (h : Ln n r l) {k : Nat} (hk : k < l.length) : Ln n r (l.take k) ∧ l.getD k default < n ∧ fr r (msk (l.take k)) (l.getD k default) := by
  have e : l = l.take k ++ l.getD k default :: l.drop (k + 1) := by
    rw [getD_ltD hk, ← List.drop_eq_getElem_cons hk, List.take_append_drop]
  unfold Ln at h
  rw [e, LnF_app, Nat.zero_add] at h
  exact ⟨h.1, h.2.1, h.2.2.1⟩
theorem Ln_dn : ∀ (k : Nat) {l : List Nat}, l.length = k → Ln n r l → ∀ y ∈ l, ∀ a, r a y = true → a ∈ l
  | 0, l, hk, _, y, hy, _, _ => by rw [List.length_eq_zero_iff.1 hk] at hy; cases hy
  | k + 1, l, hk, h, y, hy, a, ha => by
    have hne : l ≠ [] := fun q => by rw [q] at hk; cases hk
    obtain ⟨m, x, rfl⟩ : ∃ m x, l = m ++ [x] := ⟨l.dropLast, l.getLast hne, (List.dropLast_concat_getLast hne).symm⟩
    obtain ⟨h1, h2, h3⟩ := Ln_snoc.1 h
    have hm : m.length = k := by simpa using hk
    rcases List.mem_append.1 hy with hy | hy
    · exact List.mem_append_left _ (Ln_dn k hm h1 y hy a ha)
    · rw [List.mem_singleton.1 hy] at ha
      have := h3.2 a ha
      rw [Ln_bits h1, decide_eq_true_eq] at this
      exact List.mem_append_left _ this
end
section
variable {o : TOrder} {n : Nat} {t : Ar 8} {r : Nat → Nat → Bool}
theorem OV.fr_ex (h : OV o n t r) {l : List Nat} (hl : Ln n r l) (hlt : l.length < n) : ∃ x, x < n ∧ fr r (msk l) x := by
  obtain ⟨y, hy, hb⟩ := Ln_not_full hl hlt
  obtain ⟨x, h1, h2, h3⟩ := argmax (P := fun x => (msk l).testBit x = false) (suc n r) n ⟨y, hy, hb⟩
  refine ⟨x, h1, h2, fun a ha => ?_⟩
  cases c : (msk l).testBit a
  · have := h3 a (h.lt _ _ ha).1 c
    have := h.suc_lt ha
    omega
  · rfl
theorem fr_dec (T : TB t r) {S x : Nat} (hS : S < 256) (hx : x < 8) : (bandNot .i64 (t.at1 (x : Int)) (S : Int) == 0) = true ↔ ∀ a, r a x = true → S.testBit a = true := by
  obtain ⟨z, z1, z2, z3⟩ := T x hx
  rw [z1, nbandNot (by omega) (by omega), beq_iff_eq, show (((ndiff z S : Nat) : Int) = 0 ↔ ndiff z S = 0) by omega, ndiff_zero]
  exact ⟨fun q a ha => q a (by rw [z3]; exact ha), fun q a ha => q a (by rw [← z3]; exact ha)⟩
def Gd (r : Nat → Nat → Bool) (l : List Nat) : Prop := ∀ k, k < l.length → ∀ y, y < l.getD k default → ¬fr r (msk (l.take k)) y
theorem Gd_snoc {l : List Nat} {x : Nat} (h : Gd r l) (hx : ∀ y, y < x → ¬fr r (msk l) y) : Gd r (l ++ [x]) := fun k hk y hy => by
  by_cases c : k < l.length
  · have e : (l ++ [x]).getD k default = l.getD k default := by rw [List.getD_eq_getElem?_getD, List.getElem?_append_left c, List.getD_eq_getElem?_getD]
    rw [e] at hy
    rw [List.take_append_of_le_length (by omega)]
    exact h k c y hy
  · have : k = l.length := by simp only [List.length_append, List.length_cons, List.length_nil] at hk; omega
    subst this
    have e : (l ++ [x]).getD l.length default = x := by simp [List.getD_eq_getElem?_getD]
    rw [e] at hy
    rw [List.take_append_of_le_length (Nat.le_refl _), List.take_length]
    exact hx y hy
theorem line_ok (h : OV o n t r) : ∃ ls, order_line_F (n : Int) t = some (ints ls) ∧ Ln n r ls ∧ ls.length = n ∧ Gd r ls := by
  have n8 := h.n8
  have p8 := small_pow n8
  obtain ⟨y, e, hy⟩ := lp_runF (body := order_line_b1 (n : Int) t) (fun s => ∃ ls, s.1 = ints ls ∧ Ln n r ls ∧ Gd r ls ∧ s.2 = ((msk ls : Nat) : Int)) (fun s => n - s.1.length)
    (fun y => match y with | .inl s => ∃ ls, s.1 = ints ls ∧ Ln n r ls ∧ ls.length = n ∧ Gd r ls | .inr _ => False)
    (fun s ⟨ls, h1, h2, h3, h4⟩ => by
      obtain ⟨u, v⟩ := s
      simp only at h1 h4
      subst h1 h4
      have hm := Ln_msk_lt h2
      have hlen := Ln_len h2
      unfold order_line_b1
      simp only [cn_dec, ints_len]
      by_cases c : ls.length < n
      · rw [if_pos (by omega)]
        obtain ⟨x0, x1, x2⟩ := h.fr_ex h2 c
        obtain ⟨y, e, hy⟩ := lp_runF (body := order_line_b2 (n : Int) t) (fun s => ∃ k : Nat, s = (ints ls, ((msk ls : Nat) : Int), (k : Int)) ∧ k ≤ n ∧ ∀ y, y < k → ¬fr r (msk ls) y) (fun s => n - s.2.2.toNat)
          (fun y => ∃ x, x < n ∧ fr r (msk ls) x ∧ (∀ y, y < x → ¬fr r (msk ls) y) ∧ y = .inl (ints (ls ++ [x]), ((msk (ls ++ [x]) : Nat) : Int), (x : Int)))
          (fun s ⟨k, hs, hk, hj⟩ => by
            subst hs
            have hkn : k < n := by
              refine Nat.lt_of_not_le fun q => hj x0 (by omega) x2
            unfold order_line_b2
            simp only [cn_dec, jn_d]
            rw [if_pos (by omega), gd_p _ (by omega), nbit0 (by omega) (by omega), cn_not, cn_if]
            have nxt : ¬fr r (msk ls) k → (∃ s', (some (Ct.nx (ints ls, ((msk ls : Nat) : Int), wr ((k : Int) + 1))) : Option (Ct ((List Int) × Int × Int) (List Int))) = some (.nx s') ∧ (∃ k : Nat, s' = (ints ls, ((msk ls : Nat) : Int), (k : Int)) ∧ k ≤ n ∧ ∀ y, y < k → ¬fr r (msk ls) y) ∧ n - s'.2.2.toNat < n - (k : Int).toNat) := fun q => by
              rw [wr_id (by omega) (by omega)]
              refine ⟨_, rfl, ⟨k + 1, by rw [show (k : Int) + 1 = ((k + 1 : Nat) : Int) by omega], hkn, fun y hy => ?_⟩, by simp only; omega⟩
              by_cases e : y < k
              · exact hj y e
              · rw [show y = k by omega]; exact q
            by_cases c1 : (msk ls).testBit k = true
            · rw [if_pos c1, cn_f]
              exact .inl (nxt fun q => by rw [q.1] at c1; cases c1)
            · rw [if_neg c1, gd_p _ (by omega), cn_if]
              have fd := fr_dec h.tb (S := msk ls) (x := k) (by omega) (by omega)
              by_cases c2 : (bandNot .i64 (t.at1 (k : Int)) ((msk ls : Nat) : Int) == 0) = true
              · rw [if_pos c2, lt_d, ap_p (by rw [ints_len]; simp only [List.length_cons, List.length_nil]; omega), gd_p _ (by omega), nshl (by omega), nbor (by omega) (by have := small_pow (k := k) (by omega); omega)]
                have hb := Bool.eq_false_iff.2 c1
                refine .inr (.inl ⟨_, rfl, k, hkn, ⟨hb, fd.1 c2⟩, hj, ?_⟩)
                rw [ints_app, msk_snoc, ← add_or hb]; rfl
              · rw [if_neg c2]
                exact .inl (nxt fun q => c2 (fd.2 q.2))) (ints ls, ((msk ls : Nat) : Int), 0) ⟨0, rfl, Nat.zero_le _, fun y hy => absurd hy (Nat.not_lt_zero _)⟩ (by simp only; omega)
        obtain ⟨x, g1, g2, g3, rfl⟩ := hy
        rw [e, bd_s, smK_l]
        refine .inl ⟨_, rfl, ⟨ls ++ [x], rfl, Ln_snoc.2 ⟨h2, g1, g2⟩, Gd_snoc h3 g3, rfl⟩, by simp only [ints_len, List.length_append, List.length_cons, List.length_nil]; omega⟩
      · rw [if_neg (by omega)]
        exact .inr (.inl ⟨_, rfl, ls, rfl, h2, by omega, h3⟩)) ([], 0) ⟨[], rfl, trivial, fun k hk => absurd hk (Nat.not_lt_zero _), rfl⟩ (by simp only [List.length_nil]; omega)
  unfold order_line_F
  rw [e, bd_s]
  cases y with
  | inr s => exact hy.elim
  | inl s =>
    obtain ⟨ls, h1, h2, h3, h4⟩ := hy
    rw [smK_l, h1]
    exact ⟨ls, rfl, h2, h3, h4⟩
theorem Line_ok (h : OV o n t r) : ∃ ls, order_Line_F o = some (ints ls, 0) ∧ Ln n r ls ∧ ls.length = n ∧ Gd r ls := by
  obtain ⟨ls, e, h1, h2, h3⟩ := line_ok h
  unfold order_Line_F
  rw [h.rd, bd_s, cn_not, cn_t, h.N]
  simp only
  rw [e, bd_s]
  exact ⟨ls, rfl, h1, h2, h3⟩
end
end Go.Proofs.YtlmboonbfhkfnaaDoor
namespace Go.Proofs.YtlmboonbfhkfnaaDoor
open Go Go.Eng
set_option maxRecDepth 100000
theorem set_getD {α : Type} [Inhabited α] {l : List α} {i j : Nat} {v : α} (hi : i < l.length) : (l.set i v).getD j default = if j = i then v else l.getD j default := by
  rw [List.getD_eq_getElem?_getD, List.getElem?_set]
  by_cases e : j = i
  · subst e; rw [if_pos rfl, if_pos rfl, if_pos hi]; rfl
  · rw [if_neg (fun q => e q.symm), if_neg e, List.getD_eq_getElem?_getD]
def Rep (n : Nat) (W : List Int) (f : Nat → Nat) : Prop := W.length = n ∧ ∀ x, x < n → W.getD x default = ((f x : Nat) : Int)
def upf (f : Nat → Nat) (b v x : Nat) : Nat := if x = b then v else f x
theorem upf_s (f : Nat → Nat) (b v : Nat) : upf f b v b = v := if_pos rfl
theorem upf_n (f : Nat → Nat) {b x : Nat} (v : Nat) (h : x ≠ b) : upf f b v x = f x := if_neg h
theorem Rep_set {n : Nat} {W : List Int} {f : Nat → Nat} (h : Rep n W f) {b : Nat} (hb : b < n) (v : Nat) : Rep n (W.set b (v : Int)) (upf f b v) := by
  refine ⟨by rw [List.length_set]; exact h.1, fun x hx => ?_⟩
  rw [set_getD (by rw [h.1]; exact hb)]
  by_cases e : x = b
  · rw [if_pos e, e, upf_s]
  · rw [if_neg e, upf_n _ _ e, h.2 x hx]
def LevAt (r : Nat → Nat → Bool) (f : Nat → Nat) (b : Nat) : Prop := (∀ a, r a b = true → f a < f b) ∧ (f b = 0 ∨ ∃ a, r a b = true ∧ f a + 1 = f b)
section
variable {o : TOrder} {n : Nat} {t : Ar 8} {r : Nat → Nat → Bool}
theorem Levels_ok (h : OV o n t r) : ∃ W L, order_Levels_F o = some (W, 0) ∧ Rep n W L ∧ (∀ b, b < n → LevAt r L b) ∧ ∀ b, L b ≤ 8 := by
  have n8 := h.n8
  have hN := h.N
  obtain ⟨ls, el, l1, l2, _⟩ := line_ok h
  obtain ⟨s, e, h1, f, h2, h3, h4, h5⟩ := lp_fold (body := order_Levels_b1 o (t, true) (ints ls)) (fun k s => s.1 = (k : Int) ∧ ∃ f, Rep n s.2 f ∧ (∀ x, x ∉ ls.take k → f x = 0) ∧ (∀ b, b ∈ ls.take k → LevAt r f b) ∧ ∀ x, f x ≤ k) ls.length (by omega)
    (fun k s hk ⟨hs, f, g1, g2, g3, g4⟩ => by
      obtain ⟨u, W⟩ := s
      simp only at hs g1
      subst hs
      obtain ⟨q1, q2, q3⟩ := Ln_at l1 hk
      generalize hb : ls.getD k default = b at q2 q3
      have bno : b ∉ ls.take k := by
        have := q3.1
        rwa [Ln_bits q1, decide_eq_false_iff_not] at this
      have bpre : ∀ a, r a b = true → a ∈ ls.take k := fun a ha => by
        have := q3.2 a ha
        rwa [Ln_bits q1, decide_eq_true_eq] at this
      obtain ⟨s, e, w1, v, w2, w3, w4, w5⟩ := lp_fold (body := order_Levels_b2 o (b : Int) (t, true)) (fun m s => s.1 = (m : Int) ∧ ∃ v : Nat, Rep n s.2 (upf f b v) ∧ v ≤ k + 1 ∧ (∀ a, a < m → r a b = true → f a < v) ∧ (v = 0 ∨ ∃ a, a < m ∧ r a b = true ∧ f a + 1 = v)) n (by omega)
        (fun m s hm ⟨hs, v, g5, g6, g7, g8⟩ => by
          obtain ⟨u, X⟩ := s
          simp only at hs g5
          subst hs
          obtain ⟨x1, x2⟩ := g5
          unfold order_Levels_b2
          simp only [cn_dec, jn_d]
          rw [if_pos (by omega), gd_p _ (by omega), gd_p _ (by omega), TB_bit h.tb (by omega) (by omega), cn_if, wr_id (x := (m : Int) + 1) (by omega) (by omega)]
          by_cases c : r m b = true
          · have hmb : m ≠ b := fun q => by rw [q, h.ir] at c; cases c
            have fm := g4 m
            rw [if_pos c, gd_p _ (by omega), gd_p _ (by omega), gd_p _ (by omega), st_d, Int.toNat_natCast, Int.toNat_natCast, x2 b (by omega), x2 m (by omega), upf_s, upf_n _ _ hmb, wr_id (by omega) (by omega)]
            have emax : imax ((v : Nat) : Int) ((f m : Int) + 1) = ((max v (f m + 1) : Nat) : Int) := by
              unfold imax; split <;> omega
            rw [emax]
            refine ⟨_, rfl, by simp only; omega, max v (f m + 1), ?_, by omega, fun a ha hr => ?_, ?_⟩
            · have := Rep_set ⟨x1, x2⟩ q2 (max v (f m + 1))
              refine ⟨this.1, fun x hx => ?_⟩
              rw [this.2 x hx]
              by_cases e : x = b
              · rw [e, upf_s, upf_s]
              · rw [upf_n _ _ e, upf_n _ _ e, upf_n _ _ e]
            · by_cases e : a = m
              · subst e; omega
              · have := g7 a (by omega) hr; omega
            · by_cases e : v < f m + 1
              · exact .inr ⟨m, by omega, c, by omega⟩
              · rcases g8 with g8 | ⟨a, a1, a2, a3⟩
                · omega
                · exact .inr ⟨a, by omega, a2, by omega⟩
          · rw [if_neg c]
            refine ⟨_, rfl, by simp only; omega, v, ⟨x1, x2⟩, g6, fun a ha hr => ?_, ?_⟩
            · by_cases e : a = m
              · subst e; exact absurd hr c
              · exact g7 a (by omega) hr
            · rcases g8 with g8 | ⟨a, a1, a2, a3⟩
              · exact .inl g8
              · exact .inr ⟨a, by omega, a2, a3⟩) (fun s ⟨hs, _⟩ => by
          unfold order_Levels_b2
          simp only [cn_dec]
          rw [if_neg (by omega)]) (0, W) ⟨rfl, 0, ⟨g1.1, fun x hx => by
            rw [g1.2 x hx]
            by_cases e : x = b
            · rw [e, g2 b bno, upf_s]
            · rw [upf_n _ _ e]⟩, by omega, fun a ha => absurd ha (Nat.not_lt_zero _), .inl rfl⟩
      unfold order_Levels_b1
      simp only [cn_dec, ints_len]
      rw [if_pos (by omega), ix_n (by rw [ints_len]; exact hk), ints_getD hk, hb, e, bd_s, smK_l, wr_id (by omega) (by omega)]
      refine ⟨_, rfl, by simp only; omega, _, w2, fun x hx => ?_, fun b' hb' => ?_, fun x => ?_⟩
      · rw [take_getD hk, hb] at hx
        rw [upf_n _ _ fun q => hx (List.mem_append_right _ (List.mem_singleton.2 q)), g2 x fun q => hx (List.mem_append_left _ q)]
      · rw [take_getD hk, hb] at hb'
        rcases List.mem_append.1 hb' with hb' | hb'
        · have hne : b' ≠ b := fun q => bno (q ▸ hb')
          have pre : ∀ a, r a b' = true → a ≠ b := fun a ha q => bno (q ▸ Ln_dn _ rfl q1 b' hb' a ha)
          obtain ⟨y1, y2⟩ := g3 b' hb'
          refine ⟨fun a ha => ?_, ?_⟩
          · rw [upf_n _ _ hne, upf_n _ _ (pre a ha)]; exact y1 a ha
          · rw [upf_n _ _ hne]
            rcases y2 with y2 | ⟨a, a1, a2⟩
            · exact .inl y2
            · exact .inr ⟨a, a1, by rw [upf_n _ _ (pre a a1)]; exact a2⟩
        · rw [List.mem_singleton.1 hb']
          have pre : ∀ a, r a b = true → a ≠ b := fun a ha q => by rw [q, h.ir] at ha; cases ha
          refine ⟨fun a ha => ?_, ?_⟩
          · rw [upf_n _ _ (pre a ha), upf_s]; exact w4 a (h.lt _ _ ha).1 ha
          · rw [upf_s]
            rcases w5 with w5 | ⟨a, a0, a1, a2⟩
            · exact .inl w5
            · exact .inr ⟨a, a1, by rw [upf_n _ _ (pre a a1)]; exact a2⟩
      · by_cases e : x = b
        · rw [e, upf_s]; exact w3
        · rw [upf_n _ _ e]; have := g4 x; omega) (fun s ⟨hs, _⟩ => by
      unfold order_Levels_b1
      simp only [cn_dec, ints_len]
      rw [if_neg (by omega)]) (0, List.replicate n 0) ⟨rfl, fun _ => 0, ⟨List.length_replicate, fun x hx => by simp [List.getD_eq_getElem?_getD, List.getElem?_replicate, hx]⟩, fun _ _ => rfl, fun b hb => (by rw [List.take_zero] at hb; cases hb), fun _ => Nat.zero_le _⟩
  unfold order_Levels_F
  rw [h.rd, bd_s, cn_not, cn_t, hN, gd_p _ (by omega), lt_d, Int.toNat_natCast]
  simp only
  rw [el, bd_s, e, bd_s, smK_l]
  refine ⟨_, f, rfl, h2, fun b hb => h4 b (by rw [List.take_length]; exact Ln_full l1 l2 hb), fun b => by have := h5 b; omega⟩
end
def bst (f : Nat → List Nat) : List Nat → List Nat → List Nat
  | [], acc => acc
  | b :: l, acc => bst f l (if acc.length < (f b).length then f b else acc)
def cf (n : Nat) (r : Nat → Nat → Bool) : Nat → Nat → List Nat
  | 0, _ => []
  | k + 1, a => a :: bst (cf n r k) ((List.range n).filter fun b => r a b) []
def Cf (n : Nat) (r : Nat → Nat → Bool) (a : Nat) : List Nat := cf n r (suc n r a + 1) a
theorem bst_app (f : Nat → List Nat) : ∀ (l m acc : List Nat), bst f (l ++ m) acc = bst f m (bst f l acc)
  | [], _, _ => rfl
  | b :: l, m, acc => bst_app f l m _
theorem bst_congr {f g : Nat → List Nat} : ∀ {l acc : List Nat}, (∀ b, b ∈ l → f b = g b) → bst f l acc = bst g l acc
  | [], _, _ => rfl
  | b :: l, acc, h => by
    show bst f l _ = bst g l _
    rw [h b (List.mem_cons_self ..)]
    exact bst_congr fun c hc => h c (List.mem_cons_of_mem _ hc)
theorem bst_ge (f : Nat → List Nat) : ∀ (l acc : List Nat), acc.length ≤ (bst f l acc).length ∧ ∀ b, b ∈ l → (f b).length ≤ (bst f l acc).length
  | [], acc => ⟨Nat.le_refl _, fun b hb => by cases hb⟩
  | c :: l, acc => by
    obtain ⟨h1, h2⟩ := bst_ge f l (if acc.length < (f c).length then f c else acc)
    have e : bst f (c :: l) acc = bst f l (if acc.length < (f c).length then f c else acc) := rfl
    rw [e]
    have h3 : acc.length ≤ (if acc.length < (f c).length then f c else acc).length ∧ (f c).length ≤ (if acc.length < (f c).length then f c else acc).length := by split <;> omega
    refine ⟨by omega, fun b hb => ?_⟩
    rcases List.mem_cons.1 hb with rfl | hb
    · omega
    · exact h2 b hb
theorem bst_or (f : Nat → List Nat) : ∀ (l acc : List Nat), bst f l acc = acc ∨ ∃ b, b ∈ l ∧ bst f l acc = f b
  | [], acc => .inl rfl
  | c :: l, acc => by
    have e : bst f (c :: l) acc = bst f l (if acc.length < (f c).length then f c else acc) := rfl
    rw [e]
    rcases bst_or f l (if acc.length < (f c).length then f c else acc) with h | ⟨b, hb, h⟩
    · rw [h]
      split
      · exact .inr ⟨c, List.mem_cons_self .., rfl⟩
      · exact .inl rfl
    · exact .inr ⟨b, List.mem_cons_of_mem _ hb, h⟩
section
variable {o : TOrder} {n : Nat} {t : Ar 8} {r : Nat → Nat → Bool}
theorem cf_fuel (h : OV o n t r) : ∀ (k m a : Nat), suc n r a < k → suc n r a < m → cf n r k a = cf n r m a
  | 0, _, _, h1, _ => absurd h1 (Nat.not_lt_zero _)
  | k + 1, 0, _, _, h2 => absurd h2 (Nat.not_lt_zero _)
  | k + 1, m + 1, a, h1, h2 => by
    show a :: _ = a :: _
    congr 1
    refine bst_congr fun b hb => ?_
    have := h.suc_lt (List.mem_filter.1 hb).2
    exact cf_fuel h k m b (by omega) (by omega)
theorem Cf_eq (h : OV o n t r) (a : Nat) : Cf n r a = a :: bst (Cf n r) ((List.range n).filter fun b => r a b) [] := by
  show a :: _ = a :: _
  congr 1
  refine bst_congr fun b hb => ?_
  have := h.suc_lt (List.mem_filter.1 hb).2
  exact cf_fuel h _ _ b (by omega) (by omega)
theorem cf_len : ∀ (k a : Nat), (cf n r k a).length ≤ k
  | 0, _ => Nat.le_refl _
  | k + 1, a => by
    show (bst (cf n r k) ((List.range n).filter fun b => r a b) []).length + 1 ≤ k + 1
    rcases bst_or (cf n r k) ((List.range n).filter fun b => r a b) [] with e | ⟨b, _, e⟩
    · rw [e]; simp
    · rw [e]; have := cf_len k b; omega
theorem suc_le (n : Nat) (r : Nat → Nat → Bool) (a : Nat) : suc n r a ≤ n := sm_toNat_le
theorem Cf_len (a : Nat) : (Cf n r a).length ≤ n + 1 := Nat.le_trans (cf_len _ _) (by have := suc_le n r a; omega)
def MV (n : Nat) (r : Nat → Nat → Bool) (m : GM (List Int)) : Prop := ∀ a : Nat, m.has (a : Int) = true → m.get (a : Int) [] = ints (Cf n r a)
theorem from_ok' (h : OV o n t r) : ∀ (k a : Nat) (m : GM (List Int)), suc n r a < k → a < n → MV n r m → ∃ m', from_F k (a : Int) o t m = some (ints (Cf n r a), m') ∧ MV n r m'
  | 0, _, _, hk, _, _ => absurd hk (Nat.not_lt_zero _)
  | k + 1, a, m, hk, ha, hm => by
    have n8 := h.n8
    have hN := h.N
    show ∃ m', from_f (from_F k) (a : Int) o t m = some (ints (Cf n r a), m') ∧ MV n r m'
    unfold from_f
    rw [cn_if]
    by_cases c : m.has (a : Int) = true
    · rw [if_pos c, hm a c]; exact ⟨m, rfl, hm⟩
    rw [if_neg c]
    obtain ⟨s, e, h1, h2, h3⟩ := lp_fold (body := from_b1 (a : Int) o t (from_F k)) (fun b s => s.2.1 = (b : Int) ∧ s.1 = ints (bst (Cf n r) ((List.range b).filter fun b => r a b) []) ∧ MV n r s.2.2) n (by omega)
      (fun b s hb ⟨hs, hq, hmv⟩ => by
        obtain ⟨u, v, w⟩ := s
        simp only at hs hq hmv
        subst hs hq
        unfold from_b1
        simp only [cn_dec, jn_d, ints_len]
        rw [if_pos (by omega), gd_p _ (by omega), gd_p _ (by omega), TB_bit h.tb (by omega) (by omega), cn_if, wr_id (by omega) (by omega)]
        have fs : (List.range (b + 1)).filter (fun b => r a b) = (List.range b).filter (fun b => r a b) ++ if r a b = true then [b] else [] := by
          rw [List.range_succ, List.filter_append, filter_one]
        by_cases c : r a b = true
        · have := h.suc_lt c
          obtain ⟨m1, e1, hm1⟩ := from_ok' h k b w (by omega) hb hmv
          rw [if_pos c, e1, bd_s]
          simp only [ints_len, cn_dec]
          by_cases d : (bst (Cf n r) ((List.range b).filter fun b => r a b) []).length < (Cf n r b).length
          · obtain ⟨m2, e2, hm2⟩ := from_ok' h k b m1 (by omega) hb hm1
            rw [if_pos (by omega), e2, bd_s]
            refine ⟨_, rfl, by simp only; omega, ?_, hm2⟩
            simp only
            rw [fs, if_pos c, bst_app]
            show _ = ints (if _ then _ else _)
            rw [if_pos d]
          · rw [if_neg (by omega)]
            refine ⟨_, rfl, by simp only; omega, ?_, hm1⟩
            simp only
            rw [fs, if_pos c, bst_app]
            show _ = ints (if _ then _ else _)
            rw [if_neg d]
        · rw [if_neg c, cn_f]
          exact ⟨_, rfl, by simp only; omega, by simp only; rw [fs, if_neg c, List.append_nil], hmv⟩) (fun s ⟨hs, _⟩ => by
        unfold from_b1
        simp only [cn_dec]
        rw [if_neg (by omega)]) ([], 0, m) ⟨rfl, rfl, hm⟩
    have hlen : (bst (Cf n r) ((List.range n).filter fun b => r a b) []).length ≤ n + 1 := by
      have := Cf_len (n := n) (r := r) a
      rw [Cf_eq h, List.length_cons] at this; omega
    rw [e, bd_s, smK_l, lt_d, h2, ap_p (by rw [ints_len]; simp only [List.length_cons, List.length_nil]; omega)]
    have e2 : [(a : Int)] ++ ints (bst (Cf n r) ((List.range n).filter fun b => r a b) []) = ints (Cf n r a) := by rw [Cf_eq h]; rfl
    rw [e2]
    simp only
    rw [GM.get_put]
    refine ⟨_, rfl, fun b hb => ?_⟩
    by_cases eb : b = a
    · subst eb; rw [GM.get_put]
    · rw [GM.has_put_ne (by omega)] at hb
      rw [GM.get_put_ne (by omega)]; exact h3 b hb
def Chn (n : Nat) (r : Nat → Nat → Bool) : List Nat := bst (Cf n r) (List.range n) []
theorem Chn_len (n : Nat) (r : Nat → Nat → Bool) : (Chn n r).length ≤ n + 1 := by
  rcases bst_or (Cf n r) (List.range n) [] with e | ⟨b, _, e⟩
  · show (bst _ _ _).length ≤ _; rw [e]; simp
  · show (bst _ _ _).length ≤ _; rw [e]; exact Cf_len b
theorem Chain_ok (h : OV o n t r) : order_Chain_F o = some (ints (Chn n r), 0) := by
  have n8 := h.n8
  have hN := h.N
  obtain ⟨s, e, h1, h2, h3⟩ := lp_fold (body := order_Chain_b1 o (t, true)) (fun a s => s.2.1 = (a : Int) ∧ s.1 = ints (bst (Cf n r) (List.range a) []) ∧ MV n r s.2.2) n (by omega)
    (fun a s ha ⟨hs, hq, hmv⟩ => by
      obtain ⟨u, v, w⟩ := s
      simp only at hs hq hmv
      subst hs hq
      have sl := suc_le n r a
      unfold order_Chain_b1
      simp only [cn_dec, jn_d, ints_len]
      obtain ⟨m1, e1, hm1⟩ := from_ok' h 10 a w (by omega) ha hmv
      rw [if_pos (by omega), e1, bd_s]
      simp only [ints_len]
      rw [wr_id (by omega) (by omega)]
      by_cases d : (bst (Cf n r) (List.range a) []).length < (Cf n r a).length
      · obtain ⟨m2, e2, hm2⟩ := from_ok' h 10 a m1 (by omega) ha hm1
        rw [if_pos (by omega), e2, bd_s]
        refine ⟨_, rfl, by simp only; omega, ?_, hm2⟩
        simp only
        rw [List.range_succ, bst_app]
        show _ = ints (if _ then _ else _)
        rw [if_pos d]
      · rw [if_neg (by omega)]
        refine ⟨_, rfl, by simp only; omega, ?_, hm1⟩
        simp only
        rw [List.range_succ, bst_app]
        show _ = ints (if _ then _ else _)
        rw [if_neg d]) (fun s ⟨hs, _⟩ => by
      unfold order_Chain_b1
      simp only [cn_dec]
      rw [if_neg (by omega)]) ([], 0, GM.mt (List Int)) ⟨rfl, rfl, fun a ha => by rw [GM.has_mt] at ha; cases ha⟩
  have cl := Chn_len n r
  unfold order_Chain_F
  rw [h.rd, bd_s, cn_not, cn_t]
  rw [e, bd_s, smK_l, h2, gd_p _ (by rw [ints_len]; show (Chn n r).length ≤ _; omega), lt_d]; rfl
theorem cf_chain (h : OV o n t r) : ∀ (k a : Nat), a < n → (cf n r k a).Pairwise (fun x y => r x y = true) ∧ (∀ x, x ∈ cf n r k a → x = a ∨ r a x = true) ∧ ∀ x, x ∈ cf n r k a → x < n
  | 0, a, _ => ⟨.nil, fun x hx => (by cases hx), fun x hx => (by cases hx)⟩
  | k + 1, a, ha => by
    have e : cf n r (k + 1) a = a :: bst (cf n r k) ((List.range n).filter fun b => r a b) [] := rfl
    rw [e]
    rcases bst_or (cf n r k) ((List.range n).filter fun b => r a b) [] with e | ⟨b, hb, e⟩
    · rw [e]
      exact ⟨List.pairwise_singleton _ _, fun x hx => .inl (List.mem_singleton.1 hx), fun x hx => by rw [List.mem_singleton.1 hx]; exact ha⟩
    · rw [e]
      obtain ⟨b1, b2⟩ := List.mem_filter.1 hb
      obtain ⟨p1, p2, p3⟩ := cf_chain h k b (List.mem_range.1 b1)
      have up : ∀ x, x ∈ cf n r k b → r a x = true := fun x hx => by
        rcases p2 x hx with rfl | q
        · exact b2
        · exact h.tr _ _ _ b2 q
      refine ⟨List.pairwise_cons.2 ⟨up, p1⟩, fun x hx => ?_, fun x hx => ?_⟩
      · rcases List.mem_cons.1 hx with rfl | hx
        · exact .inl rfl
        · exact .inr (up x hx)
      · rcases List.mem_cons.1 hx with rfl | hx
        · exact ha
        · exact p3 x hx
theorem Chn_chain (h : OV o n t r) : (Chn n r).Pairwise (fun x y => r x y = true) ∧ ∀ x, x ∈ Chn n r → x < n := by
  rcases bst_or (Cf n r) (List.range n) [] with e | ⟨b, hb, e⟩
  · have : Chn n r = [] := e
    rw [this]; exact ⟨.nil, fun x hx => (by cases hx)⟩
  · have : Chn n r = Cf n r b := e
    rw [this]
    obtain ⟨h1, _, h3⟩ := cf_chain h (suc n r b + 1) b (List.mem_range.1 hb)
    exact ⟨h1, h3⟩
theorem Cf_best (h : OV o n t r) : ∀ (l : List Nat) (a : Nat), (a :: l).Pairwise (fun x y => r x y = true) → (a :: l).length ≤ (Cf n r a).length
  | [], a, _ => by rw [Cf_eq h]; simp
  | b :: l, a, hp => by
    obtain ⟨h1, h2⟩ := List.pairwise_cons.1 hp
    have hab := h1 b (List.mem_cons_self ..)
    have ih := Cf_best h l b h2
    rw [Cf_eq h, List.length_cons (a := a), List.length_cons (a := a)]
    have := (bst_ge (Cf n r) ((List.range n).filter fun b => r a b) []).2 b (List.mem_filter.2 ⟨List.mem_range.2 (h.lt _ _ hab).2, hab⟩)
    omega
theorem Chn_best (h : OV o n t r) {l : List Nat} (hl : ∀ x, x ∈ l → x < n) (hp : l.Pairwise fun x y => r x y = true) : l.length ≤ (Chn n r).length := by
  cases l with
  | nil => exact Nat.zero_le _
  | cons a l =>
    refine Nat.le_trans (Cf_best h l a hp) ?_
    exact (bst_ge (Cf n r) (List.range n) []).2 a (List.mem_range.2 (hl a (List.mem_cons_self ..)))
end
end Go.Proofs.YtlmboonbfhkfnaaDoor
namespace Go.Proofs.YtlmboonbfhkfnaaDoor
open Go Go.Eng
theorem sane_ok : law07_sane_F = some true := by kernel_rfl
end Go.Proofs.YtlmboonbfhkfnaaDoor
