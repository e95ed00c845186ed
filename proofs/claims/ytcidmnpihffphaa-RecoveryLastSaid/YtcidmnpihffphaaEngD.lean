import Derived.Test.YtcidmnpihffphaaEngC
namespace Go.Eng
universe u v
open Go.RowKit (Below)

section
variable {P : Program} {β : Beta} {w : World}

/-- An operand that may be missing. -/
inductive OV (β : Beta) : Option AV → Option Value → Prop where
  | none : OV β none none
  | some {a : AV} {v : Value} (h : V β a v) : OV β (some a) (some v)

theorem evO_V {sl : Nat → AV} {a : Act} (hs : ∀ t, V β (sl t) (a.tmps.getD t undef)) (x : Option Operand) : OV β (x.map (evA sl)) (x.map a.eval) := by
  cases x with
  | none => exact .none
  | some x => exact .some (evA_V hs x)

theorem bound_ok {x : AV} {v : Value} {d n y : Nat} (code : BoundsCode) (h : boundA (some x) d = some n) (hv : V β x v) (hy : n ≤ y) : (Instr.sliceBound v y code).run P w = .ok n w := by
  unfold boundA at h
  split at h <;> (try (simp at h; done))
  · rename_i e; simp at e
  · rename_i k m e
    cases e
    split at h <;> (try (simp at h; done))
    rename_i h0
    cases h
    cases V_int hv
    have : m ≤ (y : Int) := by omega
    simp [Instr.sliceBound, asIntOf, h0, this]

theorem boundA_some (x : AV) (d d' : Nat) : boundA (some x) d = boundA (some x) d' := by cases x <;> rfl

theorem bounds_ok {lo hi mx : Option AV} {lo' hi' mx' : Option Value} {b : Bool} {len cap l h m : Nat} (hl : OV β lo lo') (hh : OV β hi hi') (hm : OV β mx mx')
    (em : boundA mx cap = some m) (eh : boundA hi len = some h) (el : boundA lo 0 = some l) (h1 : l ≤ h) (h2 : h ≤ m) (h3 : m ≤ cap) (hn : ¬ (mx.isSome = true ∧ hi.isNone = true)) :
    (Instr.sliceBounds b len cap lo' hi' mx').run P w = .ok (l, h, m) w := by
  cases hm with
  | none =>
    simp [boundA] at em
    cases hh with
    | none =>
      simp [boundA] at eh
      cases hl with
      | none => simp [boundA] at el; simp [Instr.sliceBounds, em, eh, el]
      | some hv => simp [Instr.sliceBounds, em, eh, bound_ok _ el hv h1]
    | some hu =>
      cases hl with
      | none => simp [boundA] at el; simp [Instr.sliceBounds, em, bound_ok _ eh hu h2, el]
      | some hv => simp [Instr.sliceBounds, em, bound_ok _ eh hu h2, bound_ok _ el hv h1]
  | some hx =>
    cases hh with
    | none => simp at hn
    | some hu =>
      cases hl with
      | none => simp [boundA] at el; simp [Instr.sliceBounds, bound_ok _ em hx h3, bound_ok _ eh hu h2, el]
      | some hv => simp [Instr.sliceBounds, bound_ok _ em hx h3, bound_ok _ eh hu h2, bound_ok _ el hv h1]

theorem bind_some' {α : Type u} {β : Type v} {x : Option α} {f : α → Option β} {r : β} (h : x.bind f = some r) : ∃ y, x = some y ∧ f y = some r := by
  cases x with
  | none => simp at h
  | some y => exact ⟨y, rfl, by simpa using h⟩

theorem mapAdd (l : Nat) (c o : Nat) : (some (⟨c, o, none⟩ : Addr)).map (·.add l) = some ⟨c, o + l, none⟩ := by simp [add_none]

theorem slice_ok {t : TypeId} {x r : AV} {u : Value} {lo hi mx : Option AV} {lo' hi' mx' : Option Value} (h : sliceA P t x lo hi mx = some r) (hx : V β x u) (hl : OV β lo lo') (hh : OV β hi hi') (hm : OV β mx mx') :
    ∃ z, (Instr.sliceAt t u lo' hi' mx').run P w = .ok z w ∧ V β r z := by
  unfold sliceA at h
  split at h <;> (try (simp at h; done))
  rename_i hn
  split at h <;> (try (simp at h; done))
  · rename_i e id o len cap s hu
    obtain ⟨m, em, h⟩ := bind_some' h
    obtain ⟨h', eh, h⟩ := bind_some' h
    obtain ⟨l, el, h⟩ := bind_some' h
    obtain ⟨sz, es, h⟩ := bind_some' h
    split at h <;> (try (simp at h; done))
    rename_i hc
    obtain ⟨h1, h2, h3, rfl⟩ := hc
    cases h
    obtain ⟨lc, hlc, hx⟩ := hx
    rcases hx with ⟨rfl, rfl, a, rfl⟩ | ⟨hle, hk, rfl⟩
    · have hm0 : m = 0 := by omega
      have hh0 : h' = 0 := by omega
      have hl0 : l = 0 := by omega
      subst hm0 hh0 hl0
      have hb := bounds_ok (P := P) (w := w) (b := true) (len := 0) (cap := 0) hl hh hm em eh el h1 h2 h3 hn
      exact ⟨_, by simp [Instr.sliceAt, Instr.slice, run_und hu, hb, run_size es]; rfl, lc, hlc, by simp⟩
    · have hb := bounds_ok (P := P) (w := w) (b := true) (len := len) (cap := cap) hl hh hm em eh el h1 h2 h3 hn
      by_cases hml : m = l
      · subst hml
        exact ⟨_, by simp [Instr.sliceAt, Instr.slice, run_und hu, hb, run_size es]; rfl, lc, hlc, by left; constructor; omega; simp; omega⟩
      · refine ⟨_, by simp [Instr.sliceAt, Instr.slice, run_und hu, hb, run_size es, hml, add_none]; rfl, lc, hlc, ?_⟩
        right
        refine ⟨by omega, ?_, by simp [Nat.add_assoc]⟩
        have := Nat.mul_le_mul_right sz h3
        rw [Nat.sub_mul]
        have := Nat.mul_le_mul_right sz (show l ≤ m by omega)
        omega
  · rename_i e id o len s hu
    obtain ⟨h', eh, h⟩ := bind_some' h
    obtain ⟨l, el, h⟩ := bind_some' h
    obtain ⟨sz, es, h⟩ := bind_some' h
    obtain ⟨lc, hlc, hx⟩ := hx
    cases hm with
    | none =>
      simp only at h
      split at h <;> (try (simp at h; done))
      rename_i hc
      obtain ⟨h1, h2, rfl⟩ := hc
      cases h
      rcases hx with ⟨rfl, a, rfl⟩ | ⟨c, hle, hk, rfl⟩
      · have hh0 : h' = 0 := by omega
        have hl0 : l = 0 := by omega
        subst hh0 hl0
        have hb := bounds_ok (P := P) (w := w) (b := true) (len := 0) (cap := 0) hl hh (.none) rfl eh el h1 h2 (Nat.le_refl _) hn
        exact ⟨_, by simp [Instr.sliceAt, Instr.slice, run_und hu, hb, run_size es]; rfl, lc, hlc, by simp⟩
      · have hb := bounds_ok (P := P) (w := w) (b := true) (len := len) (cap := c) hl hh (.none) rfl eh el h1 (by omega) (Nat.le_refl _) hn
        by_cases hml : c = l
        · subst hml
          exact ⟨_, by simp [Instr.sliceAt, Instr.slice, run_und hu, hb, run_size es]; rfl, lc, hlc, by left; constructor; omega; simp; omega⟩
        · refine ⟨_, by simp [Instr.sliceAt, Instr.slice, run_und hu, hb, run_size es, hml, add_none]; rfl, lc, hlc, ?_⟩
          right
          refine ⟨c - l, by omega, ?_, by simp [Nat.add_assoc]⟩
          rw [Nat.sub_mul]
          have := Nat.mul_le_mul_right sz (show l ≤ c by omega)
          omega
    | @some am vm hxm =>
      simp only at h
      obtain ⟨m, em, h⟩ := bind_some' h
      split at h <;> (try (simp at h; done))
      rename_i hc
      obtain ⟨h1, h2, h3, rfl⟩ := hc
      cases h
      have em' : ∀ d, boundA (some am) d = some m := fun d => (boundA_some am d 0).trans em
      rcases hx with ⟨rfl, a, rfl⟩ | ⟨c, hle, hk, rfl⟩
      · have hm0 : m = 0 := by omega
        have hh0 : h' = 0 := by omega
        have hl0 : l = 0 := by omega
        subst hm0 hh0 hl0
        have hb := bounds_ok (P := P) (w := w) (b := true) (len := 0) (cap := 0) hl hh (.some hxm) (em' 0) eh el h1 h2 h3 hn
        exact ⟨_, by simp [Instr.sliceAt, Instr.slice, run_und hu, hb, run_size es]; rfl, lc, hlc, by simp⟩
      · have hb := bounds_ok (P := P) (w := w) (b := true) (len := len) (cap := c) hl hh (.some hxm) (em' c) eh el h1 h2 (by omega) hn
        by_cases hml : m = l
        · subst hml
          exact ⟨_, by simp [Instr.sliceAt, Instr.slice, run_und hu, hb, run_size es]; rfl, lc, hlc, by left; constructor; omega; simp; omega⟩
        · refine ⟨_, by simp [Instr.sliceAt, Instr.slice, run_und hu, hb, run_size es, hml, add_none]; rfl, lc, hlc, ?_⟩
          right
          refine ⟨by omega, ?_, by simp [Nat.add_assoc]⟩
          have := Nat.mul_le_mul_right sz (show m ≤ c by omega)
          rw [Nat.sub_mul]
          have := Nat.mul_le_mul_right sz (show l ≤ m by omega)
          omega
  · rename_i e m0 s len f hu
    obtain ⟨h', eh, h⟩ := bind_some' h
    obtain ⟨l, el, h⟩ := bind_some' h
    obtain ⟨sz, es, h⟩ := bind_some' h
    obtain ⟨base, cap, rfl, hcap, _, hel⟩ := V_lst hx
    have fin : ∀ (M : Nat) (mode : LM) (hb : (Instr.sliceBounds true len cap lo' hi' mx').run P w = .ok (l, h', M) w), l ≤ h' → h' ≤ M → h' ≤ len → sz = s → (mode = .free ∨ (mode = .cap ∧ h' = M)) → r = .lst mode s (h' - l) (fun j => f (l + j)) → ∃ z, (Instr.sliceAt t (.slice base len cap) lo' hi' mx').run P w = .ok z w ∧ V β r z := by
      rintro M mode hb h1 h2 h3 rfl hmode rfl
      by_cases hml : M = l
      · subst hml
        refine ⟨_, by simp [Instr.sliceAt, Instr.slice, run_und hu, hb, run_size es]; rfl, ?_⟩
        simp only [V]
        refine ⟨_, _, rfl, by omega, ?_, fun j hj => by omega⟩
        rcases hmode with rfl | ⟨rfl, _⟩
        · trivial
        · show _ = _; omega
      · refine ⟨_, by simp [Instr.sliceAt, Instr.slice, run_und hu, hb, run_size es, hml]; rfl, ?_⟩
        simp only [V]
        refine ⟨_, _, rfl, by omega, ?_, fun j hj => ?_⟩
        · rcases hmode with rfl | ⟨rfl, _⟩
          · trivial
          · show _ = _; omega
        · obtain ⟨c, o, u, rfl, k1, k2, k3⟩ := hel (l + j) (by omega)
          exact ⟨c, o + l * sz, u, by simp [add_none], k1, by rw [Nat.add_assoc, ← Nat.add_mul]; exact k2, k3⟩
    cases hm with
    | none =>
      simp only at h
      split at h <;> (try (simp at h; done))
      rename_i hc
      obtain ⟨h1, h2, rfl⟩ := hc
      cases h
      exact fin cap .free (bounds_ok (P := P) (w := w) (b := true) (len := len) (cap := cap) hl hh (.none) rfl eh el h1 (by omega) (Nat.le_refl _) hn) h1 (by omega) h2 rfl (.inl rfl) rfl
    | @some am vm hxm =>
      simp only at h
      obtain ⟨m, em, h⟩ := bind_some' h
      split at h <;> (try (simp at h; done))
      rename_i hc
      obtain ⟨h1, rfl, h3, rfl⟩ := hc
      cases h
      have em' : ∀ d, boundA (some am) d = some h' := fun d => (boundA_some am d 0).trans em
      exact fin h' .cap (bounds_ok (P := P) (w := w) (b := true) (len := len) (cap := cap) hl hh (.some hxm) (em' cap) eh el h1 (Nat.le_refl _) (by omega) hn) h1 (Nat.le_refl _) h3 rfl (.inr ⟨rfl, rfl⟩) rfl
  · rename_i e hu
    obtain ⟨m, em, h⟩ := bind_some' h
    obtain ⟨h', eh, h⟩ := bind_some' h
    obtain ⟨l, el, h⟩ := bind_some' h
    obtain ⟨sz, es, h⟩ := bind_some' h
    by_cases hc : l ≤ h' ∧ h' ≤ m ∧ m = 0
    case neg => simp [hc] at h
    rw [if_pos hc] at h
    injection h with h
    subst h
    obtain ⟨h1, h2, rfl⟩ := hc
    have hh0 : h' = 0 := by omega
    have hl0 : l = 0 := by omega
    subst hh0 hl0
    simp only [V] at hx; subst hx
    have hb := bounds_ok (P := P) (w := w) (b := true) (len := 0) (cap := 0) hl hh hm em eh el h1 h2 (Nat.le_refl _) hn
    exact ⟨_, by simp [Instr.sliceAt, Instr.slice, run_und hu, hb, run_size es]; rfl, by simp [V]⟩

theorem splice_len {cs vs : List AV} {o : Nat} (h : o + vs.length ≤ cs.length) : (splice cs o vs).length = cs.length := by
  simp [splice]; omega

theorem flat_ok {x : AV} {v : Value} (h : x.flat = true) (hv : V β x v) : v.oneCell' = true := by
  cases x <;> simp only [AV.flat] at h <;> (try (cases h))
  all_goals simp only [V] at hv
  case ptr => obtain ⟨l, _, rfl⟩ := hv; rfl
  case ep => obtain ⟨_, _, _, rfl, _⟩ := hv; rfl
  case sl => obtain ⟨l, _, h⟩ := hv; rcases h with ⟨_, _, a, rfl⟩ | ⟨_, _, rfl⟩ <;> rfl
  case so => obtain ⟨l, _, h⟩ := hv; rcases h with ⟨_, a, rfl⟩ | ⟨_, _, _, rfl⟩ <;> rfl
  case lst => obtain ⟨_, _, rfl, _⟩ := hv; rfl
  case mp => obtain ⟨l, _, rfl⟩ := hv; rfl
  case yld => obtain ⟨l, _, rfl⟩ := hv; rfl
  case fn => obtain ⟨l, m, rfl, _⟩ := hv; rfl
  all_goals subst hv; rfl

end
end Go.Eng
