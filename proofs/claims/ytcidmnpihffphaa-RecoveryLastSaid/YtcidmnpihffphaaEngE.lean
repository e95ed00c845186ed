import Derived.Test.YtcidmnpihffphaaEngD
namespace Go.Eng
open Go.RowKit (Below)

section
variable {P : Program} {β : Beta} {w : World}

theorem foldl_set (off : Nat) : ∀ (l : List Value) (k : Nat) (cs : Array Value), off + k + l.length ≤ cs.size →
    ((l.zipIdx k).foldl (fun (cs : Array Value) p => cs.setIfInBounds (off + p.2) p.1) cs).toList = cs.toList.take (off + k) ++ l ++ cs.toList.drop (off + k + l.length)
  | [], k, cs, _ => by simp
  | x :: l, k, cs, h => by
    simp only [List.length_cons] at h
    rw [List.zipIdx_cons, List.foldl_cons, foldl_set off l (k + 1) _ (by simp; omega)]
    simp only [Array.toList_setIfInBounds, List.length_cons]
    have hlt : off + k < cs.toList.length := by simp; omega
    have hA : (List.take (off + k) cs.toList ++ [x]).length = off + (k + 1) := by simp; omega
    rw [List.set_eq_take_append_cons_drop, if_pos hlt, List.append_cons, List.take_left' hA]
    rw [show off + (k + 1) + l.length = (List.take (off + k) cs.toList ++ [x]).length + l.length by rw [hA], List.drop_append]
    rw [List.drop_of_length_le (by omega)]
    simp [List.drop_drop]
    congr 1
    omega

theorem fill_ok {pA pl : Nat → Option (Nat × Nat)} (hp : ∀ i p, pA i = some p → pl i = some p) : ∀ (parts : List (Nat × AV)) (ps : List (Nat × Value)) {cs cs' : List AV} {vs : List Value},
    fillA pA cs parts = some cs' → Vs β cs vs → (parts.map (·.1) = ps.map (·.1)) → Vs β (parts.map (·.2)) (ps.map (·.2)) →
    ∃ vs' : List Value, Instr.fill pl vs.toArray ps = some vs'.toArray ∧ Vs β cs' vs'
  | [], [], cs, cs', vs, h, hv, _, _ => by simp only [fillA, Option.some.injEq] at h; subst h; exact ⟨vs, rfl, hv⟩
  | [], _ :: _, _, _, _, _, _, he, _ => by simp at he
  | _ :: _, [], _, _, _, _, _, he, _ => by simp at he
  | (i, x) :: parts, (j, v) :: ps, cs, cs', vs, h, hv, he, hx => by
    simp only [List.map_cons, List.cons.injEq] at he
    obtain ⟨rfl, he⟩ := he
    obtain ⟨v', vs', hcons, hxv, hxs⟩ := hx
    simp only [List.map_cons, List.cons.injEq] at hcons
    obtain ⟨rfl, rfl⟩ := hcons
    simp only [fillA] at h
    split at h <;> (try (simp at h; done))
    rename_i off size xs e1 e2
    split at h <;> (try (simp at h; done))
    rename_i hc
    obtain ⟨rfl, hle⟩ := hc
    have hc := cells_ok e2 hxv
    have hl1 := Vs_length hc
    have hl2 := Vs_length hv
    have hsp : Vs β (splice cs off xs) (vs.take off ++ v.cells.toList ++ vs.drop (off + xs.length)) := Vs_append (Vs_append (Vs_take hv off) hc) (Vs_drop hv _)
    obtain ⟨r, h1, h2⟩ := fill_ok hp parts ps h hsp he hxs
    refine ⟨r, ?_, h2⟩
    simp only [Instr.fill, hp _ _ e1]
    have hsz : v.cells.size = xs.length := by rw [hl1]; simp
    have hcond : (decide (v.cells.size ≠ xs.length) || decide (off + v.cells.size > vs.toArray.size)) = false := by
      simp [hsz]; omega
    simp only [hcond, Bool.false_eq_true, if_false]
    have hf := foldl_set off v.cells.toList 0 vs.toArray (by simp only [Array.length_toList, hsz]; simp; omega)
    have : (v.cells.zipIdx.foldl (fun (cs : Array Value) (x : Value × Nat) => cs.setIfInBounds (off + x.2) x.1) vs.toArray) = (vs.take off ++ v.cells.toList ++ vs.drop (off + xs.length)).toArray := by
      apply Array.toList_inj.1
      rw [← Array.foldl_toList, Array.toList_zipIdx]
      rw [hf]
      simp [hsz]
    exact (congrArg (fun a => Instr.fill pl a ps) this).trans h1

theorem zeros_eq (zero : Array Value) (_hz : 0 < zero.size) : ∀ n : Nat,
    ((Array.range (n * zero.size)).map fun i => zero[i % zero.size]!).toList = (List.replicate n zero.toList).flatten := by
  intro n
  have base : (List.range zero.size).map (fun i => zero[i]!) = zero.toList := by
    apply List.ext_getElem
    · simp
    · intro i h1 h2
      simp at h1
      simp [getElem!_pos, h1]
  simp only [Array.toList_map, Array.toList_range]
  induction n with
  | zero => simp
  | succ n ih =>
    rw [Nat.succ_mul, List.range_add, List.map_append, ih, List.replicate_succ', List.flatten_append, List.map_map]
    congr 1
    simp only [List.flatten_cons, List.flatten_nil, List.append_nil]
    rw [← base]
    apply List.map_congr_left
    intro i hi
    have hi := List.mem_range.1 hi
    have : (n * zero.size + i) % zero.size = i := by rw [Nat.mul_comm, Nat.mul_add_mod]; exact Nat.mod_eq_of_lt hi
    simp [Function.comp, this]

theorem zeroT_ok {t : TypeId} {z : List AV} (h : zeroT P t = some z) : ∃ v : Value, (zeroValue t).run P w = .ok v w ∧ Vs β z v.cells.toList := by
  unfold zeroT at h
  obtain ⟨i, hi, h⟩ := bind_some' h
  cases hz : i.zero with
  | none => simp [hz] at h
  | some v =>
    simp [hz] at h
    subst h
    exact ⟨v, by simp [zeroValue, typeInfo, hi, hz], Vs_ofVal1 β _⟩

theorem run_mapM_list {α γ : Type} (f : α → Sem γ) (g : α → Option γ) (hf : ∀ x y, g x = some y → (f x).run P w = .ok y w) : ∀ (l : List α) (r : List γ), l.mapM g = some r → (l.mapM f).run P w = .ok r w
  | [], r, h => by simp at h; subst h; simp
  | x :: l, r, h => by
    simp only [List.mapM_cons] at h
    obtain ⟨y, hy, h⟩ := bind_some' h
    obtain ⟨ys, hys, h⟩ := bind_some' h
    simp at h; subst h
    simp [hf x y hy, run_mapM_list f g hf l ys hys]

theorem parts_V {sl : Nat → AV} {a : Act} (hs : ∀ t, V β (sl t) (a.tmps.getD t undef)) : ∀ ps : List (Nat × Operand),
    (ps.map fun p => (p.1, evA sl p.2)).map (·.1) = (ps.map fun p => (p.1, a.eval p.2)).map (·.1) ∧
    Vs β ((ps.map fun p => (p.1, evA sl p.2)).map (·.2)) ((ps.map fun p => (p.1, a.eval p.2)).map (·.2))
  | [] => by simp [Vs]
  | p :: ps => by
    obtain ⟨h1, h2⟩ := parts_V hs ps
    exact ⟨by simp, ⟨_, _, rfl, evA_V hs _, h2⟩⟩

theorem build_ok {t : TypeId} {parts : List (Nat × AV)} {ps : Array (Nat × Value)} {r : AV} (h : buildA P t parts = some r) (h1 : parts.map (·.1) = ps.toList.map (·.1)) (h2 : Vs β (parts.map (·.2)) (ps.toList.map (·.2))) :
    ∃ z, (Instr.build t ps).run P w = .ok z w ∧ V β r z := by
  unfold buildA at h
  obtain ⟨z, hz, h⟩ := bind_some' h
  obtain ⟨zv, hzv, hzz⟩ := zeroT_ok (β := β) (w := w) hz
  split at h <;> (try (simp at h; done))
  · rename_i fs hu
    obtain ⟨pl, hpl, h⟩ := bind_some' h
    obtain ⟨cs, hcs, rfl⟩ := Option.map_eq_some_iff.1 h
    obtain ⟨vs', hf, hv'⟩ := fill_ok (pl := fun i => pl[i]?) (fun i p e => e) parts ps.toList hcs hzz h1 h2
    have hm : (fs.mapM fun f => (do pure (f.offset, ← sizeOf f.type) : Sem (Nat × Nat))).run P w = .ok pl.toArray w := by
      rw [Array.mapM_eq_mapM_toList]
      simp only [Sem.run_map]
      rw [run_mapM_list (P := P) (w := w) _ (fun f => (szT P f.type).map fun s => (f.offset, s)) ?_ _ _ hpl]
      · rfl
      · intro f y hy
        obtain ⟨s, hs, rfl⟩ := Option.map_eq_some_iff.1 hy
        simp [run_size hs]
    refine ⟨.agg vs'.toArray, ?_, vs', rfl, hv'⟩
    simp only [Instr.build, Sem.run_bind, hzv, Result.andThen_ok, run_und hu, hm]
    simp only [Array.toArray_toList] at hf
    simp [hf]
  · rename_i len e hu
    obtain ⟨sz, hsz, h⟩ := bind_some' h
    obtain ⟨cs, hcs, rfl⟩ := Option.map_eq_some_iff.1 h
    obtain ⟨vs', hf, hv'⟩ := fill_ok (pl := fun i => some (i * sz, sz)) (fun i p e => e) parts ps.toList hcs hzz h1 h2
    refine ⟨.agg vs'.toArray, ?_, vs', rfl, hv'⟩
    simp only [Instr.build, Sem.run_bind, hzv, Result.andThen_ok, run_und hu, run_size hsz]
    simp only [Array.toArray_toList] at hf
    simp [hf]

end
end Go.Eng
