import Derived.Test.YtcidmnpihffphaaEngZ
/-! Maps, plainly: what is read behind a write. -/
namespace Go.Eng
section
variable {α : Type} {n k : Int} {v d : α}
theorem mput_nil (n : Int) (v : α) (clk : Nat) : mput n v [] clk = [(clk, n, v)] := by simp [mput]
theorem mput_cons (n : Int) (v : α) (x : Nat × Int × α) (L : List (Nat × Int × α)) (clk : Nat) : mput n v (x :: L) clk = if x.2.1 = n then (x.1, x.2.1, v) :: L else x :: mput n v L clk := by
  unfold mput
  rw [List.findIdx?_cons]
  by_cases h : x.2.1 = n
  · simp [h]
  · simp only [beq_iff_eq, h, if_false]
    cases L.findIdx? fun p => p.2.1 == n with
    | none => simp
    | some j => simp
theorem mclk_cons (n : Int) (x : Nat × Int × α) (L : List (Nat × Int × α)) (clk : Nat) : mclk n (x :: L) clk = if x.2.1 = n then clk else mclk n L clk := by
  unfold mclk
  rw [List.findIdx?_cons]
  by_cases h : x.2.1 = n
  · simp [h]
  · simp only [beq_iff_eq, h, if_false]
    cases L.findIdx? fun p => p.2.1 == n <;> simp
theorem mdel_cons (n : Int) (x : Nat × Int × α) (L : List (Nat × Int × α)) : mdel n (x :: L) = if x.2.1 = n then L else x :: mdel n L := by
  unfold mdel
  rw [List.findIdx?_cons]
  by_cases h : x.2.1 = n
  · simp [h]
  · simp only [beq_iff_eq, h, if_false]
    cases L.findIdx? fun p => p.2.1 == n with
    | none => simp
    | some j => simp
theorem mfind_cons (n : Int) (x : Nat × Int × α) (L : List (Nat × Int × α)) : mfind n (x :: L) = if x.2.1 = n then some x else mfind n L := by
  unfold mfind
  rw [List.find?_cons]
  by_cases h : x.2.1 = n
  · simp [h]
  · have : (x.2.1 == n) = false := by simpa using h
    rw [this, if_neg h]
theorem mfind_put_ne (h : k ≠ n) : ∀ (L : List (Nat × Int × α)) (clk : Nat), mfind k (mput n v L clk) = mfind k L
  | [], clk => by
    rw [mput_nil, mfind_cons]
    simp only
    rw [if_neg (fun e => h e.symm)]
  | x :: L, clk => by
    rw [mput_cons]
    by_cases e : x.2.1 = n
    · rw [if_pos e, mfind_cons, mfind_cons]
      simp only
      rw [if_neg (fun e2 => h (by rw [← e2, e])), if_neg (fun e2 => h (by rw [← e2, e]))]
    · rw [if_neg e, mfind_cons, mfind_cons, mfind_put_ne h L clk]
theorem mput_keys : ∀ (L : List (Nat × Int × α)) (clk : Nat), (mput n v L clk).map (·.2.1) = if (mfind n L).isSome then L.map (·.2.1) else L.map (·.2.1) ++ [n]
  | [], clk => by simp [mput_nil, mfind]
  | x :: L, clk => by
    rw [mput_cons, mfind_cons]
    by_cases e : x.2.1 = n
    · simp [e]
    · rw [if_neg e, if_neg e, List.map_cons, mput_keys L clk]
      split <;> simp
theorem mfind_keys : ∀ (L : List (Nat × Int × α)), (mfind n L).isSome = true ↔ n ∈ L.map (·.2.1)
  | [] => by simp [mfind]
  | x :: L => by
    rw [mfind_cons]
    by_cases e : x.2.1 = n
    · simp [e]
    · rw [if_neg e, mfind_keys L]
      simp only [List.map_cons, List.mem_cons]
      exact ⟨.inr, fun h => h.elim (fun h => absurd h.symm e) id⟩
theorem mput_births : ∀ (L : List (Nat × Int × α)) (clk : Nat), (mput n v L clk).map (·.1) = if (mfind n L).isSome then L.map (·.1) else L.map (·.1) ++ [clk]
  | [], clk => by simp [mput_nil, mfind]
  | x :: L, clk => by
    rw [mput_cons, mfind_cons]
    by_cases e : x.2.1 = n
    · simp [e]
    · rw [if_neg e, if_neg e, List.map_cons, mput_births L clk]
      split <;> simp
theorem mclk_eq : ∀ (L : List (Nat × Int × α)) (clk : Nat), mclk n L clk = if (mfind n L).isSome then clk else clk + 1
  | [], clk => by simp [mclk, mfind]
  | x :: L, clk => by
    rw [mclk_cons, mfind_cons]
    by_cases e : x.2.1 = n
    · simp [e]
    · rw [if_neg e, if_neg e, mclk_eq L clk]
/-- What every map of ours is. -/
structure GM.WF (m : GM α) : Prop where
  lt : ∀ p ∈ m.es, p.1 < m.clk
  nd : (m.es.map (·.1)).Nodup
  kd : (m.es.map (·.2.1)).Nodup
namespace GM
variable {m : GM α}
theorem WF_mt : (GM.mt α).WF := ⟨nofun, by simp [GM.mt], by simp [GM.mt]⟩
theorem get_put : (m.put n v).get n d = v := by
  unfold GM.get GM.put
  obtain ⟨b, h, _⟩ := find_put n v m.es m.clk
  simp only [h]
theorem get_put_ne (h : k ≠ n) : (m.put n v).get k d = m.get k d := by
  unfold GM.get GM.put
  simp only [mfind_put_ne h]
theorem has_put : (m.put n v).has n = true := by
  unfold GM.has GM.put
  obtain ⟨b, h, _⟩ := find_put n v m.es m.clk
  simp only [h]; rfl
theorem has_put_ne (h : k ≠ n) : (m.put n v).has k = m.has k := by
  unfold GM.has GM.put
  simp only [mfind_put_ne h]
theorem get_mt : (GM.mt α).get k d = d := rfl
theorem has_mt : (GM.mt α).has k = false := rfl
theorem has_key : m.has k = true ↔ k ∈ m.es.map (·.2.1) := mfind_keys m.es
theorem len_put : (m.put n v).len = if m.has n then m.len else m.len + 1 := by
  have h := congrArg List.length (mput_keys (n := n) (v := v) m.es m.clk)
  unfold GM.len GM.put GM.has
  simp only [List.length_map] at h
  simp only
  rw [h]
  split <;> simp
theorem WF.put (h : m.WF) (n : Int) (v : α) : (m.put n v).WF := by
  have h1 := mput_births (n := n) (v := v) m.es m.clk
  have h2 := mput_keys (n := n) (v := v) m.es m.clk
  have h3 := mclk_eq (n := n) m.es m.clk
  refine ⟨fun p hp => ?_, ?_, ?_⟩
  · have hm : p.1 ∈ (mput n v m.es m.clk).map (·.1) := List.mem_map_of_mem hp
    show p.1 < mclk n m.es m.clk
    rw [h1] at hm
    rw [h3]
    split
    · rename_i e
      rw [if_pos e] at hm
      obtain ⟨q, hq, e⟩ := List.mem_map.1 hm
      rw [← e]; exact h.lt q hq
    · rename_i e
      rw [if_neg e] at hm
      rcases List.mem_append.1 hm with hm | hm
      · obtain ⟨q, hq, e⟩ := List.mem_map.1 hm
        have := h.lt q hq
        omega
      · simp at hm; omega
  · show ((mput n v m.es m.clk).map (·.1)).Nodup
    rw [h1]
    split
    · exact h.nd
    · rw [List.nodup_append]
      refine ⟨h.nd, by simp, fun a ha b hb => ?_⟩
      obtain ⟨q, hq, e⟩ := List.mem_map.1 ha
      have := h.lt q hq
      simp at hb
      omega
  · show ((mput n v m.es m.clk).map (·.2.1)).Nodup
    rw [h2]
    split
    · exact h.kd
    · rename_i e
      rw [List.nodup_append]
      refine ⟨h.kd, by simp, fun a ha b hb => ?_⟩
      simp at hb; subst hb
      intro e2; subst e2
      exact e ((mfind_keys _).2 ha)
/-- What a WF map gives at a key: its entry's. -/
theorem mem_get (h : m.WF) {p : Nat × Int × α} (hp : p ∈ m.es) : m.get p.2.1 d = p.2.2 := by
  have key : ∀ (L : List (Nat × Int × α)), (L.map (·.2.1)).Nodup → p ∈ L → mfind p.2.1 L = some p := by
    intro L
    induction L with
    | nil => intro _ h; cases h
    | cons x L ih =>
      intro hn hm
      rw [mfind_cons]
      simp only [List.map_cons, List.nodup_cons] at hn
      rcases List.mem_cons.1 hm with rfl | hm
      · rw [if_pos rfl]
      · rw [if_neg (fun e => hn.1 (by rw [e]; exact List.mem_map_of_mem hm)), ih hn.2 hm]
  unfold GM.get
  rw [key _ h.kd hp]
end GM
end
end Go.Eng
