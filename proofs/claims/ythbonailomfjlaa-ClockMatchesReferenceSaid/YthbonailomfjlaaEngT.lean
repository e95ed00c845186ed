import Derived.Test.YthbonailomfjlaaEngS
namespace Go.Eng
open Go
open Go.RowKit (Below)
variable {P : Program}
/-- A value that speaks of no cell. -/
def AV.plain (a : AV) : Prop := ∀ (β β' : Beta) (v : Value), V β a v → V β' a v
theorem plain_int (k : IntKind) (n : Int) : (AV.int k n).plain := fun _ _ _ h => by simpa [V] using h
theorem plain_bool (b : Bool) : (AV.bool b).plain := fun _ _ _ h => by simpa [V] using h
theorem plain_und : AV.und.plain := fun _ _ _ h => by simpa [V] using h
/-- What a function tells that turns one block it is handed as a slice. -/
def blkR (sz : Nat) (S : Nat → List AV → List AV → AV → List AV → Prop) : FSpec := fun args H _ r H' =>
  ∃ i n rest bs bs', args = .so i 0 n sz :: rest ∧ H i = some (.cells bs) ∧ S n rest bs r bs' ∧ H' = upd H i (some (.cells bs'))
def PostB (P : Program) (rs : Array ResultVar) (r : AV) (bs' : List AV) : Exit → AS → Prop := fun e σ => match e with
  | .normal | .ret => (∃ r0, resA P rs σ = some r0 ∧ Wk r0 r) ∧ σ.hp 0 = some (.cells bs')
  | _ => False
theorem FOk_blk {T : Tbl} {pf : FuncId → Bool} (hT : TOk P T) (hpf : PfOk T pf) {f : FuncId} {fn : Func} {c : Code} {sz : Nat} {S : Nat → List AV → List AV → AV → List AV → Prop} {N : Nat} {rs : Array ResultVar}
    (hf : P.funcs[f]? = some fn) (hb : fn.body = some c) (hN : fn.ntmps = N) (hrs : fn.results = rs) (hn : (fn.name == "runtime.NumGoroutine") = false)
    (h : ∀ n rest bs r bs', S n rest bs r bs' → rest.length + 1 ≤ N ∧ (∀ a ∈ rest, a.loose) ∧ (∀ a ∈ bs, a.loose) ∧ r.plain ∧ (∀ a ∈ bs', a.plain) ∧
      HT ⟨P, T, pf, true, hT, hpf⟩ N c ⟨argSl (.so 0 0 n sz :: rest), upd (fun _ => none) 0 (some (.cells bs)), 64⟩ (PostB P rs r bs')) : FOk P f (blkR sz S) := by
  subst hN hrs
  refine ⟨fun av w => enters hf hn hb av w, fun args H base r H' e B w β av hβ hH hB hv => ?_⟩
  obtain ⟨i, n, rest, bs, bs', rfl, hi, hS, rfl⟩ := e
  obtain ⟨hle, hlr, hlb, hpr, hpb, hh⟩ := h n rest bs r bs' hS
  obtain ⟨l, hl, hlen, hblk⟩ := hH.own i bs hi
  let β0 : Beta := ⟨fun j => if j = 0 then some l else none, β.fz⟩
  let B' : Bd := fun c => (0 < l.k ∧ c = l.c) ∨ w.heap.size ≤ c
  have hl0 : β0 0 = some l := rfl
  have h0 : HRel β0 (upd (fun _ => none) 0 (some (.cells bs))) w B' := by
    refine ⟨hH.fz, fun j cs hj => ?_, fun j es hj => ?_, fun a b ba bb la lb hab ha hb' _ _ _ _ => ?_⟩
    · unfold upd at hj; split at hj
      · rename_i e; subst e; cases hj
        exact ⟨l, hl0, hlen, fun hk => let ⟨_, hun, full, t, hfull, hfs, hvals⟩ := hblk hk; ⟨.inl ⟨hk, rfl⟩, hun, full, t, hfull, hfs, fun j a ha => let ⟨v, x, y⟩ := hvals j a ha; ⟨v, x, hlb a (List.mem_of_getElem? ha) β _ v y⟩⟩⟩
      · cases hj
    · unfold upd at hj; split at hj <;> cases hj
    · unfold upd at ha hb'
      split at ha
      · split at hb'
        · rename_i e1 e2; exact absurd (e1.trans e2.symm) hab
        · cases hb'
      · cases ha
  have hargs : Vs β0 (.so 0 0 n sz :: rest) av := by
    obtain ⟨v, vs, rfl, h1, h2⟩ := hv
    refine ⟨v, vs, rfl, ?_, Vs_loose hlr h2⟩
    simp only [V] at h1 ⊢
    obtain ⟨l', e1, e2⟩ := h1
    rw [hl] at e1; cases e1
    exact ⟨l, hl0, e2⟩
  have hd0 : ∀ j, β0 j ≠ none → j < 64 := fun j hj => by
    change (if j = 0 then some l else none) ≠ none at hj
    split at hj
    · omega
    · exact absurd rfl hj
  refine calls_of_wp hf hb (wp_mono (hh ⟨B', w, β0, 0⟩ _ w (fun _ => ⟨fun j hj => ?_, rfl⟩) (Rep_zero (Rep_begin (β := β0) (base := 64) hd0 h0 (fun c hc => .inr hc) hargs (by simpa using hle)))) ?_)
  · change (if j = 0 then some l else none) ≠ none at hj
    split at hj
    · assumption
    · exact absurd rfl hj
  intro e' a' w' hq
  obtain ⟨σ', q, β1, hsince, hs, hH1, hb1, hbel, hB1, hdf, _⟩ := hq
  have fin : ((∃ r0, resA P fn.results σ' = some r0 ∧ Wk r0 r) ∧ σ'.hp 0 = some (.cells bs')) → a'.defers = [] ∧ ∃ v, (results fn a'.tmps).run P w' = .ok v w' ∧ Outcome P β B base w r (upd H i (some (.cells bs'))) (.returned v) w' := by
    rintro ⟨⟨r0, hr, hwk⟩, h00⟩
    obtain ⟨v, hv1, hv2⟩ := resA_ok (P := P) hr hs hH1
    have hl1 : β1 0 = some l := hsince.le.loc _ _ hl0
    have hkeep : ∀ c, c < w.heap.size → (0 < l.k → c ≠ l.c) → w'.heap[c]? = w.heap[c]? := fun c hc hne => hbel.block c (fun hh => hh.elim (fun e => hne e.1 e.2) fun e => by omega)
    refine ⟨hdf, v, hv1, v, β, rfl, ⟨Beta.le.refl _, fun j hj => .inl hj, fun c o hc => .inl hc⟩, hpr _ _ _ (hwk _ _ hv2), ⟨fun c o u hu => hH1.fz _ _ _ (hsince.le.fz _ _ _ hu), fun j cs hj => ?_, fun j es hj => ?_, fun a b ba bb la lb hab ha hb' => ?_⟩, ⟨hbel.os, hbel.tape, hbel.output, hbel.size, fun k hk' => hbel.block k fun hh => ?_⟩⟩
    · unfold upd at hj; split at hj
      · rename_i e; subst e; cases hj
        obtain ⟨l', g1, g2, g3⟩ := hH1.own 0 _ h00
        rw [hl1] at g1; cases g1
        refine ⟨l, hl, g2, fun hk => ?_⟩
        obtain ⟨hBl, hun, _⟩ := hblk hk
        obtain ⟨_, _, full', t', p', q', r'⟩ := g3 hk
        exact ⟨hBl, hun, full', t', p', q', fun j a ha => let ⟨v1, x1, y1⟩ := r' j a ha; ⟨v1, x1, hpb a (List.mem_of_getElem? ha) _ _ _ y1⟩⟩
      · rename_i hne
        obtain ⟨lj, g1, g2, g3⟩ := hH.own j cs hj
        refine ⟨lj, g1, g2, fun hkj => ?_⟩
        obtain ⟨b1, b2, full', t', p', q', r'⟩ := g3 hkj
        have hlt : lj.c < w.heap.size := (Array.getElem?_eq_some_iff.1 p').1
        exact ⟨b1, b2, full', t', (hkeep _ hlt fun hk => hH.sep j i _ _ lj l hne hj hi g1 hl hkj hk).trans p', q', r'⟩
    · unfold upd at hj; split at hj
      · cases hj
      · rename_i hne
        obtain ⟨lj, g1, g2, g3, ents, clk, g4, m⟩ := hH.map j es hj
        have hlt : lj.c < w.heap.size := (Array.getElem?_eq_some_iff.1 g4).1
        exact ⟨lj, g1, g2, g3, ents, clk, (hkeep _ hlt fun hk => hH.sep j i _ _ lj l hne hj hi g1 hl g2 hk).trans g4, m⟩
    · have f : ∀ k b, upd H i (some (.cells bs')) k = some b → ∃ b', H k = some b' := fun k b hk' => by
        unfold upd at hk'; split at hk'
        · rename_i e; subst e; exact ⟨_, hi⟩
        · exact ⟨_, hk'⟩
      obtain ⟨ba', ha'⟩ := f a ba ha
      obtain ⟨bb', hb''⟩ := f b bb hb'
      exact hH.sep a b ba' bb' la lb hab ha' hb''
    · rcases hh with e | e
      · exact hk' (e.2 ▸ (hblk e.1).1)
      · exact hk' (hB k e)
  cases e' with
  | normal => exact fin q
  | ret => exact fin q
  | _ => exact q.elim
end Go.Eng
