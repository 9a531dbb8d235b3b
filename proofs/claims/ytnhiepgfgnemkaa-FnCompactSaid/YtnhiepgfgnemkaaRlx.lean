/- Relaxing the distances along edges: a pass in topological order and enough rounds over all edges give one result. No condition. -/
import Derived.Test.YtnhiepgfgnemkaaCsp
namespace Go.Proofs.Ytnhiepgfgnemkaa

def updI (f : Int → Int) (i v : Int) : Int → Int := fun j => if j = i then v else f j
def tab (n : Nat) (f : Int → Int) : List Int := (upto n).map f
theorem updI_same (f : Int → Int) (i v : Int) : updI f i v i = v := if_pos rfl
theorem updI_ne {f : Int → Int} {i v j : Int} (h : j ≠ i) : updI f i v j = f j := if_neg h
theorem tab_len (n : Nat) (f : Int → Int) : (tab n f).length = n := by simp [tab, upto]
theorem tab_get {n i : Nat} (f : Int → Int) (h : i < n) : (tab n f)[i]? = some (f i) := by simp [tab, upto, h]
theorem tab_set {n i : Nat} (f : Int → Int) (v : Int) : (tab n f).set i v = tab n (updI f i v) := by
  apply List.ext_getElem?
  intro j
  by_cases hj : j < n
  · rw [tab_get _ hj, List.getElem?_set]
    by_cases hij : i = j
    · subst hij; simp [updI, tab_len, hj]
    · rw [if_neg hij, tab_get _ hj, updI_ne (by omega)]
  · rw [List.getElem?_eq_none (by rw [List.length_set, tab_len]; omega), List.getElem?_eq_none (by rw [tab_len]; omega)]
theorem tab_congr {n : Nat} {f g : Int → Int} (h : ∀ i ∈ upto n, f i = g i) : tab n f = tab n g := List.map_congr_left h
theorem tab_const (n : Nat) (v : Int) : tab n (fun _ => v) = List.replicate n v := by
  apply List.ext_getElem?
  intro j
  by_cases hj : j < n
  · rw [tab_get _ hj]; simp [hj]
  · rw [List.getElem?_eq_none (by rw [tab_len]; omega)]; simp; omega

def rlx (f : Int → Int) (e : Q3) : Int → Int := updI f e.b (max (f e.b) (f e.a + e.c))
def rnds (E : List Q3) (b : Int → Int) : Nat → Int → Int
  | 0 => b
  | k + 1 => E.foldl rlx (rnds E b k)
def vst (i : Int) (f : Int → Int) (e : Q3) : Int → Int := if e.b = i then rlx f e else f
def pass (E : List Q3) (o : List Int) (f : Int → Int) : Int → Int := o.foldl (fun f i => E.foldl (vst i) f) f
def passB (E : List Q3) (b : Int → Int) (o : List Int) (f : Int → Int) : Int → Int := o.foldl (fun f i => E.foldl (vst i) (updI f i (b i))) f
def fx (E : List Q3) (f : Int → Int) (i m : Int) : Int := E.foldl (fun m e => if e.b = i then max m (f e.a + e.c) else m) m

theorem fx_cons (e : Q3) (E : List Q3) (f : Int → Int) (i m : Int) : fx (e :: E) f i m = fx E f i (if e.b = i then max m (f e.a + e.c) else m) := rfl
theorem fx_base (f : Int → Int) (i : Int) : ∀ (E : List Q3) (m : Int), m ≤ fx E f i m
  | [], m => Int.le_refl m
  | e :: E, m => by
    rw [fx_cons]
    have := fx_base f i E (if e.b = i then max m (f e.a + e.c) else m)
    split at this <;> rename_i hh <;> simp only [hh, if_true, if_false] <;> omega
theorem fx_ge (f : Int → Int) (i : Int) : ∀ (E : List Q3) (m : Int) (e : Q3), e ∈ E → e.b = i → f e.a + e.c ≤ fx E f i m
  | e' :: E, m, e, he, hb => by
    rw [fx_cons]
    rcases List.mem_cons.1 he with rfl | he
    · rw [if_pos hb]
      have := fx_base f i E (max m (f e.a + e.c)); omega
    · exact fx_ge f i E _ e he hb
theorem fx_le (f : Int → Int) (i M : Int) : ∀ (E : List Q3) (m : Int), m ≤ M → (∀ e ∈ E, e.b = i → f e.a + e.c ≤ M) → fx E f i m ≤ M
  | [], m, h, _ => h
  | e :: E, m, h, hE => by
    rw [fx_cons]
    refine fx_le f i M E _ ?_ fun e' he' => hE e' (List.mem_cons_of_mem _ he')
    split
    · rename_i hb; have := hE e (by simp) hb; omega
    · exact h
theorem fx_congr {f g : Int → Int} {i : Int} : ∀ {E : List Q3} (m : Int), (∀ e ∈ E, e.b = i → f e.a = g e.a) → fx E f i m = fx E g i m
  | [], _, _ => rfl
  | e :: E, m, h => by
    rw [fx_cons, fx_cons]
    have he : (if e.b = i then max m (f e.a + e.c) else m) = (if e.b = i then max m (g e.a + e.c) else m) := by
      split
      · rename_i hb; rw [h e (by simp) hb]
      · rfl
    rw [he]
    exact fx_congr _ fun e' he' => h e' (List.mem_cons_of_mem _ he')
theorem vst_ne {i j : Int} (h : j ≠ i) : ∀ (E : List Q3) (f : Int → Int), (E.foldl (vst i) f) j = f j
  | [], _ => rfl
  | e :: E, f => by
    rw [List.foldl_cons, vst_ne h E]
    rw [vst]
    split
    · rename_i hb; rw [rlx, updI_ne (by omega)]
    · rfl
theorem vst_at {i : Int} : ∀ (E : List Q3) (f : Int → Int), (∀ e ∈ E, e.b = i → e.a ≠ i) → (E.foldl (vst i) f) i = fx E f i (f i)
  | [], _, _ => rfl
  | e :: E, f, h => by
    rw [List.foldl_cons, vst_at E _ fun e' he' => h e' (List.mem_cons_of_mem _ he'), fx_cons]
    rw [vst]
    split
    · rename_i hb
      have hne := h e (by simp) hb
      rw [rlx, hb, updI_same]
      exact fx_congr _ fun e' he' hb' => updI_ne (h e' (List.mem_cons_of_mem _ he') hb')
    · rfl
/-- R orders the nodes of o, and every edge. -/
structure Topo (R : Int → Int → Prop) (E : List Q3) (o : List Int) : Prop where
  asym : ∀ {x y}, R x y → ¬ R y x
  pair : o.Pairwise R
  edge : ∀ e ∈ E, R e.a e.b
  memA : ∀ e ∈ E, e.a ∈ o
  memB : ∀ e ∈ E, e.b ∈ o
def Fixed (E : List Q3) (b f : Int → Int) (p : List Int) : Prop := ∀ i ∈ p, f i = fx E f i (b i)
section
variable {R : Int → Int → Prop} {E : List Q3} {b : Int → Int}
theorem Topo.irr {o : List Int} (T : Topo R E o) (x : Int) : ¬ R x x := fun h => T.asym h h
/-- What lies before a node that is reached from there, in any cut of the order. -/
theorem Topo.before {p q : List Int} (T : Topo R E (p ++ q)) {e : Q3} (he : e ∈ E) (hb : e.b ∈ p) : e.a ∈ p := by
  rcases List.mem_append.1 (T.memA e he) with h | h
  · exact h
  · have := (List.pairwise_append.1 T.pair).2.2 e.b hb e.a h
    exact absurd (T.edge e he) (T.asym this)
theorem Topo.notin {p q : List Int} {i : Int} (T : Topo R E (p ++ i :: q)) : i ∉ p := fun h => T.irr i ((List.pairwise_append.1 T.pair).2.2 i h i (by simp))
theorem step_fixed {p q : List Int} {i : Int} {f : Int → Int} (T : Topo R E (p ++ i :: q)) (hf : Fixed E b f p) (hb : f i = b i) : Fixed E b (E.foldl (vst i) f) (p ++ [i]) := by
  have hself : ∀ e ∈ E, e.b = i → e.a ≠ i := fun e he hb ha => by have := T.edge e he; rw [hb, ha] at this; exact T.irr i this
  intro j hj
  rcases List.mem_append.1 hj with hj | hj
  · have hne : j ≠ i := fun h => T.notin (h ▸ hj)
    rw [vst_ne hne, hf j hj]
    refine fx_congr _ fun e he hb => ?_
    have ha := T.before he (hb ▸ hj)
    rw [vst_ne (fun h => by rw [h] at ha; exact T.notin ha)]
  · simp only [List.mem_singleton] at hj
    subst hj
    rw [vst_at E f hself, hb]
    exact fx_congr _ fun e he hb => (vst_ne (hself e he hb) E f).symm
theorem pass_fixed : ∀ (q p : List Int) (f : Int → Int), Topo R E (p ++ q) → Fixed E b f p → (∀ i ∈ q, f i = b i) → Fixed E b (pass E q f) (p ++ q)
  | [], p, f, _, hf, _ => by simpa [pass] using hf
  | i :: q, p, f, T, hf, hq => by
    have h1 := step_fixed T hf (hq i (by simp))
    have T' : Topo R E ((p ++ [i]) ++ q) := by simpa using T
    have := pass_fixed q (p ++ [i]) (E.foldl (vst i) f) T' h1 fun j hj => by
      rw [vst_ne, hq j (List.mem_cons_of_mem _ hj)]
      intro h; subst h
      exact T.irr j ((List.pairwise_cons.1 (List.pairwise_append.1 T.pair).2.1).1 j hj)
    simpa [pass] using this
theorem passB_fixed : ∀ (q p : List Int) (f : Int → Int), Topo R E (p ++ q) → Fixed E b f p → Fixed E b (passB E b q f) (p ++ q)
  | [], p, f, _, hf => by simpa [passB] using hf
  | i :: q, p, f, T, hf => by
    have hf' : Fixed E b (updI f i (b i)) p := fun j hj => by
      have hne : j ≠ i := fun h => T.notin (h ▸ hj)
      rw [updI_ne hne, hf j hj]
      exact fx_congr _ fun e he hb => (updI_ne (fun h => by have ha := T.before he (hb ▸ hj); rw [h] at ha; exact T.notin ha)).symm
    have h1 := step_fixed T hf' (updI_same _ _ _)
    have T' : Topo R E ((p ++ [i]) ++ q) := by simpa using T
    have := passB_fixed q (p ++ [i]) _ T' h1
    simpa [passB] using this
theorem rlx_mono (f : Int → Int) (e : Q3) (i : Int) : f i ≤ rlx f e i := by
  rw [rlx, updI]; split
  · rename_i h; subst h; omega
  · omega
theorem rlxs_mono (i : Int) : ∀ (E : List Q3) (f : Int → Int), f i ≤ (E.foldl rlx f) i
  | [], _ => Int.le_refl _
  | e :: E, f => by have := rlx_mono f e i; have := rlxs_mono i E (rlx f e); rw [List.foldl_cons]; omega
theorem rlxs_ge : ∀ (E : List Q3) (f : Int → Int) (e : Q3), e ∈ E → f e.a + e.c ≤ (E.foldl rlx f) e.b
  | e' :: E, f, e, he => by
    rw [List.foldl_cons]
    rcases List.mem_cons.1 he with rfl | he
    · have h1 := rlxs_mono e.b E (rlx f e)
      have h2 : f e.a + e.c ≤ rlx f e e.b := by rw [rlx, updI_same]; omega
      omega
    · have h1 := rlxs_ge E (rlx f e') e he
      have h2 := rlx_mono f e' e.a
      omega
theorem rlxs_le {D : Int → Int} {S : Int → Prop} : ∀ (E : List Q3) (f : Int → Int), (∀ i, S i → f i ≤ D i) → (∀ e ∈ E, S e.a ∧ D e.a + e.c ≤ D e.b) → ∀ i, S i → (E.foldl rlx f) i ≤ D i
  | [], _, hf, _ => hf
  | e :: E, f, hf, hE => by
    rw [List.foldl_cons]
    refine rlxs_le E _ (fun i hi => ?_) fun e' he' => hE e' (List.mem_cons_of_mem _ he')
    rw [rlx, updI]
    split
    · rename_i h; subst h
      have h1 := hf _ hi
      have ⟨h2, h3⟩ := hE e (by simp)
      have h4 := hf _ h2
      omega
    · exact hf i hi
theorem rnds_le {D : Int → Int} {o : List Int} (T : Topo R E o) (hD : Fixed E b D o) : ∀ k i, i ∈ o → rnds E b k i ≤ D i
  | 0, i, hi => by rw [hD i hi]; exact fx_base _ _ _ _
  | k + 1, i, hi => rlxs_le (S := (· ∈ o)) E _ (rnds_le T hD k) (fun e he => ⟨T.memA e he, by rw [hD _ (T.memB e he)]; exact fx_ge D e.b E _ e he rfl⟩) i hi
theorem rnds_base (i : Int) : ∀ k, b i ≤ rnds E b k i
  | 0 => Int.le_refl _
  | k + 1 => by have := rnds_base i k; have := rlxs_mono i E (rnds E b k); rw [rnds]; omega
theorem rnds_ge {D : Int → Int} : ∀ (k : Nat) (p q : List Int), Topo R E (p ++ q) → Fixed E b D (p ++ q) → p.length ≤ k → ∀ i ∈ p, D i ≤ rnds E b k i
  | 0, p, q, _, _, hk, i, hi => by
    have : p = [] := List.length_eq_zero_iff.1 (by omega)
    subst this; cases hi
  | k + 1, p, q, T, hD, hk, i, hi => by
    rcases List.eq_nil_or_concat p with rfl | ⟨p', z, hp⟩
    · cases hi
    · rw [List.concat_eq_append] at hp
      subst hp
      have T' : Topo R E (p' ++ z :: q) := by simpa using T
      have ih := rnds_ge k p' (z :: q) T' (by simpa using hD) (by simp at hk; omega)
      rcases List.mem_append.1 hi with hi' | hi'
      · have h1 := ih i hi'
        have h2 := rlxs_mono i E (rnds E b k)
        rw [rnds]; omega
      · simp only [List.mem_singleton] at hi'
        subst hi'
        rw [hD i (by simp)]
        refine fx_le D i _ E _ (rnds_base i (k + 1)) fun e he hb => ?_
        have ha : e.a ∈ p' := by
          rcases List.mem_append.1 (T.before he (p := p' ++ [i]) (by rw [hb]; simp)) with h | h
          · exact h
          · simp only [List.mem_singleton] at h
            have := T.edge e he
            rw [h, hb] at this
            exact absurd this (T.irr i)
        have h1 := ih e.a ha
        have h2 := rlxs_ge E (rnds E b k) e he
        rw [hb] at h2
        rw [rnds]; omega
/-- Enough rounds give what any fixed distances are. -/
theorem rnds_eq {D : Int → Int} {o : List Int} (T : Topo R E o) (hD : Fixed E b D o) (k : Nat) (hk : o.length ≤ k) (i : Int) (hi : i ∈ o) : rnds E b k i = D i := by
  have h1 := rnds_le T hD k i hi
  have h2 := rnds_ge k o [] (by simpa using T) (by simpa using hD) hk i hi
  omega
theorem pass_is {o : List Int} (T : Topo R E o) : Fixed E b (pass E o b) o := by
  have := pass_fixed (b := b) o [] b (by simpa using T) (fun _ h => by cases h) (fun _ _ => rfl)
  simpa using this
theorem passB_is {o : List Int} (T : Topo R E o) (f : Int → Int) : Fixed E b (passB E b o f) o := by
  have := passB_fixed (b := b) o [] f (by simpa using T) (fun _ h => by cases h)
  simpa using this
end
end Go.Proofs.Ytnhiepgfgnemkaa
