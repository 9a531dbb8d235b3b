/- PLAIN: a graph whose coloring by search fails has an odd cycle, and the search for one finds it. No condition. -/
import Derived.Test.YtaigndaabmelhaaCyi
namespace Go.Proofs.Ytaigndaabmelhaa

/-- A walk of k steps. -/
def Wl (e : Nat → Nat → Bool) (n k x y : Nat) : Prop := ∃ p : Nat → Nat, p 0 = x ∧ p k = y ∧ (∀ i, i ≤ k → p i < n) ∧ ∀ i, i < k → e (p i) (p (i + 1)) = true
section
variable {e : Nat → Nat → Bool} {n : Nat}
theorem Wl.nil {x : Nat} (h : x < n) : Wl e n 0 x x := ⟨fun _ => x, rfl, rfl, fun _ _ => h, fun i hi => by omega⟩
theorem Wl.snoc {k x y z : Nat} (h : Wl e n k x y) (hz : z < n) (he : e y z = true) : Wl e n (k + 1) x z := by
  obtain ⟨p, h0, h1, h2, h3⟩ := h
  refine ⟨fun i => if i ≤ k then p i else z, ?_, ?_, fun i hi => ?_, fun i hi => ?_⟩
  · show (if 0 ≤ k then p 0 else z) = x
    rw [if_pos (by omega), h0]
  · show (if k + 1 ≤ k then p (k + 1) else z) = z
    rw [if_neg (by omega)]
  · show (if i ≤ k then p i else z) < n
    split
    · exact h2 i (by omega)
    · exact hz
  · show e (if i ≤ k then p i else z) (if i + 1 ≤ k then p (i + 1) else z) = true
    rw [if_pos (by omega)]
    by_cases hk : i + 1 ≤ k
    · rw [if_pos hk]; exact h3 i (by omega)
    · rw [if_neg hk]
      obtain rfl : i = k := by omega
      rw [h1]; exact he
theorem Wl.symm {k x y : Nat} (hs : ∀ a b, e a b = true → e b a = true) (h : Wl e n k x y) : Wl e n k y x := by
  obtain ⟨p, h0, h1, h2, h3⟩ := h
  refine ⟨fun i => p (k - i), by simpa using h1, by simpa using h0, fun i hi => h2 _ (by omega), fun i hi => ?_⟩
  have := hs _ _ (h3 (k - (i + 1)) (by omega))
  rwa [show k - (i + 1) + 1 = k - i by omega] at this
theorem Wl.trans {k l x y z : Nat} (h : Wl e n k x y) (g : Wl e n l y z) : Wl e n (k + l) x z := by
  obtain ⟨p, h0, h1, h2, h3⟩ := h
  obtain ⟨q, g0, g1, g2, g3⟩ := g
  refine ⟨fun i => if i ≤ k then p i else q (i - k), ?_, ?_, fun i hi => ?_, fun i hi => ?_⟩
  · show (if 0 ≤ k then p 0 else q (0 - k)) = x
    rw [if_pos (by omega), h0]
  · show (if k + l ≤ k then p (k + l) else q (k + l - k)) = z
    by_cases hl : k + l ≤ k
    · obtain rfl : l = 0 := by omega
      rw [if_pos (by omega)]
      show p k = z
      rw [h1, ← g0, g1]
    · rw [if_neg hl, show k + l - k = l by omega, g1]
  · show (if i ≤ k then p i else q (i - k)) < n
    split
    · exact h2 i (by omega)
    · exact g2 _ (by omega)
  · show e (if i ≤ k then p i else q (i - k)) (if i + 1 ≤ k then p (i + 1) else q (i + 1 - k)) = true
    by_cases hk : i + 1 ≤ k
    · rw [if_pos hk, if_pos (by omega)]; exact h3 i (by omega)
    · rw [if_neg hk]
      by_cases hk2 : i ≤ k
      · obtain rfl : i = k := by omega
        rw [if_pos hk2, h1, ← g0, show i + 1 - i = 0 + 1 by omega]
        exact g3 0 (by omega)
      · rw [if_neg hk2, show i + 1 - k = i - k + 1 by omega]
        exact g3 _ (by omega)
theorem map_getD (p : Nat → Nat) {L i : Nat} (h : i < L) : ((List.range L).map p).getD i 0 = p i := by
  rw [List.getD_eq_getElem?_getD, List.getElem?_map, List.getElem?_range h]; rfl
/-- An odd closed walk holds an odd cycle. -/
theorem odd_cycle (hirr : ∀ x, e x x = false) (L : Nat) : ∀ x, Wl e n L x x → L % 2 = 1 → ∃ l, Cy e n l ∧ l.length % 2 = 1 ∧ 3 ≤ l.length := by
  induction L using Nat.strongRecOn with
  | ind L ih =>
    intro x h ho
    obtain ⟨p, h0, h1, h2, h3⟩ := h
    by_cases hinj : ∀ i j, i < j → j < L → p i ≠ p j
    · have hL1 : L ≠ 1 := by
        rintro rfl
        have := h3 0 (by omega)
        rw [h0, show (0 + 1 : Nat) = 1 from rfl, h1, hirr] at this
        cases this
      refine ⟨(List.range L).map p, ⟨?_, fun y hy => ?_, fun i hi => ?_⟩, by simpa using ho, by simp; omega⟩
      · rw [List.Nodup, List.pairwise_map]
        refine List.Pairwise.imp_of_mem ?_ (List.pairwise_lt_range (n := L))
        intro a b ha hb hab
        exact hinj a b hab (List.mem_range.1 hb)
      · rw [List.mem_map] at hy
        obtain ⟨i, hi, rfl⟩ := hy
        exact h2 i (by have := List.mem_range.1 hi; omega)
      · rw [List.length_map, List.length_range] at hi ⊢
        rw [map_getD p hi]
        by_cases hl : i + 1 < L
        · rw [Nat.mod_eq_of_lt hl, map_getD p hl]; exact h3 i hi
        · obtain rfl : L = i + 1 := by omega
          rw [Nat.mod_self, map_getD p (by omega), h0, ← h1]
          exact h3 i hi
    · have hex : ∃ i j, i < j ∧ j < L ∧ p i = p j := by
        apply Classical.byContradiction
        intro hn
        exact hinj fun i j h4 h5 h6 => hn ⟨i, j, h4, h5, h6⟩
      obtain ⟨i, j, hij, hj, hp⟩ := hex
      by_cases hd : (j - i) % 2 = 1
      · refine ih (j - i) (by omega) (p i) ⟨fun t => p (i + t), rfl, ?_, fun t ht => h2 _ (by omega), fun t ht => ?_⟩ hd
        · show p (i + (j - i)) = p i
          rw [show i + (j - i) = j by omega, hp]
        · exact h3 (i + t) (by omega)
      · refine ih (L - (j - i)) (by omega) x ⟨fun t => if t ≤ i then p t else p (t + (j - i)), ?_, ?_, fun t ht => ?_, fun t ht => ?_⟩ (by omega)
        · show (if 0 ≤ i then p 0 else p (0 + (j - i))) = x
          rw [if_pos (by omega), h0]
        · show (if L - (j - i) ≤ i then p (L - (j - i)) else p (L - (j - i) + (j - i))) = x
          rw [if_neg (by omega), show L - (j - i) + (j - i) = L by omega, h1]
        · show (if t ≤ i then p t else p (t + (j - i))) < n
          split
          · exact h2 t (by omega)
          · exact h2 _ (by omega)
        · show e (if t ≤ i then p t else p (t + (j - i))) (if t + 1 ≤ i then p (t + 1) else p (t + 1 + (j - i))) = true
          by_cases ht1 : t + 1 ≤ i
          · rw [if_pos ht1, if_pos (by omega)]; exact h3 t (by omega)
          · rw [if_neg ht1]
            by_cases ht2 : t ≤ i
            · obtain rfl : t = i := by omega
              rw [if_pos ht2, hp, show t + 1 + (j - t) = j + 1 by omega]
              exact h3 j hj
            · rw [if_neg ht2, show t + 1 + (j - i) = t + (j - i) + 1 by omega]
              exact h3 _ (by omega)
/-- Different numbers below n are at most n. -/
theorem nodup_le : ∀ (n : Nat) (l : List Nat), l.Nodup → (∀ x ∈ l, x < n) → l.length ≤ n
  | 0, l, _, h => by
    cases l with
    | nil => simp
    | cons a l => have := h a (by simp); omega
  | n + 1, l, hd, h => by
    by_cases hm : n ∈ l
    · have h1 := nodup_le n (l.erase n) (hd.erase n) fun x hx => by
        have h2 := (hd.mem_erase_iff).1 hx
        have := h x h2.2
        omega
      rw [List.length_erase_of_mem hm] at h1
      omega
    · have h1 := nodup_le n l hd fun x hx => by
        have := h x hx
        have : x ≠ n := fun e9 => hm (e9 ▸ hx)
        omega
      omega
end
/-- The first of the shortest odd cycles, or none. -/
def ocL (T : List (List Bool)) (n : Nat) : List Nat := fne (fun j => fne (fun f => cycP (edg T) n (2 * j + 2) [f]) 0 n) 0 ((n - 1) / 2)
section
variable {T : List (List Bool)} {n : Nat}
theorem ocL_sound (h : ocL T n ≠ []) : Cy (edg T) n (ocL T n) ∧ (ocL T n).length % 2 = 1 ∧ 3 ≤ (ocL T n).length ∧ (ocL T n).length ≤ n := by
  obtain ⟨j, _, hj, h1⟩ := fne_some _ _ h
  rw [← ocL] at h1
  rw [← h1] at h
  have h2 := cyc_same (e := edg T) (n := n) (2 * j + 2)
  rw [← h2] at h h1
  obtain ⟨f, _, hf, h3⟩ := fne_some _ _ h
  rw [← h3] at h h1
  obtain ⟨a1, _, a3⟩ := cycR_sound (2 * j + 2) [f] (Pa.one (by omega)) h
  rw [h1] at a1 a3
  rw [a3]
  simp only [List.length_singleton]
  refine ⟨a1, by omega, by omega, by omega⟩
theorem ocL_full {l : List Nat} (h : Cy (edg T) n l) (ho : l.length % 2 = 1) (h3 : 3 ≤ l.length) : ocL T n ≠ [] := by
  intro h0
  have hl := nodup_le n l h.nd h.lt
  have h1 := fne_nil _ _ h0 ((l.length - 3) / 2) (by omega) (by omega)
  rw [show 2 * ((l.length - 3) / 2) + 2 = l.length - 1 by omega] at h1
  rw [← cyc_same] at h1
  cases l with
  | nil => simp at h3
  | cons a ks =>
    have ha := h.lt a (by simp)
    have h4 := fne_nil _ _ h1 a (by omega) (by omega)
    exact cycR_full _ [a] ks (by simp) (by simp) h h4
section
variable {c : Nat → Int} {m : Nat}
/-- Whoever is in the queue had no color before, and a walk from m of its color's parity. -/
def TI (T : List (List Bool)) (n : Nat) (c : Nat → Int) (m : Nat) (s : CS) : Prop := (∀ x ∈ s.2, x < n ∧ c x < 0 ∧ ∃ k, Wl (edg T) n k m x ∧ ((k : Int) % 2) = s.1 x) ∧ Lead c s.1
theorem TI.cst {s : CS} {i j : Nat} (h : TI T n c m s) (hi : i ∈ s.2) (hj : j < n) : TI T n c m (cst T i j s) := by
  by_cases hh : (edg T i j && decide (s.1 j < 0)) = true
  · rw [Bool.and_eq_true, decide_eq_true_eq] at hh
    obtain ⟨h1, h2⟩ := h
    obtain ⟨a1, a2, k, a3, a4⟩ := h1 i hi
    rw [cst_hit hh.1 hh.2]
    refine ⟨fun x hx => ?_, h2.trans (lead_upd hh.2)⟩
    show x < n ∧ c x < 0 ∧ ∃ k, Wl (edg T) n k m x ∧ ((k : Int) % 2) = updN s.1 j (1 - s.1 i) x
    rw [List.mem_append, List.mem_singleton] at hx
    by_cases e : x = j
    · subst e
      refine ⟨hj, ?_, k + 1, a3.snoc hj hh.1, by rw [updN_same, ← a4]; omega⟩
      rcases Int.lt_or_le (c x) 0 with h9 | h9
      · exact h9
      · have := h2 x h9; omega
    · rw [updN_ne _ _ e]
      rcases hx with hx | hx
      · exact h1 x hx
      · exact absurd hx e
  · rw [Go.Proofs.Ytaigndaabmelhaa.cst, if_neg hh]; exact h
theorem TI.crow {s : CS} {i : Nat} (h : TI T n c m s) (hi : i ∈ s.2) : ∀ d, d ≤ n → TI T n c m (crow T i d s)
  | 0, _ => h
  | d + 1, hd => (TI.crow h hi d (by omega)).cst (mem_crow hi d) (by omega)
theorem TI.cbfs {s : CS} (h : TI T n c m s) : ∀ k, TI T n c m (cbfs T n k s)
  | 0 => h
  | k + 1 => by
    have ih := TI.cbfs h k
    rw [Go.Proofs.Ytaigndaabmelhaa.cbfs]
    split
    · rename_i i hi
      exact ih.crow (List.mem_of_getElem? hi) n (Nat.le_refl _)
    · exact ih
theorem TI.start (hm : m < n) (hc : c m < 0) : TI T n c m (updN c m 0, [m]) := by
  refine ⟨fun x hx => ?_, lead_upd hc⟩
  rw [List.mem_singleton] at hx
  subst hx
  exact ⟨hm, hc, 0, Wl.nil hm, by show _ = updN c x 0 x; rw [updN_same]; rfl⟩
theorem crow_cols (i : Nat) (s : CS) (hi : 0 ≤ s.1 i ∧ s.1 i ≤ 1) : ∀ d j, j < d → edg T i j = true → 0 ≤ (crow T i d s).1 j
  | 0, j, h, _ => by omega
  | d + 1, j, h, he => by
    have hl := lead_cst (T := T) i d (crow T i d s)
    by_cases hj : j < d
    · have h1 := crow_cols i s hi d j hj he
      show 0 ≤ (cst T i d (crow T i d s)).1 j
      rw [hl j h1]; exact h1
    · obtain rfl : j = d := by omega
      show 0 ≤ (cst T i j (crow T i j s)).1 j
      by_cases h0 : 0 ≤ (crow T i j s).1 j
      · rw [hl j h0]; exact h0
      · rw [cst_hit he (by omega)]
        show 0 ≤ updN _ j _ j
        rw [updN_same, crow_at i s j hi.1]
        omega
theorem cbfs_pre {s : CS} {k t i : Nat} (h : (cbfs T n (k + 1) s).2[t]? = some i) : (t < (cbfs T n k s).2.length ∧ (cbfs T n k s).2[t]? = some i) ∨ (∃ x, (cbfs T n k s).2[k]? = some x ∧ (cbfs T n k s).2.length ≤ t) := by
  cases hx : (cbfs T n k s).2[k]? with
  | none =>
    have e : cbfs T n (k + 1) s = cbfs T n k s := by rw [cbfs, hx]
    rw [e] at h
    exact Or.inl ⟨(List.getElem?_eq_some_iff.1 h).1, h⟩
  | some x =>
    by_cases ht : t < (cbfs T n k s).2.length
    · left
      refine ⟨ht, ?_⟩
      rw [cbfs_go hx] at h
      obtain ⟨q, hq⟩ := pre_crow (T := T) x (cbfs T n k s) n
      rwa [hq, List.getElem?_append_left ht] at h
    · exact Or.inr ⟨x, rfl, by omega⟩
/-- The neighbors of whoever was taken from the queue have colors. -/
theorem cbfs_cols {s : CS} (hI : CInv n s) : ∀ k t i, t < k → (cbfs T n k s).2[t]? = some i → ∀ j, j < n → edg T i j = true → 0 ≤ (cbfs T n k s).1 j
  | 0, t, i, h, _, _, _, _ => by omega
  | k + 1, t, i, ht, hi, j, hj, he => by
    have hl := lead_cbfs1 (T := T) (n := n) k s
    rcases cbfs_pre hi with ⟨h1, h2⟩ | ⟨x, h1, h2⟩
    · by_cases htk : t < k
      · have h3 := cbfs_cols hI k t i htk h2 j hj he
        rw [hl j h3]; exact h3
      · obtain rfl : t = k := by omega
        rw [cbfs_go h2]
        have hJ := CInv.cbfs (T := T) hI t
        exact crow_cols i _ ⟨(hJ.mem i (List.mem_of_getElem? h2)).2, (hJ.bd i).2⟩ n j hj he
    · have := (List.getElem?_eq_some_iff.1 h1).1
      omega
end
/-- The colors of finished searches. -/
structure CC (T : List (List Bool)) (n : Nat) (c : Nat → Int) : Prop where
  shut : ∀ x y, x < n → y < n → 0 ≤ c x → edg T x y = true → 0 ≤ c y
  apart : ∀ x y, x < n → y < n → 0 ≤ c x → 0 ≤ c y → edg T x y = true → c x ≠ c y
theorem ccol_cc (hs : ∀ a b, edg T a b = true → edg T b a = true) (hno : ∀ L x, Wl (edg T) n L x x → L % 2 = 0) : ∀ m, m ≤ n → CC T n (ccol T n m)
  | 0, _ => ⟨fun x y _ _ h _ => by have h : (0 : Int) ≤ -1 := h; omega, fun x y _ _ h _ _ => by have h : (0 : Int) ≤ -1 := h; omega⟩
  | m + 1, hm => by
    have ih := ccol_cc hs hno m (by omega)
    have hb := ccol_ok (T := T) (n := n) m (by omega)
    rw [ccol]
    split
    · exact ih
    · rename_i h0
      have hc : ccol T n m m < 0 := by omega
      have hI := CInv.start hb (show m < n by omega) hc
      have hT := (TI.start (T := T) (c := ccol T n m) (show m < n by omega) hc).cbfs (n + 1)
      have hJ := CInv.cbfs (T := T) hI (n + 1)
      have hcols := cbfs_cols (T := T) hI (n + 1)
      have hfrom : ∀ x, 0 ≤ (cbfs T n (n + 1) (updN (ccol T n m) m 0, [m])).1 x → 0 ≤ ccol T n m x ∨ x ∈ (cbfs T n (n + 1) (updN (ccol T n m) m 0, [m])).2 := by
        intro x hx
        rcases from_cbfs _ hx with h | h
        · have h : 0 ≤ updN (ccol T n m) m 0 x := h
          by_cases e : x = m
          · subst e; right; exact mem_cbfs (by simp) _
          · rw [updN_ne _ _ e] at h; exact Or.inl h
        · exact Or.inr h
      have hdone : ∀ x, x ∈ (cbfs T n (n + 1) (updN (ccol T n m) m 0, [m])).2 → ∀ j, j < n → edg T x j = true → 0 ≤ (cbfs T n (n + 1) (updN (ccol T n m) m 0, [m])).1 j := by
        intro x hx j hj he
        obtain ⟨t, ht⟩ := List.getElem?_of_mem hx
        have := (List.getElem?_eq_some_iff.1 ht).1
        have := hJ.cnt
        exact hcols t x (by omega) ht j hj he
      obtain ⟨s, hs9⟩ : ∃ s, s = cbfs T n (n + 1) (updN (ccol T n m) m 0, [m]) := ⟨_, rfl⟩
      rw [← hs9] at hT hfrom hdone ⊢
      obtain ⟨hT1, hT2⟩ := hT
      refine ⟨fun x y hx hy h1 he => ?_, fun x y hx hy h1 h2 he heq => ?_⟩
      · rcases hfrom x h1 with h | h
        · have := ih.shut x y hx hy h he
          rw [hT2 y this]; exact this
        · exact hdone x h y hy he
      · rcases hfrom x h1 with h | h
        · have h3 := ih.shut x y hx hy h he
          rw [hT2 x h, hT2 y h3] at heq
          exact ih.apart x y hx hy h h3 he heq
        · obtain ⟨a1, a2, k, a3, a4⟩ := hT1 x h
          rcases hfrom y h2 with h5 | h5
          · have := ih.shut y x hy hx h5 (hs _ _ he)
            omega
          · obtain ⟨b1, b2, l, b3, b4⟩ := hT1 y h5
            have h6 := hno _ _ ((a3.snoc hy he).trans (b3.symm hs))
            rw [heq, ← b4] at a4
            omega
/-- No coloring: there is an odd cycle, and it is found. -/
theorem ocL_of_not (hs : ∀ a b, edg T a b = true → edg T b a = true) (hirr : ∀ x, edg T x x = false) (h : okC T n = false) : ocL T n ≠ [] := by
  have hex : ∃ L x, Wl (edg T) n L x x ∧ L % 2 = 1 := by
    apply Classical.byContradiction
    intro hn
    have hcc := ccol_cc (T := T) (n := n) hs (fun L x hw => by
      rcases Nat.mod_two_eq_zero_or_one L with h9 | h9
      · exact h9
      · exact absurd ⟨L, x, hw, h9⟩ hn) n (Nat.le_refl _)
    have : okC T n = true := okC_of fun i hi k hk he h9 => hcc.apart i k hi hk (ccol_has n i hi) (ccol_has n k hk) he h9.symm
    rw [h] at this
    cases this
  obtain ⟨L, x, hw, ho⟩ := hex
  obtain ⟨l, h1, h2, h3⟩ := odd_cycle hirr L x hw ho
  exact ocL_full h1 h2 h3
end
end Go.Proofs.Ytaigndaabmelhaa
