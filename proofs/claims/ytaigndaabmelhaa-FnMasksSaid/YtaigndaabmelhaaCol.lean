/- PLAIN: coloring a graph by search, as both sides do it. No condition. -/
import Derived.Test.YtaigndaabmelhaaPtb
namespace Go.Proofs.Ytaigndaabmelhaa

def edg (T : List (List Bool)) (i k : Nat) : Bool := (T.getD i []).getD k false
def updN (c : Nat → Int) (j : Nat) (v : Int) : Nat → Int := fun x => if x = j then v else c x
theorem updN_same (c : Nat → Int) (j : Nat) (v : Int) : updN c j v j = v := by simp [updN]
theorem updN_ne (c : Nat → Int) {j x : Nat} (v : Int) (h : x ≠ j) : updN c j v x = c x := by simp [updN, h]
/-- Colors, and the queue of a search. -/
abbrev CS := (Nat → Int) × List Nat
def cst (T : List (List Bool)) (i j : Nat) (s : CS) : CS := if (edg T i j && decide (s.1 j < 0)) = true then (updN s.1 j (1 - s.1 i), s.2 ++ [j]) else s
def crow (T : List (List Bool)) (i : Nat) : Nat → CS → CS
  | 0, s => s
  | m + 1, s => cst T i m (crow T i m s)
def cbfs (T : List (List Bool)) (n : Nat) : Nat → CS → CS
  | 0, s => s
  | k + 1, s => match (cbfs T n k s).2[k]? with
    | some i => crow T i n (cbfs T n k s)
    | none => cbfs T n k s
def ccol (T : List (List Bool)) (n : Nat) : Nat → Nat → Int
  | 0 => fun _ => -1
  | m + 1 => if 0 ≤ ccol T n m m then ccol T n m else (cbfs T n (n + 1) (updN (ccol T n m) m 0, [m])).1
def okC (T : List (List Bool)) (n : Nat) : Bool := (List.range n).all fun i => (List.range n).all fun k => !(edg T i k && decide (ccol T n n i = ccol T n n k))
section
variable {T : List (List Bool)} {n : Nat}
theorem cst_hit {i j : Nat} {s : CS} (h : edg T i j = true) (h2 : s.1 j < 0) : cst T i j s = (updN s.1 j (1 - s.1 i), s.2 ++ [j]) := by rw [cst, if_pos (by simp [h, h2])]
theorem cst_miss {i j : Nat} {s : CS} (h : edg T i j = false ∨ 0 ≤ s.1 j) : cst T i j s = s := by
  rw [cst, if_neg]
  rcases h with h | h
  · simp [h]
  · simp; intro _; omega
theorem cbfs_go {k i : Nat} {s : CS} (h : (cbfs T n k s).2[k]? = some i) : cbfs T n (k + 1) s = crow T i n (cbfs T n k s) := by rw [cbfs, h]
theorem cbfs_stop {k : Nat} {s : CS} (h : (cbfs T n k s).2.length ≤ k) : ∀ m, cbfs T n (k + m) s = cbfs T n k s
  | 0 => rfl
  | m + 1 => by
    have ih := cbfs_stop h m
    rw [← Nat.add_assoc, cbfs, List.getElem?_eq_none (by rw [ih]; omega)]
    exact ih
/-- All that is colored in c is colored so in d. -/
def Lead (c d : Nat → Int) : Prop := ∀ x, 0 ≤ c x → d x = c x
theorem Lead.refl (c : Nat → Int) : Lead c c := fun _ _ => rfl
theorem Lead.trans {a b c : Nat → Int} (h : Lead a b) (k : Lead b c) : Lead a c := fun x hx => (k x (by rw [h x hx]; exact hx)).trans (h x hx)
theorem lead_cst (i j : Nat) (s : CS) : Lead s.1 (cst T i j s).1 := fun x hx => by
  by_cases h : (edg T i j && decide (s.1 j < 0)) = true
  · rw [Bool.and_eq_true, decide_eq_true_eq] at h
    rw [cst_hit h.1 h.2]
    exact updN_ne _ _ (fun e => by rw [e] at hx; omega)
  · rw [cst, if_neg h]
theorem lead_crow (i : Nat) (s : CS) : ∀ m d, Lead (crow T i m s).1 (crow T i (m + d) s).1
  | _, 0 => Lead.refl _
  | m, d + 1 => (lead_crow i s m d).trans (lead_cst i (m + d) _)
theorem lead_cbfs1 (k : Nat) (s : CS) : Lead (cbfs T n k s).1 (cbfs T n (k + 1) s).1 := by
  rw [cbfs]
  split
  · have := lead_crow (T := T) (by assumption) (cbfs T n k s) 0 n
    rw [Nat.zero_add] at this
    exact this
  · exact Lead.refl _
theorem lead_cbfs (s : CS) : ∀ k d, Lead (cbfs T n k s).1 (cbfs T n (k + d) s).1
  | _, 0 => Lead.refl _
  | k, d + 1 => (lead_cbfs s k d).trans (lead_cbfs1 (k + d) s)
theorem lead_upd {c : Nat → Int} {m : Nat} {v : Int} (h : c m < 0) : Lead c (updN c m v) := fun x hx => updN_ne _ _ (fun e => by rw [e] at hx; omega)
theorem lead_ccol1 (m : Nat) : Lead (ccol T n m) (ccol T n (m + 1)) := by
  rw [ccol]
  split
  · exact Lead.refl _
  · rename_i h
    have h1 := lead_cbfs (T := T) (n := n) (updN (ccol T n m) m 0, [m]) 0 (n + 1)
    rw [Nat.zero_add] at h1
    exact (lead_upd (by omega)).trans h1
theorem lead_ccol : ∀ m d, Lead (ccol T n m) (ccol T n (m + d))
  | _, 0 => Lead.refl _
  | m, d + 1 => (lead_ccol m d).trans (lead_ccol1 (m + d))
/-- How many below n have no color. -/
def neg (c : Nat → Int) : Nat → Nat
  | 0 => 0
  | m + 1 => neg c m + if c m < 0 then 1 else 0
theorem neg_le (c : Nat → Int) : ∀ n, neg c n ≤ n
  | 0 => Nat.le_refl _
  | n + 1 => by have := neg_le c n; rw [neg]; split <;> omega
theorem neg_same {c : Nat → Int} {j : Nat} {v : Int} : ∀ n, n ≤ j → neg (updN c j v) n = neg c n
  | 0, _ => rfl
  | n + 1, h => by rw [neg, neg, neg_same n (by omega), updN_ne _ _ (by omega)]
theorem neg_upd {c : Nat → Int} {j : Nat} {v : Int} (hj : c j < 0) (hv : 0 ≤ v) : ∀ n, j < n → neg (updN c j v) n + 1 = neg c n
  | 0, h => by omega
  | n + 1, h => by
    rw [neg, neg]
    by_cases e : n = j
    · subst e
      rw [neg_same n (Nat.le_refl _), updN_same, if_neg (by omega), if_pos hj]
    · have := neg_upd hj hv n (by omega)
      rw [updN_ne _ _ e]
      omega
structure CInv (n : Nat) (s : CS) : Prop where
  bd : ∀ j, -1 ≤ s.1 j ∧ s.1 j ≤ 1
  mem : ∀ x ∈ s.2, x < n ∧ 0 ≤ s.1 x
  cnt : s.2.length + neg s.1 n ≤ n
theorem CInv.cst {s : CS} {i j : Nat} (h : CInv n s) (hi : 0 ≤ s.1 i) (hj : j < n) : CInv n (cst T i j s) := by
  by_cases hh : (edg T i j && decide (s.1 j < 0)) = true
  · rw [Bool.and_eq_true, decide_eq_true_eq] at hh
    rw [cst_hit hh.1 hh.2]
    have hb := h.bd i
    refine ⟨fun x => ?_, fun x hx => ?_, ?_⟩
    · show -1 ≤ updN s.1 j (1 - s.1 i) x ∧ updN s.1 j (1 - s.1 i) x ≤ 1
      by_cases e : x = j
      · subst e; rw [updN_same]; omega
      · rw [updN_ne _ _ e]; exact h.bd x
    · show x < n ∧ 0 ≤ updN s.1 j (1 - s.1 i) x
      rw [List.mem_append, List.mem_singleton] at hx
      rcases hx with hx | rfl
      · have h1 := h.mem x hx
        refine ⟨h1.1, ?_⟩
        rw [updN_ne _ _ (fun e => by rw [e] at h1; omega)]; exact h1.2
      · exact ⟨hj, by rw [updN_same]; omega⟩
    · have h1 := neg_upd (v := 1 - s.1 i) hh.2 (by omega) n hj
      have h2 := h.cnt
      show (s.2 ++ [j]).length + neg (updN s.1 j (1 - s.1 i)) n ≤ n
      rw [List.length_append, List.length_singleton]; omega
  · rw [Go.Proofs.Ytaigndaabmelhaa.cst, if_neg hh]; exact h
theorem crow_at (i : Nat) (s : CS) (m : Nat) (hi : 0 ≤ s.1 i) : (crow T i m s).1 i = s.1 i := by
  have := lead_crow (T := T) i s 0 m i hi
  rwa [Nat.zero_add] at this
theorem CInv.crow {s : CS} {i : Nat} (h : CInv n s) (hi : 0 ≤ s.1 i) : ∀ m, m ≤ n → CInv n (crow T i m s)
  | 0, _ => h
  | m + 1, hm => (CInv.crow h hi m (by omega)).cst (by rw [crow_at i s m hi]; exact hi) (by omega)
theorem CInv.cbfs {s : CS} (h : CInv n s) : ∀ k, CInv n (cbfs T n k s)
  | 0 => h
  | k + 1 => by
    have ih := CInv.cbfs h k
    rw [Go.Proofs.Ytaigndaabmelhaa.cbfs]
    split
    · rename_i i hi
      exact ih.crow (ih.mem i (List.mem_of_getElem? hi)).2 n (Nat.le_refl _)
    · exact ih
theorem CInv.start {c : Nat → Int} {m : Nat} (hb : ∀ j, -1 ≤ c j ∧ c j ≤ 1) (hm : m < n) (hc : c m < 0) : CInv n (updN c m 0, [m]) := by
  refine ⟨fun j => ?_, fun x hx => ?_, ?_⟩
  · show -1 ≤ updN c m 0 j ∧ updN c m 0 j ≤ 1
    by_cases e : j = m
    · subst e; rw [updN_same]; omega
    · rw [updN_ne _ _ e]; exact hb j
  · rw [List.mem_singleton] at hx
    subst hx
    exact ⟨hm, by show 0 ≤ updN c x 0 x; rw [updN_same]; omega⟩
  · have := neg_upd (v := 0) hc (by omega) n hm
    have h2 := neg_le c n
    show 1 + neg (updN c m 0) n ≤ n
    omega
theorem ccol_ok : ∀ m, m ≤ n → ∀ j, -1 ≤ ccol T n m j ∧ ccol T n m j ≤ 1
  | 0, _, j => by show -1 ≤ (-1 : Int) ∧ (-1 : Int) ≤ 1; omega
  | m + 1, hm, j => by
    have ih := ccol_ok m (by omega)
    rw [ccol]
    split
    · exact ih j
    · rename_i h
      exact ((CInv.start ih (by omega) (by omega)).cbfs (n + 1)).bd j
/-- Whoever has a color had one, or is in the queue. -/
theorem from_cst {i j : Nat} {s : CS} {x : Nat} (h : 0 ≤ (cst T i j s).1 x) : 0 ≤ s.1 x ∨ x ∈ (cst T i j s).2 := by
  by_cases hh : (edg T i j && decide (s.1 j < 0)) = true
  · rw [Bool.and_eq_true, decide_eq_true_eq] at hh
    rw [cst_hit hh.1 hh.2] at h ⊢
    have h : 0 ≤ updN s.1 j (1 - s.1 i) x := h
    by_cases e : x = j
    · right; simp [e]
    · left; rwa [updN_ne _ _ e] at h
  · rw [cst, if_neg hh] at h; exact Or.inl h
theorem mem_cst {i j : Nat} {s : CS} {x : Nat} (h : x ∈ s.2) : x ∈ (cst T i j s).2 := by
  by_cases hh : (edg T i j && decide (s.1 j < 0)) = true
  · rw [Bool.and_eq_true, decide_eq_true_eq] at hh
    rw [cst_hit hh.1 hh.2]; exact List.mem_append.2 (Or.inl h)
  · rw [cst, if_neg hh]; exact h
theorem mem_crow {i : Nat} {s : CS} {x : Nat} (h : x ∈ s.2) : ∀ m, x ∈ (crow T i m s).2
  | 0 => h
  | m + 1 => mem_cst (mem_crow h m)
theorem from_crow {i : Nat} {s : CS} {x : Nat} : ∀ m, 0 ≤ (crow T i m s).1 x → 0 ≤ s.1 x ∨ x ∈ (crow T i m s).2
  | 0, h => Or.inl h
  | m + 1, h => by
    rcases from_cst h with h | h
    · rcases from_crow m h with h | h
      · exact Or.inl h
      · exact Or.inr (mem_cst h)
    · exact Or.inr h
theorem from_cbfs {s : CS} {x : Nat} : ∀ k, 0 ≤ (cbfs T n k s).1 x → 0 ≤ s.1 x ∨ x ∈ (cbfs T n k s).2
  | 0, h => Or.inl h
  | k + 1, h => by
    cases hi : (cbfs T n k s).2[k]? with
    | some i =>
      rw [cbfs_go hi] at h ⊢
      rcases from_crow n h with h | h
      · rcases from_cbfs k h with h | h
        · exact Or.inl h
        · exact Or.inr (mem_crow h n)
      · exact Or.inr h
    | none =>
      have e : cbfs T n (k + 1) s = cbfs T n k s := by rw [cbfs, hi]
      rw [e] at h ⊢
      exact from_cbfs k h
theorem ccol_has : ∀ m x, x < m → 0 ≤ ccol T n m x
  | 0, x, h => by omega
  | m + 1, x, h => by
    have hl := lead_ccol1 (T := T) (n := n) m
    by_cases hx : x < m
    · have h1 := ccol_has m x hx
      rw [hl x h1]; exact h1
    · obtain rfl : x = m := by omega
      by_cases h0 : 0 ≤ ccol T n x x
      · rw [hl x h0]; exact h0
      · rw [ccol, if_neg h0]
        have h1 := lead_cbfs (T := T) (n := n) (updN (ccol T n x) x 0, [x]) 0 (n + 1)
        rw [Nat.zero_add] at h1
        have h2 : (cbfs T n 0 (updN (ccol T n x) x 0, [x])).1 x = 0 := updN_same _ _ _
        rw [h1 x (by rw [h2]; omega), h2]; omega
/-- In the final coloring the neighbors of i have other colors. -/
def Done (T : List (List Bool)) (n i : Nat) : Prop := ∀ k, k < n → edg T i k = true → ccol T n n k ≠ ccol T n n i
theorem okC_of (h : ∀ i, i < n → Done T n i) : okC T n = true := by
  rw [okC, List.all_eq_true]
  intro i hi
  rw [List.mem_range] at hi
  rw [List.all_eq_true]
  intro k hk
  rw [List.mem_range] at hk
  cases he : edg T i k with
  | false => rfl
  | true => have := h i hi k hk he; simp; exact fun e => this e.symm
theorem okC_not {i k : Nat} (hi : i < n) (hk : k < n) (he : edg T i k = true) (hc : ccol T n n k = ccol T n n i) : okC T n = false := by
  cases ho : okC T n with
  | false => rfl
  | true =>
    rw [okC, List.all_eq_true] at ho
    have h1 := ho i (List.mem_range.2 hi)
    rw [List.all_eq_true] at h1
    have h2 := h1 k (List.mem_range.2 hk)
    rw [he, hc] at h2
    simp at h2
end
end Go.Proofs.Ytaigndaabmelhaa
