/- PLAIN: routing a channel: the order of the nets from left to right is the order column by column; a track filled in that order; the rounds. No condition. -/
import Derived.Test.YtiljojpnbpdaeaaIcp
import Derived.Test.YtiljojpnbpdaeaaLtr
namespace Go.Proofs.Ytiljojpnbpdaeaa
open Go.RowKit

def Sb (S : List Q3) (k : Nat) : Q3 := S.getD k ⟨0, 0, 0⟩
def Tn (T : List Int) (k : Nat) : Int := T.getD k 0
/-- The first m nets, column by column. -/
def bk (S : List Q3) (m : Nat) : Nat → List Nat
  | 0 => []
  | c + 1 => bk S m c ++ (List.range m).filter fun k => decide ((Sb S k).b = (c : Int))
def cfL (S : List Q3) (i k : Int) : Int := cmpI (Sb S i.toNat).b (Sb S k.toNat).b
/-- The nets from left to right. -/
def ordL (S : List Q3) : List Int := isort (ltOf (cfL S)) (upto S.length)

theorem bk_mem {S : List Q3} {m k : Nat} : ∀ {c : Nat}, k ∈ bk S m c → (Sb S k).b < c ∧ k < m
  | 0, h => by simp [bk] at h
  | c + 1, h => by
    rw [bk, List.mem_append] at h
    rcases h with h | h
    · have := bk_mem h; omega
    · rw [List.mem_filter] at h
      have h1 := of_decide_eq_true h.2
      have h2 := List.mem_range.1 h.1
      omega
theorem bk_in {S : List Q3} {m k c0 : Nat} (hk : k < m) (h : (Sb S k).b = c0) : ∀ {c : Nat}, c0 < c → k ∈ bk S m c
  | 0, hc => absurd hc (Nat.not_lt_zero _)
  | c + 1, hc => by
    rw [bk, List.mem_append]
    by_cases he : c0 = c
    · subst he
      exact Or.inr (List.mem_filter.2 ⟨List.mem_range.2 hk, decide_eq_true h⟩)
    · exact Or.inl (bk_in hk h (by omega))
theorem bk_low {S : List Q3} {m : Nat} : ∀ {c : Nat}, (c : Int) ≤ (Sb S m).b → bk S (m + 1) c = bk S m c
  | 0, _ => rfl
  | c + 1, h => by
    have h1 : ¬ ((Sb S m).b = (c : Int)) := by omega
    rw [bk, bk, bk_low (by omega), List.range_succ, List.filter_append]
    simp [h1]
theorem bk_hit {S : List Q3} {m c : Nat} (h : (Sb S m).b = c) : bk S (m + 1) (c + 1) = bk S m (c + 1) ++ [m] := by
  rw [bk, bk, bk_low (by omega), List.range_succ, List.filter_append]
  simp [h]
theorem bk_high {S : List Q3} {m c0 : Nat} (h : (Sb S m).b = c0) : ∀ {n : Nat}, c0 < n → ∃ A2, bk S m n = bk S m (c0 + 1) ++ A2 ∧ bk S (m + 1) n = bk S (m + 1) (c0 + 1) ++ A2 ∧ ∀ y ∈ A2, (c0 : Int) < (Sb S y).b
  | 0, hn => absurd hn (Nat.not_lt_zero _)
  | n + 1, hn => by
    by_cases he : c0 = n
    · subst he
      exact ⟨[], by simp, by simp, by simp⟩
    · obtain ⟨A2, h1, h2, h3⟩ := bk_high h (n := n) (by omega)
      have h4 : ¬ ((Sb S m).b = (n : Int)) := by omega
      refine ⟨A2 ++ (List.range m).filter fun k => decide ((Sb S k).b = (n : Int)), ?_, ?_, fun y hy => ?_⟩
      · rw [bk, h1, List.append_assoc]
      · rw [bk, h2, List.append_assoc, List.range_succ, List.filter_append]
        simp [h4]
      · rcases List.mem_append.1 hy with hy | hy
        · exact h3 y hy
        · have := of_decide_eq_true (List.mem_filter.1 hy).2
          omega
theorem bk_zero (S : List Q3) : ∀ n, bk S 0 n = []
  | 0 => rfl
  | n + 1 => by rw [bk, bk_zero S n]; rfl
theorem ltOf_cfL (S : List Q3) (i k : Nat) : ltOf (cfL S) (Int.ofNat i) (Int.ofNat k) = decide ((Sb S i).b < (Sb S k).b) := by
  show decide (cmpI (Sb S i).b (Sb S k).b < 0) = _
  rw [cmpI]
  split
  · simp_all
  · split
    · simp; omega
    · simp; omega
theorem ord_eq {S : List Q3} {n : Nat} (h : ∀ k, k < S.length → ∃ c : Nat, (Sb S k).b = c ∧ c < n) : ∀ m, m ≤ S.length → isort (ltOf (cfL S)) (upto m) = (bk S m n).map Int.ofNat
  | 0, _ => by rw [bk_zero]; rfl
  | m + 1, hm => by
    obtain ⟨c, hc, hcn⟩ := h m (by omega)
    obtain ⟨A2, h1, h2, h3⟩ := bk_high hc hcn
    rw [upto_snoc, isort_snoc, ord_eq h m (by omega), h1, h2, bk_hit hc]
    simp only [List.map_append]
    have := insB_split (lt := ltOf (cfL S)) (x := Int.ofNat m) (A1 := (bk S m (c + 1)).map Int.ofNat) (A2 := A2.map Int.ofNat) ?_ ?_
    · rw [show ((m : Int)) = Int.ofNat m from rfl, this]; simp
    · intro y hy
      obtain ⟨y', hy', rfl⟩ := List.mem_map.1 hy
      rw [ltOf_cfL]
      have := h3 y' hy'
      simp; omega
    · rcases List.eq_nil_or_concat (bk S m (c + 1)) with he | ⟨A0, z, he⟩
      · exact Or.inl (by rw [he]; rfl)
      · refine Or.inr ⟨A0.map Int.ofNat, Int.ofNat z, by rw [he]; simp, ?_⟩
        have hz := (bk_mem (S := S) (m := m) (c := c + 1) (k := z) (by rw [he]; simp)).1
        rw [ltOf_cfL]
        simp; omega
/-- A track while it is filled: the tracks so far, the right end, how many nets are placed. -/
structure FS where
  T : List Int
  r : Int
  c : Int
/-- Net i is not above net k, or has a track before tr. -/
def freeP (t b : List Int) (S : List Q3) (T : List Int) (k : Nat) (tr : Int) (i : Nat) : Bool := !(aboveB t b (Sb S i).a (Sb S k).a && (decide (Tn T i = 0) || decide (tr ≤ Tn T i)))
/-- All nets above net k have tracks before tr. -/
def freeB (t b : List Int) (S : List Q3) (T : List Int) (k : Nat) (tr : Int) : Bool := (List.range S.length).all (freeP t b S T k tr)
theorem freeB_yes {t b : List Int} {S : List Q3} {T : List Int} {k : Nat} {tr : Int} (h : ∀ i, i < S.length → freeP t b S T k tr i = true) : freeB t b S T k tr = true := by
  rw [freeB, List.all_eq_true]
  exact fun i hi => h i (List.mem_range.1 hi)
theorem freeB_no {t b : List Int} {S : List Q3} {T : List Int} {k : Nat} {tr : Int} {i : Nat} (hi : i < S.length) (h : freeP t b S T k tr i = false) : freeB t b S T k tr = false := by
  rw [freeB, List.all_eq_false]
  exact ⟨i, List.mem_range.2 hi, by rw [h]; exact Bool.false_ne_true⟩
def canB (t b : List Int) (S : List Q3) (tr : Int) (s : FS) (k : Nat) : Bool := decide (Tn s.T k = 0) && (decide (s.r < (Sb S k).b) && freeB t b S s.T k tr)
def fstep (t b : List Int) (S : List Q3) (tr : Int) (s : FS) (k : Nat) : FS := if canB t b S tr s k then ⟨s.T.set k tr, (Sb S k).c, s.c + 1⟩ else s
theorem fstep_hit {t b : List Int} {S : List Q3} {tr : Int} {s : FS} {k : Nat} (h1 : Tn s.T k = 0) (h2 : s.r < (Sb S k).b) (h3 : freeB t b S s.T k tr = true) : fstep t b S tr s k = ⟨s.T.set k tr, (Sb S k).c, s.c + 1⟩ := by
  rw [fstep, canB, if_pos (by simp [h1, h2, h3])]
theorem fstep_off {t b : List Int} {S : List Q3} {tr : Int} {s : FS} {k : Nat} (h : Tn s.T k ≠ 0 ∨ ¬ s.r < (Sb S k).b ∨ freeB t b S s.T k tr = false) : fstep t b S tr s k = s := by
  rw [fstep, if_neg]
  simp only [canB, Bool.and_eq_true, decide_eq_true_eq]
  rintro ⟨h1, h2, h3⟩
  rcases h with h | h | h
  · exact h h1
  · exact h h2
  · rw [h] at h3; cases h3
def fillS (t b : List Int) (S : List Q3) (n : Nat) (tr : Int) (T : List Int) : FS := (bk S S.length n).foldl (fstep t b S tr) ⟨T, -1, 0⟩
/-- The reference's loop over the nets of a column. -/
def rin (t b : List Int) (S : List Q3) (tr : Int) (col : Nat) (s : FS) : Nat → FS
  | 0 => s
  | k + 1 => if (Sb S k).b = (col : Int) then fstep t b S tr (rin t b S tr col s k) k else rin t b S tr col s k
theorem rin_fold (t b : List Int) (S : List Q3) (tr : Int) (col : Nat) (s : FS) : ∀ k, rin t b S tr col s k = ((List.range k).filter fun k => decide ((Sb S k).b = (col : Int))).foldl (fstep t b S tr) s
  | 0 => rfl
  | k + 1 => by
    rw [rin, rin_fold t b S tr col s k, List.range_succ, List.filter_append, List.foldl_append]
    by_cases h : (Sb S k).b = (col : Int)
    · simp [h]
    · simp [h]
def rout (t b : List Int) (S : List Q3) (tr : Int) (T : List Int) : Nat → FS
  | 0 => ⟨T, -1, 0⟩
  | c + 1 => rin t b S tr c (rout t b S tr T c) S.length
theorem rout_fold (t b : List Int) (S : List Q3) (tr : Int) (T : List Int) : ∀ n, rout t b S tr T n = fillS t b S n tr T
  | 0 => rfl
  | n + 1 => by
    rw [rout, rin_fold, rout_fold t b S tr T n, fillS, fillS, bk, List.foldl_append]
theorem fstep_len (t b : List Int) (S : List Q3) (tr : Int) (s : FS) (k : Nat) : (fstep t b S tr s k).T.length = s.T.length := by
  rw [fstep]; split <;> simp
theorem fstep_c (t b : List Int) (S : List Q3) (tr : Int) (s : FS) (k : Nat) : s.c ≤ (fstep t b S tr s k).c ∧ (fstep t b S tr s k).c ≤ s.c + 1 := by
  rw [fstep]; split
  · simp only; omega
  · omega
theorem ffold_bd (t b : List Int) (S : List Q3) (tr : Int) : ∀ (l : List Nat) (s : FS), (l.foldl (fstep t b S tr) s).T.length = s.T.length ∧ s.c ≤ (l.foldl (fstep t b S tr) s).c ∧ (l.foldl (fstep t b S tr) s).c ≤ s.c + l.length
  | [], s => by simp
  | k :: l, s => by
    have h := ffold_bd t b S tr l (fstep t b S tr s k)
    have h1 := fstep_len t b S tr s k
    have h2 := fstep_c t b S tr s k
    rw [List.foldl_cons, List.length_cons]
    omega
theorem Tn_set {T : List Int} {k i : Nat} {x : Int} (hk : k < T.length) : Tn (T.set k x) i = if i = k then x else Tn T i := by
  rw [Tn, Tn, List.getD_eq_getElem?_getD, List.getD_eq_getElem?_getD, List.getElem?_set]
  by_cases h : k = i
  · subst h; simp [hk]
  · rw [if_neg h, if_neg (fun e => h e.symm)]
def zer (T : List Int) : Nat := T.countP fun x => decide (x = 0)
theorem zer_set : ∀ {T : List Int} {k : Nat} {x : Int}, k < T.length → Tn T k = 0 → x ≠ 0 → zer (T.set k x) + 1 = zer T
  | [], _, _, h, _, _ => absurd h (Nat.not_lt_zero _)
  | y :: T, 0, x, _, h0, hx => by
    have hy : y = 0 := h0
    subst hy
    simp [zer, hx]
  | y :: T, k + 1, x, h, h0, hx => by
    have ih := zer_set (T := T) (k := k) (x := x) (by simpa using h) (by simpa [Tn] using h0) hx
    simp only [zer, List.set_cons_succ, List.countP_cons] at ih ⊢
    omega
theorem zer_fold {t b : List Int} {S : List Q3} {tr : Int} (h1 : 1 ≤ tr) : ∀ (l : List Nat) (s : FS), (∀ k ∈ l, k < s.T.length) → (zer (l.foldl (fstep t b S tr) s).T : Int) + (l.foldl (fstep t b S tr) s).c = zer s.T + s.c
  | [], _, _ => rfl
  | k :: l, s, hl => by
    rw [List.foldl_cons, zer_fold h1 l _ (fun j hj => by rw [fstep_len]; exact hl j (List.mem_cons_of_mem _ hj))]
    rw [fstep]
    split
    · rename_i hc
      simp only [canB, Bool.and_eq_true, decide_eq_true_eq] at hc
      have := zer_set (hl k List.mem_cons_self) hc.1 (show tr ≠ 0 by omega)
      simp only
      omega
    · rfl
theorem fill_bd {t b : List Int} {S : List Q3} {n : Nat} {tr : Int} {T : List Int} (h1 : 1 ≤ tr) (hT : T.length = S.length) : 0 ≤ (fillS t b S n tr T).c ∧ (fillS t b S n tr T).c ≤ S.length := by
  have hZ := zer_fold (t := t) (b := b) (S := S) h1 (bk S S.length n) ⟨T, -1, 0⟩ (fun k hk => by rw [hT]; exact (bk_mem hk).2)
  have hC := (ffold_bd t b S tr (bk S S.length n) ⟨T, -1, 0⟩).2.1
  have hz : zer T ≤ T.length := List.countP_le_length
  rw [← fillS] at hZ hC
  simp only at hZ hC
  omega
/-- The rounds: one track after the other. -/
def chanRun (t b : List Int) (S : List Q3) (n : Nat) : Nat → Int → List Int → Int → Option (List Int)
  | 0, _, T, left => if left ≤ 0 then some T else none
  | f + 1, tr, T, left => if left ≤ 0 then some T else if (fillS t b S n tr T).c = 0 then none else chanRun t b S n f (tr + 1) (fillS t b S n tr T).T (left - (fillS t b S n tr T).c)
/-- What RouteChannel answers for a valid channel. -/
def rcR (t b : List Int) : Option (List Int) := chanRun t b (spansL t b) t.length (spansL t b).length 1 (List.replicate (spansL t b).length 0) (spansL t b).length
theorem chanRun_len {t b : List Int} {S : List Q3} {n : Nat} : ∀ {f : Nat} {tr : Int} {T : List Int} {left : Int} {R : List Int}, chanRun t b S n f tr T left = some R → R.length = T.length
  | 0, tr, T, left, R, h => by
    rw [chanRun] at h
    split at h
    · cases h; rfl
    · cases h
  | f + 1, tr, T, left, R, h => by
    rw [chanRun] at h
    split at h
    · cases h; rfl
    · split at h
      · cases h
      · rw [chanRun_len h]
        exact (ffold_bd t b S tr (bk S S.length n) ⟨T, -1, 0⟩).1
theorem chanRun_go {t b : List Int} {S : List Q3} {n f : Nat} {tr left : Int} {T : List Int} (h0 : 0 < left) (hf : left ≤ f) : ∃ f', f = f' + 1 ∧ chanRun t b S n f tr T left = if (fillS t b S n tr T).c = 0 then none else chanRun t b S n f' (tr + 1) (fillS t b S n tr T).T (left - (fillS t b S n tr T).c) := by
  cases f with
  | zero => omega
  | succ f' => exact ⟨f', rfl, by rw [chanRun, if_neg (by omega)]⟩
theorem chanRun_end {t b : List Int} {S : List Q3} {n f : Nat} {tr left : Int} {T : List Int} (h0 : left ≤ 0) : chanRun t b S n f tr T left = some T := by
  cases f <;> rw [chanRun, if_pos h0]
/-- The program's own test: column by column. -/
def plI (S : List Q3) (a : Int) : Int := idx (fun s : Q3 => s.a == a) S
def badC (S : List Q3) (T : List Int) (k : Nat) (tr : Int) (x y : Int) : Bool := (x != 0) && ((x != y) && ((y == (Sb S k).a) && (decide (Tn T (plI S x).toNat = 0) || decide (tr ≤ Tn T (plI S x).toNat))))
def freeK (t b : List Int) (S : List Q3) (T : List Int) (k : Nat) (tr : Int) : Nat → Bool
  | 0 => true
  | c + 1 => freeK t b S T k tr c && !badC S T k tr (t.getD c 0) (b.getD c 0)
theorem freeK_iff {t b : List Int} {S : List Q3} {T : List Int} {k : Nat} {tr : Int} : ∀ {n : Nat}, freeK t b S T k tr n = true ↔ ∀ c, c < n → badC S T k tr (t.getD c 0) (b.getD c 0) = false
  | 0 => by simp [freeK]
  | n + 1 => by
    rw [freeK, Bool.and_eq_true, freeK_iff (n := n)]
    simp only [Bool.not_eq_true']
    constructor
    · rintro ⟨h1, h2⟩ c hc
      by_cases he : c = n
      · subst he; exact h2
      · exact h1 c (by omega)
    · intro h
      exact ⟨fun c hc => h c (by omega), h n (by omega)⟩
theorem freeK_succ {t b : List Int} {S : List Q3} {T : List Int} {k : Nat} {tr : Int} {c : Nat} {x y : Int} (hx : t[c]? = some x) (hy : b[c]? = some y) : freeK t b S T k tr (c + 1) = (freeK t b S T k tr c && !badC S T k tr x y) := by
  rw [freeK, getD_of hx, getD_of hy]
theorem freeK_no {t b : List Int} {S : List Q3} {T : List Int} {k : Nat} {tr : Int} {c n : Nat} {x y : Int} (hx : t[c]? = some x) (hy : b[c]? = some y) (hc : c < n) (h : badC S T k tr x y = true) : freeK t b S T k tr n = false := by
  rw [← Bool.not_eq_true, freeK_iff]
  intro hh
  have := hh c hc
  rw [getD_of hx, getD_of hy, h] at this
  cases this
theorem Sb_of {S : List Q3} {k : Nat} {s : Q3} (h : S[k]? = some s) : Sb S k = s := getD_of h
theorem Tn_of {T : List Int} {k : Nat} {x : Int} (h : T[k]? = some x) : Tn T k = x := getD_of h
/-- The net of a column has its place. -/
theorem plI_at {t b : List Int} {i : Nat} {s : Q3} (h : (spansL t b)[i]? = some s) : plI (spansL t b) s.a = i := by
  refine idx_hit ?_ h (by simp)
  rw [List.any_eq_false]
  intro u hu hh
  have hh' : u.a = s.a := by simpa using hh
  obtain ⟨j, hj⟩ := List.mem_iff_getElem?.1 hu
  rw [List.getElem?_take] at hj
  split at hj
  · have := net_inj hj h hh'
    omega
  · cases hj
theorem plI_col {t b : List Int} {c : Nat} {x y : Int} (hok : chOk t b = true) (hx : t[c]? = some x) (hy : b[c]? = some y) (h0 : x ≠ 0) : ∃ i : Nat, plI (spansL t b) x = i ∧ i < (spansL t b).length ∧ (Sb (spansL t b) i).a = x := by
  obtain ⟨h1, h2, _, _⟩ := chOk_at hok hx hy
  have hc : c < t.length := (List.getElem?_eq_some_iff.1 hx).1
  obtain ⟨s, hs, rfl⟩ := span_mem (sp_hit (net := x) hc (Or.inl (getD_of hx))) (by omega) 12 (by omega)
  obtain ⟨i, hi⟩ := List.mem_iff_getElem?.1 hs
  exact ⟨i, plI_at hi, (List.getElem?_eq_some_iff.1 hi).1, by rw [Sb_of (show (spansL t b)[i]? = some s from hi)]⟩
theorem free_eq {t b : List Int} (hok : chOk t b = true) {T : List Int} {k : Nat} {tr : Int} : freeK t b (spansL t b) T k tr t.length = freeB t b (spansL t b) T k tr := by
  have hl := (chOk_len hok).1
  rw [Bool.eq_iff_iff, freeK_iff, freeB, List.all_eq_true]
  constructor
  · intro h i hi
    have hi' := List.mem_range.1 hi
    rw [freeP]
    cases hA : aboveB t b (Sb (spansL t b) i).a (Sb (spansL t b) k).a with
    | false => rfl
    | true =>
      obtain ⟨hne, c, hx, hy⟩ := (aboveB_iff hl).1 hA
      have hc : c < t.length := (List.getElem?_eq_some_iff.1 hx).1
      have hs : (spansL t b)[i]? = some (Sb (spansL t b) i) := by rw [Sb, List.getD_eq_getElem?_getD, List.getElem?_eq_getElem hi']; rfl
      have h0 := (spansK_sorted t b t.length 12).2 _ (List.mem_of_getElem? hs)
      have hb := h c hc
      rw [getD_of hx, getD_of hy, badC, plI_at hs] at hb
      have d1 : ((Sb (spansL t b) i).a != 0) = true := by simp; omega
      have d2 : ((Sb (spansL t b) i).a != (Sb (spansL t b) k).a) = true := by simpa using hne
      rw [d1, d2] at hb
      simpa using hb
  · intro h c hc
    have hcb : c < b.length := by omega
    have hx : t[c]? = some t[c] := List.getElem?_eq_getElem hc
    have hy : b[c]? = some b[c] := List.getElem?_eq_getElem hcb
    rw [getD_of hx, getD_of hy]
    generalize t[c] = x at hx
    generalize b[c] = y at hy
    rw [← Bool.not_eq_true]
    intro hB
    simp only [badC, Bool.and_eq_true, bne_iff_ne, beq_iff_eq] at hB
    obtain ⟨b1, b2, b3, b4⟩ := hB
    obtain ⟨i, hi, hil, ha⟩ := plI_col hok hx hy b1
    have hh := h i (List.mem_range.2 hil)
    rw [freeP] at hh
    have hA : aboveB t b (Sb (spansL t b) i).a (Sb (spansL t b) k).a = true := (aboveB_iff hl).2 ⟨by rw [ha, ← b3]; exact b2, c, by rw [ha]; exact hx, by rw [← b3]; exact hy⟩
    rw [hi, Int.toNat_natCast] at b4
    rw [hA, b4] at hh
    cases hh
theorem left_at {t b : List Int} {k : Nat} (hk : k < (spansL t b).length) : ∃ c : Nat, (Sb (spansL t b) k).b = c ∧ c < t.length := by
  have hs : (spansL t b)[k]? = some (Sb (spansL t b) k) := by rw [Sb, List.getD_eq_getElem?_getD, List.getElem?_eq_getElem hk]; rfl
  have := net_at (show (spansK t b t.length 12)[k]? = _ from hs)
  exact ⟨(Sb (spansL t b) k).b.toNat, by omega, by omega⟩
theorem ordL_eq (t b : List Int) : ordL (spansL t b) = (bk (spansL t b) (spansL t b).length t.length).map Int.ofNat := ord_eq (fun _ hk => left_at hk) _ (Nat.le_refl _)
theorem bk_len (t b : List Int) : (bk (spansL t b) (spansL t b).length t.length).length = (spansL t b).length := by
  have h := congrArg List.length (ordL_eq t b)
  rw [List.length_map, ordL, isort_len, upto_len] at h
  exact h.symm
end Go.Proofs.Ytiljojpnbpdaeaa
