/- The constraints of blocks as plain lists: in the program's order and in the reference's; sorted by their keys they are one list. No condition. -/
import Derived.Test.YtnhiepgfgnemkaaLtr
namespace Go.Proofs.Ytnhiepgfgnemkaa

def bA (l : List Q4) (i : Int) : Q4 := l.getD i.toNat ⟨0, 0, 0, 0⟩
/-- Block i is the left one of i and k. -/
def Lft (l : List Q4) (i k : Int) : Prop := bX l i < bX l k ∨ (bX l i = bX l k ∧ i < k)
instance (l : List Q4) (i k : Int) : Decidable (Lft l i k) := by unfold Lft; infer_instance
def one (l : List Q4) (g i k : Int) : List Q3 := if intr (bA l i) (bA l k) g then [⟨i, k, (bA l i).c + g⟩] else []
/-- The program's own order. -/
def rawO (l : List Q4) (g : Int) : List Int → List Q3
  | [] => []
  | i :: r => r.flatMap (one l g i) ++ rawO l g r
def cel (l : List Q4) (g i k : Int) : List Q3 := if i ≠ k ∧ Lft l i k then one l g i k else []
def csRow (l : List Q4) (g : Int) (i : Int) : List Q3 := (upto l.length).flatMap (cel l g i)
/-- The constraints, by From, then by To. -/
def csL (l : List Q4) (g : Int) : List Q3 := (upto l.length).flatMap (csRow l g)

theorem one_mem {l : List Q4} {g i k : Int} {x : Q3} (h : x ∈ one l g i k) : x = ⟨i, k, (bA l i).c + g⟩ := by
  rw [one] at h; split at h
  · simpa using h
  · cases h
theorem Lft.asymm {l : List Q4} {i k : Int} (h : Lft l i k) (h' : Lft l k i) : False := by unfold Lft at *; omega
theorem Lft.total {l : List Q4} {i k : Int} (h : i ≠ k) : Lft l i k ∨ Lft l k i := by unfold Lft; omega
/-- An order from left to right. -/
structure IsLtr (l : List Q4) (o : List Int) : Prop where
  perm : o.Perm (upto l.length)
  pair : o.Pairwise (Lft l)

theorem upto_lt (n : Nat) : (upto n).Pairwise (· < ·) := by
  induction n with
  | zero => exact List.Pairwise.nil
  | succ n ih =>
    rw [upto_snoc, List.pairwise_append]
    refine ⟨ih, List.pairwise_singleton _ _, fun a ha b hb => ?_⟩
    obtain ⟨i, rfl, hi⟩ := upto_mem ha
    simp at hb; omega
theorem mem_upto {n i : Nat} (h : i < n) : (i : Int) ∈ upto n := List.mem_map.2 ⟨i, List.mem_range.2 h, rfl⟩
theorem ltOf_cfX {l : List Q4} {x y : Int} : ltOf (cfX l) x y = true ↔ bX l x < bX l y := by
  rw [ltOf, decide_eq_true_iff, cfX, cmpI]
  split
  · simp; omega
  · split <;> simp <;> omega
theorem split_run (p : Int → Bool) : ∀ B : List Int, ∃ A1 A2, B.reverse = A1 ++ A2 ∧ (∀ y ∈ A2, p y = true) ∧ (A1 = [] ∨ ∃ A0 z, A1 = A0 ++ [z] ∧ p z = false)
  | [] => ⟨[], [], rfl, by simp, Or.inl rfl⟩
  | z :: B => by
    cases hz : p z with
    | false => exact ⟨B.reverse ++ [z], [], by simp, by simp, Or.inr ⟨B.reverse, z, rfl, hz⟩⟩
    | true =>
      obtain ⟨A1, A2, he, h2, h1⟩ := split_run p B
      refine ⟨A1, A2 ++ [z], by simp [he], ?_, h1⟩
      intro y hy
      rcases List.mem_append.1 hy with hy | hy
      · exact h2 y hy
      · simp at hy; subst hy; exact hz
theorem isort_upto (l : List Q4) : ∀ n, (isort (ltOf (cfX l)) (upto n)).Pairwise (Lft l)
  | 0 => List.Pairwise.nil
  | n + 1 => by
    have ih := isort_upto l n
    have hm : ∀ y ∈ isort (ltOf (cfX l)) (upto n), y < n := fun y hy => by
      obtain ⟨i, rfl, hi⟩ := upto_mem ((isort_perm _ _).mem_iff.1 hy); omega
    rw [upto_snoc, isort_snoc]
    generalize isort (ltOf (cfX l)) (upto n) = A at ih hm
    -- the last run of greater ones
    have hsplit := split_run (fun z => ltOf (cfX l) n z) A.reverse
    rw [List.reverse_reverse] at hsplit
    obtain ⟨A1, A2, rfl, h2, h1⟩ := hsplit
    rw [insB_split h2 h1]
    obtain ⟨p1, p2, p3⟩ := List.pairwise_append.1 ih
    have hA1 : ∀ y ∈ A1, bX l y ≤ bX l n := by
      rcases h1 with rfl | ⟨A0, z, rfl, hz⟩
      · simp
      · have hz' : ¬ bX l n < bX l z := fun hh => by rw [ltOf_cfX.2 hh] at hz; cases hz
        intro y hy
        rcases List.mem_append.1 hy with hy | hy
        · have := (List.pairwise_append.1 p1).2.2 y hy z (by simp)
          unfold Lft at this; omega
        · simp at hy; subst hy; omega
    refine List.pairwise_append.2 ⟨p1, List.pairwise_cons.2 ⟨fun y hy => ?_, p2⟩, fun a ha b hb => ?_⟩
    · have := ltOf_cfX.1 (h2 y hy); unfold Lft; omega
    · rcases List.mem_cons.1 hb with rfl | hb
      · have := hA1 a ha; have := hm a (List.mem_append.2 (Or.inl ha)); unfold Lft; omega
      · exact p3 a ha b hb
theorem ltr_is (l : List Q4) : IsLtr l (ltr l) := ⟨isort_perm _ _, isort_upto l _⟩
theorem ltr_len (l : List Q4) : (ltr l).length = l.length := by rw [ltr, isort_len, upto_len]

theorem rawO_mem {l : List Q4} {g : Int} {x : Q3} : ∀ {o : List Int}, o.Pairwise (Lft l) → (x ∈ rawO l g o ↔ ∃ i ∈ o, ∃ k ∈ o, Lft l i k ∧ x ∈ one l g i k)
  | [], _ => by simp [rawO]
  | i :: r, h => by
    obtain ⟨h1, h2⟩ := List.pairwise_cons.1 h
    rw [rawO, List.mem_append, List.mem_flatMap, rawO_mem h2]
    constructor
    · rintro (⟨k, hk, hx⟩ | ⟨a, ha, k, hk, hl, hx⟩)
      · exact ⟨i, by simp, k, by simp [hk], h1 k hk, hx⟩
      · exact ⟨a, by simp [ha], k, by simp [hk], hl, hx⟩
    · rintro ⟨a, ha, k, hk, hl, hx⟩
      rcases List.mem_cons.1 ha with rfl | ha'
      · rcases List.mem_cons.1 hk with rfl | hk'
        · exact (hl.asymm hl).elim
        · exact Or.inl ⟨k, hk', hx⟩
      · rcases List.mem_cons.1 hk with rfl | hk'
        · exact (hl.asymm (h1 a ha')).elim
        · exact Or.inr ⟨a, ha', k, hk', hl, hx⟩
/-- By From, then by To. -/
def q3lt (x y : Q3) : Prop := x.a < y.a ∨ (x.a = y.a ∧ x.b < y.b)
def q3ne (x y : Q3) : Prop := ¬ (x.a = y.a ∧ x.b = y.b)
theorem rawO_ne {l : List Q4} {g : Int} : ∀ {o : List Int}, o.Pairwise (Lft l) → (rawO l g o).Pairwise q3ne
  | [], _ => List.Pairwise.nil
  | i :: r, h => by
    obtain ⟨h1, h2⟩ := List.pairwise_cons.1 h
    rw [rawO]
    refine List.pairwise_append.2 ⟨?_, rawO_ne h2, fun a ha b hb => ?_⟩
    · rw [List.pairwise_flatMap]
      refine ⟨fun k _ => ?_, h2.imp fun {k k'} hl a ha b hb => ?_⟩
      · rw [one]; split <;> simp
      · rw [one_mem ha, one_mem hb]
        rintro ⟨-, hh⟩
        simp only at hh; subst hh
        exact hl.asymm hl
    · obtain ⟨k, hk, ha⟩ := List.mem_flatMap.1 ha
      obtain ⟨i', hi', k', hk', hl', hb⟩ := (rawO_mem h2).1 hb
      rw [one_mem ha, one_mem hb]
      rintro ⟨hh, -⟩
      simp only at hh; subst hh
      exact (h1 _ hi').asymm (h1 _ hi')
theorem cel_mem {l : List Q4} {g i k : Int} {x : Q3} : x ∈ cel l g i k ↔ Lft l i k ∧ x ∈ one l g i k := by
  rw [cel]
  constructor
  · intro h; split at h
    · rename_i hh; exact ⟨hh.2, h⟩
    · cases h
  · rintro ⟨h1, h2⟩
    rw [if_pos ⟨fun hh => by subst hh; exact h1.asymm h1, h1⟩]; exact h2
theorem csL_mem {l : List Q4} {g : Int} {x : Q3} : x ∈ csL l g ↔ ∃ i ∈ upto l.length, ∃ k ∈ upto l.length, Lft l i k ∧ x ∈ one l g i k := by
  simp only [csL, csRow, List.mem_flatMap, cel_mem]
theorem csL_lt (l : List Q4) (g : Int) : (csL l g).Pairwise q3lt := by
  rw [csL, List.pairwise_flatMap]
  refine ⟨fun i _ => ?_, (upto_lt _).imp fun {i i'} hl a ha b hb => ?_⟩
  · rw [csRow, List.pairwise_flatMap]
    refine ⟨fun k _ => ?_, (upto_lt _).imp fun {k k'} hl a ha b hb => ?_⟩
    · rw [cel, one]; split
      · split <;> simp
      · simp
    · rw [one_mem (cel_mem.1 ha).2, one_mem (cel_mem.1 hb).2]
      exact Or.inr ⟨rfl, hl⟩
  · obtain ⟨k, hk, ha⟩ := List.mem_flatMap.1 ha
    obtain ⟨k', hk', hb⟩ := List.mem_flatMap.1 hb
    rw [one_mem (cel_mem.1 ha).2, one_mem (cel_mem.1 hb).2]
    exact Or.inl hl
theorem q3lt_ext : ∀ {l1 l2 : List Q3}, l1.Pairwise q3lt → l2.Pairwise q3lt → (∀ x, x ∈ l1 ↔ x ∈ l2) → l1 = l2
  | [], [], _, _, _ => rfl
  | [], b :: l2, _, _, h => by have := (h b).2 (by simp); cases this
  | a :: l1, [], _, _, h => by have := (h a).1 (by simp); cases this
  | a :: l1, b :: l2, h1, h2, h => by
    obtain ⟨a1, a2⟩ := List.pairwise_cons.1 h1
    obtain ⟨b1, b2⟩ := List.pairwise_cons.1 h2
    have hab : a = b := by
      rcases List.mem_cons.1 ((h a).1 (by simp)) with hh | hh
      · exact hh
      · rcases List.mem_cons.1 ((h b).2 (by simp)) with hh' | hh'
        · exact hh'.symm
        · have := b1 a hh; have := a1 b hh'; unfold q3lt at *; omega
    subst hab
    rw [q3lt_ext a2 b2 fun x => ?_]
    constructor
    · intro hx
      rcases List.mem_cons.1 ((h x).1 (List.mem_cons_of_mem _ hx)) with rfl | hh
      · have := a1 _ hx; unfold q3lt at this; omega
      · exact hh
    · intro hx
      rcases List.mem_cons.1 ((h x).2 (List.mem_cons_of_mem _ hx)) with rfl | hh
      · have := b1 _ hx; unfold q3lt at this; omega
      · exact hh
/-- A list of the same constraints, sorted by the keys, is csL. -/
theorem sorted_cs {l : List Q4} {g : Int} {o : List Int} (ho : IsLtr l o) {d : List Q3} (hp : d.Perm (rawO l g o)) (hs : d.Pairwise fun x y => ¬ q3lt y x) : d = csL l g := by
  refine q3lt_ext ?_ (csL_lt l g) fun x => ?_
  · have hne : d.Pairwise q3ne := (hp.pairwise_iff (fun {x y} (h : q3ne x y) => fun hh => h ⟨hh.1.symm, hh.2.symm⟩)).2 (rawO_ne ho.pair)
    exact (hs.and hne).imp fun {x y} ⟨h1, h2⟩ => by unfold q3lt q3ne at *; omega
  · rw [hp.mem_iff, rawO_mem ho.pair, csL_mem]
    constructor
    · rintro ⟨i, hi, k, hk, h⟩; exact ⟨i, ho.perm.mem_iff.1 hi, k, ho.perm.mem_iff.1 hk, h⟩
    · rintro ⟨i, hi, k, hk, h⟩; exact ⟨i, ho.perm.mem_iff.2 hi, k, ho.perm.mem_iff.2 hk, h⟩
end Go.Proofs.Ytnhiepgfgnemkaa
