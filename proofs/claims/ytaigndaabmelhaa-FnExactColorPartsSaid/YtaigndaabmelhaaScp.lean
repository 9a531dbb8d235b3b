/- PLAIN: scattering the cells of a set: what the reference's l33Grow computes. No condition. -/
import Derived.Test.YtaigndaabmelhaaPrt
namespace Go.Proofs.Ytaigndaabmelhaa

/-- Those that the sources below m reach, and those that m reaches with a coordinate below t. -/
def scat (g : Grid) (rel : Nat → Nat → Bool) (cut : Nat → Int) (m : Nat) (t : Int) : Grid := fun i => (List.range m).any (fun j => g j && rel j i) || (g m && rel m i && decide (cut i < t))
def scatA (g : Grid) (rel : Nat → Nat → Bool) : Grid := fun i => (List.range 6400).any fun j => g j && rel j i
section
variable {g : Grid} {rel : Nat → Nat → Bool} {cut : Nat → Int} {m : Nat} {t : Int}
theorem scat_zero (ht : ∀ i, i < 6400 → t ≤ cut i) : gcells gnone = gcells (scat g rel cut 0 t) := gcells_ext fun i hi => by
  have := ht i hi
  simp [gnone, scat]; intro _ _; omega
theorem scat_done (h : ∀ i, i < 6400 → g m = true → rel m i = true → cut i < t) (t' : Int) (ht : ∀ i, i < 6400 → t' ≤ cut i) : gcells (scat g rel cut m t) = gcells (scat g rel cut (m + 1) t') := gcells_ext fun i hi => by
  rw [scat, scat, List.range_succ, List.any_append]
  have h1 : decide (cut i < t') = false := by have := ht i hi; simp; omega
  have h2 : (g m && rel m i && decide (cut i < t)) = (g m && rel m i) := by
    cases hg : g m <;> cases hr : rel m i
    · rfl
    · rfl
    · rfl
    · have := h i hi hg hr; simp [this]
  rw [h1, h2]
  simp
theorem scat_skip (h : ∀ i, i < 6400 → ¬ (g m = true ∧ rel m i = true ∧ cut i = t)) : gcells (scat g rel cut m t) = gcells (scat g rel cut m (t + 1)) := gcells_ext fun i hi => by
  rw [scat, scat]
  congr 1
  cases hg : g m <;> cases hr : rel m i
  · rfl
  · rfl
  · rfl
  · have := h i hi
    have h2 : decide (cut i < t) = decide (cut i < t + 1) := by
      rw [decide_eq_decide]
      have : cut i ≠ t := fun e => this ⟨hg, hr, e⟩
      omega
    rw [h2]
theorem scat_set {i0 : Nat} (hg : g m = true) (hr : rel m i0 = true) (hc : cut i0 = t) (hu : ∀ i, i < 6400 → rel m i = true → cut i = t → i = i0) : (gcells (scat g rel cut m t)).set i0 (.bool true) = gcells (scat g rel cut m (t + 1)) := by
  rw [gcells_set]
  refine gcells_ext fun i hi => ?_
  rw [gset, scat, scat]
  by_cases e : i = i0
  · subst e
    rw [if_pos rfl, hg, hr, hc]
    simp; right; omega
  · rw [if_neg e]
    congr 1
    cases hri : rel m i
    · simp
    · have h2 : decide (cut i < t) = decide (cut i < t + 1) := by
        rw [decide_eq_decide]
        have : cut i ≠ t := fun e' => e (hu i hi hri e')
        omega
      rw [h2]
theorem scat_all (ht : ∀ i, i < 6400 → t ≤ cut i) : gcells (scat g rel cut 6400 t) = gcells (scatA g rel) := gcells_ext fun i hi => by
  have h1 : decide (cut i < t) = false := by have := ht i hi; simp; omega
  rw [scat, scatA, h1]; simp
end
/-- In one row, at most k columns away; in one column, at most k rows away. -/
def relH (k : Int) (j i : Nat) : Bool := decide (yOf j = yOf i) && decide (xOf i - xOf j ≤ k) && decide (xOf j - xOf i ≤ k)
def relV (k : Int) (j i : Nat) : Bool := decide (xOf j = xOf i) && decide (yOf i - yOf j ≤ k) && decide (yOf j - yOf i ≤ k)
theorem relH_iff {k : Int} {j i : Nat} : relH k j i = true ↔ yOf j = yOf i ∧ xOf i - xOf j ≤ k ∧ xOf j - xOf i ≤ k := by simp [relH, and_assoc]
theorem relV_iff {k : Int} {j i : Nat} : relV k j i = true ↔ xOf j = xOf i ∧ yOf i - yOf j ≤ k ∧ yOf j - yOf i ≤ k := by simp [relV, and_assoc]
/-- The unit cells at most k away. -/
def growC (g : Grid) (k : Int) : Grid := scatA (scatA g (relH k)) (relV k)
theorem growC_iff (g : Grid) (k : Int) {u v : Int} : gh (growC g k) u v = true ↔ onC u v = true ∧ ∃ x y, gh g x y = true ∧ (x - u ≤ k ∧ u - x ≤ k) ∧ (y - v ≤ k ∧ v - y ≤ k) := by
  cases hc : onC u v with
  | false => rw [gh_off hc]; simp
  | true =>
    have hb := onC_iff.1 hc
    have e1 := xOf_at hc
    have e2 := yOf_at hc
    rw [gh_on hc, growC, scatA, List.any_eq_true]
    simp only [true_and, Bool.and_eq_true, relV_iff, scatA, List.any_eq_true, relH_iff, List.mem_range, e1, e2]
    constructor
    · rintro ⟨j, hj, ⟨i, hi, hg, h1, h2, h3⟩, h4, h5, h6⟩
      refine ⟨xOf i, yOf i, by rw [gh_of hi]; exact hg, ?_, ?_⟩ <;> omega
    · rintro ⟨x, y, hg, h1, h2⟩
      have hon : onC x y = true := by
        cases ho : onC x y with
        | true => rfl
        | false => rw [gh_off ho] at hg; cases hg
      have hb2 := onC_iff.1 hon
      have hon2 : onC u y = true := by rw [onC_iff]; omega
      have a1 := xOf_at hon
      have a2 := yOf_at hon
      have a3 := xOf_at hon2
      have a4 := yOf_at hon2
      rw [gh_on hon] at hg
      refine ⟨atG u y, atG_lt hon2, ⟨atG x y, atG_lt hon, hg, ?_, ?_, ?_⟩, ?_, ?_, ?_⟩ <;> omega
end Go.Proofs.Ytaigndaabmelhaa
