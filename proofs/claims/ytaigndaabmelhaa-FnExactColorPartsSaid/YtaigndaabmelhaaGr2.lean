/- Plain laws: the region of a set is a list of valid rectangles that has just the set's unit cells, at most 3200 of them, of at most 6400 unit cells in all. No condition. -/
import Derived.Test.YtaigndaabmelhaaGrd
namespace Go.Proofs.Ytaigndaabmelhaa

theorem ltge (a b : Int) : a < b ∨ b ≤ a := by omega
/-- An increasing list, from lo to 40. -/
def Inc : Int → List Int → Prop
  | _, [] => True
  | lo, a :: l => lo ≤ a ∧ a ≤ 40 ∧ Inc (a + 1) l
theorem Inc.mono {lo lo' : Int} {l : List Int} (h : Inc lo l) (hl : lo' ≤ lo) : Inc lo' l := by
  cases l with
  | nil => trivial
  | cons a l => exact ⟨by have := h.1; omega, h.2⟩
theorem chg_inc (g : Grid) (y : Int) : ∀ (n : Nat) (x : Int), (41 - x).toNat ≤ n → Inc x (chg g y x) := by
  intro n
  induction n with
  | zero => intro x hx; rw [chg_stop (by omega)]; trivial
  | succ n ih =>
    intro x hx
    by_cases h : x ≤ 40
    · by_cases hd : gh g x y = gh g (x - 1) y
      · rw [chg_miss hd]; exact (ih (x + 1) (by omega)).mono (by omega)
      · rw [chg_hit h hd]; exact ⟨by omega, h, ih (x + 1) (by omega)⟩
    · rw [chg_stop (by omega)]; trivial
theorem runs_inc (g : Grid) (y : Int) : Inc (-40) (runs g y) := chg_inc g y _ _ (Nat.le_refl _)
/-- The lengths of the runs. -/
def lens (l : List (Int × Int)) : Int := (l.map fun p => p.2 - p.1).sum
theorem lens_cons (p : Int × Int) (l : List (Int × Int)) : lens (p :: l) = p.2 - p.1 + lens l := by simp [lens]
theorem pairs_inc : ∀ (l : List Int) (lo : Int), Inc lo l → lo ≤ 41 → 0 ≤ lens (pairs l) ∧ (lens (pairs l) ≤ 41 - lo ∧ (lo ≤ 40 → lens (pairs l) ≤ 40 - lo)) ∧ ((pairs l).length : Int) * 2 ≤ 41 - lo ∧ ∀ p ∈ pairs l, lo ≤ p.1 ∧ p.1 < p.2 ∧ p.2 ≤ 40
  | [], lo, _, h => by simp [pairs, lens]; omega
  | [a], lo, _, h => by simp [pairs, lens]; omega
  | a :: b :: l, lo, hi, h => by
    obtain ⟨h1, h2, h3, h4, h5⟩ := hi
    obtain ⟨k1, k2, k3, k4⟩ := pairs_inc l (b + 1) h5 (by omega)
    rw [pairs, lens_cons]
    refine ⟨by simp only; omega, ⟨by simp only; omega, by simp only; omega⟩, by simp; omega, ?_⟩
    intro p hp
    rw [List.mem_cons] at hp
    rcases hp with rfl | hp
    · exact ⟨h1, by simp only; omega, h4⟩
    · have := k4 p hp; omega
theorem pairs_len : ∀ (l : List Int), (pairs l).length = l.length / 2
  | [] => rfl
  | [a] => by simp [pairs]
  | a :: b :: l => by rw [pairs, List.length_cons, pairs_len l]; simp; omega
theorem pairs_get : ∀ (l : List Int) (k : Nat) {a b : Int}, l[k * 2]? = some a → l[k * 2 + 1]? = some b → (pairs l)[k]? = some (a, b)
  | [], k, a, b, h, _ => by simp at h
  | [x], k, a, b, h, h' => by simp at h'
  | x :: y :: l, 0, a, b, h, h' => by simp at h h'; subst h h'; rfl
  | x :: y :: l, k + 1, a, b, h, h' => by
    rw [pairs, List.getElem?_cons_succ]
    apply pairs_get l k
    · rw [show (k + 1) * 2 = k * 2 + 1 + 1 by omega] at h; simpa using h
    · rw [show (k + 1) * 2 + 1 = k * 2 + 1 + 1 + 1 by omega] at h'; simpa using h'
/-- The area of a list. -/
def areaL (l : List Q4) : Int := (l.map fun r => (r.c - r.a) * (r.d - r.b)).sum
theorem areaL_nil : areaL [] = 0 := rfl
theorem areaL_cons (r : Q4) (l : List Q4) : areaL (r :: l) = (r.c - r.a) * (r.d - r.b) + areaL l := by simp [areaL]
theorem areaL_append (l m : List Q4) : areaL (l ++ m) = areaL l + areaL m := by
  induction l with
  | nil => simp [areaL_nil]
  | cons r l ih => rw [List.cons_append, areaL_cons, areaL_cons, ih]; omega
theorem area_mk (y e : Int) : ∀ l : List (Int × Int), areaL (l.map fun p => ⟨p.1, y, p.2, e⟩) = lens l * (e - y)
  | [] => by simp [areaL_nil, lens]
  | p :: l => by rw [List.map_cons, areaL_cons, area_mk y e l, lens_cons, Int.add_mul]
theorem canonY_area (g : Grid) : ∀ (n : Nat) (y : Int), (40 - y).toNat ≤ n → -40 ≤ y → y ≤ 40 → 0 ≤ areaL (canonY g y) ∧ areaL (canonY g y) ≤ 80 * (40 - y) := by
  intro n
  induction n with
  | zero => intro y hy _ _; rw [canonY_stop (by omega), areaL_nil]; omega
  | succ n ih =>
    intro y hy h1 h2
    by_cases h : y < 40
    · rw [canonY_step h, areaL_append, band, area_mk]
      have g1 := rowEnd_ge g y (y + 1)
      have g2 := rowEnd_le g y (y + 1) (by omega)
      obtain ⟨k1, k2⟩ := ih (rowEnd g y (y + 1)) (by omega) (by omega) g2
      obtain ⟨p1, ⟨-, p2⟩, -⟩ := pairs_inc (runs g y) (-40) (runs_inc g y) (by omega)
      replace p2 := p2 (by omega)
      have q1 := Int.mul_nonneg p1 (show 0 ≤ rowEnd g y (y + 1) - y by omega)
      have q2 := Int.mul_le_mul_of_nonneg_right p2 (show 0 ≤ rowEnd g y (y + 1) - y by omega)
      generalize lens (pairs (runs g y)) * (rowEnd g y (y + 1) - y) = M at *
      omega
    · rw [canonY_stop (by omega), areaL_nil]; omega
/-- Some run has the column. -/
def cov (l : List (Int × Int)) (z : Int) : Prop := ∃ p ∈ l, p.1 ≤ z ∧ z < p.2
theorem cov_nil (z : Int) : ¬ cov [] z := fun ⟨_, h, _⟩ => by cases h
theorem cov_cons (p : Int × Int) (l : List (Int × Int)) (z : Int) : cov (p :: l) z ↔ (p.1 ≤ z ∧ z < p.2) ∨ cov l z := by
  simp [cov]
theorem gh_big {g : Grid} {x y : Int} (h : 40 ≤ x) : gh g x y = false := gh_off (by rw [onC, Bool.and_eq_false_iff]; left; simp; omega)
theorem gh_small {g : Grid} {x y : Int} (h : x < -40) : gh g x y = false := gh_off (by rw [onC, Bool.and_eq_false_iff]; left; simp; omega)
theorem chg_cov (g : Grid) (y : Int) : ∀ (n : Nat) (x : Int), (41 - x).toNat ≤ n →
    (gh g (x - 1) y = false → ∀ z, cov (pairs (chg g y x)) z ↔ x ≤ z ∧ gh g z y = true) ∧
    (gh g (x - 1) y = true → ∀ a, a < x → ∀ z, cov (pairs (a :: chg g y x)) z ↔ (a ≤ z ∧ z < x) ∨ (x ≤ z ∧ gh g z y = true)) := by
  intro n
  induction n with
  | zero =>
    intro x hx
    refine ⟨fun _ z => ?_, fun h => ?_⟩
    · rw [chg_stop (by omega), pairs]
      · refine ⟨fun h => absurd h (cov_nil z), fun ⟨h1, h2⟩ => ?_⟩
        rw [gh_big (by omega)] at h2; cases h2
      · intro a b l h; cases h
    · rw [gh_big (by omega)] at h; cases h
  | succ n ih =>
    intro x hx
    obtain ⟨iA, iB⟩ := ih (x + 1) (by omega)
    rw [show x + 1 - 1 = x by omega] at iA iB
    cases hc : gh g x y with
    | false =>
      refine ⟨fun hp z => ?_, fun hp a ha z => ?_⟩
      · rw [chg_miss (by rw [hc, hp]), iA hc z]
        constructor
        · rintro ⟨h1, h2⟩; exact ⟨by omega, h2⟩
        · rintro ⟨h1, h2⟩
          refine ⟨?_, h2⟩
          by_cases he : z = x
          · subst he; rw [hc] at h2; cases h2
          · omega
      · have hx40 : x ≤ 40 := by
          rcases ltge 40 x with h | h
          · rw [gh_big (by omega)] at hp; cases hp
          · exact h
        rw [chg_hit hx40 (by rw [hc, hp]; simp), pairs, cov_cons, iA hc z]
        constructor
        · rintro (h | ⟨h1, h2⟩)
          · exact Or.inl h
          · exact Or.inr ⟨by omega, h2⟩
        · rintro (h | ⟨h1, h2⟩)
          · exact Or.inl h
          · refine Or.inr ⟨?_, h2⟩
            by_cases he : z = x
            · subst he; rw [hc] at h2; cases h2
            · omega
    | true =>
      have hx40 : x < 40 := by
        rcases ltge x 40 with h | h
        · exact h
        · rw [gh_big h] at hc; cases hc
      refine ⟨fun hp z => ?_, fun hp a ha z => ?_⟩
      · rw [chg_hit (by omega) (by rw [hc, hp]; simp), iB hc x (by omega) z]
        constructor
        · rintro (⟨h1, h2⟩ | ⟨h1, h2⟩)
          · have : z = x := by omega
            subst this; exact ⟨by omega, hc⟩
          · exact ⟨by omega, h2⟩
        · rintro ⟨h1, h2⟩
          by_cases he : z = x
          · left; omega
          · right; exact ⟨by omega, h2⟩
      · rw [chg_miss (by rw [hc, hp]), iB hc a (by omega) z]
        constructor
        · rintro (⟨h1, h2⟩ | ⟨h1, h2⟩)
          · by_cases he : z = x
            · subst he; right; exact ⟨by omega, hc⟩
            · left; omega
          · right; exact ⟨by omega, h2⟩
        · rintro (⟨h1, h2⟩ | ⟨h1, h2⟩)
          · left; omega
          · by_cases he : z = x
            · left; omega
            · right; exact ⟨by omega, h2⟩
theorem runs_cov (g : Grid) (y z : Int) : cov (pairs (runs g y)) z ↔ gh g z y = true := by
  rw [runs, (chg_cov g y _ (-40) (Nat.le_refl _)).1 (gh_small (by omega)) z]
  refine ⟨fun h => h.2, fun h => ⟨?_, h⟩⟩
  rcases ltge z (-40) with h' | h'
  · rw [gh_small h'] at h; cases h
  · exact h'
theorem rowEnd_runs (g : Grid) (y : Int) : ∀ (n : Nat) (e : Int), (40 - e).toNat ≤ n → ∀ v, e ≤ v → v < rowEnd g y e → runs g v = runs g y := by
  intro n
  induction n with
  | zero => intro e he v h1 h2; rw [rowEnd_stop (Or.inl (by omega))] at h2; omega
  | succ n ih =>
    intro e he v h1 h2
    by_cases h40 : e < 40
    · by_cases hr : runs g e = runs g y
      · rw [rowEnd_same h40 hr] at h2
        by_cases hv : v = e
        · subst hv; exact hr
        · exact ih (e + 1) (by omega) v (by omega) h2
      · rw [rowEnd_stop (Or.inr hr)] at h2; omega
    · rw [rowEnd_stop (Or.inl (by omega))] at h2; omega
theorem inL_append (l m : List Q4) (x y : Int) : inL (l ++ m) x y = (inL l x y || inL m x y) := by simp [inL]
theorem band_in (g : Grid) (y0 x y : Int) : inL (band g y0) x y = true ↔ (y0 ≤ y ∧ y < rowEnd g y0 (y0 + 1)) ∧ gh g x y0 = true := by
  rw [← runs_cov, inL, List.any_eq_true, band]
  constructor
  · rintro ⟨r, hr, h⟩
    rw [List.mem_map] at hr
    obtain ⟨p, hp, rfl⟩ := hr
    rw [inR_iff] at h
    exact ⟨h.2, p, hp, h.1⟩
  · rintro ⟨h, p, hp, h2⟩
    exact ⟨_, List.mem_map_of_mem hp, by rw [inR_iff]; exact ⟨h2, h⟩⟩
theorem canonY_in (g : Grid) : ∀ (n : Nat) (y0 : Int), (40 - y0).toNat ≤ n → y0 ≤ 40 → ∀ x y, inL (canonY g y0) x y = true ↔ y0 ≤ y ∧ gh g x y = true := by
  intro n
  induction n with
  | zero =>
    intro y0 hn h40 x y
    rw [canonY_stop (by omega)]
    refine ⟨(fun h => by cases h), fun ⟨h1, h2⟩ => ?_⟩
    rw [gh_off] at h2
    · cases h2
    · rw [onC, Bool.and_eq_false_iff]; right; simp; omega
  | succ n ih =>
    intro y0 hn h40 x y
    by_cases h : y0 < 40
    · have g1 := rowEnd_ge g y0 (y0 + 1)
      have g2 := rowEnd_le g y0 (y0 + 1) (by omega)
      rw [canonY_step h, inL_append, Bool.or_eq_true, band_in, ih _ (by omega) g2]
      constructor
      · rintro (⟨h1, h2⟩ | ⟨h1, h2⟩)
        · refine ⟨h1.1, ?_⟩
          by_cases he : y = y0
          · rw [he]; exact h2
          · rw [runs_inj.1 (rowEnd_runs g y0 _ (y0 + 1) (Nat.le_refl _) y (by omega) h1.2) x]; exact h2
        · exact ⟨by omega, h2⟩
      · rintro ⟨h1, h2⟩
        by_cases hl : y < rowEnd g y0 (y0 + 1)
        · left
          refine ⟨⟨h1, hl⟩, ?_⟩
          by_cases he : y = y0
          · rw [← he]; exact h2
          · rw [← runs_inj.1 (rowEnd_runs g y0 _ (y0 + 1) (Nat.le_refl _) y (by omega) hl) x]; exact h2
        · right; exact ⟨by omega, h2⟩
    · rw [canonY_stop (by omega)]
      refine ⟨(fun h => by cases h), fun ⟨h1, h2⟩ => ?_⟩
      rw [gh_off] at h2
      · cases h2
      · rw [onC, Bool.and_eq_false_iff]; right; simp; omega
/-- The region of a set has just the set's unit cells. -/
theorem canon_in (g : Grid) (x y : Int) : inL (canon g) x y = gh g x y := by
  rw [Bool.eq_iff_iff, canon, canonY_in g _ (-40) (Nat.le_refl _) (by omega)]
  refine ⟨fun h => h.2, fun h => ⟨?_, h⟩⟩
  rcases ltge y (-40) with h' | h'
  · rw [gh_off] at h
    · cases h
    · rw [onC, Bool.and_eq_false_iff]; right; simp; omega
  · exact h'
theorem canonY_valid (g : Grid) : ∀ (n : Nat) (y0 : Int), (40 - y0).toNat ≤ n → -40 ≤ y0 → y0 ≤ 40 → (canonY g y0).all vR = true ∧ (canonY g y0).length ≤ 40 * (40 - y0).toNat := by
  intro n
  induction n with
  | zero => intro y0 hn h1 h2; rw [canonY_stop (by omega)]; simp
  | succ n ih =>
    intro y0 hn h1 h2
    by_cases h : y0 < 40
    · have g1 := rowEnd_ge g y0 (y0 + 1)
      have g2 := rowEnd_le g y0 (y0 + 1) (by omega)
      obtain ⟨k1, k2⟩ := ih (rowEnd g y0 (y0 + 1)) (by omega) (by omega) g2
      obtain ⟨-, -, p3, p4⟩ := pairs_inc (runs g y0) (-40) (runs_inc g y0) (by omega)
      rw [canonY_step h, List.all_append, k1, Bool.and_true, List.length_append, band, List.length_map]
      refine ⟨?_, by omega⟩
      rw [List.all_eq_true]
      intro r hr
      rw [List.mem_map] at hr
      obtain ⟨p, hp, rfl⟩ := hr
      have := p4 p hp
      rw [vR_iff]
      simp only
      omega
    · rw [canonY_stop (by omega)]; simp
/-- A list of at most 3200 valid rectangles. -/
def vRs (l : List Q4) : Bool := decide (l.length ≤ 3200) && l.all vR
theorem canon_valid (g : Grid) : vRs (canon g) = true := by
  obtain ⟨h1, h2⟩ := canonY_valid g _ (-40) (Nat.le_refl _) (by omega) (by omega)
  rw [vRs, canon, h1, Bool.and_true, decide_eq_true_eq]
  have : (40 - (-40 : Int)).toNat = 80 := by decide
  omega
theorem canon_len (g : Grid) : (canon g).length ≤ 3200 := by have := canon_valid g; rw [vRs, Bool.and_eq_true, decide_eq_true_eq] at this; exact this.1
theorem gL_canon (g : Grid) : gcells (gL (canon g)) = gcells g := gcells_gh fun x y hc => by rw [gL, gh_gmk _ hc, canon_in]
/-- Sets with equal cells have equal regions. -/
theorem gh_of_cells {g g' : Grid} (h : gcells g = gcells g') (x y : Int) : gh g x y = gh g' x y := by
  by_cases hc : onC x y = true
  · rw [gh_on hc, gh_on hc]
    have h1 := gcells_get g (atG_lt hc)
    have h2 := gcells_get g' (atG_lt hc)
    rw [h] at h1
    rw [h1] at h2
    simpa using h2
  · rw [Bool.not_eq_true] at hc; rw [gh_off hc, gh_off hc]
theorem chg_congr {g g' : Grid} (h : ∀ x y, gh g x y = gh g' x y) (y : Int) : ∀ (n : Nat) (x : Int), (41 - x).toNat ≤ n → chg g y x = chg g' y x := by
  intro n
  induction n with
  | zero => intro x hx; rw [chg_stop (by omega), chg_stop (by omega)]
  | succ n ih =>
    intro x hx
    by_cases h4 : x ≤ 40
    · by_cases hd : gh g x y = gh g (x - 1) y
      · rw [chg_miss hd, chg_miss (g := g') (x := x) (by rw [← h x, ← h (x - 1), hd]), ih (x + 1) (by omega)]
      · rw [chg_hit h4 hd, chg_hit (g := g') h4 (by rw [← h x, ← h (x - 1)]; exact hd), ih (x + 1) (by omega)]
    · rw [chg_stop (by omega), chg_stop (by omega)]
theorem runs_congr {g g' : Grid} (h : ∀ x y, gh g x y = gh g' x y) (y : Int) : runs g y = runs g' y := chg_congr h y _ _ (Nat.le_refl _)
theorem rowEnd_congr {g g' : Grid} (h : ∀ x y, gh g x y = gh g' x y) (y : Int) : ∀ (n : Nat) (e : Int), (40 - e).toNat ≤ n → rowEnd g y e = rowEnd g' y e := by
  intro n
  induction n with
  | zero => intro e he; rw [rowEnd_stop (Or.inl (by omega)), rowEnd_stop (Or.inl (by omega))]
  | succ n ih =>
    intro e he
    by_cases h4 : e < 40
    · by_cases hr : runs g e = runs g y
      · rw [rowEnd_same h4 hr, rowEnd_same (g := g') h4 (by rw [← runs_congr h, ← runs_congr h, hr]), ih (e + 1) (by omega)]
      · rw [rowEnd_stop (Or.inr hr), rowEnd_stop (g := g') (Or.inr (by rw [← runs_congr h, ← runs_congr h]; exact hr))]
    · rw [rowEnd_stop (Or.inl (by omega)), rowEnd_stop (Or.inl (by omega))]
theorem canonY_congr {g g' : Grid} (h : ∀ x y, gh g x y = gh g' x y) : ∀ (n : Nat) (y : Int), (40 - y).toNat ≤ n → canonY g y = canonY g' y := by
  intro n
  induction n with
  | zero => intro y hy; rw [canonY_stop (by omega), canonY_stop (by omega)]
  | succ n ih =>
    intro y hy
    by_cases h4 : y < 40
    · have := rowEnd_ge g y (y + 1)
      rw [canonY_step h4, canonY_step (g := g') h4, band, band, runs_congr h, ← rowEnd_congr h y _ _ (Nat.le_refl _), ih (rowEnd g y (y + 1)) (by omega)]
    · rw [canonY_stop (by omega), canonY_stop (by omega)]
theorem canon_congr {g g' : Grid} (h : ∀ x y, gh g x y = gh g' x y) : canon g = canon g' := canonY_congr h _ _ (Nat.le_refl _)
theorem canon_cells {g g' : Grid} (h : gcells g = gcells g') : canon g = canon g' := canon_congr (gh_of_cells h)
/-- The list is a region. -/
def isReg (l : List Q4) : Bool := vRs l && decide (canon (gL l) = l)
theorem isReg_canon (g : Grid) : isReg (canon g) = true := by
  rw [isReg, canon_valid, Bool.true_and, decide_eq_true_eq]
  exact canon_cells (gL_canon g)
theorem isReg_iff {l : List Q4} : isReg l = true ↔ vRs l = true ∧ canon (gL l) = l := by simp [isReg]
theorem isReg_area {l : List Q4} (h : canon (gL l) = l) : 0 ≤ areaL l ∧ areaL l ≤ 6400 := by
  have := canonY_area (gL l) _ (-40) (Nat.le_refl _) (by omega) (by omega)
  rw [show canonY (gL l) (-40) = canon (gL l) from rfl, h] at this
  omega
end Go.Proofs.Ytaigndaabmelhaa
